/-
  A region that draws its order, by what holds whatever has been done of it: each operation is looked at once, in whatever company; no order is branched over. Outside a round and within one; the last operations may be stores.
-/
import Derived.Test.YtgfdindlihfidaaGreatQr
import Derived.Deep.RegionHeld3
namespace Go.Proofs.YtgfdindlihfidaaGreat
open Go.RowKit
set_option linter.unusedVariables false
set_option linter.unusedSimpArgs false

def updF {α : Type} (f : Nat → α) (i : Nat) (v : α) : Nat → α := fun j => if j = i then v else f j
/-- Which operations have been done. -/
def lB (l : Array Bool) : Nat → Bool := fun j => l.getD j false

theorem arr_getD {α : Type} (T : Array α) (k : Nat) (z : α) : T.getD k z = (T[k]?).getD z := by
  simp [Array.getD_eq_getD_getElem?]
theorem lB_set {l : Array Bool} {i : Nat} (hi : i < l.size) : lB (l.setIfInBounds i true) = updF (lB l) i true := by
  funext j
  simp only [lB, updF, arr_getD, Array.getElem?_setIfInBounds]
  by_cases h : i = j
  · subst h; simp [hi]
  · rw [if_neg h, if_neg (fun e => h e.symm)]

section
variable {P : Program} {ops : Array Oper} {Q : Exit → Act → World → Prop} {md : Region.Mode}
theorem ready_facts {l : Array Bool} {i : Nat} (hs : l.size = ops.size) (h : i ∈ Region.ready md ops l) : ∃ o, ops[i]? = some o ∧ i < l.size ∧ l[i]? = some false ∧ ∀ e ∈ o.after, Region.binds md e = true → lB l e.on = true := by
  obtain ⟨h1, o, ho, hall⟩ := mem_ready.1 h
  have hi : i < l.size := by rw [hs]; exact (Array.getElem?_eq_some_iff.1 ho).1
  refine ⟨o, ho, hi, ?_, hall⟩
  simp [hi] at h1
  rw [Array.getElem?_eq_getElem hi, h1]
theorem wpAny_inv {I : Array Bool → Act → World → Prop} (hsz : ∀ l a w, I l a w → l.size = ops.size)
    (hstep : ∀ l a w i, I l a w → i ∈ Region.ready md ops l → wpOp P ops Q i (fun b v => I (l.setIfInBounds i true) b v) a w)
    (hend : ∀ l a w, I l a w → Region.ready md ops l = [] → Q .normal a w) :
    ∀ (n : Nat) (l : Array Bool) (a : Act) (w : World), I l a w → l.toList.count false ≤ n → wpAny P md ops Q n l a w
  | 0, l, a, w, hI, hc => by
    have hr : Region.ready md ops l = [] := by
      rw [List.eq_nil_iff_forall_not_mem]
      intro i hi
      obtain ⟨o, _, hil, hf, _⟩ := ready_facts (hsz l a w hI) hi
      have hm : false ∈ l.toList := by
        have := Array.mem_of_getElem? hf
        simpa using this
      have := List.count_pos_iff.2 hm
      omega
    exact ⟨hr, hend l a w hI hr⟩
  | n + 1, l, a, w, hI, hc => by
    refine ⟨hend l a w hI, fun i hi => ?_⟩
    obtain ⟨o, _, hil, hf, _⟩ := ready_facts (hsz l a w hI) hi
    refine wpOp_mono (fun b v hb => wpAny_inv hsz hstep hend n _ b v hb ?_) (hstep l a w i hI hi)
    have hlen : i < l.toList.length := by simpa using hil
    have h0 : l.toList[i] = false := by
      have := (Array.getElem?_eq_some_iff.1 hf).2
      simpa using this
    have hpos : 0 < l.toList.count false := List.count_pos_iff.2 (by rw [← h0]; exact List.getElem_mem hlen)
    rw [Array.toList_setIfInBounds, List.count_set hlen, h0, if_pos (show (false == false) = true from rfl), if_neg (show ¬ (true == false) = true by decide)]
    omega

/-- What the frame is, whatever has been done. -/
structure Slots (σ : Nat → Nat) (n : Nat) (a0 b : Act) (L : Nat → Bool) (x : Nat → Value) : Prop where
  ts : b.tmps.size = a0.tmps.size
  df : b.defers = a0.defers
  at_ : ∀ j, j < n → L j = true → b.tmps[σ j]? = some (x j)
  out : ∀ k, (∀ j, j < n → L j = true → σ j ≠ k) → b.tmps[k]? = a0.tmps[k]?
theorem Slots.put {σ : Nat → Nat} {n : Nat} {a0 b : Act} {L : Nat → Bool} {x : Nat → Value} (h : Slots σ n a0 b L x) {i : Nat} (hi : i < n) (hlt : σ i < a0.tmps.size) (inj : ∀ j, j < n → σ j = σ i → j = i) (v : Value) :
    Slots σ n a0 (b.put (some (σ i)) v) (updF L i true) (updF x i v) := by
  refine ⟨by simp [Act.put, h.ts], h.df, fun j hj hL => ?_, fun k hk => ?_⟩
  · by_cases e : j = i
    · subst e
      simp [Act.put, updF, Array.getElem?_setIfInBounds, h.ts, hlt]
    · have hne : ¬ σ i = σ j := fun e2 => e (inj j hj e2.symm)
      rw [updF, if_neg e] at hL
      simp only [Act.put, updF, if_neg e, Array.getElem?_setIfInBounds, if_neg hne]
      exact h.at_ j hj hL
  · have hne : ¬ σ i = k := hk i hi (by simp [updF])
    simp only [Act.put, Array.getElem?_setIfInBounds, if_neg hne]
    refine h.out k (fun j hj hL => ?_)
    by_cases e : j = i
    · subst e; exact hne
    · exact hk j hj (by rw [updF, if_neg e]; exact hL)
/-- The frame when all has been done. -/
def setAll (σ : Nat → Nat) (x : Nat → Value) : Nat → Array Value → Array Value
  | 0, T => T
  | n + 1, T => (setAll σ x n T).setIfInBounds (σ n) (x n)
theorem setAll_get (σ : Nat → Nat) (x : Nat → Value) (T : Array Value) : ∀ n, (∀ j, j < n → σ j < T.size) → (∀ i j, i < n → j < n → σ i = σ j → i = j) → (setAll σ x n T).size = T.size ∧ (∀ j, j < n → (setAll σ x n T)[σ j]? = some (x j)) ∧ ∀ k, (∀ j, j < n → σ j ≠ k) → (setAll σ x n T)[k]? = T[k]?
  | 0, _, _ => ⟨rfl, fun j hj => absurd hj (by omega), fun _ _ => rfl⟩
  | n + 1, hlt, inj => by
    obtain ⟨h1, h2, h3⟩ := setAll_get σ x T n (fun j hj => hlt j (by omega)) (fun i j hi hj => inj i j (by omega) (by omega))
    refine ⟨by simp [setAll, h1], fun j hj => ?_, fun k hk => ?_⟩
    · by_cases e : j = n
      · subst e
        have := hlt j (by omega)
        simp [setAll, Array.getElem?_setIfInBounds, h1, this]
      · have hne : ¬ σ n = σ j := fun e2 => e (inj n j (by omega) hj e2).symm
        simp only [setAll, Array.getElem?_setIfInBounds, if_neg hne]
        exact h2 j (by omega)
    · have hne : ¬ σ n = k := hk n (by omega)
      simp only [setAll, Array.getElem?_setIfInBounds, if_neg hne]
      exact h3 k (fun j hj => hk j (by omega))
theorem Slots.all {σ : Nat → Nat} {n : Nat} {a0 b : Act} {L : Nat → Bool} {x : Nat → Value} (h : Slots σ n a0 b L x) (hL : ∀ j, j < n → L j = true) (hlt : ∀ j, j < n → σ j < a0.tmps.size) (inj : ∀ i j, i < n → j < n → σ i = σ j → i = j) :
    b = ⟨setAll σ x n a0.tmps, a0.defers⟩ := by
  obtain ⟨h1, h2, h3⟩ := setAll_get σ x a0.tmps n hlt inj
  have ht : b.tmps = setAll σ x n a0.tmps := by
    apply Array.ext_getElem?
    intro k
    by_cases hk : ∃ j, j < n ∧ σ j = k
    · obtain ⟨j, hj, rfl⟩ := hk
      rw [h.at_ j hj (hL j hj), h2 j hj]
    · have hk2 : ∀ j, j < n → σ j ≠ k := fun j hj e => hk ⟨j, hj, e⟩
      rw [h.out k (fun j hj _ => hk2 j hj), h3 k hk2]
  cases b
  have := h.df
  simp_all
theorem Slots.eval {σ : Nat → Nat} {n : Nat} {a0 b : Act} {L : Nat → Bool} {x : Nat → Value} (h : Slots σ n a0 b L x) {j : Nat} (hj : j < n) (hL : L j = true) {t : Nat} (ht : σ j = t) : b.eval (.tmp t) = x j := by
  subst ht
  show b.tmps.getD (σ j) undef = _
  rw [arr_getD, h.at_ j hj hL]
  rfl
theorem Slots.evalO {σ : Nat → Nat} {n : Nat} {a0 b : Act} {L : Nat → Bool} {x : Nat → Value} (h : Slots σ n a0 b L x) {t : Nat} (ht : ∀ j, j < n → σ j ≠ t) : b.eval (.tmp t) = a0.eval (.tmp t) := by
  show b.tmps.getD t undef = a0.tmps.getD t undef
  rw [arr_getD, arr_getD, h.out t (fun j hj _ => ht j hj)]

/-- Each operation waits for elder ones alone. -/
def ordB (ops : Array Oper) : Bool := (List.range ops.size).all fun i => match ops[i]? with | some o => o.after.toList.all fun e => !Region.binds .any e || decide (e.on < i) | none => true
theorem ordB_spec {ops : Array Oper} (h : ordB ops = true) {i : Nat} {o : Oper} (ho : ops[i]? = some o) {e : _} (he : e ∈ o.after) (hb : Region.binds .any e = true) : e.on < i := by
  have hi : i < ops.size := (Array.getElem?_eq_some_iff.1 ho).1
  have h1 := List.all_eq_true.1 h i (List.mem_range.2 hi)
  rw [ho] at h1
  have h2 := List.all_eq_true.1 h1 e (by simpa using he)
  simpa [hb] using h2

theorem Slots.mark {σ : Nat → Nat} {n : Nat} {a0 b : Act} {L : Nat → Bool} {x : Nat → Value} (h : Slots σ n a0 b L x) {i : Nat} (hi : n ≤ i) : Slots σ n a0 b (updF L i true) x :=
  ⟨h.ts, h.df, fun j hj hL => h.at_ j hj (by rw [updF, if_neg (by omega)] at hL; exact hL), fun k hk => h.out k (fun j hj hL => hk j hj (by rw [updF, if_neg (by omega)]; exact hL))⟩
/-- The region: what holds whatever has been done (C), each operation once; those from n on have no place of their own. -/
theorem wpAny_slots {n m : Nat} {a : Act} {w : World} (hn : ops.size = m) (hnm : n ≤ m) (hord : ordB ops = true) (σ : Nat → Nat) (hlt : ∀ j, j < n → σ j < a.tmps.size) (inj : ∀ i j, i < n → j < n → σ i = σ j → i = j)
    (C : (Nat → Bool) → (Nat → Value) → World → Prop) (h0 : C (fun _ => false) (fun _ => undef) w)
    (hstep : ∀ (i : Nat) (o : Oper) (L : Nat → Bool) (x : Nat → Value) (b : Act) (v : World), ops[i]? = some o → Slots σ n a b L x → C L x v → L i = false → (∀ e ∈ o.after, Region.binds .any e = true → L e.on = true) →
      o.guard = none ∧ ((i < n ∧ o.wp P b v (fun b' v' => ∃ y, b' = b.put (some (σ i)) y ∧ C (updF L i true) (updF x i y) v') Q) ∨ (n ≤ i ∧ o.wp P b v (fun b' v' => b' = b ∧ C (updF L i true) x v') Q)))
    (hend : ∀ x v, C (fun j => decide (j < m)) x v → Q .normal ⟨setAll σ x n a.tmps, a.defers⟩ v) : wpAny P .any ops Q ops.size (Array.replicate ops.size false) a w := by
  refine wpAny_inv (I := fun l b v => l.size = m ∧ (∀ j, m ≤ j → lB l j = false) ∧ ∃ x, Slots σ n a b (lB l) x ∧ C (lB l) x v) (fun l b v h => by rw [h.1, hn]) ?_ ?_ _ _ _ _ ?_ ?_
  · rintro l b v i ⟨hs, hbig, x, hS, hC⟩ hi
    obtain ⟨o, ho, hil, hf, haft⟩ := ready_facts (by rw [hs, hn]) hi
    have him : i < m := by omega
    have hLi : lB l i = false := by simp [lB, arr_getD, hf]
    obtain ⟨hg, hwp⟩ := hstep i o (lB l) x b v ho hS hC hLi haft
    unfold wpOp
    rw [ho]
    simp only
    rw [if_pos (by simp [Region.wanted, hg])]
    have hbig' : ∀ j, m ≤ j → lB (l.setIfInBounds i true) j = false := fun j hj => by
      rw [lB_set hil, updF, if_neg (by omega)]
      exact hbig j hj
    rcases hwp with ⟨hin, hwp⟩ | ⟨hin, hwp⟩
    · refine .inl (Oper.wp_mono ?_ hwp)
      rintro b' v' ⟨y, rfl, hC'⟩
      refine ⟨by simp [hs], hbig', updF x i y, ?_, ?_⟩
      · rw [lB_set hil]
        exact hS.put hin (hlt i hin) (fun j hj e => inj j i hj hin e) y
      · rw [lB_set hil]; exact hC'
    · refine .inl (Oper.wp_mono ?_ hwp)
      rintro b' v' ⟨rfl, hC'⟩
      refine ⟨by simp [hs], hbig', x, ?_, ?_⟩
      · rw [lB_set hil]
        exact hS.mark hin
      · rw [lB_set hil]; exact hC'
  · rintro l b v ⟨hs, hbig, x, hS, hC⟩ hr
    have hall : ∀ k j, j < k → j < m → lB l j = true := by
      intro k
      induction k with
      | zero => intro j h1 _; omega
      | succ k ih =>
        intro j h1 h2
        cases hL : lB l j with
        | true => rfl
        | false =>
          exfalso
          have hjo : j < ops.size := by rw [hn]; exact h2
          have ho : ops[j]? = some ops[j] := Array.getElem?_eq_getElem hjo
          have hjl : j < l.size := by omega
          have hlj : l[j] = false := by
            have : lB l j = l[j] := by simp [lB, arr_getD, Array.getElem?_eq_getElem hjl]
            rw [← this, hL]
          have hmem : j ∈ Region.ready .any ops l := by
            refine mem_ready.2 ⟨by simp [hjl, hlj], ops[j], ho, fun e he hb => ?_⟩
            have hlt2 := ordB_spec hord ho he hb
            exact ih e.on (by omega) (by omega)
          rw [hr] at hmem
          cases hmem
    have hall : ∀ j, j < m → lB l j = true := fun j hj => hall (j + 1) j (by omega) hj
    have hLe : lB l = fun j => decide (j < m) := by
      funext j
      by_cases hj : j < m
      · rw [hall j hj]; simp [hj]
      · rw [hbig j (by omega)]; simp [hj]
    rw [hS.all (fun j hj => hall j (by omega)) hlt inj]
    rw [hLe] at hC
    exact hend x v hC
  · have hz : lB (Array.replicate ops.size false) = fun _ => false := by
      funext j
      simp only [lB, arr_getD, Array.getElem?_replicate]
      split <;> rfl
    refine ⟨by simp [hn], fun j _ => by rw [hz], fun _ => undef, ⟨rfl, rfl, fun j _ h => (by rw [hz] at h; cases h), fun _ _ => rfl⟩, ?_⟩
    rw [hz]
    exact h0
  · have := List.count_le_length (a := false) (l := (Array.replicate ops.size false).toList)
    simp only [Array.toList_replicate, List.length_replicate] at this ⊢
    exact this
theorem wp_region_slots {n m id : Nat} {a : Act} {w : World} (hm : P.follows .mixedOrders = true) (hn : ops.size = m) (hnm : n ≤ m) (hord : ordB ops = true) (σ : Nat → Nat) (hlt : ∀ j, j < n → σ j < a.tmps.size) (inj : ∀ i j, i < n → j < n → σ i = σ j → i = j)
    (C : (Nat → Bool) → (Nat → Value) → World → Prop) (h0 : C (fun _ => false) (fun _ => undef) w.drew)
    (hstep : ∀ (i : Nat) (o : Oper) (L : Nat → Bool) (x : Nat → Value) (b : Act) (v : World), ops[i]? = some o → Slots σ n a b L x → C L x v → L i = false → (∀ e ∈ o.after, Region.binds .any e = true → L e.on = true) →
      o.guard = none ∧ ((i < n ∧ o.wp P b v (fun b' v' => ∃ y, b' = b.put (some (σ i)) y ∧ C (updF L i true) (updF x i y) v') Q) ∨ (n ≤ i ∧ o.wp P b v (fun b' v' => b' = b ∧ C (updF L i true) x v') Q)))
    (hend : ∀ x v, C (fun j => decide (j < m)) x v → Q .normal ⟨setAll σ x n a.tmps, a.defers⟩ v) : (Code.region id ops true).wp P Q a w :=
  wp_region_any hm (wpAny_slots hn hnm hord σ hlt inj C h0 hstep hend)
theorem wpIn_region_slots {n m id k l : Nat} {a : Act} {w : World} (hm : P.follows .mixedOrders = true) (hd : ops.all plainB = true) (hlo : ∀ a w, ¬ Q .outgrown a w) (hn : ops.size = m) (hnm : n ≤ m) (hord : ordB ops = true) (σ : Nat → Nat) (hlt : ∀ j, j < n → σ j < a.tmps.size) (inj : ∀ i j, i < n → j < n → σ i = σ j → i = j)
    (C : (Nat → Bool) → (Nat → Value) → World → Prop) (h0 : C (fun _ => false) (fun _ => undef) w.drew)
    (hstep : ∀ (i : Nat) (o : Oper) (L : Nat → Bool) (x : Nat → Value) (b : Act) (v : World), ops[i]? = some o → Slots σ n a b L x → C L x v → L i = false → (∀ e ∈ o.after, Region.binds .any e = true → L e.on = true) →
      o.guard = none ∧ ((i < n ∧ o.wp P b v (fun b' v' => ∃ y, b' = b.put (some (σ i)) y ∧ C (updF L i true) (updF x i y) v') Q) ∨ (n ≤ i ∧ o.wp P b v (fun b' v' => b' = b ∧ C (updF L i true) x v') Q)))
    (hend : ∀ x v, C (fun j => decide (j < m)) x v → Q .normal ⟨setAll σ x n a.tmps, a.defers⟩ v) : (Code.region id ops true).wpIn (Fence.wide.inRound l) k P Q a w :=
  wpIn_region_round hm hd hlo (wpAny_slots hn hnm hord σ hlt inj C h0 hstep hend)
end
end Go.Proofs.YtgfdindlihfidaaGreat
