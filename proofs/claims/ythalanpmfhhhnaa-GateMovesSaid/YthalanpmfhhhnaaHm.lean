/-
  A region that draws its order and ends in one operation that waits for all others: a condition S on the world holds behind each operation but that last one, so that loads may be taken first.
-/
import Derived.Test.YthalanpmfhhhnaaTr
import Derived.Deep.RegionHeld3
namespace Go.Proofs.Ythalanpmfhhhnaa
open Go.RowKit

section
variable {P : Program} {ops : Array Oper} {Q : Exit → Act → World → Prop} {md : Region.Mode} {S : World → Prop} {m : Nat}

/-- Whatever order is picked from here on; S holds behind every operation till number m has come up. -/
def anyM (P : Program) (md : Region.Mode) (ops : Array Oper) (Q : Exit → Act → World → Prop) (S : World → Prop) (m : Nat) : Nat → Array Bool → Act → World → Prop
  | 0, l, a, w => Region.ready md ops l = [] ∧ Q .normal a w
  | n + 1, l, a, w => (Region.ready md ops l = [] → Q .normal a w) ∧
    ∀ i, i ∈ Region.ready md ops l → wpOp P ops Q i (fun b v => ((l.setIfInBounds i true).getD m false = true ∨ S v) ∧ anyM P md ops Q S m n (l.setIfInBounds i true) b v) a w

theorem any_of_M : ∀ (n : Nat) (l : Array Bool) (a : Act) (w : World), anyM P md ops Q S m n l a w → wpAny P md ops Q n l a w
  | 0, _, _, _, h => h
  | n + 1, _, _, _, h => ⟨h.1, fun i hi => wpOp_mono (fun b v hv => any_of_M n _ b v hv.2) (h.2 i hi)⟩

theorem unlisted_of_ready {l : Array Bool} {i : Nat} (h : i ∈ Region.ready md ops l) : l.getD i false = false := by
  have h0 := (mem_ready.1 h).1
  rcases Nat.lt_or_ge i l.size with hl | hl
  · simp [hl] at h0 ⊢; exact h0
  · simp [Array.getElem?_eq_none hl]

/-- An operation that yields its value in every world that meets S may be taken first, if number m waits for it. -/
theorem anyM_first {i : Nat} {oi om : Oper} {v : Value} (hi : ops[i]? = some oi) (hm : ops[m]? = some om) (hw : ∃ e ∈ om.after, Region.binds md e = true ∧ e.on = i) (hne : i ≠ m)
    (hsel : ∀ (j : Nat) (o : Oper) cs b, ops[j]? = some o → o.op ≠ .select cs b) (hQ : ∀ c a w, Q (.panic c) (a.put oi.dst v) w → Q (.panic c) a w) :
    ∀ (n : Nat) (l : Array Bool) (a : Act) (w : World),
      (∀ j oj, ops[j]? = some oj → j ≠ i → l.getD j true = false → (∀ e ∈ oj.after, Region.binds md e = true → e.on ≠ i) → oi.apart ops oj = true) →
      i ∈ Region.ready md ops l → l.getD m false = false → YieldsIf P ops S oi v a → S w → anyM P md ops Q S m n (l.setIfInBounds i true) (a.put oi.dst v) w → anyM P md ops Q S m (n + 1) l a w := by
  intro n
  induction n with
  | zero =>
    intro l a w _ hr _ hy hS H
    refine ⟨fun e => (by rw [e] at hr; cases hr), fun j hj => ?_⟩
    by_cases hji : j = i
    · subst hji
      exact hy.wpOp hi hS ⟨.inr hS, H⟩
    · have hk := ready_mono hj hji
      rw [H.1] at hk
      cases hk
  | succ n ih =>
    intro l a w hfree hr hml hy hS H
    refine ⟨fun e => (by rw [e] at hr; cases hr), fun j hj => ?_⟩
    by_cases hji : j = i
    · subst hji
      exact hy.wpOp hi hS ⟨.inr hS, H⟩
    · have hjm : j ≠ m := fun e => by
        subst e
        obtain ⟨_, o2, ho2, hall⟩ := mem_ready.1 hj
        rw [hm] at ho2
        cases ho2
        obtain ⟨e, he, hb, hon⟩ := hw
        have h1 := hall e he hb
        rw [hon, unlisted_of_ready hr] at h1
        cases h1
      obtain ⟨hjun, oj, hoj, hall⟩ := mem_ready.1 hj
      have hno : ∀ e ∈ oj.after, Region.binds md e = true → e.on ≠ i := fun e he hb hon => by
        have h1 := hall e he hb
        rw [hon, unlisted_of_ready hr] at h1
        cases h1
      have h2 := wpOp_putIf hoj (hfree j oj hoj hji hjun hno) (fun cs b => hsel i oi cs b hi) (fun cs b => hsel j oj cs b hoj) hQ hy (H.2 j (ready_mono hj hji))
      refine wpOp_mono (fun b u hu => ?_) h2
      obtain ⟨hyb, hSu, hrest⟩ := hu
      rw [getD_set_ne false hjm, getD_set_ne false hne, hml] at hSu
      have hS2 : S u := hSu.resolve_left (by decide)
      refine ⟨.inr hS2, ih (l.setIfInBounds j true) b u (fun k ok hk hki hun hnk => hfree k ok hk hki ?_ hnk) (ready_mono hr (Ne.symm hji)) (by rw [getD_set_ne false hjm]; exact hml) hyb hS2 ?_⟩
      · by_cases hjk : j = k
        · subst hjk; exact hjun
        · rw [getD_set_ne true hjk] at hun; exact hun
      · rw [Array.setIfInBounds_comm _ _ hji]
        exact hrest

/-- An operation that yields its value in whatever world may be taken first, whether or not number m waits for it. -/
theorem anyM_firstY {i : Nat} {oi : Oper} {v : Value} (hi : ops[i]? = some oi) (hne : i ≠ m)
    (hsel : ∀ (j : Nat) (o : Oper) cs b, ops[j]? = some o → o.op ≠ .select cs b) (hQ : ∀ c a w, Q (.panic c) (a.put oi.dst v) w → Q (.panic c) a w) :
    ∀ (n : Nat) (l : Array Bool) (a : Act) (w : World),
      (∀ j oj, ops[j]? = some oj → j ≠ i → l.getD j true = false → (∀ e ∈ oj.after, Region.binds md e = true → e.on ≠ i) → oi.apart ops oj = true) →
      i ∈ Region.ready md ops l → Yields P ops oi v a → (l.getD m false = true ∨ S w) → anyM P md ops Q S m n (l.setIfInBounds i true) (a.put oi.dst v) w → anyM P md ops Q S m (n + 1) l a w := by
  intro n
  induction n with
  | zero =>
    intro l a w _ hr hy hS H
    refine ⟨fun e => (by rw [e] at hr; cases hr), fun j hj => ?_⟩
    by_cases hji : j = i
    · subst hji
      exact hy.wpOp hi ⟨by rw [getD_set_ne false hne]; exact hS, H⟩
    · have hk := ready_mono hj hji
      rw [H.1] at hk
      cases hk
  | succ n ih =>
    intro l a w hfree hr hy hS H
    refine ⟨fun e => (by rw [e] at hr; cases hr), fun j hj => ?_⟩
    by_cases hji : j = i
    · subst hji
      exact hy.wpOp hi ⟨by rw [getD_set_ne false hne]; exact hS, H⟩
    · obtain ⟨hjun, oj, hoj, hall⟩ := mem_ready.1 hj
      have hno : ∀ e ∈ oj.after, Region.binds md e = true → e.on ≠ i := fun e he hb hon => by
        have h1 := hall e he hb
        rw [hon, unlisted_of_ready hr] at h1
        cases h1
      have h2 := wpOp_put hoj (hfree j oj hoj hji hjun hno) (fun cs b => hsel i oi cs b hi) (fun cs b => hsel j oj cs b hoj) hQ hy (H.2 j (ready_mono hj hji))
      refine wpOp_mono (fun b u hu => ?_) h2
      obtain ⟨hyb, hSu, hrest⟩ := hu
      rw [Array.setIfInBounds_comm _ _ (Ne.symm hji), getD_set_ne false hne] at hSu
      refine ⟨hSu, ih (l.setIfInBounds j true) b u (fun k ok hk hki hun hnk => hfree k ok hk hki ?_ hnk) (ready_mono hr (Ne.symm hji)) hyb hSu ?_⟩
      · by_cases hjk : j = k
        · subst hjk; exact hjun
        · rw [getD_set_ne true hjk] at hun; exact hun
      · rw [Array.setIfInBounds_comm _ _ hji]
        exact hrest

/-- Number m waits for number i. -/
def waitsB (md : Region.Mode) (ops : Array Oper) (m i : Nat) : Bool := match ops[m]? with | some o => o.after.any fun e => Region.binds md e && e.on == i | none => false
theorem anyM_take {i : Nat} {oi : Oper} {v : Value} {n : Nat} {l : Array Bool} {a : Act} {w : World} (hi : ops[i]? = some oi)
    (hs : Region.noSelect ops = true) (hf : Region.free md ops l i = true) (hr : (Region.ready md ops l).contains i = true) (hw : (waitsB md ops m i && !(i == m) && !l.getD m false) = true)
    (hQ : ∀ c a w, Q (.panic c) (a.put oi.dst v) w → Q (.panic c) a w) (hy : YieldsIf P ops S oi v a) (hS : S w)
    (h : anyM P md ops Q S m n (l.setIfInBounds i true) (a.put oi.dst v) w) : anyM P md ops Q S m (n + 1) l a w := by
  simp only [Bool.and_eq_true, Bool.not_eq_true', beq_eq_false_iff_ne] at hw
  obtain ⟨⟨hw, hne⟩, hml⟩ := hw
  unfold waitsB at hw
  split at hw
  · rename_i om hm
    obtain ⟨e, he, hb⟩ := Array.any_eq_true'.1 hw
    simp only [Bool.and_eq_true, beq_iff_eq] at hb
    exact anyM_first hi hm ⟨e, he, hb.1, hb.2⟩ hne (Region.noSelect_spec hs) hQ n l a w (Region.free_spec hi hf) (by simpa using hr) hml hy hS h
  · cases hw
theorem anyM_takeY {i : Nat} {oi : Oper} {v : Value} {n : Nat} {l : Array Bool} {a : Act} {w : World} (hi : ops[i]? = some oi)
    (hs : Region.noSelect ops = true) (hf : Region.free md ops l i = true) (hr : (Region.ready md ops l).contains i = true) (hne : (i == m) = false)
    (hQ : ∀ c a w, Q (.panic c) (a.put oi.dst v) w → Q (.panic c) a w) (hy : Yields P ops oi v a) (hS : S w)
    (h : anyM P md ops Q S m n (l.setIfInBounds i true) (a.put oi.dst v) w) : anyM P md ops Q S m (n + 1) l a w :=
  anyM_firstY hi (by simpa using hne) (Region.noSelect_spec hs) hQ n l a w (Region.free_spec hi hf) (by simpa using hr) hy (.inr hS) h

/-- The one operation that may come up. -/
theorem anyM_one {i : Nat} {o : Oper} {n : Nat} {l : Array Bool} {a : Act} {w : World} (hr : Region.ready md ops l = [i]) (ho : ops[i]? = some o)
    (h : ∀ K' : Act → World → Prop, Shut (∀ b v, ((l.setIfInBounds i true).getD m false = true ∨ S v) → (((l.setIfInBounds i true).getD m false = true ∨ S v) → anyM P md ops Q S m n (l.setIfInBounds i true) b v) → K' b v) → if Region.wanted o (yielded ops a.tmps) = true then Oper.wp P o a w K' Q else K' (a.put o.dst undef) w) :
    anyM P md ops Q S m (n + 1) l a w := by
  refine ⟨fun e => (by rw [hr] at e; cases e), fun j hj => ?_⟩
  rw [hr] at hj
  simp only [List.mem_singleton] at hj
  subst hj
  exact wpOp_step ho (fun K' hK => h K' (fun b v hS hW => hK b v ⟨hS, hW hS⟩))

theorem anyM_done {l : Array Bool} {a : Act} {w : World} (hr : Region.ready md ops l = []) (h : Q .normal a w) : ∀ n, anyM P md ops Q S m n l a w
  | 0 => ⟨hr, h⟩
  | _ + 1 => ⟨fun _ => h, by rw [hr]; simp⟩

theorem wp_region_M (S : World → Prop) (m : Nat) {id : Nat} {a : Act} {w : World} (hm : P.follows .mixedOrders = true) (hS : S w.drew)
    (h : S w.drew → anyM P .any ops Q S m ops.size (Array.replicate ops.size false) a w.drew) : (Code.region id ops true).wp P Q a w :=
  wp_region_any hm (any_of_M _ _ _ _ (h hS))
end
end Go.Proofs.Ythalanpmfhhhnaa
