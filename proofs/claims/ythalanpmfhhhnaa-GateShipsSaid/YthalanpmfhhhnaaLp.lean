/-
  The plain law behind GateLatest: without rules the set is shut as late as its slowest gate.
-/
import Derived.Test.YthalanpmfhhhnaaIp
import Derived.Test.YthalanpmfhhhnaaDe
namespace Go.Proofs.Ythalanpmfhhhnaa
open Go.RowKit
set_option linter.unusedSimpArgs false
set_option linter.unusedVariables false

theorem time_of_itr {g : GateV} {t : Stp} : ∀ (j m : Nat) (s : St) (k : Int), j < m → (itr g t s j).pos = g.travel → (∀ j', j' < j → (itr g t s j').pos ≠ g.travel) → timeFrom g t m s k = (k + j, 0)
  | j, 0, s, k, h, _, _ => absurd h (by omega)
  | 0, m + 1, s, k, _, h, _ => by rw [timeFrom, if_pos (show s.pos = g.travel from h)]; simp
  | j + 1, m + 1, s, k, hm, h, hlt => by
    rw [timeFrom, if_neg (show ¬ s.pos = g.travel from hlt 0 (by omega)), time_of_itr j m _ _ (by omega) (by rw [itr_shift]; exact h) (fun j' hj => by rw [itr_shift]; exact hlt (j' + 1) (by omega))]
    simp; omega
theorem first_shut {g : GateV} {t : Stp} {s : St} : ∀ j : Nat, (itr g t s j).pos = g.travel → ∃ i, i ≤ j ∧ (itr g t s i).pos = g.travel ∧ ∀ j', j' < i → (itr g t s j').pos ≠ g.travel := fun j => by
  induction j with
  | zero => exact fun h => ⟨0, by omega, h, fun j' hj => absurd hj (by omega)⟩
  | succ j ih =>
    intro h
    by_cases e : ∃ i, i ≤ j ∧ (itr g t s i).pos = g.travel
    · obtain ⟨i, hi, hp⟩ := e
      have : ∃ i, i ≤ i ∧ True := ⟨0, by omega, trivial⟩
      clear this
      -- strong form over all smaller ones
      have key : ∀ n : Nat, ∀ i, i ≤ n → (itr g t s i).pos = g.travel → ∃ i', i' ≤ i ∧ (itr g t s i').pos = g.travel ∧ ∀ j', j' < i' → (itr g t s j').pos ≠ g.travel := by
        intro n
        induction n with
        | zero => intro i hi hp; exact ⟨i, by omega, hp, fun j' hj => absurd hj (by omega)⟩
        | succ n ihn =>
          intro i hi hp
          by_cases q : ∃ j', j' < i ∧ (itr g t s j').pos = g.travel
          · obtain ⟨j', hj', hp'⟩ := q
            obtain ⟨x, h1, h2, h3⟩ := ihn j' (by omega) hp'
            exact ⟨x, by omega, h2, h3⟩
          · exact ⟨i, by omega, hp, fun j' hj hpj => q ⟨j', hj, hpj⟩⟩
      obtain ⟨x, h1, h2, h3⟩ := key i i (by omega) hp
      exact ⟨x, by omega, h2, h3⟩
    · exact ⟨j + 1, by omega, h, fun j' hj hpj => e ⟨j', by omega, hpj⟩⟩

/-- The states after j steps of every gate, each alone. -/
def itrs (gs : List GateV) (t : Stp) (sts : List St) (j : Nat) : List St := stList (fun k => match gs[k]?, sts[k]? with | some g, some s => (itr g t s j, ⟨0, 0, 0⟩) | _, _ => (⟨0, 0, false⟩, ⟨0, 0, 0⟩)) gs.length
theorem itrs_get {gs : List GateV} {t : Stp} {sts : List St} {j k : Nat} (h1 : k < gs.length) (h2 : k < sts.length) (h3 : k < (itrs gs t sts j).length) : (itrs gs t sts j)[k] = itr gs[k] t sts[k] j := by
  simp [itrs, stList, List.getElem?_eq_getElem h1, List.getElem?_eq_getElem h2]
theorem itrs_len (gs : List GateV) (t : Stp) (sts : List St) (j : Nat) : (itrs gs t sts j).length = gs.length := stList_len _ _
theorem itrs_0 {gs : List GateV} {t : Stp} {sts : List St} (h : sts.length = gs.length) : itrs gs t sts 0 = sts := by
  apply List.ext_getElem
  · rw [itrs_len, h]
  · intro k h1 h2
    rw [itrs_get (by omega) h2 h1]; rfl
theorem refE_free {sts : List St} {i : Int} {s : St} {t : Stp} : refE [] sts i s t false = boltE s t := by
  unfold refE boltE
  by_cases h : t.order = 0
  · simp [h]
  · cases hb : s.bolted <;> simp [h]
theorem itrs_succ {gs : List GateV} {t : Stp} {sts : List St} {j : Nat} (h : sts.length = gs.length) : stList (togAt gs [] (itrs gs t sts j) (List.replicate gs.length t) (List.replicate gs.length false)) gs.length = itrs gs t sts (j + 1) := by
  apply List.ext_getElem
  · rw [stList_len, itrs_len]
  · intro k h1 h2
    have hk : k < gs.length := by rw [stList_len] at h1; exact h1
    have hi : k < (itrs gs t sts j).length := by rw [itrs_len]; exact hk
    rw [itrs_get hk (by omega) h2]
    simp only [stList, List.getElem_map, List.getElem_range]
    rw [togAt_eq hk hi (by simpa using hk) (by simpa using hk)]
    simp only [List.getElem_replicate]
    rw [refE_free, itrs_get hk (by omega) hi]
    rfl
theorem shut_all {gs : List GateV} {sts : List St} (hl : sts.length = gs.length) : ∀ m, m ≤ gs.length → (shutUpto gs sts m = true ↔ ∀ k, (h : k < m) → (h1 : k < gs.length) → (h2 : k < sts.length) → sts[k].pos = gs[k].travel)
  | 0, _ => by simp [shutUpto]
  | m + 1, h => by
    rw [shutUpto_succ (by omega) (by omega), Bool.and_eq_true, shut_all hl m (by omega), decide_eq_true_iff]
    constructor
    · rintro ⟨a, b⟩ k hk h1 h2
      by_cases e : k = m
      · subst e; exact b
      · exact a k (by omega) h1 h2
    · intro a
      exact ⟨fun k hk h1 h2 => a k (by omega) h1 h2, a m (by omega) (by omega) (by omega)⟩
theorem delay_itr {gs : List GateV} {t : Stp} {sts : List St} (hl : sts.length = gs.length) : ∀ (m j : Nat) (d : Int), delayFrom gs [] (List.replicate gs.length t) (List.replicate gs.length false) m (itrs gs t sts j) j = (d, 0) →
    ∃ J : Nat, j ≤ J ∧ J < j + m ∧ d = ((J : Int) + 9) / 10 ∧ shutUpto gs (itrs gs t sts J) gs.length = true ∧ ∀ j', j ≤ j' → j' < J → shutUpto gs (itrs gs t sts j') gs.length = false
  | 0, j, d, h => by simp [delayFrom] at h
  | m + 1, j, d, h => by
    rw [delayFrom] at h
    by_cases e : shutUpto gs (itrs gs t sts j) gs.length = true
    · rw [if_pos e] at h
      simp only [Prod.mk.injEq, and_true] at h
      exact ⟨j, by omega, by omega, h.symm, e, fun j' a b => absurd a (by omega)⟩
    · rw [if_neg e, itrs_succ hl] at h
      obtain ⟨J, h1, h2, h3, h4, h5⟩ := delay_itr hl m (j + 1) d (by push_cast; exact h)
      refine ⟨J, by omega, by omega, h3, h4, fun j' a b => ?_⟩
      by_cases q : j' = j
      · subst q; simpa using e
      · exact h5 j' (by omega) b

/-- The latest of the first n gates. -/
def lateUpto (f : Nat → Int) : Nat → Int
  | 0 => 0
  | n + 1 => max (lateUpto f n) (f n)
theorem late_le {f : Nat → Int} {J : Int} (h0 : 0 ≤ J) : ∀ n, (∀ k, k < n → f k ≤ J) → lateUpto f n ≤ J
  | 0, _ => h0
  | n + 1, h => by rw [lateUpto]; have := late_le h0 n (fun k hk => h k (by omega)); have := h n (by omega); omega
theorem le_late {f : Nat → Int} : ∀ n k, k < n → f k ≤ lateUpto f n
  | 0, k, h => absurd h (by omega)
  | n + 1, k, h => by
    rw [lateUpto]
    by_cases e : k = n
    · subst e; omega
    · have := le_late (f := f) n k (by omega); omega
theorem late_0 {f : Nat → Int} : ∀ n, 0 ≤ lateUpto f n
  | 0 => Int.le_refl _
  | n + 1 => by rw [lateUpto]; have := late_0 (f := f) n; omega

theorem scan_good {gs : List GateV} : ∀ (l r : List GateV) (k : Int), (gscan r l k).2 = 0 → ∀ g ∈ r, (checkZ g).2.2 = 0
  | l, [], k, _, g, hg => by simp at hg
  | l, x :: r, k, h, g, hg => by
    rw [gscan] at h
    by_cases e : gateE l x = 0
    · rw [if_pos e] at h
      rcases List.mem_cons.1 hg with rfl | hg
      · unfold gateE at e
        split at e
        · assumption
        · exact absurd e (by assumption)
      · exact scan_good (gs := gs) _ r _ h g hg
    · rw [if_neg e] at h; exact absurd h e
theorem set_checks {s : SetV} (h : (setE s).2.2 = 0) : ∀ g ∈ s.gates, (checkZ g).2.2 = 0 := by
  unfold setE at h
  split at h
  · simp at h
  · split at h
    · rename_i h2; exact absurd h h2
    · rename_i h2
      exact scan_good (gs := []) [] s.gates 0 (by simpa using h2)

/-- What GateLatest asks: each gate's time is known, and the set's delay is that of the slowest, in ticks. -/
theorem latest_law {s : SetV} {sts : List St} {o i d : Int} {pw : Bool} (hr : s.rules = []) (hl : sts.length = s.gates.length) (h : delayZ s sts ⟨1, pw, o, i⟩ = (d, 0)) :
    ∃ f : Nat → Int, (∀ k, (h1 : k < s.gates.length) → (h2 : k < sts.length) → timeZ s.gates[k] sts[k] o i pw = (f k, 0) ∧ 0 ≤ f k ∧ f k ≤ 2000) ∧ d = (lateUpto f s.gates.length + 9) / 10 ∧ s.gates.length ≤ 6 := by
  unfold delayZ at h
  split at h
  · rename_i hc; simp at h; exact absurd h.2 hc
  · rename_i hc
    have hc' : (setE s).2.2 = 0 := by simpa using hc
    rw [if_neg (by simp [hl])] at h
    split at h
    · rename_i ha; simp at h; exact absurd h.2 ha
    · rename_i ha
      have ha' : allE s.gates sts (fun _ => ⟨1, pw, o, i⟩) = 0 := by simpa using ha
      have hck := set_checks hc'
      have hn := (set_0 hc').1.2
      have hodd : ∀ k, (h1 : k < s.gates.length) → (h2 : k < sts.length) → oddE s.gates[k] sts[k] ⟨1, pw, o, i⟩ = 0 := fun k h1 h2 => by
        have h3 := nzFirst_0 ha' k (by omega) (by omega)
        rw [oddAt_eq h1 h2] at h3
        exact h3
      rw [hr, ← itrs_0 (gs := s.gates) (t := ⟨1, pw, o, i⟩) hl] at h
      obtain ⟨J, _, h2, h3, h4, h5⟩ := delay_itr hl 2001 0 d h
      have hsh := (shut_all (itrs_len s.gates ⟨1, pw, o, i⟩ sts J) s.gates.length (Nat.le_refl _)).1 h4
      have hpk : ∀ k, (h1 : k < s.gates.length) → (h2 : k < sts.length) → (itr s.gates[k] ⟨1, pw, o, i⟩ sts[k] J).pos = s.gates[k].travel := fun k h1 h2 => by
        have h := hsh k h1 h1 (by rw [itrs_len]; exact h1)
        rw [itrs_get h1 h2] at h
        exact h
      have hex : ∀ k, ∃ n : Nat, n ≤ J ∧ ((h1 : k < s.gates.length) → (h2 : k < sts.length) → (itr s.gates[k] ⟨1, pw, o, i⟩ sts[k] n).pos = s.gates[k].travel ∧ ∀ j', j' < n → (itr s.gates[k] ⟨1, pw, o, i⟩ sts[k] j').pos ≠ s.gates[k].travel) := fun k => by
        by_cases hk : k < s.gates.length
        · obtain ⟨n, a, b, c⟩ := first_shut J (hpk k hk (by omega))
          exact ⟨n, a, fun _ _ => ⟨b, c⟩⟩
        · exact ⟨0, by omega, fun h1 => absurd h1 hk⟩
      obtain ⟨n, hn'⟩ := Classical.axiomOfChoice hex
      refine ⟨fun k => (n k : Int), fun k h1 h2' => ⟨?_, Int.natCast_nonneg _, ?_⟩, ?_, hn⟩
      · obtain ⟨a, b⟩ := hn' k
        obtain ⟨b, c⟩ := b h1 h2'
        unfold timeZ
        rw [if_neg (by simp [hck _ (List.getElem_mem h1)]), if_neg (by simp [hodd k h1 h2']), time_of_itr (n k) 2001 _ _ (by omega) b c]
        simp
      · have := (hn' k).1; show (n k : Int) ≤ 2000; omega
      · have hle := late_le (f := fun k => (n k : Int)) (J := J) (by omega) s.gates.length (fun k hk => by have := (hn' k).1; show (n k : Int) ≤ J; omega)
        have hge : (J : Int) ≤ lateUpto (fun k => (n k : Int)) s.gates.length := by
          by_cases e : (J : Int) ≤ lateUpto (fun k => (n k : Int)) s.gates.length
          · exact e
          · exfalso
            have h0 := late_0 (f := fun k => (n k : Int)) s.gates.length
            obtain ⟨L, hL⟩ : ∃ L : Nat, (L : Int) = lateUpto (fun k => (n k : Int)) s.gates.length := ⟨(lateUpto (fun k => (n k : Int)) s.gates.length).toNat, by omega⟩
            have h6 := h5 L (by omega) (by omega)
            have h7 : shutUpto s.gates (itrs s.gates ⟨1, pw, o, i⟩ sts L) s.gates.length = true := by
              rw [shut_all (itrs_len _ _ _ _) _ (Nat.le_refl _)]
              intro k hk h1 h2'
              have h2'' : k < sts.length := by omega
              rw [itrs_get h1 h2'' h2']
              obtain ⟨b, c⟩ := (hn' k).2 h1 h2''
              have hkL : n k ≤ L := by
                have := le_late (f := fun k => (n k : Int)) s.gates.length k hk
                omega
              have hs := itr_stays (o := o) (i := i) (power := pw) (check_good (hck _ (List.getElem_mem h1))) (oddE_0 (hodd k h1 h2'')).1 b (L - n k)
              rw [show n k + (L - n k) = L from by omega] at hs
              exact hs
            rw [h6] at h7; cases h7
        rw [h3]
        congr 1
        omega
end Go.Proofs.Ythalanpmfhhhnaa
