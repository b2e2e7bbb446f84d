/-
  The plain law behind GateInTime: Time is the first step after which the gate is shut, and it stays shut.
-/
import Derived.Test.YthalanpmfhhhnaaRu
import Derived.Test.YthalanpmfhhhnaaFp
namespace Go.Proofs.Ythalanpmfhhhnaa
open Go.RowKit
set_option linter.unusedSimpArgs false
set_option linter.unusedVariables false

/-- The state after k steps, all the same. -/
def itr (g : GateV) (t : Stp) (s : St) : Nat → St
  | 0 => s
  | k + 1 => (aloneZ g (itr g t s k) t).1
theorem itr_shift (g : GateV) (t : Stp) (s : St) : ∀ k, itr g t (aloneZ g s t).1 k = itr g t s (k + 1)
  | 0 => rfl
  | k + 1 => by rw [itr, itr_shift g t s k, itr]; rfl
theorem aft_rep (g : GateV) (t : Stp) (s : St) (N : Nat) : ∀ k, k ≤ N → aft g s (List.replicate N t) k = itr g t s k
  | 0, _ => rfl
  | k + 1, h => by
    rw [aft_succ (by simp; omega), itr, aft_rep g t s N k (by omega)]
    simp
theorem itr_ok {g : GateV} {t : Stp} {s : St} (hg : g.Good) (hs : s.Ok g) : ∀ k, (itr g t s k).Ok g
  | 0 => hs
  | k + 1 => aloneZ_ok hg (itr_ok hg hs k)
theorem time_itr {g : GateV} {t : Stp} : ∀ (m : Nat) (s : St) (k n : Int), timeFrom g t m s k = (n, 0) → ∃ j : Nat, j < m ∧ n = k + j ∧ (itr g t s j).pos = g.travel ∧ ∀ j', j' < j → (itr g t s j').pos ≠ g.travel
  | 0, s, k, n, h => by simp [timeFrom] at h
  | m + 1, s, k, n, h => by
    rw [timeFrom] at h
    by_cases e : s.pos = g.travel
    · rw [if_pos e] at h
      simp only [Prod.mk.injEq, and_true] at h
      exact ⟨0, by omega, by omega, e, fun j' hj => absurd hj (by omega)⟩
    · rw [if_neg e] at h
      obtain ⟨j, h1, h2, h3, h4⟩ := time_itr m _ _ _ h
      refine ⟨j + 1, by omega, by omega, by rw [← itr_shift]; exact h3, fun j' hj => ?_⟩
      match j', hj with
      | 0, _ => exact e
      | j' + 1, hj => rw [← itr_shift]; exact h4 j' (by omega)
theorem stays {g : GateV} {s : St} {o i : Int} {power : Bool} (hg : g.Good) (hs : s.Ok g) (hp : s.pos = g.travel) : (aloneZ g s ⟨1, power, o, i⟩).1.pos = g.travel := by
  have hm : (moveZ g s ⟨1, power, o, i⟩ (boltE s ⟨1, power, o, i⟩)).1 = 0 := by
    unfold moveZ
    split
    · rfl
    · rename_i hb
      have hb0 : boltE s ⟨1, power, o, i⟩ = 0 := by unfold boltE; rw [if_neg (fun h => hb h.1)]
      rw [hb0, if_neg (by simp), if_pos rfl, hp, Int.sub_self]
      have a := pushZ_bd (t := ⟨1, power, o, i⟩) (s := s) hg (rubZ g g.travel o i) (netZ g g.travel o i) 0 (by omega) hs.charge.1
      simp only
      omega
  simp [aloneZ, doZ, hm, hp]
theorem itr_stays {g : GateV} {s : St} {o i : Int} {power : Bool} (hg : g.Good) (hs : s.Ok g) {j : Nat} (hj : (itr g ⟨1, power, o, i⟩ s j).pos = g.travel) : ∀ d, (itr g ⟨1, power, o, i⟩ s (j + d)).pos = g.travel
  | 0 => hj
  | d + 1 => stays hg (itr_ok hg hs (j + d)) (itr_stays hg hs hj d)

theorem run_rep {g : GateV} {s : St} {t : Stp} (hc : (checkZ g).2.2 = 0) (hg : g.Good) (hs : s.Ok g) (ht : t.Lv) (ho : 0 ≤ t.order ∧ t.order ≤ 2) (hl : lostE g s = 0) (N : Nat) (hN : N ≤ 2000) : runE g s (List.replicate N t) = 0 := by
  rw [runE, if_neg (by simp [hc]), if_neg (by simp; omega), if_neg (by simp [hl])]
  have h0 : ∀ k, runOdd g s (List.replicate N t) k = 0 := fun k => by
    by_cases hk : k < N
    · rw [runOdd_eq (by simpa using hk), aft_rep g t s N k (by omega)]
      simp only [List.getElem_replicate]
      exact odd_ok (itr_ok hg hs k) ht ho
    · rw [runOdd, List.getElem?_eq_none (by simpa using hk)]
  have hz : ∀ n k, nzFirst (runOdd g s (List.replicate N t)) n k = 0 := fun n => by
    induction n with
    | zero => intro k; rfl
    | succ n ih => intro k; rw [nzFirst, if_pos (h0 k)]; exact ih (k + 1)
  exact hz _ _

/-- What GateInTime asks. -/
theorem in_time {g : GateV} {s : St} {o i n : Int} {power : Bool} (h : timeZ g s o i power = (n, 0)) :
    (0 ≤ n ∧ n < 2001) ∧ ∀ N : Nat, N ≤ 2000 → runE g s (List.replicate N ⟨1, power, o, i⟩) = 0 ∧ ∀ k : Nat, k ≤ N → decide ((aft g s (List.replicate N ⟨1, power, o, i⟩) k).pos = g.travel) = decide (n ≤ (k : Int)) := by
  unfold timeZ at h
  split at h
  · rename_i hc; simp at h; exact absurd h.2 hc
  · rename_i hc
    split at h
    · rename_i ho; simp at h; exact absurd h.2 ho
    · rename_i ho
      have hc' : (checkZ g).2.2 = 0 := by simpa using hc
      have ho' : oddE g s ⟨1, power, o, i⟩ = 0 := by simpa using ho
      obtain ⟨hs, ht, h1, h2⟩ := oddE_0 ho'
      have hg := check_good hc'
      have hl : lostE g s = 0 := by
        unfold oddE at ho'
        split at ho'
        · rename_i hh; exact absurd ho' hh
        · rename_i hh; simpa using hh
      obtain ⟨j, hj, hn, hp, hlt⟩ := time_itr _ _ _ _ h
      refine ⟨by omega, fun N hN => ⟨run_rep hc' hg hs ht ⟨h1, h2⟩ hl N hN, fun k hk => ?_⟩⟩
      rw [aft_rep _ _ _ N k hk]
      by_cases hjk : j ≤ k
      · have := itr_stays hg hs hp (k - j)
        rw [show j + (k - j) = k from by omega] at this
        rw [decide_eq_true this, decide_eq_true (by omega)]
      · rw [decide_eq_false (hlt k (by omega)), decide_eq_false (by omega)]
end Go.Proofs.Ythalanpmfhhhnaa
