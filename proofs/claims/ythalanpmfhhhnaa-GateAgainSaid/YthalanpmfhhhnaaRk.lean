/-
  gate.Run by its list: what it returns, as a list of states that lies in memory.
-/
import Derived.Test.YthalanpmfhhhnaaRu
import Derived.Test.YthalanpmfhhhnaaRo
namespace Go.Proofs.Ythalanpmfhhhnaa
open Go.RowKit
set_option linter.unusedVariables false

/-- The states that Run returns. -/
def runL (g : GateV) (s : St) (l : List Stp) : List St := if runE g s l = 0 then stList (runF g s l) l.length else []
theorem runL_0 {g : GateV} {s : St} {l : List Stp} (h : runE g s l = 0) : (runL g s l).length = l.length := by rw [runL, if_pos h, stList_len]
theorem run_list (g : GateV) (s : St) (tA : Option Addr) (tC : Nat) (l : List Stp) (w : World) (hok : g.Ok w) (hms : StpsAt w tA l) :
    Calls Try.prog 41 #[g.val, s.val, .slice tA l.length tC] w fun e w' => ∃ (a : Option Addr) (c : Nat), (e = .returned (.tuple #[.slice a (runL g s l).length c, .int .i64 (runE g s l)]) ∧ StsAt w' a (runL g s l)) ∧ Below w.heap.size w w' := by
  refine (run_any g s tA tC l w hok hms).mono ?_
  rintro e w' ⟨v, rfl, h1, h2, hb⟩
  by_cases hz : runE g s l = 0
  · obtain ⟨a, c, rfl, hs⟩ := sts_of_row hms.1 (h1 hz)
    exact ⟨a, c, ⟨by rw [runL_0 hz], by rw [runL, if_pos hz]; exact hs⟩, hb⟩
  · rw [h2 hz]
    have hn : runL g s l = [] := by rw [runL, if_neg hz]
    rw [hn]
    exact ⟨none, 0, ⟨rfl, ⟨by simp, .inl rfl⟩⟩, hb⟩
theorem runE_0 {g : GateV} {s : St} {l : List Stp} (h : runE g s l = 0) : (checkZ g).2.2 = 0 ∧ l.length ≤ 2000 ∧ lostE g s = 0 ∧ nzFirst (runOdd g s l) l.length 0 = 0 := by
  unfold runE at h
  split at h
  · rename_i a; exact absurd h a
  · rename_i a
    split at h
    · simp at h
    · rename_i b
      split at h
      · rename_i c; exact absurd h c
      · rename_i c
        exact ⟨by simpa using a, by omega, by simpa using c, h⟩
end Go.Proofs.Ythalanpmfhhhnaa
