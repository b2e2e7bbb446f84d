/-
  Move's closure: the step of gate i.
-/
import Derived.Test.YthalanpmfhhhnaaAl
namespace Go.Proofs.Ythalanpmfhhhnaa
open Go.RowKit
set_option linter.unusedSimpArgs false
set_option linter.unusedVariables false

set_option maxRecDepth 100000 in
theorem mv1_any (C : Nat) (tA : Option Addr) (tC : Nat) (ts : List Stp) (k : Nat) (w : World) (hk : k < ts.length) (hC : w.heap[C]? = some (.cells #[.slice tA ts.length tC] 62 (0, 0))) (hms : StpsAt w tA ts) :
    Calls Try.prog 88 #[.int .i64 k, .pointer (some ⟨C, 0, none⟩)] w fun e w' => e = .returned ts[k].val ∧ Below w.heap.size w w' := by
  obtain ⟨tb, tof, rfl, htb, htl⟩ : ∃ b off, tA = some ⟨b, off, none⟩ ∧ _ := by
    rcases hms.2 with h | h
    · exact absurd hk (by rw [h]; simp)
    · exact h
  obtain ⟨c0, c1, c2, c3⟩ := htl k hk
  have hlC : C < w.heap.size := (Array.getElem?_eq_some_iff.1 hC).1
  have s0 := (cell_of_row _ _ 0 _ _ _ hC).trans rfl
  have j1 : (0 : Int) ≤ (k : Int) := by omega
  have j2 : (k : Int) < (ts.length : Int) := by omega
  clear htl hms hC
  generalize ts[k] = t at c0 c1 c2 c3 ⊢
  go_enter Try.func88, Try.ntmps88
  go_wp2
  refine bodyPost_ret (v := t.val) (by simp [results, Try.results88, go_sem, *]) rfl ⟨rfl, ?_⟩
  exact (Below.refl _ _).alloc (Nat.le_refl _) _
end Go.Proofs.Ythalanpmfhhhnaa
