/-
  The reference's States: two lists that are the same are told to be equal.
-/
import Derived.Test.YthalanpmfhhhnaaRo
import Derived.BigQuiet
import Derived.Deep.QuietTactic
namespace Go.Proofs.Ythalanpmfhhhnaa
open Go.RowKit
set_option linter.unusedSimpArgs false
set_option linter.unusedVariables false

set_option maxRecDepth 100000 in
set_option maxHeartbeats 2000000 in
theorem states_same (a b : Option Addr) (c1 c2 : Nat) (l : List St) (w : World) (h1 : StsAt w a l) (h2 : StsAt w b l) :
    Calls Try.prog 37 #[.slice a l.length c1, .slice b l.length c2] w fun e w' => e = .returned (.bool true) ∧ Below w.heap.size w w' := by
  have hm := h1.1
  unfold maxLen at hm
  have H1 := Lib.hid h1
  have H2 := Lib.hid h2
  have hne : ((l.length : Int) != (l.length : Int)) = false := by simp
  clear h1 h2
  go_enter Try.func37, Try.ntmps37
  go_wp2
  go_loopw [5] (fun j wr => ∃ (k n : Nat), k ≤ l.length ∧ j = .int .i64 k ∧ wr = w.drewN n) (fun j _ => l.length - (intOf j).toNat)
  case atStart => exact ⟨0, 0, Nat.zero_le _, rfl, rfl⟩
  case round =>
    obtain ⟨k, n, hk, rfl, rfl⟩ := hrel
    by_cases hlt : k < l.length
    · obtain ⟨ab, ao, rfl, hab, hal⟩ : ∃ b off, a = some ⟨b, off, none⟩ ∧ _ := by
        rcases H1.out.2 with h | h
        · exact absurd hlt (by rw [h]; simp)
        · exact h
      obtain ⟨bb, bo, rfl, hbb, hbl⟩ : ∃ b' off, b = some ⟨b', off, none⟩ ∧ _ := by
        rcases H2.out.2 with h | h
        · exact absurd hlt (by rw [h]; simp)
        · exact h
      obtain ⟨x0, x1, x2⟩ := hal k hlt
      obtain ⟨y0, y1, y2⟩ := hbl k hlt
      have j1 : (0 : Int) ≤ (k : Int) := by omega
      have j2 : (k : Int) < (l.length : Int) := by omega
      clear hal hbl
      generalize l[k] = x at *
      go_wp2
      go_quiet (fail)
      go_wp2
      go_roundw
      case rel => first | exact ⟨k + 1, _, by omega, by go_num, rfl⟩ | (simp only [World.drewN_drewN]; exact ⟨k + 1, _, by omega, by go_num, rfl⟩)
      case measure => simp [intOf]; omega
    · go_wp2
      go_ret
      exact ⟨rfl, below_drewN (Below.refl _ _) n⟩
end Go.Proofs.Ythalanpmfhhhnaa
