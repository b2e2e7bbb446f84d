/-
  What the examples come to.
-/
import Derived.Test.YthalanpmfhhhnaaEx
import Derived.Test.YthalanpmfhhhnaaDl
import Derived.Test.YthalanpmfhhhnaaTi
import Derived.Test.YthalanpmfhhhnaaAt
namespace Go.Proofs.Ythalanpmfhhhnaa
open Go.RowKit
set_option linter.unusedSimpArgs false
set_option linter.unusedVariables false

/-- The set of the examples. -/
def pairS (oA sA oB sB gA rA : Option Addr) : SetV := ⟨gA, 2, [exG east oA sA, exG west oB sB], rA, 1, [⟨1, 0, 1000, 1000⟩]⟩
theorem ev_check (oA sA : Option Addr) : checkZ (exG east oA sA) = (0, 0, 0) := by kernel_rfl
theorem ev_step (oA sA : Option Addr) : stepZ (exG east oA sA) ⟨100, 100, false⟩ ⟨2, true, 3000, 1000⟩ = (⟨75, 105, false⟩, ⟨0, -25, 25⟩, 0) := by kernel_rfl
theorem ev_falls (oA sA : Option Addr) : fallsZ (exG east oA sA) 9000 8000 = (891, 0) := by kernel_rfl
theorem ev_delay (oA sA oB sB gA rA : Option Addr) : delayZ (pairS oA sA oB sB gA rA) [⟨0, 0, false⟩, ⟨0, 0, false⟩] ⟨1, false, 3000, 1000⟩ = (5, 0) := by kernel_rfl
end Go.Proofs.Ythalanpmfhhhnaa
