/-
  A gate loaded out of the middle of a block, in a region that draws its order.
-/
import Derived.Test.YthalanpmfhhhnaaTh
import Derived.Test.YthalanpmfhhhnaaBk
namespace Go.Proofs.Ythalanpmfhhhnaa
open Go.RowKit
set_option linter.unusedSimpArgs false
set_option linter.unusedVariables false

/-- What lies from cell o of block b on. -/
def rowMid (W : World) (b o : Nat) : Value := .agg ((List.range 21).map fun j => (W.cell? ⟨b, o + j, none⟩).getD undef).toArray
/-- A gate lies there. -/
def IsMid (W : World) (b o : Nat) : Prop := ∃ g : GateV, W.rangeAt b o g.cells.toList
theorem rowMid_gate {W : World} {b o : Nat} {g : GateV} (h : W.rangeAt b o g.cells.toList) : rowMid W b o = g.val := by
  have hl : g.cells.toList.length = 21 := rfl
  have : (List.range 21).map (fun j => (W.cell? ⟨b, o + j, none⟩).getD undef) = g.cells.toList := by
    apply List.ext_getElem
    · simp
    · intro j h1 h2
      have hj := h j _ (List.getElem?_eq_getElem h2)
      simp only [List.getElem_map, List.getElem_range]
      rw [hj]; rfl
  rw [rowMid, this]
theorem run_gateMid {W : World} {b o : Nat} (h : IsMid W b o) : (gateLoad (.pointer (some ⟨b, o, none⟩))).run Try.prog W = .ok (rowMid W b o) W := by
  obtain ⟨g, hg⟩ := h
  rw [rowMid_gate hg]
  exact run_loadAt_mid W b o 33 g.cells.toList _ hg Try.underlying33 rfl A.gateSize
theorem range_below {w w' : World} {b o : Nat} {l : List Value} (h : w.rangeAt b o l) (hb : b < w.heap.size) (hw : Below w.heap.size w w') : w'.rangeAt b o l := fun j v hv => (hw.cell (p := ⟨b, o + j, none⟩) hb).trans (h j v hv)
end Go.Proofs.Ythalanpmfhhhnaa
