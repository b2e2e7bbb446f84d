/-
  What every row's step needs: facts on the program, values that fit, and the arguments opened.
-/
import Derived.Test.YtgfdindlihfidaaGreatOp
import Derived.ProofKit
import Derived.OpenShut
namespace Go.Proofs.YtgfdindlihfidaaGreat
open Go.ChangeShapes Go.WideShapes Go.ChangeAt Go.RowKit
set_option linter.unusedSimpArgs false
set_option linter.unusedVariables false

theorem Q.own : ownKnob Tryz.prog.godebug = none := by kernel_rfl
theorem Q.laidOut : laidOutB Tryz.prog = true := by kernel_rfl

/-- Values that fit. -/
abbrev zGate : Value := .agg #[.string ByteArray.empty, .int .i64 0, .int .i64 0, .slice none 0 0, .int .i64 0, .int .i64 0, .int .i64 0, .int .i64 0, .int .i64 0, .int .i64 0, .int .i64 0, .int .i64 0, .int .i64 0, .int .i64 0, .int .i64 0, .int .i64 0, .int .i64 0, .int .i64 0, .int .i64 0, .slice none 0 0, .int .i64 0]
abbrev zSt : Value := .agg #[.int .i64 0, .int .i64 0, .bool false]
abbrev zStp : Value := .agg #[.int .i64 0, .bool false, .int .i64 0, .int .i64 0]

section
variable {H : Type} {enc : TypeId × Value → H} {w : World} {base b0 : Nat} {spare : Nat → Bool} {held : Bool} {r : Reach}

set_option maxRecDepth 100000 in
theorem gate_arg {v : Value} {d : DataW H} {p : List MemPlace} (hv : Value.okWide Tryz.prog w r b0 60 v) (h : DataW.Trod enc Tryz.prog w base spare held 60 v d p) : ∃ g : GateV, v = g.val ∧ g.Ok w := by
  obtain ⟨cs, rfl, _⟩ := okWide_struct Tryz.underlying60 hv
  obtain ⟨fu, x, hx⟩ := agg_cells (cs := cs) rfl h
  obtain ⟨g, hg, hok⟩ := gate_of hx
  exact ⟨g, by rw [Array.toList_inj.1 hg], hok⟩
set_option maxRecDepth 100000 in
theorem st_arg {v : Value} {d : DataW H} {p : List MemPlace} (hv : Value.okWide Tryz.prog w r b0 62 v) (h : DataW.Trod enc Tryz.prog w base spare held 62 v d p) : ∃ s : St, v = s.val := by
  obtain ⟨cs, rfl, _⟩ := okWide_struct Tryz.underlying62 hv
  obtain ⟨fu, x, hx⟩ := agg_cells (cs := cs) rfl h
  obtain ⟨s, hs⟩ := st_of hx
  exact ⟨s, by rw [Array.toList_inj.1 hs]⟩
set_option maxRecDepth 100000 in
theorem stp_arg {v : Value} {d : DataW H} {p : List MemPlace} (hv : Value.okWide Tryz.prog w r b0 47 v) (h : DataW.Trod enc Tryz.prog w base spare held 47 v d p) : ∃ t : Stp, v = t.val := by
  obtain ⟨cs, rfl, _⟩ := okWide_struct Tryz.underlying47 hv
  obtain ⟨fu, x, hx⟩ := agg_cells (cs := cs) rfl h
  obtain ⟨s, hs⟩ := stp_of hx
  exact ⟨s, by rw [Array.toList_inj.1 hs]⟩
set_option maxRecDepth 100000 in
theorem set_arg {v : Value} {d : DataW H} {p : List MemPlace} (hv : Value.okWide Tryz.prog w r b0 25 v) (h : DataW.Trod enc Tryz.prog w base spare held 25 v d p) : ∃ s : SetV, v = s.val ∧ s.Ok w := by
  obtain ⟨cs, rfl, _⟩ := okWide_struct Tryz.underlying25 hv
  obtain ⟨fu, x, hx⟩ := agg_cells (cs := cs) rfl h
  obtain ⟨s, hs, hok⟩ := set_of hx
  exact ⟨s, by rw [Array.toList_inj.1 hs], hok⟩
theorem trod_below {t : TypeId} {v : Value} {d : DataW H} {p : List MemPlace} (h : DataW.Trod enc Tryz.prog w base spare held t v d p) : ∀ x ∈ p, x.block < w.heap.size := by
  obtain ⟨m, hm⟩ := h
  exact DataW.trod_lt m _ _ _ hm
end
end Go.Proofs.YtgfdindlihfidaaGreat
