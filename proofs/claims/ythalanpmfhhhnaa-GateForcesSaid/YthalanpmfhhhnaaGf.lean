/-
  The walk of GateForces: it returns true.
-/
import Derived.Test.YthalanpmfhhhnaaRq
import Derived.Test.YthalanpmfhhhnaaAw
namespace Go.Proofs.Ythalanpmfhhhnaa
open Go.RowKit
set_option linter.unusedSimpArgs false
set_option linter.unusedVariables false

set_option maxRecDepth 100000 in
set_option maxHeartbeats 4000000 in
theorem gforces_any (g : GateV) (a b c : Int) (w : World) (hok : g.Ok w) :
    Calls Try.prog 7 #[g.val, .agg #[.int .i64 a, .int .i64 b, .int .i64 c]] w fun e w' => e = .returned (.bool true) ∧ Below w.heap.size w w' := by
  have hb0 := Bk.new2 w (.cells g.cells 33) (.cells #[.int .i64 a, .int .i64 b, .int .i64 c] 58)
  have HB := Lib.hid hb0
  have Hok := Lib.hid (fun W (h : Below w.heap.size w W) => hok.below h (Nat.le_refl _))
  clear hb0 hok
  go_enter Try.func7, Try.ntmps7
  go_upto_region 1 with (fail)
  obtain ⟨W, hW⟩ : ∃ W, W = (w.alloc (.cells g.cells 33)).alloc (.cells #[.int .i64 a, .int .i64 b, .int .i64 c] 58) := ⟨_, rfl⟩
  rw [← hW] at HB ⊢
  clear hW
  have x0 : W.cell? ⟨w.heap.size + 1, 0, none⟩ = some (.int .i64 a) := HB.out.cell 1 0 rfl rfl
  have x1 : W.cell? ⟨w.heap.size + 1, 1, none⟩ = some (.int .i64 b) := HB.out.cell 1 1 rfl rfl
  have x2 : W.cell? ⟨w.heap.size + 1, 2, none⟩ = some (.int .i64 c) := HB.out.cell 1 2 rfl rfl
  go_wp2_with (first
    | (with_reducible show wpList _ _ _ (({ dst := _, op := .load 33 (.tmp 2), type := _, pos := _, after := _, guard := none } : Oper) :: _) _ _; refine wpList_load_gate (HB.out.gate 0 rfl) rfl (.tmp 2) rfl rfl ?_)
    | (go_at_call 31; refine (force_call g a b c _ (Hok.out _ HB.out.below)).mono ?_; rintro e w1 ⟨rfl, hb1⟩; have H1 := HB.out.call hb1; have y0 : w1.cell? ⟨w.heap.size + 1, 0, none⟩ = some (.int .i64 a) := H1.cell 1 0 rfl rfl; have y1 : w1.cell? ⟨w.heap.size + 1, 1, none⟩ = some (.int .i64 b) := H1.cell 1 1 rfl rfl; have y2 : w1.cell? ⟨w.heap.size + 1, 2, none⟩ = some (.int .i64 c) := H1.cell 1 2 rfl rfl; have HB1 := Lib.hid H1; clear hb1 H1)
    | (with_reducible show wpList _ _ _ (({ dst := _, op := .load 33 (.tmp 2), type := _, pos := _, after := _, guard := none } : Oper) :: _) _ _; refine wpList_load_gate (HB1.out.gate 0 rfl) rfl (.tmp 2) rfl rfl ?_)
    | (go_at_call 32; refine (rforce_call g a b c _ (Hok.out _ HB1.out.below)).mono ?_; rintro e w2 ⟨rfl, hb2⟩; have H2 := HB1.out.call hb2; have z1 : w2.cell? ⟨w.heap.size + 1, 1, none⟩ = some (.int .i64 b) := H2.cell 1 1 rfl rfl; have z2 : w2.cell? ⟨w.heap.size + 1, 2, none⟩ = some (.int .i64 c) := H2.cell 1 2 rfl rfl; have HB2 := Lib.hid H2; clear hb2 H2)
    | (with_reducible show wpList _ _ _ (({ dst := _, op := .load 33 (.tmp 2), type := _, pos := _, after := _, guard := none } : Oper) :: _) _ _; refine wpList_load_gate (HB2.out.gate 0 rfl) rfl (.tmp 2) rfl rfl ?_)
    | (go_at_call 33; refine (falls_any g b c _ (Hok.out _ HB2.out.below)).mono ?_; rintro e w3 ⟨rfl, hb3⟩; have H3 := HB2.out.call hb3; have v1 : w3.cell? ⟨w.heap.size + 1, 1, none⟩ = some (.int .i64 b) := H3.cell 1 1 rfl rfl; have v2 : w3.cell? ⟨w.heap.size + 1, 2, none⟩ = some (.int .i64 c) := H3.cell 1 2 rfl rfl; have HB3 := Lib.hid H3; clear hb3 H3)
    | (with_reducible show wpList _ _ _ (({ dst := _, op := .load 33 (.tmp 2), type := _, pos := _, after := _, guard := none } : Oper) :: _) _ _; refine wpList_load_gate (HB3.out.gate 0 rfl) rfl (.tmp 2) rfl rfl ?_)
    | (go_at_call 34; refine (rfalls_any g b c _ (Hok.out _ HB3.out.below)).mono ?_; rintro e w4 ⟨rfl, hb4⟩; have HB4 := Lib.hid (HB3.out.call hb4); clear hb4)
    | (go_at_call 24; refine (awake_any _).mono ?_; rintro e w5 ⟨rfl, hb5⟩; have HB5 := Lib.hid (HB4.out.call hb5); clear hb5))
  go_ret
  exact ⟨rfl, HB5.out.below⟩
end Go.Proofs.Ythalanpmfhhhnaa
