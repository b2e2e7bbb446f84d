/-
  The walk of GateTimes: it returns true.
-/
import Derived.Test.YthalanpmfhhhnaaRt
import Derived.Test.YthalanpmfhhhnaaAw
namespace Go.Proofs.Ythalanpmfhhhnaa
open Go.RowKit
set_option linter.unusedSimpArgs false
set_option linter.unusedVariables false

set_option maxRecDepth 100000 in
set_option maxHeartbeats 4000000 in
theorem gtimes_any (g : GateV) (s : St) (o i : Int) (pw : Bool) (w : World) (hok : g.Ok w) :
    Calls Try.prog 11 #[g.val, s.val, .agg #[.int .i64 o, .int .i64 i, .bool pw]] w fun e w' => e = .returned (.bool true) ∧ Below w.heap.size w w' := by
  have hb0 := Bk.new3 w (.cells g.cells 33) (.cells s.cells 43) (.cells #[.int .i64 o, .int .i64 i, .bool pw] 38)
  have HB := Lib.hid hb0
  have Hok := Lib.hid (fun W (h : Below w.heap.size w W) => hok.below h (Nat.le_refl _))
  clear hb0 hok
  go_enter Try.func11, Try.ntmps11
  go_upto_region 1 with (fail)
  obtain ⟨W, hW⟩ : ∃ W, W = ((w.alloc (.cells g.cells 33)).alloc (.cells s.cells 43)).alloc (.cells #[.int .i64 o, .int .i64 i, .bool pw] 38) := ⟨_, rfl⟩
  rw [← hW] at HB ⊢
  clear hW
  have x0 : W.cell? ⟨w.heap.size + 1 + 1, 0, none⟩ = some (.int .i64 o) := HB.out.cell 2 0 rfl rfl
  have x1 : W.cell? ⟨w.heap.size + 1 + 1, 1, none⟩ = some (.int .i64 i) := HB.out.cell 2 1 rfl rfl
  have x2 : W.cell? ⟨w.heap.size + 1 + 1, 2, none⟩ = some (.bool pw) := HB.out.cell 2 2 rfl rfl
  go_wp2_with (first
    | (with_reducible show wpList _ _ _ (({ dst := _, op := .load 33 (.tmp 3), type := _, pos := _, after := _, guard := none } : Oper) :: _) _ _; refine wpList_load_gate (HB.out.gate 0 rfl) rfl (.tmp 3) rfl rfl ?_)
    | (with_reducible show wpList _ _ _ (({ dst := _, op := .load 43 (.tmp 4), type := _, pos := _, after := _, guard := none } : Oper) :: _) _ _; refine wpList_load_st (HB.out.blk 1 _ rfl) rfl (.tmp 4) rfl rfl ?_)
    | (go_at_call 38; refine (time_any g s o i pw _ (Hok.out _ HB.out.below)).mono ?_; rintro e w1 ⟨rfl, hb1⟩; have H1 := HB.out.call hb1; have y0 : w1.cell? ⟨w.heap.size + 1 + 1, 0, none⟩ = some (.int .i64 o) := H1.cell 2 0 rfl rfl; have y1 : w1.cell? ⟨w.heap.size + 1 + 1, 1, none⟩ = some (.int .i64 i) := H1.cell 2 1 rfl rfl; have y2 : w1.cell? ⟨w.heap.size + 1 + 1, 2, none⟩ = some (.bool pw) := H1.cell 2 2 rfl rfl; have HB1 := Lib.hid H1; clear hb1 H1)
    | (with_reducible show wpList _ _ _ (({ dst := _, op := .load 33 (.tmp 3), type := _, pos := _, after := _, guard := none } : Oper) :: _) _ _; refine wpList_load_gate (HB1.out.gate 0 rfl) rfl (.tmp 3) rfl rfl ?_)
    | (with_reducible show wpList _ _ _ (({ dst := _, op := .load 43 (.tmp 4), type := _, pos := _, after := _, guard := none } : Oper) :: _) _ _; refine wpList_load_st (HB1.out.blk 1 _ rfl) rfl (.tmp 4) rfl rfl ?_)
    | (go_at_call 39; refine (rtime_any g s o i pw _ (Hok.out _ HB1.out.below)).mono ?_; rintro e w2 ⟨rfl, hb2⟩; have HB2 := Lib.hid (HB1.out.call hb2); clear hb2)
    | (go_at_call 24; refine (awake_any _).mono ?_; rintro e w5 ⟨rfl, hb5⟩; have HB5 := Lib.hid (HB2.out.call hb5); clear hb5))
  go_ret
  exact ⟨rfl, HB5.out.below⟩
end Go.Proofs.Ythalanpmfhhhnaa
