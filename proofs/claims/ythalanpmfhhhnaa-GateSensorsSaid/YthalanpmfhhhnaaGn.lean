/-
  The walk of GateSensors: it returns true.
-/
import Derived.Test.YthalanpmfhhhnaaSb
import Derived.Test.YthalanpmfhhhnaaAw
namespace Go.Proofs.Ythalanpmfhhhnaa
open Go.RowKit
set_option linter.unusedSimpArgs false
set_option linter.unusedVariables false

set_option maxRecDepth 100000 in
set_option maxHeartbeats 4000000 in
theorem gsensors_any (g : GateV) (s : St) (rA : Option Addr) (rC : Nat) (rs : List Int) (on : Bool) (w : World) (hok : g.Ok w) (hri : IntsAt w rA rs) :
    Calls Try.prog 17 #[g.val, s.val, .agg #[.slice rA rs.length rC, .bool on]] w fun e w' => e = .returned (.bool true) ∧ Below w.heap.size w w' := by
  have H0 := Lib.hid (Bk.new3 w (.cells g.cells 33) (.cells s.cells 43) (.cells #[.slice rA rs.length rC, .bool on] 81))
  have Hok := Lib.hid (fun W (h : Below w.heap.size w W) => hok.below h (Nat.le_refl _))
  have Hri := Lib.hid (fun W (h : Below w.heap.size w W) => hri.below h (Nat.le_refl _))
  have c1 : ∀ W, Below w.heap.size w W → Calls Try.prog 29 #[g.val, .slice rA rs.length rC] W fun e w' => e = .returned (.tuple #[.agg #[.int .i64 (whereLo g rs), .int .i64 (whereHi g rs)], .int .i64 (whereE g rs)]) ∧ Below W.heap.size W w' := fun W h => where_any g rA rC rs W (Hok.out W h) (Hri.out W h)
  have c2 : ∀ W, Below w.heap.size w W → Calls Try.prog 43 #[g.val, .slice rA rs.length rC] W fun e w' => e = .returned (.tuple #[.agg #[.int .i64 (whereLo g rs), .int .i64 (whereHi g rs)], .int .i64 (whereE g rs)]) ∧ Below W.heap.size W w' := fun W h => rWhere_any g rA rC rs W (Hok.out W h) (Hri.out W h)
  have c3 : ∀ W, Below w.heap.size w W → Calls Try.prog 44 #[g.val, .slice rA rs.length rC] W fun e w' => e = .returned (.tuple #[.int .i64 (sureV g rs), .int .i64 (whereE g rs)]) ∧ Below W.heap.size W w' := fun W h => sure_any g rA rC rs W (Hok.out W h) (Hri.out W h)
  have c4 : ∀ W, Below w.heap.size w W → Calls Try.prog 45 #[g.val, .slice rA rs.length rC] W fun e w' => e = .returned (.tuple #[.int .i64 (sureV g rs), .int .i64 (whereE g rs)]) ∧ Below W.heap.size W w' := fun W h => rsure_any g rA rC rs W (Hok.out W h) (Hri.out W h)
  have c5 : ∀ W, Below w.heap.size w W → Calls Try.prog 46 #[g.val, s.val, .bool on, .slice rA rs.length rC] W fun e w' => e = .returned (.tuple #[(setBS g s on rs).val, .int .i64 (setBE g s on rs)]) ∧ Below W.heap.size W w' := fun W h => bolt_set_any g s on rA rC rs W (Hok.out W h) (Hri.out W h)
  have c6 : ∀ W, Below w.heap.size w W → Calls Try.prog 47 #[g.val, s.val, .bool on, .slice rA rs.length rC] W fun e w' => e = .returned (.tuple #[(setBS g s on rs).val, .int .i64 (setBE g s on rs)]) ∧ Below W.heap.size W w' := fun W h => rbolt_set_any g s on rA rC rs W (Hok.out W h) (Hri.out W h)
  have C1 := Lib.hid c1
  have C2 := Lib.hid c2
  have C3 := Lib.hid c3
  have C4 := Lib.hid c4
  have C5 := Lib.hid c5
  have C6 := Lib.hid c6
  clear c1 c2 c3 c4 c5 c6 hok hri
  revert C1 C2 C3 C4 C5 C6
  generalize whereLo g rs = lo
  generalize whereHi g rs = hi
  generalize sureV g rs = sv
  generalize whereE g rs = we
  generalize setBS g s on rs = y
  generalize setBE g s on rs = be
  intro C1 C2 C3 C4 C5 C6
  go_enter Try.func17, Try.ntmps17
  go_wp2_with (first
    | (with_reducible show wpList _ _ _ (({ dst := _, op := .load 33 (.tmp 3), type := _, pos := _, after := _, guard := none } : Oper) :: _) _ _; refine wpList_load_gate (H0.out.gate 0 rfl) rfl (.tmp 3) rfl rfl ?_)
    | (go_at_call 29; refine (C1.out _ H0.out.below).mono ?_; rintro e w1 ⟨rfl, hb1⟩; have H1 := Lib.hid ((H0.out.call hb1).alloc (.cells #[.int .i64 lo, .int .i64 hi] 53)); have x0 : w1.cell? ⟨w.heap.size + 1 + 1, 0, none⟩ = some (.slice rA rs.length rC) := (H0.out.call hb1).cell 2 0 rfl rfl; have lt : w.heap.size + 1 + 1 < w1.heap.size := (H0.out.call hb1).lt 2 rfl; clear hb1)
    | (with_reducible show wpList _ _ _ (({ dst := _, op := .load 33 (.tmp 3), type := _, pos := _, after := _, guard := none } : Oper) :: _) _ _; refine wpList_load_gate (H1.out.gate 0 rfl) rfl (.tmp 3) rfl rfl ?_)
    | (go_at_call 43; refine (C2.out _ H1.out.below).mono ?_; rintro e w2 ⟨rfl, hb2⟩; have a0 := blk_cell (blk_below hb2 (blk_new rfl)) 0 _ rfl; have a1 := blk_cell (blk_below hb2 (blk_new rfl)) 1 _ rfl; have H2 := Lib.hid ((H1.out.call hb2).alloc (.cells #[.int .i64 lo, .int .i64 hi] 53)); clear x0 lt; have x0 : w2.cell? ⟨w.heap.size + 1 + 1, 0, none⟩ = some (.slice rA rs.length rC) := (H1.out.call hb2).cell 2 0 rfl rfl; have lt : w.heap.size + 1 + 1 < w2.heap.size := (H1.out.call hb2).lt 2 rfl; have lt2 : w1.heap.size < w2.heap.size := (by have := hb2.size; simp at this; omega); clear hb2)
    | (with_reducible show wpList _ _ _ (({ dst := _, op := .load 33 (.tmp 3), type := _, pos := _, after := _, guard := none } : Oper) :: _) _ _; refine wpList_load_gate (H2.out.gate 0 rfl) rfl (.tmp 3) rfl rfl ?_)
    | (go_at_call 44; refine (C3.out _ H2.out.below).mono ?_; rintro e w3 ⟨rfl, hb3⟩; have H3 := Lib.hid (H2.out.call hb3); clear x0 lt a0 a1 lt2; have x0 : w3.cell? ⟨w.heap.size + 1 + 1, 0, none⟩ = some (.slice rA rs.length rC) := H3.out.cell 2 0 rfl rfl; clear hb3)
    | (with_reducible show wpList _ _ _ (({ dst := _, op := .load 33 (.tmp 3), type := _, pos := _, after := _, guard := none } : Oper) :: _) _ _; refine wpList_load_gate (H3.out.gate 0 rfl) rfl (.tmp 3) rfl rfl ?_)
    | (go_at_call 45; refine (C4.out _ H3.out.below).mono ?_; rintro e w4 ⟨rfl, hb4⟩; have H4 := Lib.hid (H3.out.call hb4); clear x0; have x0 : w4.cell? ⟨w.heap.size + 1 + 1, 0, none⟩ = some (.slice rA rs.length rC) := H4.out.cell 2 0 rfl rfl; have x1 : w4.cell? ⟨w.heap.size + 1 + 1, 1, none⟩ = some (.bool on) := H4.out.cell 2 1 rfl rfl; clear hb4)
    | (with_reducible show wpList _ _ _ (({ dst := _, op := .load 33 (.tmp 3), type := _, pos := _, after := _, guard := none } : Oper) :: _) _ _; refine wpList_load_gate (H4.out.gate 0 rfl) rfl (.tmp 3) rfl rfl ?_)
    | (with_reducible show wpList _ _ _ (({ dst := _, op := .load 43 (.tmp 4), type := _, pos := _, after := _, guard := none } : Oper) :: _) _ _; refine wpList_load_st (H4.out.blk 1 _ rfl) rfl (.tmp 4) rfl rfl ?_)
    | (go_at_call 46; refine (C5.out _ H4.out.below).mono ?_; rintro e w5 ⟨rfl, hb5⟩; have H5 := Lib.hid ((H4.out.call hb5).alloc (.cells y.cells 43)); clear x0 x1; have x0 : w5.cell? ⟨w.heap.size + 1 + 1, 0, none⟩ = some (.slice rA rs.length rC) := (H4.out.call hb5).cell 2 0 rfl rfl; have x1 : w5.cell? ⟨w.heap.size + 1 + 1, 1, none⟩ = some (.bool on) := (H4.out.call hb5).cell 2 1 rfl rfl; have lt : w.heap.size + 1 + 1 < w5.heap.size := (H4.out.call hb5).lt 2 rfl; clear hb5)
    | (with_reducible show wpList _ _ _ (({ dst := _, op := .load 33 (.tmp 3), type := _, pos := _, after := _, guard := none } : Oper) :: _) _ _; refine wpList_load_gate (H5.out.gate 0 rfl) rfl (.tmp 3) rfl rfl ?_)
    | (with_reducible show wpList _ _ _ (({ dst := _, op := .load 43 (.tmp 4), type := _, pos := _, after := _, guard := none } : Oper) :: _) _ _; refine wpList_load_st (H5.out.blk 1 _ rfl) rfl (.tmp 4) rfl rfl ?_)
    | (go_at_call 47; refine (C6.out _ H5.out.below).mono ?_; rintro e w6 ⟨rfl, hb6⟩; have b0 := blk_cell (blk_below hb6 (blk_new rfl)) 0 _ rfl; have b1 := blk_cell (blk_below hb6 (blk_new rfl)) 1 _ rfl; have b2 := blk_cell (blk_below hb6 (blk_new rfl)) 2 _ rfl; have H6 := Lib.hid ((H5.out.call hb6).alloc (.cells y.cells 43)); have lt2 : w5.heap.size < w6.heap.size := (by have := hb6.size; simp at this; omega); clear x0 x1 lt hb6)
    | (go_at_call 24; refine (awake_any _).mono ?_; rintro e w7 ⟨rfl, hb7⟩; have H7 := Lib.hid (H6.out.call hb7); clear hb7))
  go_ret
  exact ⟨rfl, H7.out.below⟩
end Go.Proofs.Ythalanpmfhhhnaa
