/-
  gate.Where where the gate has a fault, or the readings are not as many as the sensors.
-/
import Derived.Test.YthalanpmfhhhnaaSt
import Derived.Test.YthalanpmfhhhnaaTr
namespace Go.Proofs.Ythalanpmfhhhnaa
open Go.RowKit
set_option linter.unusedSimpArgs false
set_option linter.unusedVariables false

def whereBad (g : GateV) : Int := if (checkZ g).2.2 ≠ 0 then (checkZ g).2.2 else 2

/-- The boxes of Where. -/
structure WbW (w : World) (g : GateV) (lo hi v : Int) (W : World) : Prop where
  below : Below w.heap.size w W
  gate : GateIn W w.heap.size g
  sp : W.heap[w.heap.size + 1]? = some (.cells #[.int .i64 lo, .int .i64 hi] 53 (0, 0))
  er : W.heap[w.heap.size + 1 + 1]? = some (.cells #[.int .i64 v] 26 (0, 0))
theorem WbW.new (w : World) (g : GateV) : WbW w g 0 0 0 (((w.alloc (.cells g.cells 33)).alloc (.cells #[.int .i64 0, .int .i64 0] 53)).alloc (.cells #[.int .i64 0] 26)) :=
  ⟨(((Below.refl _ _).alloc (Nat.le_refl _) _).alloc (by simp) _).alloc (by simp; omega) _, ((gateIn_new w g).below ((Below.refl _ _).alloc (Nat.le_refl _) _) (Nat.le_refl _)).below ((Below.refl _ _).alloc (Nat.le_refl _) _) (Nat.le_refl _), blk_old (blk_new (by simp)), blk_new (by simp)⟩
theorem WbW.call {w W W' : World} {g : GateV} {lo hi v : Int} (h : WbW w g lo hi v W) (hb : Below W.heap.size W W') : WbW w g lo hi v W' :=
  ⟨h.below.trans (hb.mono h.below.size), h.gate.below hb (Nat.le_refl _), blk_below hb h.sp, blk_below hb h.er⟩
theorem WbW.lt {w W : World} {g : GateV} {lo hi v : Int} (h : WbW w g lo hi v W) : w.heap.size + 1 + 1 < W.heap.size := (Array.getElem?_eq_some_iff.1 h.er).1

set_option maxRecDepth 100000 in
set_option maxHeartbeats 1000000 in
theorem where_bad (g : GateV) (rA : Option Addr) (rn rC : Nat) (w : World) (hok : g.Ok w) (hm : rn ≤ maxLen) (h : (checkZ g).2.2 ≠ 0 ∨ rn ≠ g.sens.length) :
    Calls Try.prog 29 #[g.val, .slice rA rn rC] w fun e w' => e = .returned (.tuple #[.agg #[.int .i64 0, .int .i64 0], .int .i64 (whereBad g)]) ∧ Below w.heap.size w w' := by
  have h0 := WbW.new w g
  have H0 := Lib.hid h0
  have Hok := Lib.hid (hok.below h0.below (Nat.le_refl _))
  have hsl := hok.sens.1
  unfold maxLen at hm hsl
  clear hok h0
  by_cases hc : (checkZ g).2.2 = 0
  · have hr : whereBad g = 2 := by rw [whereBad, if_neg (by simp [hc])]
    have hne : ((rn : Int) != (g.sens.length : Int)) = true := by
      have : ¬ ((rn : Int) = (g.sens.length : Int)) := by
        rcases h with h | h
        · exact absurd hc h
        · omega
      simp [this]
    have Hc := Lib.hid hc
    rw [hr]
    clear hr h hc
    go_enter Try.func29, Try.ntmps29
    go_wp2_with (first
      | (with_reducible show wpList _ _ _ (({ dst := _, op := .load 33 (.tmp 2), type := _, pos := _, after := _, guard := none } : Oper) :: _) _ _; refine wpList_load_gate H0.out.gate rfl (.tmp 2) rfl rfl ?_)
      | (go_at_call 22; refine (check_any g _ Hok.out).mono ?_; rintro e w1 ⟨rfl, hb1⟩; rw [Hc.out]; have B1 := H0.out.call hb1; have s0 := (cell_of_row _ _ 0 _ _ _ B1.sp).trans rfl; have s1 := (cell_of_row _ _ 1 _ _ _ B1.sp).trans rfl; have e0 := (cell_of_row _ _ 0 _ _ _ B1.er).trans rfl; have sf0 := frozen_of_row _ _ 0 _ _ B1.sp; have sf1 := frozen_of_row _ _ 1 _ _ B1.sp; have ef0 := frozen_of_row _ _ 0 _ _ B1.er; have g19 := B1.gate.cell 19 _ rfl; have lt := B1.lt; have HB := Lib.hid B1.below; clear B1 hb1))
    refine bodyPost_ret (v := .tuple #[.agg #[.int .i64 0, .int .i64 0], .int .i64 2]) (by simp [results, Try.results29, go_sem, *]) rfl ⟨rfl, ?_⟩
    repeat (first | (with_reducible exact HB.out) | (with_reducible refine bset ?_ (by omega)))
  · have hr : whereBad g = (checkZ g).2.2 := by rw [whereBad, if_pos hc]
    have hne : ((checkZ g).2.2 != 0) = true := by simp [hc]
    rw [hr]
    clear hr h hc
    go_enter Try.func29, Try.ntmps29
    go_wp2_with (first
      | (with_reducible show wpList _ _ _ (({ dst := _, op := .load 33 (.tmp 2), type := _, pos := _, after := _, guard := none } : Oper) :: _) _ _; refine wpList_load_gate H0.out.gate rfl (.tmp 2) rfl rfl ?_)
      | (go_at_call 22; refine (check_any g _ Hok.out).mono ?_; rintro e w1 ⟨rfl, hb1⟩; have B1 := H0.out.call hb1; have s0 := (cell_of_row _ _ 0 _ _ _ B1.sp).trans rfl; have s1 := (cell_of_row _ _ 1 _ _ _ B1.sp).trans rfl; have e0 := (cell_of_row _ _ 0 _ _ _ B1.er).trans rfl; have sf0 := frozen_of_row _ _ 0 _ _ B1.sp; have sf1 := frozen_of_row _ _ 1 _ _ B1.sp; have ef0 := frozen_of_row _ _ 0 _ _ B1.er; have g19 := B1.gate.cell 19 _ rfl; have lt := B1.lt; have HB := Lib.hid B1.below; clear B1 hb1))
    go_region
    all_goals
      go_wp2
      refine bodyPost_ret (v := .tuple #[.agg #[.int .i64 0, .int .i64 0], .int .i64 (checkZ g).2.2]) (by simp [results, Try.results29, go_sem, *]) rfl ⟨rfl, ?_⟩
      repeat (first | (with_reducible exact HB.out) | (with_reducible refine Below.drew ?_) | (with_reducible refine bset ?_ (by omega)))
end Go.Proofs.Ythalanpmfhhhnaa
