/-
  The walk of GateDelays: it returns true.
-/
import Derived.Test.YthalanpmfhhhnaaRy
import Derived.Test.YthalanpmfhhhnaaAw
namespace Go.Proofs.Ythalanpmfhhhnaa
open Go.RowKit
set_option linter.unusedSimpArgs false
set_option linter.unusedVariables false

set_option maxRecDepth 100000 in
set_option maxHeartbeats 4000000 in
theorem gdelays_any (s : SetV) (sA : Option Addr) (sC : Nat) (sts : List St) (o i : Int) (pw : Bool) (w : World) (hok : s.Ok w) (hms : StsAt w sA sts) :
    Calls Try.prog 4 #[s.val, .slice sA sts.length sC, .agg #[.int .i64 o, .int .i64 i, .bool pw]] w fun e w' => e = .returned (.bool true) ∧ Below w.heap.size w w' := by
  have hb0 := Bk.new2 w (.cells s.cells 25) (.cells #[.int .i64 o, .int .i64 i, .bool pw] 38)
  have HB := Lib.hid hb0
  have Hok := Lib.hid (fun W (h : Below w.heap.size w W) => hok.below h (Nat.le_refl _))
  have Hms := Lib.hid (fun W (h : Below w.heap.size w W) => hms.below h (Nat.le_refl _))
  have hgm := hok.gs.1
  have hsm := hms.1
  unfold maxLen at hgm hsm
  clear hb0 hok hms
  go_enter Try.func4, Try.ntmps4
  go_upto_region 1 with (fail)
  obtain ⟨W, hW⟩ : ∃ W, W = (w.alloc (.cells s.cells 25)).alloc (.cells #[.int .i64 o, .int .i64 i, .bool pw] 38) := ⟨_, rfl⟩
  rw [← hW] at HB ⊢
  clear hW
  have y0 : W.cell? ⟨w.heap.size, 0, none⟩ = some (.slice s.gA s.gates.length s.gC) := HB.out.cell 0 0 rfl rfl
  have y1 : W.cell? ⟨w.heap.size, 1, none⟩ = some (.slice s.rA s.rules.length s.rC) := HB.out.cell 0 1 rfl rfl
  have x0 : W.cell? ⟨w.heap.size + 1, 0, none⟩ = some (.int .i64 o) := HB.out.cell 1 0 rfl rfl
  have x1 : W.cell? ⟨w.heap.size + 1, 1, none⟩ = some (.int .i64 i) := HB.out.cell 1 1 rfl rfl
  have x2 : W.cell? ⟨w.heap.size + 1, 2, none⟩ = some (.bool pw) := HB.out.cell 1 2 rfl rfl
  go_wp2_with (first
    | (go_at_call 25; refine (delay_any s sA sC sts o i pw _ (Hok.out _ HB.out.below) (Hms.out _ HB.out.below)).mono ?_; rintro e w1 ⟨rfl, hb1⟩; have H1 := HB.out.call hb1; have a0 : w1.cell? ⟨w.heap.size, 0, none⟩ = some (.slice s.gA s.gates.length s.gC) := H1.cell 0 0 rfl rfl; have a1 : w1.cell? ⟨w.heap.size, 1, none⟩ = some (.slice s.rA s.rules.length s.rC) := H1.cell 0 1 rfl rfl; have z0 : w1.cell? ⟨w.heap.size + 1, 0, none⟩ = some (.int .i64 o) := H1.cell 1 0 rfl rfl; have z1 : w1.cell? ⟨w.heap.size + 1, 1, none⟩ = some (.int .i64 i) := H1.cell 1 1 rfl rfl; have z2 : w1.cell? ⟨w.heap.size + 1, 2, none⟩ = some (.bool pw) := H1.cell 1 2 rfl rfl; have HB1 := Lib.hid H1; clear hb1 H1)
    | (go_at_call 26; refine (rdelay_any s sA sC sts o i pw _ (Hok.out _ HB1.out.below) (Hms.out _ HB1.out.below)).mono ?_; rintro e w2 ⟨rfl, hb2⟩; have HB2 := Lib.hid (HB1.out.call hb2); clear hb2)
    | (go_at_call 24; refine (awake_any _).mono ?_; rintro e w5 ⟨rfl, hb5⟩; have HB5 := Lib.hid (HB2.out.call hb5); clear hb5))
  go_ret
  exact ⟨rfl, HB5.out.below⟩
end Go.Proofs.Ythalanpmfhhhnaa
