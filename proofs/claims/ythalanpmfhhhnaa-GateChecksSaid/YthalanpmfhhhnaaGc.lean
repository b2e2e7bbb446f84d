/-
  The walk of GateChecks: it returns true.
-/
import Derived.Test.YthalanpmfhhhnaaCs
import Derived.Test.YthalanpmfhhhnaaAw
namespace Go.Proofs.Ythalanpmfhhhnaa
open Go.RowKit
set_option linter.unusedSimpArgs false
set_option linter.unusedVariables false

set_option maxRecDepth 100000 in
set_option maxHeartbeats 4000000 in
theorem gchecks_any (s : SetV) (w : World) (hok : s.Ok w) :
    Calls Try.prog 3 #[s.val] w fun e w' => e = .returned (.bool true) ∧ Below w.heap.size w w' := by
  have hgm := hok.gs.1
  unfold maxLen at hgm
  have HB := Lib.hid (Bk.new1 w (.cells s.cells 25))
  have Hok := Lib.hid (fun W (h : Below w.heap.size w W) => hok.below h (Nat.le_refl _))
  clear hok
  go_enter Try.func3, Try.ntmps3
  go_upto_region 1 with (fail)
  obtain ⟨W, hW⟩ : ∃ W, W = w.alloc (.cells s.cells 25) := ⟨_, rfl⟩
  rw [← hW] at HB ⊢
  clear hW
  have c0 : W.cell? ⟨w.heap.size, 0, none⟩ = some (.slice s.gA s.gates.length s.gC) := HB.out.cell 0 0 rfl rfl
  have c1 : W.cell? ⟨w.heap.size, 1, none⟩ = some (.slice s.rA s.rules.length s.rC) := HB.out.cell 0 1 rfl rfl
  go_wp2_with (first
    | (go_at_call 20; refine (set_any s _ (Hok.out _ HB.out.below)).mono ?_; rintro e w1 ⟨rfl, hb1⟩; have H1 := HB.out.call hb1; have d0 : w1.cell? ⟨w.heap.size, 0, none⟩ = some (.slice s.gA s.gates.length s.gC) := H1.cell 0 0 rfl rfl; have d1 : w1.cell? ⟨w.heap.size, 1, none⟩ = some (.slice s.rA s.rules.length s.rC) := H1.cell 0 1 rfl rfl; have HB1 := Lib.hid H1; clear hb1 H1)
    | (go_at_call 21; refine (rset_any s _ (Hok.out _ HB1.out.below)).mono ?_; rintro e w2 ⟨rfl, hb2⟩; have HB2 := Lib.hid (HB1.out.call hb2); clear hb2))
  clear c0 c1 d0 d1
  go_loopw [9] (fun i wr => ∃ k : Nat, k ≤ s.gates.length ∧ i = .int .i64 k ∧ Bk w [.cells s.cells 25] wr) (fun i _ => s.gates.length - (intOf i).toNat)
  case atStart => exact ⟨0, Nat.zero_le _, rfl, HB2.out⟩
  case round =>
    obtain ⟨k, hk, rfl, hbk⟩ := hrel
    have Hbk := Lib.hid hbk
    have c0 : wr.cell? ⟨w.heap.size, 0, none⟩ = some (.slice s.gA s.gates.length s.gC) := hbk.cell 0 0 rfl rfl
    clear hbk
    by_cases hlt : k < s.gates.length
    · by_cases h10 : k < 10
      · have hd : decide ((k : Int) < 10) = true := by simp; omega
        obtain ⟨_, hgo, hgat⟩ := (Hok.out wr Hbk.out.below).gs
        rcases hgat with hl | ⟨b, off, ha, hb, hl⟩
        · rw [hl] at hlt; exact absurd hlt (by simp)
        · have Ha := Lib.hid ha
          rw [ha] at c0
          have Hrg := Lib.hid (hl k hlt)
          have Hgo := Lib.hid (hgo s.gates[k] (List.getElem_mem hlt))
          have j1 : (0 : Int) ≤ (k : Int) := by omega
          have j2 : (k : Int) < (s.gates.length : Int) := by omega
          clear hl ha hgo
          generalize s.gates[k] = g at *
          go_wp2_with (first
            | (with_reducible show wpList _ _ _ (({ dst := _, op := .load 33 (.tmp 57), type := _, pos := _, after := _, guard := none } : Oper) :: _) _ _; refine wpList_load_gate_mid Hrg.out rfl (.tmp 57) rfl rfl ?_)
            | (go_at_call 22; refine (check_any g _ Hgo.out).mono ?_; rintro e w3 ⟨rfl, hb3⟩; have H3 := Hbk.out.call hb3; have e0 : w3.cell? ⟨w.heap.size, 0, none⟩ = some (.slice s.gA s.gates.length s.gC) := H3.cell 0 0 rfl rfl; rw [Ha.out] at e0; have HB3 := Lib.hid H3; have Hrg3 := Lib.hid (rangeAt_below Hrg.out hb3 hb); have Hgo3 := Lib.hid (Hgo.out.below hb3 (Nat.le_refl _)); clear hb3 H3)
            | (with_reducible show wpList _ _ _ (({ dst := _, op := .load 33 (.tmp 56), type := _, pos := _, after := _, guard := none } : Oper) :: _) _ _; refine wpList_load_gate_mid Hrg.out rfl (.tmp 56) rfl rfl ?_)
            | (with_reducible show wpList _ _ _ (({ dst := _, op := .load 33 (.tmp 66), type := _, pos := _, after := _, guard := none } : Oper) :: _) _ _; refine wpList_load_gate_mid Hrg3.out rfl (.tmp 66) rfl rfl ?_)
            | (go_at_call 23; refine (rcheck_any g _ Hgo3.out).mono ?_; rintro e w4 ⟨rfl, hb4⟩; have HB4 := Lib.hid (HB3.out.call hb4); clear hb4))
          go_roundw
          case rel => exact ⟨k + 1, by omega, by go_num, HB4.out⟩
          case measure => simp [intOf]; omega
      · have hd : decide ((k : Int) < 10) = false := by simp; omega
        go_wp2_with (go_at_call 24; refine (awake_any _).mono ?_; rintro e w5 ⟨rfl, hb5⟩; have HB5 := Lib.hid (Hbk.out.call hb5); clear hb5)
        go_ret
        exact ⟨rfl, HB5.out.below⟩
    · go_wp2_with (go_at_call 24; refine (awake_any _).mono ?_; rintro e w5 ⟨rfl, hb5⟩; have HB5 := Lib.hid (Hbk.out.call hb5); clear hb5)
      go_ret
      exact ⟨rfl, HB5.out.below⟩
end Go.Proofs.Ythalanpmfhhhnaa
