/-
  The reference's state, valid, bolted, used, driven: what they return.
-/
import Derived.Test.YthalanpmfhhhnaaRr
import Derived.Test.YthalanpmfhhhnaaTh
namespace Go.Proofs.Ythalanpmfhhhnaa
open Go.RowKit
set_option linter.unusedSimpArgs false
set_option linter.unusedVariables false
attribute [local go_sem high] run_min_z run_max_z
attribute [local go_sem ↓] run_min_z run_max_z

set_option maxRecDepth 100000 in
theorem rstate_any (g : GateV) (s : St) (w : World) :
    Calls Try.prog 92 #[g.val, s.val] w fun e w' => e = .returned (.int .i64 (lostE g s)) ∧ Below w.heap.size w w' := by
  have hb : Below w.heap.size w ((w.alloc (.cells g.cells 33)).alloc (.cells s.cells 43)) := ((Below.refl _ _).alloc (Nat.le_refl _) _).alloc (by simp) _
  have HB := Lib.hid hb
  clear hb
  by_cases h1 : outB s.pos 0 g.travel = true
  · have Hr := Lib.hid (show lostE g s = 7 by simp [lostE, h1])
    go_enter Try.func92, Try.ntmps92
    go_wp2_with (go_at_call 56; refine (in3_any _ _ _ _).mono ?_; rintro e w' ⟨rfl, rfl⟩)
    go_ret
    exact ⟨ret_int Hr.out.symm, HB.out⟩
  · by_cases h2 : outB s.charge 0 g.cap = true
    · have Hr := Lib.hid (show lostE g s = 7 by simp [lostE, h2])
      simp only [Bool.not_eq_true] at h1
      go_enter Try.func92, Try.ntmps92
      go_wp2_with (go_at_call 56; refine (in3_any _ _ _ _).mono ?_; rintro e w' ⟨rfl, rfl⟩)
      go_ret
      exact ⟨ret_int Hr.out.symm, HB.out⟩
    · have Hr := Lib.hid (show lostE g s = 0 by simp [lostE, h1, h2])
      simp only [Bool.not_eq_true] at h1 h2
      go_enter Try.func92, Try.ntmps92
      go_wp2_with (go_at_call 56; refine (in3_any _ _ _ _).mono ?_; rintro e w' ⟨rfl, rfl⟩)
      go_ret
      exact ⟨ret_int Hr.out.symm, HB.out⟩

set_option maxRecDepth 100000 in
set_option maxHeartbeats 1000000 in
theorem rvalid_any (g : GateV) (s : St) (t : Stp) (w : World) :
    Calls Try.prog 79 #[g.val, s.val, t.val] w fun e w' => e = .returned (.int .i64 (oddE g s t)) ∧ Below w.heap.size w w' := by
  have HB := Lib.hid (Bk.new3 w (.cells g.cells 33) (.cells s.cells 43) (.cells t.cells 45))
  by_cases h0 : lostE g s = 0
  · have H0 := Lib.hid h0
    by_cases h1 : outB t.order 0 2 = true
    · have Hr := Lib.hid (show oddE g s t = 2 by simp [oddE, h0, h1])
      clear h0
      go_enter Try.func79, Try.ntmps79
      go_wp2_with (first
        | (with_reducible show wpList _ _ _ (({ dst := _, op := .load 33 (.tmp 3), type := _, pos := _, after := _, guard := none } : Oper) :: _) _ _; refine wpList_load_gate (HB.out.gate 0 rfl) rfl (.tmp 3) rfl rfl ?_)
        | (with_reducible show wpList _ _ _ (({ dst := _, op := .load 43 (.tmp 4), type := _, pos := _, after := _, guard := none } : Oper) :: _) _ _; refine wpList_load_st (HB.out.blk 1 _ rfl) rfl (.tmp 4) rfl rfl ?_)
        | (go_at_call 92; refine (rstate_any g s _).mono ?_; rintro e w1 ⟨rfl, hb1⟩; rw [H0.out]; have H1 := HB.out.call hb1; have c0 : w1.cell? ⟨w.heap.size + 1 + 1, 0, none⟩ = some (.int .i64 t.order) := H1.cell 2 0 rfl rfl; have c2 : w1.cell? ⟨w.heap.size + 1 + 1, 2, none⟩ = some (.int .i64 t.outer) := H1.cell 2 2 rfl rfl; have c3 : w1.cell? ⟨w.heap.size + 1 + 1, 3, none⟩ = some (.int .i64 t.inner) := H1.cell 2 3 rfl rfl; have HB1 := Lib.hid H1.below; clear hb1 H1)
        | (go_at_call 56; refine (in3_any _ _ _ _).mono ?_; rintro e w' ⟨rfl, rfl⟩)
        | (go_at_call 71; refine (level_any _ _).mono ?_; rintro e w' ⟨rfl, rfl⟩))
      go_ret
      exact ⟨ret_int Hr.out.symm, HB1.out⟩
    · simp only [Bool.not_eq_true] at h1
      by_cases h2 : outB t.outer (-20000) 20000 = true
      all_goals
        try simp only [Bool.not_eq_true] at h2
      · have Hr := Lib.hid (show oddE g s t = 7 by simp [oddE, h0, h1, h2])
        clear h0
        go_enter Try.func79, Try.ntmps79
        go_wp2_with (first
          | (with_reducible show wpList _ _ _ (({ dst := _, op := .load 33 (.tmp 3), type := _, pos := _, after := _, guard := none } : Oper) :: _) _ _; refine wpList_load_gate (HB.out.gate 0 rfl) rfl (.tmp 3) rfl rfl ?_)
          | (with_reducible show wpList _ _ _ (({ dst := _, op := .load 43 (.tmp 4), type := _, pos := _, after := _, guard := none } : Oper) :: _) _ _; refine wpList_load_st (HB.out.blk 1 _ rfl) rfl (.tmp 4) rfl rfl ?_)
          | (go_at_call 92; refine (rstate_any g s _).mono ?_; rintro e w1 ⟨rfl, hb1⟩; rw [H0.out]; have H1 := HB.out.call hb1; have c0 : w1.cell? ⟨w.heap.size + 1 + 1, 0, none⟩ = some (.int .i64 t.order) := H1.cell 2 0 rfl rfl; have c2 : w1.cell? ⟨w.heap.size + 1 + 1, 2, none⟩ = some (.int .i64 t.outer) := H1.cell 2 2 rfl rfl; have c3 : w1.cell? ⟨w.heap.size + 1 + 1, 3, none⟩ = some (.int .i64 t.inner) := H1.cell 2 3 rfl rfl; have HB1 := Lib.hid H1.below; clear hb1 H1)
          | (go_at_call 56; refine (in3_any _ _ _ _).mono ?_; rintro e w' ⟨rfl, rfl⟩)
          | (go_at_call 71; refine (level_any _ _).mono ?_; rintro e w' ⟨rfl, rfl⟩))
        go_ret
        exact ⟨ret_int Hr.out.symm, HB1.out⟩
      · by_cases h3 : outB t.inner (-20000) 20000 = true
        all_goals
          try simp only [Bool.not_eq_true] at h3
          have Hr := Lib.hid (show oddE g s t = if outB t.inner (-20000) 20000 then 7 else 0 by simp [oddE, h0, h1, h2])
          clear h0
          go_enter Try.func79, Try.ntmps79
          go_wp2_with (first
            | (with_reducible show wpList _ _ _ (({ dst := _, op := .load 33 (.tmp 3), type := _, pos := _, after := _, guard := none } : Oper) :: _) _ _; refine wpList_load_gate (HB.out.gate 0 rfl) rfl (.tmp 3) rfl rfl ?_)
            | (with_reducible show wpList _ _ _ (({ dst := _, op := .load 43 (.tmp 4), type := _, pos := _, after := _, guard := none } : Oper) :: _) _ _; refine wpList_load_st (HB.out.blk 1 _ rfl) rfl (.tmp 4) rfl rfl ?_)
            | (go_at_call 92; refine (rstate_any g s _).mono ?_; rintro e w1 ⟨rfl, hb1⟩; rw [H0.out]; have H1 := HB.out.call hb1; have c0 : w1.cell? ⟨w.heap.size + 1 + 1, 0, none⟩ = some (.int .i64 t.order) := H1.cell 2 0 rfl rfl; have c2 : w1.cell? ⟨w.heap.size + 1 + 1, 2, none⟩ = some (.int .i64 t.outer) := H1.cell 2 2 rfl rfl; have c3 : w1.cell? ⟨w.heap.size + 1 + 1, 3, none⟩ = some (.int .i64 t.inner) := H1.cell 2 3 rfl rfl; have HB1 := Lib.hid H1.below; clear hb1 H1)
            | (go_at_call 56; refine (in3_any _ _ _ _).mono ?_; rintro e w' ⟨rfl, rfl⟩)
            | (go_at_call 71; refine (level_any _ _).mono ?_; rintro e w' ⟨rfl, rfl⟩))
          go_ret
          exact ⟨ret_int (by rw [Hr.out, h3]; rfl), HB1.out⟩
  · have Hr := Lib.hid (show oddE g s t = lostE g s by rw [oddE, if_pos h0])
    have h2 : (lostE g s != 0) = true := by simp [h0]
    clear h0
    go_enter Try.func79, Try.ntmps79
    go_wp2_with (first
      | (with_reducible show wpList _ _ _ (({ dst := _, op := .load 33 (.tmp 3), type := _, pos := _, after := _, guard := none } : Oper) :: _) _ _; refine wpList_load_gate (HB.out.gate 0 rfl) rfl (.tmp 3) rfl rfl ?_)
      | (with_reducible show wpList _ _ _ (({ dst := _, op := .load 43 (.tmp 4), type := _, pos := _, after := _, guard := none } : Oper) :: _) _ _; refine wpList_load_st (HB.out.blk 1 _ rfl) rfl (.tmp 4) rfl rfl ?_)
      | (go_at_call 92; refine (rstate_any g s _).mono ?_; rintro e w1 ⟨rfl, hb1⟩; have HB1 := Lib.hid (HB.out.call hb1).below; clear hb1))
    go_ret
    exact ⟨ret_int Hr.out.symm, HB1.out⟩

theorem rbolted_any (s : St) (t : Stp) (w : World) :
    Calls Try.prog 90 #[s.val, t.val] w fun e w' => e = .returned (.int .i64 (boltE s t)) ∧ Below w.heap.size w w' := by
  have hb : Below w.heap.size w ((w.alloc (.cells s.cells 43)).alloc (.cells t.cells 45)) := ((Below.refl _ _).alloc (Nat.le_refl _) _).alloc (by simp) _
  have HB := Lib.hid hb
  clear hb
  have hc : ((s.bolted = true ∧ (t.order != 0) = true) ∧ boltE s t = 130) ∨ ((s.bolted = true ∧ (t.order != 0) = false) ∧ boltE s t = 0) ∨ (s.bolted = false ∧ boltE s t = 0) := by
    cases h1 : s.bolted with
    | false => exact .inr (.inr ⟨rfl, by rw [boltE, if_neg (by simp [h1])]⟩)
    | true =>
      by_cases h2 : t.order = 0
      · exact .inr (.inl ⟨⟨rfl, by simp [h2]⟩, by rw [boltE, if_neg (by simp [h2])]⟩)
      · exact .inl ⟨⟨rfl, by simp [h2]⟩, by rw [boltE, if_pos ⟨h1, h2⟩]⟩
  rcases hc with ⟨⟨h1, h2⟩, hz⟩ | ⟨⟨h1, h2⟩, hz⟩ | ⟨h1, hz⟩
  all_goals
    have Hz := Lib.hid hz
    clear hz
    go_enter Try.func90, Try.ntmps90
    go_wp2
    go_ret
    exact ⟨ret_int Hz.out.symm, HB.out⟩

theorem rused_any (g : GateV) (d : Int) (w : World) (hg : g.Good) (h0 : 0 ≤ d) (h1 : d ≤ 5000) :
    Calls Try.prog 113 #[g.val, .int .i64 d] w fun e w' => e = .returned (.int .i64 (fuelZ g d)) ∧ Below w.heap.size w w' := by
  have m1 := mul_bd0 (a := d) (b := g.use) (A := 5000) (B := 100000) h0 h1 hg.use.1 hg.use.2
  obtain ⟨m1a, m1b⟩ := m1
  have HB := Lib.hid (Bk.new1 w (.cells g.cells 33))
  clear hg
  go_enter Try.func113, Try.ntmps113
  go_upto_region 1 with (fail)
  obtain ⟨W, hW⟩ : ∃ W, W = w.alloc (.cells g.cells 33) := ⟨_, rfl⟩
  rw [← hW] at HB ⊢
  have c15 := (HB.out.gate 0 rfl).cell 15 _ rfl
  simp only [Nat.add_zero] at c15
  clear hW
  go_wp2
  go_ret
  exact ⟨rfl, HB.out.below⟩

attribute [local go_sem ↓] loadAt_gate
attribute [local go_sem] run_gateLoad

set_option maxRecDepth 100000 in
set_option maxHeartbeats 4000000 in
theorem rdriven_any (g : GateV) (s : St) (left : Int) (w : World) (hg : g.Good) (hs : s.Ok g) (hl : 0 ≤ left) (hl2 : left ≤ 5000) :
    Calls Try.prog 112 #[g.val, s.val, .int .i64 left] w fun e w' => e = .returned (.int .i64 (drvZ g s left)) ∧ Below w.heap.size w w' := by
  have HB := Lib.hid (Bk.new2 w (.cells g.cells 33) (.cells s.cells 43))
  have bd := drvZ_bd hg (s := s) hl hs.charge.1
  have sp := hg.speed
  have hok := Lib.hid (drvZ_ok hg hs hl)
  have hgt := Lib.hid (fun d h h2 => drvZ_gt (d := d) hg hs (left := left) h h2)
  have Hg := Lib.hid hg
  clear hg hs
  generalize drvZ g s left = R at *
  go_enter Try.func112, Try.ntmps112
  go_upto_region 1 with (fail)
  obtain ⟨W, hW⟩ : ∃ W, W = (w.alloc (.cells g.cells 33)).alloc (.cells s.cells 43) := ⟨_, rfl⟩
  rw [← hW] at HB ⊢
  have c13 := (HB.out.gate 0 rfl).cell 13 _ rfl
  simp only [Nat.add_zero] at c13
  clear hW
  go_wp2
  clear c13
  go_loopw [7] (fun d wr => ∃ k : Int, d = .int .i64 k ∧ R ≤ k ∧ k ≤ min g.speed left ∧ Bk w [.cells g.cells 33, .cells s.cells 43] wr) (fun d _ => (intOf d).toNat)
  case atStart => exact ⟨_, rfl, by omega, by omega, HB.out⟩
  case round =>
    obtain ⟨k, rfl, hk1, hk2, hbk⟩ := hrel
    have k0 : 0 ≤ k := by omega
    have k5 : k ≤ 5000 := by omega
    have Hbk := Lib.hid hbk
    have T0 := TgS.new wr
    have hgi : ∀ W, TgS wr W → GateIn W w.heap.size g := fun W h => (Hbk.out.call h.below).gate 0 rfl
    have hg0 : ∀ W, TgS wr W → IsGate W w.heap.size := fun W h => ⟨g, hgi W h⟩
    have hg1 : ∀ W, TgS wr W → rowOf W w.heap.size = g.val := fun W h => rowOf_gate (hgi W h)
    have hs1 : ∀ W, TgS wr W → W.cell? ⟨w.heap.size + 1, 1, none⟩ = some (.int .i64 s.charge) := fun W h => (Hbk.out.call h.below).cell 1 1 rfl rfl
    clear hbk hgi
    go_wp2
    go_region_held3 (fun w' => TgS wr w')
      (first
        | with_reducible exact tA
        | with_reducible assumption
        | ((repeat (first | (with_reducible exact T0) | (with_reducible refine TgS.drew ?_) | (with_reducible exact tA) | (with_reducible assumption))); done))
      (first | (go_at_call 113; refine (rused_any g k _ Hg.out k0 k5).mono ?_; rintro e w' ⟨rfl, hbA⟩; have tA := TgS.call (by assumption) hbA))
    have HT := Lib.hid (Hbk.out.call tA.below)
    clear tA hbA hg0 hg1 hs1 Hbk
    by_cases hd : R < k
    · have h := hgt.out k hd hk2
      go_wp2
      go_roundw
      case rel => first | exact ⟨k - 1, by go_num, by omega, by omega, HT.out⟩ | ((repeat apply Exists.intro); exact ⟨⟨k - 1, by go_num, by omega, by omega, HT.out⟩, rfl⟩)
      case measure => simp [intOf]; omega
    · obtain rfl : k = R := by omega
      have h := hok.out
      go_wp2
      go_ret
      exact ⟨rfl, HT.out.below⟩
end Go.Proofs.Ythalanpmfhhhnaa
