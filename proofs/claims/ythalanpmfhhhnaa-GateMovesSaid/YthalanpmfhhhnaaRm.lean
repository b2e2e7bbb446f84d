/-
  The reference's moved and stepped: what a step does.
-/
import Derived.Test.YthalanpmfhhhnaaRs
namespace Go.Proofs.Ythalanpmfhhhnaa
open Go.RowKit
set_option linter.unusedSimpArgs false
set_option linter.unusedVariables false
attribute [local go_sem high] run_min_z run_max_z
attribute [local go_sem ↓] run_min_z run_max_z

/-- The boxes of a function of a gate, a state and a step. -/
abbrev mvL (g : GateV) (s : St) (t : Stp) : List Obj := [.cells g.cells 33, .cells s.cells 43, .cells t.cells 45]

theorem hold_pos {g : GateV} {s : St} {net rub : Int} (hg : g.Good) (hr : 0 ≤ rub) (h : 0 ≤ net) : holdZ g s net rub = if g.brake + rub < net then min g.gravity (g.travel - s.pos) else 0 := by
  have := hg.brake
  unfold holdZ
  split
  · rfl
  · rw [if_neg (by omega)]
theorem hold_neg {g : GateV} {s : St} {net rub : Int} (hg : g.Good) (hr : 0 ≤ rub) (h : net < 0) : holdZ g s net rub = if g.brake + rub < -net then -min g.gravity s.pos else 0 := by
  have := hg.brake
  unfold holdZ
  rw [if_neg (by omega)]

set_option maxRecDepth 100000 in
set_option maxHeartbeats 8000000 in
theorem rmoved_any (g : GateV) (s : St) (t : Stp) (w : World) (hg : g.Good) (hown : IntsAt w g.ownA g.own) (hs : s.Ok g) (ht : t.Lv) (ho : t.order = 0 ∨ t.order = 1 ∨ t.order = 2) :
    Calls Try.prog 106 #[g.val, s.val, t.val] w fun e w' => e = .returned (.tuple #[.int .i64 (moveZ g s t 0).1, .int .i64 (moveZ g s t 0).2]) ∧ Below w.heap.size w w' := by
  have HB := Lib.hid (Bk.new3 w (.cells g.cells 33) (.cells s.cells 43) (.cells t.cells 45))
  have Hown := Lib.hid (hown.below (HB.out.below) (Nat.le_refl _))
  have bn := net_bd hg hs.pos.1 hs.pos.2 ht.outer ht.inner
  have br := rub_bd (g := g) hg (p := s.pos) ht.outer ht.inner
  have hres : ∃ R : Int × Int, R = moveZ g s t 0 := ⟨_, rfl⟩
  obtain ⟨R, hR⟩ := hres
  rw [← hR]
  have hz : R = if s.bolted = true then (0, 0) else if t.order = 1 then pushZ g s t (rubZ g s.pos t.outer t.inner) (netZ g s.pos t.outer t.inner) (g.travel - s.pos)
      else if t.order = 2 then (-(pushZ g s t (rubZ g s.pos t.outer t.inner) (-netZ g s.pos t.outer t.inner) s.pos).1, (pushZ g s t (rubZ g s.pos t.outer t.inner) (-netZ g s.pos t.outer t.inner) s.pos).2)
      else (holdZ g s (netZ g s.pos t.outer t.inner) (rubZ g s.pos t.outer t.inner), 0) := by
    rw [hR, moveZ]; simp only [ne_eq, not_true_eq_false, if_false]
  have Hfo := Lib.hid (fun W (h : IntsAt W g.ownA g.own) => rforces_any g s.pos t.outer t.inner W h hg hs.pos.1 hs.pos.2 ht.outer ht.inner)
  have Hg := Lib.hid hg
  have Hs := Lib.hid hs
  have p1 := hs.pos.1
  have p2 := hs.pos.2
  have t1 := hg.travel.2
  have Hpos := Lib.hid (fun h => hold_pos (s := s) (net := netZ g s.pos t.outer t.inner) hg br.1 h)
  have Hneg := Lib.hid (fun h => hold_neg (s := s) (net := netZ g s.pos t.outer t.inner) hg br.1 h)
  obtain ⟨bn1, bn2⟩ := bn
  obtain ⟨br1, br2⟩ := br
  have b1 := hg.brake.1
  have b2 := hg.brake.2
  have d1 := hg.drive.1
  have d2 := hg.drive.2
  have v1 := hg.gravity.1
  have v2 := hg.gravity.2
  clear hg hs ht hown hR
  generalize netZ g s.pos t.outer t.inner = net at *
  generalize rubZ g s.pos t.outer t.inner = rub at *
  cases hb : s.bolted with
  | true =>
    rw [hb, if_pos rfl] at hz
    have Hz := Lib.hid hz
    clear hz
    go_enter Try.func106, Try.ntmps106
    go_wp2_with (first
      | (with_reducible show wpList _ _ _ (({ dst := _, op := .load 33 (.tmp 3), type := _, pos := _, after := _, guard := none } : Oper) :: _) _ _; refine wpList_load_gate (HB.out.gate 0 rfl) rfl (.tmp 3) rfl rfl ?_)
      | (go_at_call 87; refine (Hfo.out _ Hown.out).mono ?_; rintro e w1 ⟨rfl, hb1⟩; have H1 := HB.out.call hb1; have s2 : w1.cell? ⟨w.heap.size + 1, 2, none⟩ = some (.bool true) := H1.cell 1 2 rfl (congrArg (fun b => some (Value.bool b)) hb); have HB1 := Lib.hid H1; clear hb1 H1))
    go_ret2
    exact ⟨ret2 (by rw [Hz.out]), HB1.out.below⟩
  | false =>
    rw [hb, if_neg (by simp)] at hz
    rcases ho with ho | ho | ho
    · rw [if_neg (by omega), if_neg (by omega)] at hz
      have k1 : (t.order == 2) = false := by simp [ho]
      have k0 : (t.order == 0) = true := by simp [ho]
      by_cases hn : net < 0
      · rw [Hneg.out hn] at hz
        by_cases hq : g.brake + rub < -net
        · rw [if_pos hq] at hz
          have Hz := Lib.hid hz
          clear hz ho
          go_enter Try.func106, Try.ntmps106
          go_wp2_with (first
        | (with_reducible show wpList _ _ _ (({ dst := _, op := .load 33 (.tmp 3), type := _, pos := _, after := _, guard := none } : Oper) :: _) _ _; refine wpList_load_gate (HB.out.gate 0 rfl) rfl (.tmp 3) rfl rfl ?_)
        | (go_at_call 87; refine (Hfo.out _ Hown.out).mono ?_; rintro e w1 ⟨rfl, hb1⟩; have H1 := HB.out.call hb1; have s0 : w1.cell? ⟨w.heap.size + 1, 0, none⟩ = some (.int .i64 s.pos) := H1.cell 1 0 rfl rfl; have s2 : w1.cell? ⟨w.heap.size + 1, 2, none⟩ = some (.bool false) := H1.cell 1 2 rfl (congrArg (fun b => some (Value.bool b)) hb); have o0 : w1.cell? ⟨w.heap.size + 1 + 1, 0, none⟩ = some (.int .i64 t.order) := H1.cell 2 0 rfl rfl; have o1 : w1.cell? ⟨w.heap.size + 1 + 1, 1, none⟩ = some (.bool t.power) := H1.cell 2 1 rfl rfl; have c2 : w1.cell? ⟨w.heap.size, 2, none⟩ = some (.int .i64 g.travel) := H1.cell 0 2 rfl rfl; have c11 : w1.cell? ⟨w.heap.size, 11, none⟩ = some (.int .i64 g.drive) := H1.cell 0 11 rfl rfl; have c12 : w1.cell? ⟨w.heap.size, 12, none⟩ = some (.int .i64 g.brake) := H1.cell 0 12 rfl rfl; have c14 : w1.cell? ⟨w.heap.size, 14, none⟩ = some (.int .i64 g.gravity) := H1.cell 0 14 rfl rfl; have HB1 := Lib.hid H1; clear hb1 H1)
        | (with_reducible show wpList _ _ _ (({ dst := _, op := .load 33 (.tmp 3), type := _, pos := _, after := _, guard := none } : Oper) :: _) _ _; refine wpList_load_gate (HB1.out.gate 0 rfl) rfl (.tmp 3) rfl rfl ?_)
        | (with_reducible show wpList _ _ _ (({ dst := _, op := .load 43 (.tmp 4), type := _, pos := _, after := _, guard := none } : Oper) :: _) _ _; refine wpList_load_st (HB1.out.blk 1 _ rfl) rfl (.tmp 4) rfl rfl ?_)
        | (go_at_call 112; refine (rdriven_any g s _ _ Hg.out Hs.out (by omega) (by omega)).mono ?_; rintro e w2 ⟨rfl, hb2⟩; have HB2 := Lib.hid (HB1.out.call hb2); clear hb2)
        | (with_reducible show wpList _ _ _ (({ dst := _, op := .load 33 (.tmp 3), type := _, pos := _, after := _, guard := none } : Oper) :: _) _ _; refine wpList_load_gate (HB2.out.gate 0 rfl) rfl (.tmp 3) rfl rfl ?_)
        | (go_at_call 113; refine (rused_any g _ _ Hg.out (by omega) (by omega)).mono ?_; rintro e w3 ⟨rfl, hb3⟩; have HB3 := Lib.hid (HB2.out.call hb3); clear hb3))
          go_quiet (fail)
          go_wp2
          go_ret2
          exact ⟨ret2 (by rw [Hz.out]; try simp), below_drewN HB1.out.below _⟩
        · rw [if_neg hq] at hz
          have Hz := Lib.hid hz
          clear hz ho
          go_enter Try.func106, Try.ntmps106
          go_wp2_with (first
        | (with_reducible show wpList _ _ _ (({ dst := _, op := .load 33 (.tmp 3), type := _, pos := _, after := _, guard := none } : Oper) :: _) _ _; refine wpList_load_gate (HB.out.gate 0 rfl) rfl (.tmp 3) rfl rfl ?_)
        | (go_at_call 87; refine (Hfo.out _ Hown.out).mono ?_; rintro e w1 ⟨rfl, hb1⟩; have H1 := HB.out.call hb1; have s0 : w1.cell? ⟨w.heap.size + 1, 0, none⟩ = some (.int .i64 s.pos) := H1.cell 1 0 rfl rfl; have s2 : w1.cell? ⟨w.heap.size + 1, 2, none⟩ = some (.bool false) := H1.cell 1 2 rfl (congrArg (fun b => some (Value.bool b)) hb); have o0 : w1.cell? ⟨w.heap.size + 1 + 1, 0, none⟩ = some (.int .i64 t.order) := H1.cell 2 0 rfl rfl; have o1 : w1.cell? ⟨w.heap.size + 1 + 1, 1, none⟩ = some (.bool t.power) := H1.cell 2 1 rfl rfl; have c2 : w1.cell? ⟨w.heap.size, 2, none⟩ = some (.int .i64 g.travel) := H1.cell 0 2 rfl rfl; have c11 : w1.cell? ⟨w.heap.size, 11, none⟩ = some (.int .i64 g.drive) := H1.cell 0 11 rfl rfl; have c12 : w1.cell? ⟨w.heap.size, 12, none⟩ = some (.int .i64 g.brake) := H1.cell 0 12 rfl rfl; have c14 : w1.cell? ⟨w.heap.size, 14, none⟩ = some (.int .i64 g.gravity) := H1.cell 0 14 rfl rfl; have HB1 := Lib.hid H1; clear hb1 H1)
        | (with_reducible show wpList _ _ _ (({ dst := _, op := .load 33 (.tmp 3), type := _, pos := _, after := _, guard := none } : Oper) :: _) _ _; refine wpList_load_gate (HB1.out.gate 0 rfl) rfl (.tmp 3) rfl rfl ?_)
        | (with_reducible show wpList _ _ _ (({ dst := _, op := .load 43 (.tmp 4), type := _, pos := _, after := _, guard := none } : Oper) :: _) _ _; refine wpList_load_st (HB1.out.blk 1 _ rfl) rfl (.tmp 4) rfl rfl ?_)
        | (go_at_call 112; refine (rdriven_any g s _ _ Hg.out Hs.out (by omega) (by omega)).mono ?_; rintro e w2 ⟨rfl, hb2⟩; have HB2 := Lib.hid (HB1.out.call hb2); clear hb2)
        | (with_reducible show wpList _ _ _ (({ dst := _, op := .load 33 (.tmp 3), type := _, pos := _, after := _, guard := none } : Oper) :: _) _ _; refine wpList_load_gate (HB2.out.gate 0 rfl) rfl (.tmp 3) rfl rfl ?_)
        | (go_at_call 113; refine (rused_any g _ _ Hg.out (by omega) (by omega)).mono ?_; rintro e w3 ⟨rfl, hb3⟩; have HB3 := Lib.hid (HB2.out.call hb3); clear hb3))
          go_quiet (fail)
          go_wp2
          go_ret2
          exact ⟨ret2 (by rw [Hz.out]), below_drewN HB1.out.below _⟩
      · rw [Hpos.out (by omega)] at hz
        by_cases hq : g.brake + rub < net
        · rw [if_pos hq] at hz
          have Hz := Lib.hid hz
          clear hz ho
          go_enter Try.func106, Try.ntmps106
          go_wp2_with (first
        | (with_reducible show wpList _ _ _ (({ dst := _, op := .load 33 (.tmp 3), type := _, pos := _, after := _, guard := none } : Oper) :: _) _ _; refine wpList_load_gate (HB.out.gate 0 rfl) rfl (.tmp 3) rfl rfl ?_)
        | (go_at_call 87; refine (Hfo.out _ Hown.out).mono ?_; rintro e w1 ⟨rfl, hb1⟩; have H1 := HB.out.call hb1; have s0 : w1.cell? ⟨w.heap.size + 1, 0, none⟩ = some (.int .i64 s.pos) := H1.cell 1 0 rfl rfl; have s2 : w1.cell? ⟨w.heap.size + 1, 2, none⟩ = some (.bool false) := H1.cell 1 2 rfl (congrArg (fun b => some (Value.bool b)) hb); have o0 : w1.cell? ⟨w.heap.size + 1 + 1, 0, none⟩ = some (.int .i64 t.order) := H1.cell 2 0 rfl rfl; have o1 : w1.cell? ⟨w.heap.size + 1 + 1, 1, none⟩ = some (.bool t.power) := H1.cell 2 1 rfl rfl; have c2 : w1.cell? ⟨w.heap.size, 2, none⟩ = some (.int .i64 g.travel) := H1.cell 0 2 rfl rfl; have c11 : w1.cell? ⟨w.heap.size, 11, none⟩ = some (.int .i64 g.drive) := H1.cell 0 11 rfl rfl; have c12 : w1.cell? ⟨w.heap.size, 12, none⟩ = some (.int .i64 g.brake) := H1.cell 0 12 rfl rfl; have c14 : w1.cell? ⟨w.heap.size, 14, none⟩ = some (.int .i64 g.gravity) := H1.cell 0 14 rfl rfl; have HB1 := Lib.hid H1; clear hb1 H1)
        | (with_reducible show wpList _ _ _ (({ dst := _, op := .load 33 (.tmp 3), type := _, pos := _, after := _, guard := none } : Oper) :: _) _ _; refine wpList_load_gate (HB1.out.gate 0 rfl) rfl (.tmp 3) rfl rfl ?_)
        | (with_reducible show wpList _ _ _ (({ dst := _, op := .load 43 (.tmp 4), type := _, pos := _, after := _, guard := none } : Oper) :: _) _ _; refine wpList_load_st (HB1.out.blk 1 _ rfl) rfl (.tmp 4) rfl rfl ?_)
        | (go_at_call 112; refine (rdriven_any g s _ _ Hg.out Hs.out (by omega) (by omega)).mono ?_; rintro e w2 ⟨rfl, hb2⟩; have HB2 := Lib.hid (HB1.out.call hb2); clear hb2)
        | (with_reducible show wpList _ _ _ (({ dst := _, op := .load 33 (.tmp 3), type := _, pos := _, after := _, guard := none } : Oper) :: _) _ _; refine wpList_load_gate (HB2.out.gate 0 rfl) rfl (.tmp 3) rfl rfl ?_)
        | (go_at_call 113; refine (rused_any g _ _ Hg.out (by omega) (by omega)).mono ?_; rintro e w3 ⟨rfl, hb3⟩; have HB3 := Lib.hid (HB2.out.call hb3); clear hb3))
          go_ret2
          exact ⟨ret2 (by rw [Hz.out]; try simp), HB1.out.below⟩
        · rw [if_neg hq] at hz
          have Hz := Lib.hid hz
          clear hz ho
          go_enter Try.func106, Try.ntmps106
          go_wp2_with (first
        | (with_reducible show wpList _ _ _ (({ dst := _, op := .load 33 (.tmp 3), type := _, pos := _, after := _, guard := none } : Oper) :: _) _ _; refine wpList_load_gate (HB.out.gate 0 rfl) rfl (.tmp 3) rfl rfl ?_)
        | (go_at_call 87; refine (Hfo.out _ Hown.out).mono ?_; rintro e w1 ⟨rfl, hb1⟩; have H1 := HB.out.call hb1; have s0 : w1.cell? ⟨w.heap.size + 1, 0, none⟩ = some (.int .i64 s.pos) := H1.cell 1 0 rfl rfl; have s2 : w1.cell? ⟨w.heap.size + 1, 2, none⟩ = some (.bool false) := H1.cell 1 2 rfl (congrArg (fun b => some (Value.bool b)) hb); have o0 : w1.cell? ⟨w.heap.size + 1 + 1, 0, none⟩ = some (.int .i64 t.order) := H1.cell 2 0 rfl rfl; have o1 : w1.cell? ⟨w.heap.size + 1 + 1, 1, none⟩ = some (.bool t.power) := H1.cell 2 1 rfl rfl; have c2 : w1.cell? ⟨w.heap.size, 2, none⟩ = some (.int .i64 g.travel) := H1.cell 0 2 rfl rfl; have c11 : w1.cell? ⟨w.heap.size, 11, none⟩ = some (.int .i64 g.drive) := H1.cell 0 11 rfl rfl; have c12 : w1.cell? ⟨w.heap.size, 12, none⟩ = some (.int .i64 g.brake) := H1.cell 0 12 rfl rfl; have c14 : w1.cell? ⟨w.heap.size, 14, none⟩ = some (.int .i64 g.gravity) := H1.cell 0 14 rfl rfl; have HB1 := Lib.hid H1; clear hb1 H1)
        | (with_reducible show wpList _ _ _ (({ dst := _, op := .load 33 (.tmp 3), type := _, pos := _, after := _, guard := none } : Oper) :: _) _ _; refine wpList_load_gate (HB1.out.gate 0 rfl) rfl (.tmp 3) rfl rfl ?_)
        | (with_reducible show wpList _ _ _ (({ dst := _, op := .load 43 (.tmp 4), type := _, pos := _, after := _, guard := none } : Oper) :: _) _ _; refine wpList_load_st (HB1.out.blk 1 _ rfl) rfl (.tmp 4) rfl rfl ?_)
        | (go_at_call 112; refine (rdriven_any g s _ _ Hg.out Hs.out (by omega) (by omega)).mono ?_; rintro e w2 ⟨rfl, hb2⟩; have HB2 := Lib.hid (HB1.out.call hb2); clear hb2)
        | (with_reducible show wpList _ _ _ (({ dst := _, op := .load 33 (.tmp 3), type := _, pos := _, after := _, guard := none } : Oper) :: _) _ _; refine wpList_load_gate (HB2.out.gate 0 rfl) rfl (.tmp 3) rfl rfl ?_)
        | (go_at_call 113; refine (rused_any g _ _ Hg.out (by omega) (by omega)).mono ?_; rintro e w3 ⟨rfl, hb3⟩; have HB3 := Lib.hid (HB2.out.call hb3); clear hb3))
          go_ret2
          exact ⟨ret2 (by rw [Hz.out]), HB1.out.below⟩
    · rw [if_pos ho, pushZ_drv] at hz
      have k1 : (t.order == 2) = false := by simp [ho]
      have k0 : (t.order == 0) = false := by simp [ho]
      by_cases hq : rub < net
      · rw [if_pos hq] at hz
        have Hz := Lib.hid hz
        clear hz ho
        go_enter Try.func106, Try.ntmps106
        go_wp2_with (first
        | (with_reducible show wpList _ _ _ (({ dst := _, op := .load 33 (.tmp 3), type := _, pos := _, after := _, guard := none } : Oper) :: _) _ _; refine wpList_load_gate (HB.out.gate 0 rfl) rfl (.tmp 3) rfl rfl ?_)
        | (go_at_call 87; refine (Hfo.out _ Hown.out).mono ?_; rintro e w1 ⟨rfl, hb1⟩; have H1 := HB.out.call hb1; have s0 : w1.cell? ⟨w.heap.size + 1, 0, none⟩ = some (.int .i64 s.pos) := H1.cell 1 0 rfl rfl; have s2 : w1.cell? ⟨w.heap.size + 1, 2, none⟩ = some (.bool false) := H1.cell 1 2 rfl (congrArg (fun b => some (Value.bool b)) hb); have o0 : w1.cell? ⟨w.heap.size + 1 + 1, 0, none⟩ = some (.int .i64 t.order) := H1.cell 2 0 rfl rfl; have o1 : w1.cell? ⟨w.heap.size + 1 + 1, 1, none⟩ = some (.bool t.power) := H1.cell 2 1 rfl rfl; have c2 : w1.cell? ⟨w.heap.size, 2, none⟩ = some (.int .i64 g.travel) := H1.cell 0 2 rfl rfl; have c11 : w1.cell? ⟨w.heap.size, 11, none⟩ = some (.int .i64 g.drive) := H1.cell 0 11 rfl rfl; have c12 : w1.cell? ⟨w.heap.size, 12, none⟩ = some (.int .i64 g.brake) := H1.cell 0 12 rfl rfl; have c14 : w1.cell? ⟨w.heap.size, 14, none⟩ = some (.int .i64 g.gravity) := H1.cell 0 14 rfl rfl; have HB1 := Lib.hid H1; clear hb1 H1)
        | (with_reducible show wpList _ _ _ (({ dst := _, op := .load 33 (.tmp 3), type := _, pos := _, after := _, guard := none } : Oper) :: _) _ _; refine wpList_load_gate (HB1.out.gate 0 rfl) rfl (.tmp 3) rfl rfl ?_)
        | (with_reducible show wpList _ _ _ (({ dst := _, op := .load 43 (.tmp 4), type := _, pos := _, after := _, guard := none } : Oper) :: _) _ _; refine wpList_load_st (HB1.out.blk 1 _ rfl) rfl (.tmp 4) rfl rfl ?_)
        | (go_at_call 112; refine (rdriven_any g s _ _ Hg.out Hs.out (by omega) (by omega)).mono ?_; rintro e w2 ⟨rfl, hb2⟩; have HB2 := Lib.hid (HB1.out.call hb2); clear hb2)
        | (with_reducible show wpList _ _ _ (({ dst := _, op := .load 33 (.tmp 3), type := _, pos := _, after := _, guard := none } : Oper) :: _) _ _; refine wpList_load_gate (HB2.out.gate 0 rfl) rfl (.tmp 3) rfl rfl ?_)
        | (go_at_call 113; refine (rused_any g _ _ Hg.out (by omega) (by omega)).mono ?_; rintro e w3 ⟨rfl, hb3⟩; have HB3 := Lib.hid (HB2.out.call hb3); clear hb3))
        go_ret2
        exact ⟨ret2 (by rw [Hz.out]; try simp), HB1.out.below⟩
      · rw [if_neg hq] at hz
        have bd := drvZ_bd Hg.out (s := s) (left := g.travel - s.pos) (by omega) Hs.out.charge.1
        cases hw : t.power with
        | false =>
          rw [hw, if_neg (by simp)] at hz
          have Hz := Lib.hid hz
          clear hz ho
          go_enter Try.func106, Try.ntmps106
          go_wp2_with (first
        | (with_reducible show wpList _ _ _ (({ dst := _, op := .load 33 (.tmp 3), type := _, pos := _, after := _, guard := none } : Oper) :: _) _ _; refine wpList_load_gate (HB.out.gate 0 rfl) rfl (.tmp 3) rfl rfl ?_)
        | (go_at_call 87; refine (Hfo.out _ Hown.out).mono ?_; rintro e w1 ⟨rfl, hb1⟩; have H1 := HB.out.call hb1; have s0 : w1.cell? ⟨w.heap.size + 1, 0, none⟩ = some (.int .i64 s.pos) := H1.cell 1 0 rfl rfl; have s2 : w1.cell? ⟨w.heap.size + 1, 2, none⟩ = some (.bool false) := H1.cell 1 2 rfl (congrArg (fun b => some (Value.bool b)) hb); have o0 : w1.cell? ⟨w.heap.size + 1 + 1, 0, none⟩ = some (.int .i64 t.order) := H1.cell 2 0 rfl rfl; have o1 : w1.cell? ⟨w.heap.size + 1 + 1, 1, none⟩ = some (.bool false) := H1.cell 2 1 rfl (congrArg (fun b => some (Value.bool b)) hw); have c2 : w1.cell? ⟨w.heap.size, 2, none⟩ = some (.int .i64 g.travel) := H1.cell 0 2 rfl rfl; have c11 : w1.cell? ⟨w.heap.size, 11, none⟩ = some (.int .i64 g.drive) := H1.cell 0 11 rfl rfl; have c12 : w1.cell? ⟨w.heap.size, 12, none⟩ = some (.int .i64 g.brake) := H1.cell 0 12 rfl rfl; have c14 : w1.cell? ⟨w.heap.size, 14, none⟩ = some (.int .i64 g.gravity) := H1.cell 0 14 rfl rfl; have HB1 := Lib.hid H1; clear hb1 H1)
        | (with_reducible show wpList _ _ _ (({ dst := _, op := .load 33 (.tmp 3), type := _, pos := _, after := _, guard := none } : Oper) :: _) _ _; refine wpList_load_gate (HB1.out.gate 0 rfl) rfl (.tmp 3) rfl rfl ?_)
        | (with_reducible show wpList _ _ _ (({ dst := _, op := .load 43 (.tmp 4), type := _, pos := _, after := _, guard := none } : Oper) :: _) _ _; refine wpList_load_st (HB1.out.blk 1 _ rfl) rfl (.tmp 4) rfl rfl ?_)
        | (go_at_call 112; refine (rdriven_any g s _ _ Hg.out Hs.out (by omega) (by omega)).mono ?_; rintro e w2 ⟨rfl, hb2⟩; have HB2 := Lib.hid (HB1.out.call hb2); clear hb2)
        | (with_reducible show wpList _ _ _ (({ dst := _, op := .load 33 (.tmp 3), type := _, pos := _, after := _, guard := none } : Oper) :: _) _ _; refine wpList_load_gate (HB2.out.gate 0 rfl) rfl (.tmp 3) rfl rfl ?_)
        | (go_at_call 113; refine (rused_any g _ _ Hg.out (by omega) (by omega)).mono ?_; rintro e w3 ⟨rfl, hb3⟩; have HB3 := Lib.hid (HB2.out.call hb3); clear hb3))
          go_ret2
          exact ⟨ret2 (by rw [Hz.out]), HB1.out.below⟩
        | true =>
          by_cases hd : rub < net + g.drive
          · rw [if_pos ⟨hw, hd⟩] at hz
            have Hz := Lib.hid hz
            clear hz ho
            go_enter Try.func106, Try.ntmps106
            go_wp2_with (first
        | (with_reducible show wpList _ _ _ (({ dst := _, op := .load 33 (.tmp 3), type := _, pos := _, after := _, guard := none } : Oper) :: _) _ _; refine wpList_load_gate (HB.out.gate 0 rfl) rfl (.tmp 3) rfl rfl ?_)
        | (go_at_call 87; refine (Hfo.out _ Hown.out).mono ?_; rintro e w1 ⟨rfl, hb1⟩; have H1 := HB.out.call hb1; have s0 : w1.cell? ⟨w.heap.size + 1, 0, none⟩ = some (.int .i64 s.pos) := H1.cell 1 0 rfl rfl; have s2 : w1.cell? ⟨w.heap.size + 1, 2, none⟩ = some (.bool false) := H1.cell 1 2 rfl (congrArg (fun b => some (Value.bool b)) hb); have o0 : w1.cell? ⟨w.heap.size + 1 + 1, 0, none⟩ = some (.int .i64 t.order) := H1.cell 2 0 rfl rfl; have o1 : w1.cell? ⟨w.heap.size + 1 + 1, 1, none⟩ = some (.bool true) := H1.cell 2 1 rfl (congrArg (fun b => some (Value.bool b)) hw); have c2 : w1.cell? ⟨w.heap.size, 2, none⟩ = some (.int .i64 g.travel) := H1.cell 0 2 rfl rfl; have c11 : w1.cell? ⟨w.heap.size, 11, none⟩ = some (.int .i64 g.drive) := H1.cell 0 11 rfl rfl; have c12 : w1.cell? ⟨w.heap.size, 12, none⟩ = some (.int .i64 g.brake) := H1.cell 0 12 rfl rfl; have c14 : w1.cell? ⟨w.heap.size, 14, none⟩ = some (.int .i64 g.gravity) := H1.cell 0 14 rfl rfl; have HB1 := Lib.hid H1; clear hb1 H1)
        | (with_reducible show wpList _ _ _ (({ dst := _, op := .load 33 (.tmp 3), type := _, pos := _, after := _, guard := none } : Oper) :: _) _ _; refine wpList_load_gate (HB1.out.gate 0 rfl) rfl (.tmp 3) rfl rfl ?_)
        | (with_reducible show wpList _ _ _ (({ dst := _, op := .load 43 (.tmp 4), type := _, pos := _, after := _, guard := none } : Oper) :: _) _ _; refine wpList_load_st (HB1.out.blk 1 _ rfl) rfl (.tmp 4) rfl rfl ?_)
        | (go_at_call 112; refine (rdriven_any g s _ _ Hg.out Hs.out (by omega) (by omega)).mono ?_; rintro e w2 ⟨rfl, hb2⟩; have HB2 := Lib.hid (HB1.out.call hb2); clear hb2)
        | (with_reducible show wpList _ _ _ (({ dst := _, op := .load 33 (.tmp 3), type := _, pos := _, after := _, guard := none } : Oper) :: _) _ _; refine wpList_load_gate (HB2.out.gate 0 rfl) rfl (.tmp 3) rfl rfl ?_)
        | (go_at_call 113; refine (rused_any g _ _ Hg.out (by omega) (by omega)).mono ?_; rintro e w3 ⟨rfl, hb3⟩; have HB3 := Lib.hid (HB2.out.call hb3); clear hb3))
            go_ret2
            exact ⟨ret2 (by rw [Hz.out]; try simp), HB3.out.below⟩
          · rw [if_neg (fun h => hd h.2)] at hz
            have Hz := Lib.hid hz
            clear hz ho
            go_enter Try.func106, Try.ntmps106
            go_wp2_with (first
        | (with_reducible show wpList _ _ _ (({ dst := _, op := .load 33 (.tmp 3), type := _, pos := _, after := _, guard := none } : Oper) :: _) _ _; refine wpList_load_gate (HB.out.gate 0 rfl) rfl (.tmp 3) rfl rfl ?_)
        | (go_at_call 87; refine (Hfo.out _ Hown.out).mono ?_; rintro e w1 ⟨rfl, hb1⟩; have H1 := HB.out.call hb1; have s0 : w1.cell? ⟨w.heap.size + 1, 0, none⟩ = some (.int .i64 s.pos) := H1.cell 1 0 rfl rfl; have s2 : w1.cell? ⟨w.heap.size + 1, 2, none⟩ = some (.bool false) := H1.cell 1 2 rfl (congrArg (fun b => some (Value.bool b)) hb); have o0 : w1.cell? ⟨w.heap.size + 1 + 1, 0, none⟩ = some (.int .i64 t.order) := H1.cell 2 0 rfl rfl; have o1 : w1.cell? ⟨w.heap.size + 1 + 1, 1, none⟩ = some (.bool true) := H1.cell 2 1 rfl (congrArg (fun b => some (Value.bool b)) hw); have c2 : w1.cell? ⟨w.heap.size, 2, none⟩ = some (.int .i64 g.travel) := H1.cell 0 2 rfl rfl; have c11 : w1.cell? ⟨w.heap.size, 11, none⟩ = some (.int .i64 g.drive) := H1.cell 0 11 rfl rfl; have c12 : w1.cell? ⟨w.heap.size, 12, none⟩ = some (.int .i64 g.brake) := H1.cell 0 12 rfl rfl; have c14 : w1.cell? ⟨w.heap.size, 14, none⟩ = some (.int .i64 g.gravity) := H1.cell 0 14 rfl rfl; have HB1 := Lib.hid H1; clear hb1 H1)
        | (with_reducible show wpList _ _ _ (({ dst := _, op := .load 33 (.tmp 3), type := _, pos := _, after := _, guard := none } : Oper) :: _) _ _; refine wpList_load_gate (HB1.out.gate 0 rfl) rfl (.tmp 3) rfl rfl ?_)
        | (with_reducible show wpList _ _ _ (({ dst := _, op := .load 43 (.tmp 4), type := _, pos := _, after := _, guard := none } : Oper) :: _) _ _; refine wpList_load_st (HB1.out.blk 1 _ rfl) rfl (.tmp 4) rfl rfl ?_)
        | (go_at_call 112; refine (rdriven_any g s _ _ Hg.out Hs.out (by omega) (by omega)).mono ?_; rintro e w2 ⟨rfl, hb2⟩; have HB2 := Lib.hid (HB1.out.call hb2); clear hb2)
        | (with_reducible show wpList _ _ _ (({ dst := _, op := .load 33 (.tmp 3), type := _, pos := _, after := _, guard := none } : Oper) :: _) _ _; refine wpList_load_gate (HB2.out.gate 0 rfl) rfl (.tmp 3) rfl rfl ?_)
        | (go_at_call 113; refine (rused_any g _ _ Hg.out (by omega) (by omega)).mono ?_; rintro e w3 ⟨rfl, hb3⟩; have HB3 := Lib.hid (HB2.out.call hb3); clear hb3))
            go_ret2
            exact ⟨ret2 (by rw [Hz.out]), HB1.out.below⟩
    · rw [if_neg (by omega), if_pos ho, pushZ_drv] at hz
      have k1 : (t.order == 2) = true := by simp [ho]
      have k0 : (t.order == 0) = false := by simp [ho]
      by_cases hq : rub < -net
      · rw [if_pos hq] at hz
        have Hz := Lib.hid hz
        clear hz ho
        go_enter Try.func106, Try.ntmps106
        go_wp2_with (first
        | (with_reducible show wpList _ _ _ (({ dst := _, op := .load 33 (.tmp 3), type := _, pos := _, after := _, guard := none } : Oper) :: _) _ _; refine wpList_load_gate (HB.out.gate 0 rfl) rfl (.tmp 3) rfl rfl ?_)
        | (go_at_call 87; refine (Hfo.out _ Hown.out).mono ?_; rintro e w1 ⟨rfl, hb1⟩; have H1 := HB.out.call hb1; have s0 : w1.cell? ⟨w.heap.size + 1, 0, none⟩ = some (.int .i64 s.pos) := H1.cell 1 0 rfl rfl; have s2 : w1.cell? ⟨w.heap.size + 1, 2, none⟩ = some (.bool false) := H1.cell 1 2 rfl (congrArg (fun b => some (Value.bool b)) hb); have o0 : w1.cell? ⟨w.heap.size + 1 + 1, 0, none⟩ = some (.int .i64 t.order) := H1.cell 2 0 rfl rfl; have o1 : w1.cell? ⟨w.heap.size + 1 + 1, 1, none⟩ = some (.bool t.power) := H1.cell 2 1 rfl rfl; have c2 : w1.cell? ⟨w.heap.size, 2, none⟩ = some (.int .i64 g.travel) := H1.cell 0 2 rfl rfl; have c11 : w1.cell? ⟨w.heap.size, 11, none⟩ = some (.int .i64 g.drive) := H1.cell 0 11 rfl rfl; have c12 : w1.cell? ⟨w.heap.size, 12, none⟩ = some (.int .i64 g.brake) := H1.cell 0 12 rfl rfl; have c14 : w1.cell? ⟨w.heap.size, 14, none⟩ = some (.int .i64 g.gravity) := H1.cell 0 14 rfl rfl; have HB1 := Lib.hid H1; clear hb1 H1)
        | (with_reducible show wpList _ _ _ (({ dst := _, op := .load 33 (.tmp 3), type := _, pos := _, after := _, guard := none } : Oper) :: _) _ _; refine wpList_load_gate (HB1.out.gate 0 rfl) rfl (.tmp 3) rfl rfl ?_)
        | (with_reducible show wpList _ _ _ (({ dst := _, op := .load 43 (.tmp 4), type := _, pos := _, after := _, guard := none } : Oper) :: _) _ _; refine wpList_load_st (HB1.out.blk 1 _ rfl) rfl (.tmp 4) rfl rfl ?_)
        | (go_at_call 112; refine (rdriven_any g s _ _ Hg.out Hs.out (by omega) (by omega)).mono ?_; rintro e w2 ⟨rfl, hb2⟩; have HB2 := Lib.hid (HB1.out.call hb2); clear hb2)
        | (with_reducible show wpList _ _ _ (({ dst := _, op := .load 33 (.tmp 3), type := _, pos := _, after := _, guard := none } : Oper) :: _) _ _; refine wpList_load_gate (HB2.out.gate 0 rfl) rfl (.tmp 3) rfl rfl ?_)
        | (go_at_call 113; refine (rused_any g _ _ Hg.out (by omega) (by omega)).mono ?_; rintro e w3 ⟨rfl, hb3⟩; have HB3 := Lib.hid (HB2.out.call hb3); clear hb3))
        go_quiet (fail)
        go_wp2
        go_ret2
        exact ⟨ret2 (by rw [Hz.out]; try simp), below_drewN HB1.out.below _⟩
      · rw [if_neg hq] at hz
        have bd := drvZ_bd Hg.out (s := s) (left := s.pos) (by omega) Hs.out.charge.1
        cases hw : t.power with
        | false =>
          rw [hw, if_neg (by simp)] at hz
          have Hz := Lib.hid hz
          clear hz ho
          go_enter Try.func106, Try.ntmps106
          go_wp2_with (first
        | (with_reducible show wpList _ _ _ (({ dst := _, op := .load 33 (.tmp 3), type := _, pos := _, after := _, guard := none } : Oper) :: _) _ _; refine wpList_load_gate (HB.out.gate 0 rfl) rfl (.tmp 3) rfl rfl ?_)
        | (go_at_call 87; refine (Hfo.out _ Hown.out).mono ?_; rintro e w1 ⟨rfl, hb1⟩; have H1 := HB.out.call hb1; have s0 : w1.cell? ⟨w.heap.size + 1, 0, none⟩ = some (.int .i64 s.pos) := H1.cell 1 0 rfl rfl; have s2 : w1.cell? ⟨w.heap.size + 1, 2, none⟩ = some (.bool false) := H1.cell 1 2 rfl (congrArg (fun b => some (Value.bool b)) hb); have o0 : w1.cell? ⟨w.heap.size + 1 + 1, 0, none⟩ = some (.int .i64 t.order) := H1.cell 2 0 rfl rfl; have o1 : w1.cell? ⟨w.heap.size + 1 + 1, 1, none⟩ = some (.bool false) := H1.cell 2 1 rfl (congrArg (fun b => some (Value.bool b)) hw); have c2 : w1.cell? ⟨w.heap.size, 2, none⟩ = some (.int .i64 g.travel) := H1.cell 0 2 rfl rfl; have c11 : w1.cell? ⟨w.heap.size, 11, none⟩ = some (.int .i64 g.drive) := H1.cell 0 11 rfl rfl; have c12 : w1.cell? ⟨w.heap.size, 12, none⟩ = some (.int .i64 g.brake) := H1.cell 0 12 rfl rfl; have c14 : w1.cell? ⟨w.heap.size, 14, none⟩ = some (.int .i64 g.gravity) := H1.cell 0 14 rfl rfl; have HB1 := Lib.hid H1; clear hb1 H1)
        | (with_reducible show wpList _ _ _ (({ dst := _, op := .load 33 (.tmp 3), type := _, pos := _, after := _, guard := none } : Oper) :: _) _ _; refine wpList_load_gate (HB1.out.gate 0 rfl) rfl (.tmp 3) rfl rfl ?_)
        | (with_reducible show wpList _ _ _ (({ dst := _, op := .load 43 (.tmp 4), type := _, pos := _, after := _, guard := none } : Oper) :: _) _ _; refine wpList_load_st (HB1.out.blk 1 _ rfl) rfl (.tmp 4) rfl rfl ?_)
        | (go_at_call 112; refine (rdriven_any g s _ _ Hg.out Hs.out (by omega) (by omega)).mono ?_; rintro e w2 ⟨rfl, hb2⟩; have HB2 := Lib.hid (HB1.out.call hb2); clear hb2)
        | (with_reducible show wpList _ _ _ (({ dst := _, op := .load 33 (.tmp 3), type := _, pos := _, after := _, guard := none } : Oper) :: _) _ _; refine wpList_load_gate (HB2.out.gate 0 rfl) rfl (.tmp 3) rfl rfl ?_)
        | (go_at_call 113; refine (rused_any g _ _ Hg.out (by omega) (by omega)).mono ?_; rintro e w3 ⟨rfl, hb3⟩; have HB3 := Lib.hid (HB2.out.call hb3); clear hb3))
          go_quiet (fail)
          go_wp2
          go_ret2
          exact ⟨ret2 (by rw [Hz.out]; try simp), below_drewN HB1.out.below _⟩
        | true =>
          by_cases hd : rub < -net + g.drive
          · rw [if_pos ⟨hw, hd⟩] at hz
            have Hz := Lib.hid hz
            clear hz ho
            go_enter Try.func106, Try.ntmps106
            go_wp2_with (first
        | (with_reducible show wpList _ _ _ (({ dst := _, op := .load 33 (.tmp 3), type := _, pos := _, after := _, guard := none } : Oper) :: _) _ _; refine wpList_load_gate (HB.out.gate 0 rfl) rfl (.tmp 3) rfl rfl ?_)
        | (go_at_call 87; refine (Hfo.out _ Hown.out).mono ?_; rintro e w1 ⟨rfl, hb1⟩; have H1 := HB.out.call hb1; have s0 : w1.cell? ⟨w.heap.size + 1, 0, none⟩ = some (.int .i64 s.pos) := H1.cell 1 0 rfl rfl; have s2 : w1.cell? ⟨w.heap.size + 1, 2, none⟩ = some (.bool false) := H1.cell 1 2 rfl (congrArg (fun b => some (Value.bool b)) hb); have o0 : w1.cell? ⟨w.heap.size + 1 + 1, 0, none⟩ = some (.int .i64 t.order) := H1.cell 2 0 rfl rfl; have o1 : w1.cell? ⟨w.heap.size + 1 + 1, 1, none⟩ = some (.bool true) := H1.cell 2 1 rfl (congrArg (fun b => some (Value.bool b)) hw); have c2 : w1.cell? ⟨w.heap.size, 2, none⟩ = some (.int .i64 g.travel) := H1.cell 0 2 rfl rfl; have c11 : w1.cell? ⟨w.heap.size, 11, none⟩ = some (.int .i64 g.drive) := H1.cell 0 11 rfl rfl; have c12 : w1.cell? ⟨w.heap.size, 12, none⟩ = some (.int .i64 g.brake) := H1.cell 0 12 rfl rfl; have c14 : w1.cell? ⟨w.heap.size, 14, none⟩ = some (.int .i64 g.gravity) := H1.cell 0 14 rfl rfl; have HB1 := Lib.hid H1; clear hb1 H1)
        | (with_reducible show wpList _ _ _ (({ dst := _, op := .load 33 (.tmp 3), type := _, pos := _, after := _, guard := none } : Oper) :: _) _ _; refine wpList_load_gate (HB1.out.gate 0 rfl) rfl (.tmp 3) rfl rfl ?_)
        | (with_reducible show wpList _ _ _ (({ dst := _, op := .load 43 (.tmp 4), type := _, pos := _, after := _, guard := none } : Oper) :: _) _ _; refine wpList_load_st (HB1.out.blk 1 _ rfl) rfl (.tmp 4) rfl rfl ?_)
        | (go_at_call 112; refine (rdriven_any g s _ _ Hg.out Hs.out (by omega) (by omega)).mono ?_; rintro e w2 ⟨rfl, hb2⟩; have HB2 := Lib.hid (HB1.out.call hb2); clear hb2)
        | (with_reducible show wpList _ _ _ (({ dst := _, op := .load 33 (.tmp 3), type := _, pos := _, after := _, guard := none } : Oper) :: _) _ _; refine wpList_load_gate (HB2.out.gate 0 rfl) rfl (.tmp 3) rfl rfl ?_)
        | (go_at_call 113; refine (rused_any g _ _ Hg.out (by omega) (by omega)).mono ?_; rintro e w3 ⟨rfl, hb3⟩; have HB3 := Lib.hid (HB2.out.call hb3); clear hb3))
            go_quiet (fail)
            have HD1 := Lib.hid (HB1.out.drewN nq)
            go_wp2_with (first
        | (with_reducible show wpList _ _ _ (({ dst := _, op := .load 33 (.tmp 3), type := _, pos := _, after := _, guard := none } : Oper) :: _) _ _; refine wpList_load_gate (HD1.out.gate 0 rfl) rfl (.tmp 3) rfl rfl ?_)
        | (with_reducible show wpList _ _ _ (({ dst := _, op := .load 43 (.tmp 4), type := _, pos := _, after := _, guard := none } : Oper) :: _) _ _; refine wpList_load_st (HD1.out.blk 1 _ rfl) rfl (.tmp 4) rfl rfl ?_)
        | (go_at_call 112; refine (rdriven_any g s _ _ Hg.out Hs.out (by omega) (by omega)).mono ?_; rintro e w2 ⟨rfl, hb2⟩; have HB2 := Lib.hid (HD1.out.call hb2); clear hb2)
        | (with_reducible show wpList _ _ _ (({ dst := _, op := .load 33 (.tmp 3), type := _, pos := _, after := _, guard := none } : Oper) :: _) _ _; refine wpList_load_gate (HB2.out.gate 0 rfl) rfl (.tmp 3) rfl rfl ?_)
        | (go_at_call 113; refine (rused_any g _ _ Hg.out (by omega) (by omega)).mono ?_; rintro e w3 ⟨rfl, hb3⟩; have HB3 := Lib.hid (HB2.out.call hb3); clear hb3))
            go_ret2
            exact ⟨ret2 (by rw [Hz.out]; try simp), HB3.out.below⟩
          · rw [if_neg (fun h => hd h.2)] at hz
            have Hz := Lib.hid hz
            clear hz ho
            go_enter Try.func106, Try.ntmps106
            go_wp2_with (first
        | (with_reducible show wpList _ _ _ (({ dst := _, op := .load 33 (.tmp 3), type := _, pos := _, after := _, guard := none } : Oper) :: _) _ _; refine wpList_load_gate (HB.out.gate 0 rfl) rfl (.tmp 3) rfl rfl ?_)
        | (go_at_call 87; refine (Hfo.out _ Hown.out).mono ?_; rintro e w1 ⟨rfl, hb1⟩; have H1 := HB.out.call hb1; have s0 : w1.cell? ⟨w.heap.size + 1, 0, none⟩ = some (.int .i64 s.pos) := H1.cell 1 0 rfl rfl; have s2 : w1.cell? ⟨w.heap.size + 1, 2, none⟩ = some (.bool false) := H1.cell 1 2 rfl (congrArg (fun b => some (Value.bool b)) hb); have o0 : w1.cell? ⟨w.heap.size + 1 + 1, 0, none⟩ = some (.int .i64 t.order) := H1.cell 2 0 rfl rfl; have o1 : w1.cell? ⟨w.heap.size + 1 + 1, 1, none⟩ = some (.bool true) := H1.cell 2 1 rfl (congrArg (fun b => some (Value.bool b)) hw); have c2 : w1.cell? ⟨w.heap.size, 2, none⟩ = some (.int .i64 g.travel) := H1.cell 0 2 rfl rfl; have c11 : w1.cell? ⟨w.heap.size, 11, none⟩ = some (.int .i64 g.drive) := H1.cell 0 11 rfl rfl; have c12 : w1.cell? ⟨w.heap.size, 12, none⟩ = some (.int .i64 g.brake) := H1.cell 0 12 rfl rfl; have c14 : w1.cell? ⟨w.heap.size, 14, none⟩ = some (.int .i64 g.gravity) := H1.cell 0 14 rfl rfl; have HB1 := Lib.hid H1; clear hb1 H1)
        | (with_reducible show wpList _ _ _ (({ dst := _, op := .load 33 (.tmp 3), type := _, pos := _, after := _, guard := none } : Oper) :: _) _ _; refine wpList_load_gate (HB1.out.gate 0 rfl) rfl (.tmp 3) rfl rfl ?_)
        | (with_reducible show wpList _ _ _ (({ dst := _, op := .load 43 (.tmp 4), type := _, pos := _, after := _, guard := none } : Oper) :: _) _ _; refine wpList_load_st (HB1.out.blk 1 _ rfl) rfl (.tmp 4) rfl rfl ?_)
        | (go_at_call 112; refine (rdriven_any g s _ _ Hg.out Hs.out (by omega) (by omega)).mono ?_; rintro e w2 ⟨rfl, hb2⟩; have HB2 := Lib.hid (HB1.out.call hb2); clear hb2)
        | (with_reducible show wpList _ _ _ (({ dst := _, op := .load 33 (.tmp 3), type := _, pos := _, after := _, guard := none } : Oper) :: _) _ _; refine wpList_load_gate (HB2.out.gate 0 rfl) rfl (.tmp 3) rfl rfl ?_)
        | (go_at_call 113; refine (rused_any g _ _ Hg.out (by omega) (by omega)).mono ?_; rintro e w3 ⟨rfl, hb3⟩; have HB3 := Lib.hid (HB2.out.call hb3); clear hb3))
            go_quiet (fail)
            go_wp2
            go_ret2
            exact ⟨ret2 (by rw [Hz.out]; try simp), below_drewN HB1.out.below _⟩

end Go.Proofs.Ythalanpmfhhhnaa
