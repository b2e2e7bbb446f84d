/-
  The walk of GateHeld: it returns true.
-/
import Derived.Test.YthalanpmfhhhnaaAw
namespace Go.Proofs.Ythalanpmfhhhnaa
open Go.RowKit
set_option linter.unusedSimpArgs false
set_option linter.unusedVariables false
attribute [local go_sem high] run_min_z run_max_z
attribute [local go_sem ↓] run_min_z run_max_z

theorem GateIn.alloc {W : World} {B : Nat} {g : GateV} (h : GateIn W B g) (o : Obj) : GateIn (W.alloc o) B g := h.below ((Below.refl _ _).alloc (Nat.le_refl _) o) (Nat.le_refl _)
theorem GateV.Ok.alloc {W : World} {g : GateV} (h : g.Ok W) (o : Obj) : g.Ok (W.alloc o) := h.below ((Below.refl _ _).alloc (Nat.le_refl _) o) (Nat.le_refl _)
theorem Tw.alloc {w W : World} {g : GateV} {s : St} {t : Stp} (h : Tw w W g s t) (o : Obj) : Tw w (W.alloc o) g s t := h.call ((Below.refl _ _).alloc (Nat.le_refl _) o)

theorem size_any (n : Int) (w : World) (h : -1000000000000 ≤ n) (h2 : n ≤ 1000000000000) :
    Calls Try.prog 28 #[.int .i64 n] w fun e w' => e = .returned (.int .i64 (max n (-n))) ∧ w = w' := by
  have hn : IntKind.i64.wrap (-n) = -n := by rw [IntKind.wrap_i64]; omega
  go_enter Try.func28, Try.ntmps28
  go_wp2
  go_ret
  exact ⟨rfl, rfl⟩

theorem step_force {g : GateV} {s : St} {t : Stp} (h : (stepZ g s t).2.2 = 0) :
    g.Good ∧ s.Ok g ∧ t.Lv ∧ (0 ≤ t.order ∧ t.order ≤ 2) ∧ stepZ g s t = ((aloneZ g s t).1, (aloneZ g s t).2, 0) ∧ forceZ g s.pos t.outer t.inner = (netZ g s.pos t.outer t.inner, rubZ g s.pos t.outer t.inner, 0) := by
  unfold stepZ at h ⊢
  split at h
  · rename_i h1; exact absurd h h1
  · rename_i h1
    split at h
    · rename_i h2; exact absurd h h2
    · rename_i h2
      have h1' : (checkZ g).2.2 = 0 := by simpa using h1
      have h2' : oddE g s t = 0 := by simpa using h2
      obtain ⟨hs, ht, ho, ho2⟩ := oddE_0 h2'
      have a1 : outB t.outer (-20000) 20000 = false := by have := ht.outer; simp [outB]; omega
      have a2 : outB t.inner (-20000) 20000 = false := by have := ht.inner; simp [outB]; omega
      have a3 : outB s.pos 0 g.travel = false := by have := hs.pos; simp [outB]; omega
      refine ⟨check_good h1', hs, ht, ⟨ho, ho2⟩, by rw [if_neg h1, if_neg h2], ?_⟩
      have hat : atE g t.outer t.inner = 0 := by unfold atE; rw [if_neg (by simp [h1']), if_neg (by simp [a1, a2])]
      unfold forceZ
      rw [if_neg (by simp [hat]), if_neg (by simp [a3])]

theorem held_law (g : GateV) (s : St) (t : Stp) (h0 : 0 ≤ g.brake + rubZ g s.pos t.outer t.inner) :
    (s.bolted = true → (aloneZ g s t).1.pos = s.pos ∧ (aloneZ g s t).2.moved = 0) ∧
    (s.bolted = false → t.order = 0 → (max (netZ g s.pos t.outer t.inner) (-netZ g s.pos t.outer t.inner) ≤ g.brake + rubZ g s.pos t.outer t.inner → (aloneZ g s t).2.moved = 0) ∧
      (¬ max (netZ g s.pos t.outer t.inner) (-netZ g s.pos t.outer t.inner) ≤ g.brake + rubZ g s.pos t.outer t.inner → 0 < netZ g s.pos t.outer t.inner → (aloneZ g s t).2.moved = min g.gravity (g.travel - s.pos)) ∧
      (¬ max (netZ g s.pos t.outer t.inner) (-netZ g s.pos t.outer t.inner) ≤ g.brake + rubZ g s.pos t.outer t.inner → ¬ 0 < netZ g s.pos t.outer t.inner → (aloneZ g s t).2.moved = -(min g.gravity s.pos))) := by
  refine ⟨fun hb => ?_, fun hb ho => ?_⟩
  · have hm : ∀ r, moveZ g s t r = (0, 0) := fun r => by rw [moveZ, if_pos hb]
    simp [aloneZ, doZ, hm]
  · have hm : moveZ g s t (boltE s t) = (holdZ g s (netZ g s.pos t.outer t.inner) (rubZ g s.pos t.outer t.inner), 0) := by
      simp [moveZ, boltE, hb, ho]
    have hy : (aloneZ g s t).2.moved = holdZ g s (netZ g s.pos t.outer t.inner) (rubZ g s.pos t.outer t.inner) := by simp [aloneZ, doZ, hm]
    rw [hy]
    revert h0
    generalize netZ g s.pos t.outer t.inner = N
    generalize rubZ g s.pos t.outer t.inner = R
    intro h0
    unfold holdZ
    refine ⟨fun h => ?_, fun h h2 => ?_, fun h h2 => ?_⟩
    · rw [if_neg (by omega), if_neg (by omega)]
    · rw [if_pos (by omega)]
    · rw [if_neg (by omega), if_pos (by omega)]

set_option maxRecDepth 100000 in
set_option maxHeartbeats 4000000 in
theorem held_any (g : GateV) (s : St) (t : Stp) (w : World) (hok : g.Ok w) :
    Calls Try.prog 8 #[g.val, s.val, t.val] w fun e w' => e = .returned (.bool true) ∧ Below w.heap.size w w' := by
  have htw := Tw.new w g s t
  have Htw := Lib.hid htw
  have Hok := Lib.hid (hok.below htw.below (Nat.le_refl _))
  clear hok htw
  obtain ⟨x, y, E, hE⟩ : ∃ x y E, stepZ g s t = (x, y, E) := ⟨_, _, _, rfl⟩
  obtain ⟨N, R, F, hF⟩ : ∃ N R F, forceZ g s.pos t.outer t.inner = (N, R, F) := ⟨_, _, _, rfl⟩
  have HE := Lib.hid hE
  have HF := Lib.hid hF
  by_cases h0 : E = 0
  · subst h0
    obtain ⟨hg, hs, ht, ho, hst, hfo⟩ := step_force (by rw [hE] : (stepZ g s t).2.2 = 0)
    have hfe : N = netZ g s.pos t.outer t.inner ∧ R = rubZ g s.pos t.outer t.inner ∧ F = 0 := by
      rw [hF] at hfo
      simp only [Prod.mk.injEq] at hfo
      exact hfo
    obtain ⟨hNe, hRe, rfl⟩ := hfe
    have hN := net_bd hg hs.pos.1 hs.pos.2 ht.outer ht.inner
    have hR := rub_bd (p := s.pos) hg ht.outer ht.inner
    rw [← hNe] at hN
    rw [← hRe] at hR
    have hbk := hg.brake
    have hgr := hg.gravity
    have htr := hg.travel
    have hps := hs.pos
    have hxy : x = (aloneZ g s t).1 ∧ y = (aloneZ g s t).2 := by
      rw [hE] at hst
      simp only [Prod.mk.injEq] at hst
      exact ⟨hst.1, hst.2.1⟩
    have hlaw := held_law g s t (by rw [← hRe]; omega)
    rw [← hxy.1, ← hxy.2, ← hNe, ← hRe] at hlaw
    obtain ⟨l1, l2⟩ := hlaw
    clear hxy hNe hRe hst hfo hE hF hg hs ht
    cases hb : s.bolted with
    | true =>
      obtain ⟨e1, e2⟩ := l1 hb
      have E1 : (x.pos == s.pos) = true := by simp [e1]
      have E2 : (y.moved == 0) = true := by simp [e2]
      clear l1 l2 e1 e2
      go_enter Try.func8, Try.ntmps8
      go_wp2_with (first
        | (with_reducible show wpList _ _ _ (({ dst := _, op := .load 33 (.tmp 3), type := _, pos := _, after := _, guard := none } : Oper) :: _) _ _; refine wpList_load_gate Htw.out.gate rfl (.tmp 3) rfl rfl ?_)
        | (with_reducible show wpList _ _ _ (({ dst := _, op := .load 33 (.tmp 3), type := _, pos := _, after := _, guard := none } : Oper) :: _) _ _; refine wpList_load_gate ((B1.out.alloc _).alloc _).gate rfl (.tmp 3) rfl rfl ?_)
        | (with_reducible show wpList _ _ _ (({ dst := _, op := .load 43 (.tmp 4), type := _, pos := _, after := _, guard := none } : Oper) :: _) _ _; refine wpList_load_st Htw.out.st rfl (.tmp 4) rfl rfl ?_)
        | (with_reducible show wpList _ _ _ (({ dst := _, op := .load 45 (.tmp 5), type := _, pos := _, after := _, guard := none } : Oper) :: _) _ _; refine wpList_load_stp Htw.out.step rfl (.tmp 5) rfl rfl ?_)
        | (go_at_call 27; refine (step_any g s t _ Hok.out).mono ?_; rintro e w1 ⟨rfl, hb1⟩; rw [HE.out]; have hB1 := Htw.out.call hb1; have s0 := (cell_of_row _ _ 0 _ _ _ hB1.st).trans rfl; have t2 := (cell_of_row _ _ 2 _ _ _ hB1.step).trans rfl; have t3 := (cell_of_row _ _ 3 _ _ _ hB1.step).trans rfl; have B1 := Lib.hid hB1; have lt1 := hB1.size; have lz0 : w.heap.size < w1.heap.size := (by omega); have lz1 : w.heap.size + 1 < w1.heap.size := (by omega); have Ok1 := Lib.hid (Hok.out.below hb1 (Nat.le_refl _)); clear hB1 hb1)
        | (go_at_call 31; refine (force_call g s.pos t.outer t.inner _ ((Ok1.out.alloc _).alloc _)).mono ?_; rintro e w2 ⟨rfl, hb2⟩; rw [HF.out]; have hB2 := ((B1.out.alloc _).alloc _).call hb2; have hx := blk_below (B := w1.heap.size) hb2 (blk_old (blk_new rfl)); have hy := blk_below (B := w1.heap.size + 1) hb2 (blk_new (by simp)); have x0 := (cell_of_row _ _ 0 _ _ _ hx).trans rfl; have y1 := (cell_of_row _ _ 1 _ _ _ hy).trans rfl; have p0 := (cell_of_row _ _ 0 _ _ _ hB2.st).trans rfl; have p2 := (cell_of_row _ _ 2 _ _ _ hB2.st).trans rfl; have q0 := (cell_of_row _ _ 0 _ _ _ hB2.step).trans rfl; have g2 := hB2.gate.cell 2 _ rfl; have g12 := hB2.gate.cell 12 _ rfl; have g14 := hB2.gate.cell 14 _ rfl; have B2 := Lib.hid hB2; clear hB2 hb2 hx hy)
        | (go_at_call 24; refine (awake_any _).mono ?_; rintro e w3 ⟨rfl, hb3⟩; (first | have B3 := Lib.hid (B2.out.call hb3) | have B3 := Lib.hid ((B2.out.call (below_drewN (Below.refl _ _) _)).call hb3)); clear hb3))
      go_ret
      exact ⟨rfl, B3.out.below⟩
    | false =>
      by_cases ho0 : t.order = 0
      · obtain ⟨a1, a2, a3⟩ := l2 hb ho0
        have O : (t.order != 0) = false := by simp [ho0]
        have wa : IntKind.i64.wrap (g.brake + R) = g.brake + R := by rw [IntKind.wrap_i64]; omega
        clear l1 l2 ho0
        by_cases hle : max N (-N) ≤ g.brake + R
        · have E2 : (y.moved == 0) = true := by simp [a1 hle]
          have hd : decide (max N (-N) ≤ g.brake + R) = true := by simpa using hle
          clear a1 a2 a3 hle
          go_enter Try.func8, Try.ntmps8
          go_wp2_with (first
            | (with_reducible show wpList _ _ _ (({ dst := _, op := .load 33 (.tmp 3), type := _, pos := _, after := _, guard := none } : Oper) :: _) _ _; refine wpList_load_gate Htw.out.gate rfl (.tmp 3) rfl rfl ?_)
            | (with_reducible show wpList _ _ _ (({ dst := _, op := .load 33 (.tmp 3), type := _, pos := _, after := _, guard := none } : Oper) :: _) _ _; refine wpList_load_gate ((B1.out.alloc _).alloc _).gate rfl (.tmp 3) rfl rfl ?_)
            | (with_reducible show wpList _ _ _ (({ dst := _, op := .load 43 (.tmp 4), type := _, pos := _, after := _, guard := none } : Oper) :: _) _ _; refine wpList_load_st Htw.out.st rfl (.tmp 4) rfl rfl ?_)
            | (with_reducible show wpList _ _ _ (({ dst := _, op := .load 45 (.tmp 5), type := _, pos := _, after := _, guard := none } : Oper) :: _) _ _; refine wpList_load_stp Htw.out.step rfl (.tmp 5) rfl rfl ?_)
            | (go_at_call 27; refine (step_any g s t _ Hok.out).mono ?_; rintro e w1 ⟨rfl, hb1⟩; rw [HE.out]; have hB1 := Htw.out.call hb1; have s0 := (cell_of_row _ _ 0 _ _ _ hB1.st).trans rfl; have t2 := (cell_of_row _ _ 2 _ _ _ hB1.step).trans rfl; have t3 := (cell_of_row _ _ 3 _ _ _ hB1.step).trans rfl; have B1 := Lib.hid hB1; have lt1 := hB1.size; have lz0 : w.heap.size < w1.heap.size := (by omega); have lz1 : w.heap.size + 1 < w1.heap.size := (by omega); have Ok1 := Lib.hid (Hok.out.below hb1 (Nat.le_refl _)); clear hB1 hb1)
            | (go_at_call 31; refine (force_call g s.pos t.outer t.inner _ ((Ok1.out.alloc _).alloc _)).mono ?_; rintro e w2 ⟨rfl, hb2⟩; rw [HF.out]; have hB2 := ((B1.out.alloc _).alloc _).call hb2; have hx := blk_below (B := w1.heap.size) hb2 (blk_old (blk_new rfl)); have hy := blk_below (B := w1.heap.size + 1) hb2 (blk_new (by simp)); have x0 := (cell_of_row _ _ 0 _ _ _ hx).trans rfl; have y1 := (cell_of_row _ _ 1 _ _ _ hy).trans rfl; have p0 := (cell_of_row _ _ 0 _ _ _ hB2.st).trans rfl; have p2 := (cell_of_row _ _ 2 _ _ _ hB2.st).trans rfl; have q0 := (cell_of_row _ _ 0 _ _ _ hB2.step).trans rfl; have g2 := hB2.gate.cell 2 _ rfl; have g12 := hB2.gate.cell 12 _ rfl; have g14 := hB2.gate.cell 14 _ rfl; have B2 := Lib.hid hB2; clear hB2 hb2 hx hy)
            | (go_at_call 24; refine (awake_any _).mono ?_; rintro e w3 ⟨rfl, hb3⟩; (first | have B3 := Lib.hid (B2.out.call hb3) | have B3 := Lib.hid ((B2.out.call (below_drewN (Below.refl _ _) _)).call hb3)); clear hb3))
          go_quiet ((go_at_call 28; first | exact quiet_add_left (size_any _ _ (by omega) (by omega)) | exact quiet_left (size_any _ _ (by omega) (by omega))))
          go_wp2_with (first
            | (go_at_call 24; refine (awake_any _).mono ?_; rintro e w3 ⟨rfl, hb3⟩; (first | have B3 := Lib.hid (B2.out.call hb3) | have B3 := Lib.hid ((B2.out.call (below_drewN (Below.refl _ _) _)).call hb3)); clear hb3))
          go_ret
          exact ⟨rfl, B3.out.below⟩
        · have hd : decide (max N (-N) ≤ g.brake + R) = false := by simpa using hle
          by_cases hp : 0 < N
          · have E2 : (y.moved == min g.gravity (g.travel - s.pos)) = true := by simp [a2 hle hp]
            have hd2 : decide (N > 0) = true := by simpa using hp
            have wt : IntKind.i64.wrap (g.travel - s.pos) = g.travel - s.pos := by rw [IntKind.wrap_i64]; omega
            clear a1 a2 a3 hle
            go_enter Try.func8, Try.ntmps8
            go_wp2_with (first
              | (with_reducible show wpList _ _ _ (({ dst := _, op := .load 33 (.tmp 3), type := _, pos := _, after := _, guard := none } : Oper) :: _) _ _; refine wpList_load_gate Htw.out.gate rfl (.tmp 3) rfl rfl ?_)
              | (with_reducible show wpList _ _ _ (({ dst := _, op := .load 33 (.tmp 3), type := _, pos := _, after := _, guard := none } : Oper) :: _) _ _; refine wpList_load_gate ((B1.out.alloc _).alloc _).gate rfl (.tmp 3) rfl rfl ?_)
              | (with_reducible show wpList _ _ _ (({ dst := _, op := .load 43 (.tmp 4), type := _, pos := _, after := _, guard := none } : Oper) :: _) _ _; refine wpList_load_st Htw.out.st rfl (.tmp 4) rfl rfl ?_)
              | (with_reducible show wpList _ _ _ (({ dst := _, op := .load 45 (.tmp 5), type := _, pos := _, after := _, guard := none } : Oper) :: _) _ _; refine wpList_load_stp Htw.out.step rfl (.tmp 5) rfl rfl ?_)
              | (go_at_call 27; refine (step_any g s t _ Hok.out).mono ?_; rintro e w1 ⟨rfl, hb1⟩; rw [HE.out]; have hB1 := Htw.out.call hb1; have s0 := (cell_of_row _ _ 0 _ _ _ hB1.st).trans rfl; have t2 := (cell_of_row _ _ 2 _ _ _ hB1.step).trans rfl; have t3 := (cell_of_row _ _ 3 _ _ _ hB1.step).trans rfl; have B1 := Lib.hid hB1; have lt1 := hB1.size; have lz0 : w.heap.size < w1.heap.size := (by omega); have lz1 : w.heap.size + 1 < w1.heap.size := (by omega); have Ok1 := Lib.hid (Hok.out.below hb1 (Nat.le_refl _)); clear hB1 hb1)
              | (go_at_call 31; refine (force_call g s.pos t.outer t.inner _ ((Ok1.out.alloc _).alloc _)).mono ?_; rintro e w2 ⟨rfl, hb2⟩; rw [HF.out]; have hB2 := ((B1.out.alloc _).alloc _).call hb2; have hx := blk_below (B := w1.heap.size) hb2 (blk_old (blk_new rfl)); have hy := blk_below (B := w1.heap.size + 1) hb2 (blk_new (by simp)); have x0 := (cell_of_row _ _ 0 _ _ _ hx).trans rfl; have y1 := (cell_of_row _ _ 1 _ _ _ hy).trans rfl; have p0 := (cell_of_row _ _ 0 _ _ _ hB2.st).trans rfl; have p2 := (cell_of_row _ _ 2 _ _ _ hB2.st).trans rfl; have q0 := (cell_of_row _ _ 0 _ _ _ hB2.step).trans rfl; have g2 := hB2.gate.cell 2 _ rfl; have g12 := hB2.gate.cell 12 _ rfl; have g14 := hB2.gate.cell 14 _ rfl; have B2 := Lib.hid hB2; clear hB2 hb2 hx hy)
              | (go_at_call 24; refine (awake_any _).mono ?_; rintro e w3 ⟨rfl, hb3⟩; (first | have B3 := Lib.hid (B2.out.call hb3) | have B3 := Lib.hid ((B2.out.call (below_drewN (Below.refl _ _) _)).call hb3)); clear hb3))
            go_quiet ((go_at_call 28; first | exact quiet_add_left (size_any _ _ (by omega) (by omega)) | exact quiet_left (size_any _ _ (by omega) (by omega))))
            go_wp2_with (first
              | (go_at_call 24; refine (awake_any _).mono ?_; rintro e w3 ⟨rfl, hb3⟩; (first | have B3 := Lib.hid (B2.out.call hb3) | have B3 := Lib.hid ((B2.out.call (below_drewN (Below.refl _ _) _)).call hb3)); clear hb3))
            go_ret
            exact ⟨rfl, B3.out.below⟩
          · have E2 : (y.moved == -(min g.gravity s.pos)) = true := by simp [a3 hle hp]
            have hd2 : decide (N > 0) = false := by simpa using hp
            have wt : IntKind.i64.wrap (-(min g.gravity s.pos)) = -(min g.gravity s.pos) := by rw [IntKind.wrap_i64]; omega
            clear a1 a2 a3 hle
            go_enter Try.func8, Try.ntmps8
            go_wp2_with (first
              | (with_reducible show wpList _ _ _ (({ dst := _, op := .load 33 (.tmp 3), type := _, pos := _, after := _, guard := none } : Oper) :: _) _ _; refine wpList_load_gate Htw.out.gate rfl (.tmp 3) rfl rfl ?_)
              | (with_reducible show wpList _ _ _ (({ dst := _, op := .load 33 (.tmp 3), type := _, pos := _, after := _, guard := none } : Oper) :: _) _ _; refine wpList_load_gate ((B1.out.alloc _).alloc _).gate rfl (.tmp 3) rfl rfl ?_)
              | (with_reducible show wpList _ _ _ (({ dst := _, op := .load 43 (.tmp 4), type := _, pos := _, after := _, guard := none } : Oper) :: _) _ _; refine wpList_load_st Htw.out.st rfl (.tmp 4) rfl rfl ?_)
              | (with_reducible show wpList _ _ _ (({ dst := _, op := .load 45 (.tmp 5), type := _, pos := _, after := _, guard := none } : Oper) :: _) _ _; refine wpList_load_stp Htw.out.step rfl (.tmp 5) rfl rfl ?_)
              | (go_at_call 27; refine (step_any g s t _ Hok.out).mono ?_; rintro e w1 ⟨rfl, hb1⟩; rw [HE.out]; have hB1 := Htw.out.call hb1; have s0 := (cell_of_row _ _ 0 _ _ _ hB1.st).trans rfl; have t2 := (cell_of_row _ _ 2 _ _ _ hB1.step).trans rfl; have t3 := (cell_of_row _ _ 3 _ _ _ hB1.step).trans rfl; have B1 := Lib.hid hB1; have lt1 := hB1.size; have lz0 : w.heap.size < w1.heap.size := (by omega); have lz1 : w.heap.size + 1 < w1.heap.size := (by omega); have Ok1 := Lib.hid (Hok.out.below hb1 (Nat.le_refl _)); clear hB1 hb1)
              | (go_at_call 31; refine (force_call g s.pos t.outer t.inner _ ((Ok1.out.alloc _).alloc _)).mono ?_; rintro e w2 ⟨rfl, hb2⟩; rw [HF.out]; have hB2 := ((B1.out.alloc _).alloc _).call hb2; have hx := blk_below (B := w1.heap.size) hb2 (blk_old (blk_new rfl)); have hy := blk_below (B := w1.heap.size + 1) hb2 (blk_new (by simp)); have x0 := (cell_of_row _ _ 0 _ _ _ hx).trans rfl; have y1 := (cell_of_row _ _ 1 _ _ _ hy).trans rfl; have p0 := (cell_of_row _ _ 0 _ _ _ hB2.st).trans rfl; have p2 := (cell_of_row _ _ 2 _ _ _ hB2.st).trans rfl; have q0 := (cell_of_row _ _ 0 _ _ _ hB2.step).trans rfl; have g2 := hB2.gate.cell 2 _ rfl; have g12 := hB2.gate.cell 12 _ rfl; have g14 := hB2.gate.cell 14 _ rfl; have B2 := Lib.hid hB2; clear hB2 hb2 hx hy)
              | (go_at_call 24; refine (awake_any _).mono ?_; rintro e w3 ⟨rfl, hb3⟩; (first | have B3 := Lib.hid (B2.out.call hb3) | have B3 := Lib.hid ((B2.out.call (below_drewN (Below.refl _ _) _)).call hb3)); clear hb3))
            go_quiet ((go_at_call 28; first | exact quiet_add_left (size_any _ _ (by omega) (by omega)) | exact quiet_left (size_any _ _ (by omega) (by omega))))
            go_wp2_with (first
              | (go_at_call 24; refine (awake_any _).mono ?_; rintro e w3 ⟨rfl, hb3⟩; (first | have B3 := Lib.hid (B2.out.call hb3) | have B3 := Lib.hid ((B2.out.call (below_drewN (Below.refl _ _) _)).call hb3)); clear hb3))
            go_ret
            exact ⟨rfl, B3.out.below⟩
      · have O : (t.order != 0) = true := by simp [ho0]
        clear l1 l2 ho0
        go_enter Try.func8, Try.ntmps8
        go_wp2_with (first
          | (with_reducible show wpList _ _ _ (({ dst := _, op := .load 33 (.tmp 3), type := _, pos := _, after := _, guard := none } : Oper) :: _) _ _; refine wpList_load_gate Htw.out.gate rfl (.tmp 3) rfl rfl ?_)
          | (with_reducible show wpList _ _ _ (({ dst := _, op := .load 33 (.tmp 3), type := _, pos := _, after := _, guard := none } : Oper) :: _) _ _; refine wpList_load_gate ((B1.out.alloc _).alloc _).gate rfl (.tmp 3) rfl rfl ?_)
          | (with_reducible show wpList _ _ _ (({ dst := _, op := .load 43 (.tmp 4), type := _, pos := _, after := _, guard := none } : Oper) :: _) _ _; refine wpList_load_st Htw.out.st rfl (.tmp 4) rfl rfl ?_)
          | (with_reducible show wpList _ _ _ (({ dst := _, op := .load 45 (.tmp 5), type := _, pos := _, after := _, guard := none } : Oper) :: _) _ _; refine wpList_load_stp Htw.out.step rfl (.tmp 5) rfl rfl ?_)
          | (go_at_call 27; refine (step_any g s t _ Hok.out).mono ?_; rintro e w1 ⟨rfl, hb1⟩; rw [HE.out]; have hB1 := Htw.out.call hb1; have s0 := (cell_of_row _ _ 0 _ _ _ hB1.st).trans rfl; have t2 := (cell_of_row _ _ 2 _ _ _ hB1.step).trans rfl; have t3 := (cell_of_row _ _ 3 _ _ _ hB1.step).trans rfl; have B1 := Lib.hid hB1; have lt1 := hB1.size; have lz0 : w.heap.size < w1.heap.size := (by omega); have lz1 : w.heap.size + 1 < w1.heap.size := (by omega); have Ok1 := Lib.hid (Hok.out.below hb1 (Nat.le_refl _)); clear hB1 hb1)
          | (go_at_call 31; refine (force_call g s.pos t.outer t.inner _ ((Ok1.out.alloc _).alloc _)).mono ?_; rintro e w2 ⟨rfl, hb2⟩; rw [HF.out]; have hB2 := ((B1.out.alloc _).alloc _).call hb2; have hx := blk_below (B := w1.heap.size) hb2 (blk_old (blk_new rfl)); have hy := blk_below (B := w1.heap.size + 1) hb2 (blk_new (by simp)); have x0 := (cell_of_row _ _ 0 _ _ _ hx).trans rfl; have y1 := (cell_of_row _ _ 1 _ _ _ hy).trans rfl; have p0 := (cell_of_row _ _ 0 _ _ _ hB2.st).trans rfl; have p2 := (cell_of_row _ _ 2 _ _ _ hB2.st).trans rfl; have q0 := (cell_of_row _ _ 0 _ _ _ hB2.step).trans rfl; have g2 := hB2.gate.cell 2 _ rfl; have g12 := hB2.gate.cell 12 _ rfl; have g14 := hB2.gate.cell 14 _ rfl; have B2 := Lib.hid hB2; clear hB2 hb2 hx hy)
          | (go_at_call 24; refine (awake_any _).mono ?_; rintro e w3 ⟨rfl, hb3⟩; (first | have B3 := Lib.hid (B2.out.call hb3) | have B3 := Lib.hid ((B2.out.call (below_drewN (Below.refl _ _) _)).call hb3)); clear hb3))
        go_ret
        exact ⟨rfl, B3.out.below⟩
  · have h1 : (E != 0) = true := by simp [h0]
    clear hE hF h0
    go_enter Try.func8, Try.ntmps8
    go_wp2_with (first
      | (with_reducible show wpList _ _ _ (({ dst := _, op := .load 33 (.tmp 3), type := _, pos := _, after := _, guard := none } : Oper) :: _) _ _; refine wpList_load_gate Htw.out.gate rfl (.tmp 3) rfl rfl ?_)
      | (with_reducible show wpList _ _ _ (({ dst := _, op := .load 33 (.tmp 3), type := _, pos := _, after := _, guard := none } : Oper) :: _) _ _; refine wpList_load_gate ((B1.out.alloc _).alloc _).gate rfl (.tmp 3) rfl rfl ?_)
      | (with_reducible show wpList _ _ _ (({ dst := _, op := .load 43 (.tmp 4), type := _, pos := _, after := _, guard := none } : Oper) :: _) _ _; refine wpList_load_st Htw.out.st rfl (.tmp 4) rfl rfl ?_)
      | (with_reducible show wpList _ _ _ (({ dst := _, op := .load 45 (.tmp 5), type := _, pos := _, after := _, guard := none } : Oper) :: _) _ _; refine wpList_load_stp Htw.out.step rfl (.tmp 5) rfl rfl ?_)
      | (go_at_call 27; refine (step_any g s t _ Hok.out).mono ?_; rintro e w1 ⟨rfl, hb1⟩; rw [HE.out]; have hB1 := Htw.out.call hb1; have s0 := (cell_of_row _ _ 0 _ _ _ hB1.st).trans rfl; have t2 := (cell_of_row _ _ 2 _ _ _ hB1.step).trans rfl; have t3 := (cell_of_row _ _ 3 _ _ _ hB1.step).trans rfl; have B1 := Lib.hid hB1; have lt1 := hB1.size; have lz0 : w.heap.size < w1.heap.size := (by omega); have lz1 : w.heap.size + 1 < w1.heap.size := (by omega); have Ok1 := Lib.hid (Hok.out.below hb1 (Nat.le_refl _)); clear hB1 hb1)
      | (go_at_call 31; refine (force_call g s.pos t.outer t.inner _ ((Ok1.out.alloc _).alloc _)).mono ?_; rintro e w2 ⟨rfl, hb2⟩; rw [HF.out]; have B2 := Lib.hid (((B1.out.alloc _).alloc _).call hb2); clear hb2)
      | (go_at_call 24; refine (awake_any _).mono ?_; rintro e w3 ⟨rfl, hb3⟩; have B3 := Lib.hid (B2.out.call hb3); clear hb3))
    go_ret
    exact ⟨rfl, B3.out.below⟩
end Go.Proofs.Ythalanpmfhhhnaa
