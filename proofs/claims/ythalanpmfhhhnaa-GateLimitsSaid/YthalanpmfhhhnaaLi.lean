/-
  The walk of GateLimits: it returns true.
-/
import Derived.Test.YthalanpmfhhhnaaHe
namespace Go.Proofs.Ythalanpmfhhhnaa
open Go.RowKit
set_option linter.unusedSimpArgs false
set_option linter.unusedVariables false
attribute [local go_sem high] run_min_z run_max_z
attribute [local go_sem ↓] run_min_z run_max_z

theorem pushZ_size {g : GateV} {s : St} {t : Stp} (hg : g.Good) (hs : s.Ok g) (rub force left : Int) (hl : 0 ≤ left) :
    (pushZ g s t rub force left).1 ≤ max g.speed g.gravity ∧ (0 < (pushZ g s t rub force left).2 → t.power = true ∧ (pushZ g s t rub force left).1 ≤ g.speed ∧ (pushZ g s t rub force left).2 = fuelZ g (pushZ g s t rub force left).1) := by
  have h1 := hg.gravity
  have h2 := hg.speed
  have h3 := hg.use
  have h4 := hs.charge
  unfold pushZ
  split
  · simp only
    exact ⟨by omega, fun h => absurd h (by omega)⟩
  · split
    · simp only
      exact ⟨by omega, fun h => absurd h (by omega)⟩
    · rename_i hp
      have hpow : t.power = true := by
        cases hh : t.power with
        | true => rfl
        | false => exact absurd (.inl hh) hp
      split
      · simp only
        exact ⟨by omega, fun _ => ⟨hpow, by omega, trivial⟩⟩
      · simp only
        exact ⟨by omega, fun _ => ⟨hpow, by omega, trivial⟩⟩

theorem holdZ_size {g : GateV} {s : St} (hg : g.Good) (hs : s.Ok g) (net rub : Int) : max (holdZ g s net rub) (-(holdZ g s net rub)) ≤ max g.speed g.gravity := by
  have h1 := hg.gravity
  have h2 := hg.speed
  have h4 := hs.pos
  unfold holdZ
  split
  · omega
  · split <;> omega

/-- What GateLimits asks of how far a gate moves, and of the oil. -/
theorem move_law {g : GateV} {s : St} {t : Stp} (r : Int) (hr : r ≠ 0 → s.bolted = true) (hg : g.Good) (hs : s.Ok g) (m o : Int) (h : moveZ g s t r = (m, o)) :
    max m (-m) ≤ max g.speed g.gravity ∧ (0 < o → t.power = true ∧ t.order ≠ 0 ∧ s.bolted = false ∧ max m (-m) ≤ g.speed ∧ o = (max m (-m) * g.use + 99) / 100) ∧ (t.order = 1 → 0 ≤ m) ∧ (t.order = 2 → m ≤ 0) := by
  have h1 := hg.gravity
  have h2 := hg.speed
  have hp := hs.pos
  have hc := hs.charge
  unfold moveZ at h
  split at h
  · cases h
    exact ⟨by omega, fun h => absurd h (by omega), fun _ => by omega, fun _ => by omega⟩
  · rename_i hb
    have hb2 : s.bolted = false := by simpa using hb
    split at h
    · rename_i h0; exact absurd (hr h0) hb
    · split at h
      · rename_i _ ho
        have a := pushZ_bd (t := t) (s := s) hg (rubZ g s.pos t.outer t.inner) (netZ g s.pos t.outer t.inner) (g.travel - s.pos) (by omega) hc.1
        have b := pushZ_size (t := t) hg hs (rubZ g s.pos t.outer t.inner) (netZ g s.pos t.outer t.inner) (g.travel - s.pos) (by omega)
        rw [h] at a b
        simp only at a b
        have e : max m (-m) = m := by omega
        rw [e]
        exact ⟨b.1, fun ho' => ⟨(b.2 ho').1, by omega, hb2, (b.2 ho').2.1, (b.2 ho').2.2⟩, fun _ => a.1, fun _ => by omega⟩
      · split at h
        · rename_i _ _ ho
          have a := pushZ_bd (t := t) (s := s) hg (rubZ g s.pos t.outer t.inner) (-netZ g s.pos t.outer t.inner) s.pos (by omega) hc.1
          have b := pushZ_size (t := t) hg hs (rubZ g s.pos t.outer t.inner) (-netZ g s.pos t.outer t.inner) s.pos (by omega)
          revert a b h
          generalize pushZ g s t (rubZ g s.pos t.outer t.inner) (-netZ g s.pos t.outer t.inner) s.pos = z
          intro h a b
          simp only [Prod.mk.injEq] at h
          obtain ⟨rfl, rfl⟩ := h
          have e : max (-z.1) (- -z.1) = z.1 := by omega
          rw [e]
          exact ⟨b.1, fun ho' => ⟨(b.2 ho').1, by omega, hb2, (b.2 ho').2.1, (b.2 ho').2.2⟩, fun _ => by omega, fun _ => by omega⟩
        · rename_i h11 h12
          have a := holdZ_size hg hs (netZ g s.pos t.outer t.inner) (rubZ g s.pos t.outer t.inner)
          cases h
          exact ⟨a, fun h => absurd h (by omega), fun h => absurd h h11, fun h => absurd h h12⟩

/-- All that GateLimits asks. -/
structure LimZ (g : GateV) (s : St) (t : Stp) (x : St) (y : Mvd) : Prop where
  p0 : 0 ≤ x.pos
  p1 : x.pos ≤ g.travel
  c0 : 0 ≤ x.charge
  c1 : x.charge ≤ g.cap
  ps : x.pos = s.pos + y.moved
  sz : max y.moved (-y.moved) ≤ max g.speed g.gravity
  bo : x.bolted = s.bolted
  o0 : 0 ≤ y.oil
  o1 : y.oil ≤ s.charge
  cp : t.power = true → x.charge = min (s.charge - y.oil + g.pump) g.cap
  cn : t.power = false → x.charge = min (s.charge - y.oil) g.cap
  ol : 0 < y.oil → t.power = true ∧ t.order ≠ 0 ∧ s.bolted = false ∧ max y.moved (-y.moved) ≤ g.speed ∧ y.oil = (max y.moved (-y.moved) * g.use + 99) / 100
  r1 : t.order = 1 → 0 ≤ y.moved
  r2 : t.order = 2 → y.moved ≤ 0
  rf : y.refused = boltE s t
theorem lim_law {g : GateV} {s : St} {t : Stp} (hg : g.Good) (hs : s.Ok g) : LimZ g s t (aloneZ g s t).1 (aloneZ g s t).2 := by
  have hok := aloneZ_ok (t := t) hg hs
  have hm := moveZ_ok (t := t) (boltE s t) hg hs
  have hr : boltE s t ≠ 0 → s.bolted = true := fun h => by
    unfold boltE at h
    split at h
    · rename_i hh; exact hh.1
    · exact absurd rfl h
  obtain ⟨m, o, hmo⟩ : ∃ m o, moveZ g s t (boltE s t) = (m, o) := ⟨_, _, rfl⟩
  have hl := move_law (boltE s t) hr hg hs m o hmo
  have hcap := hs.charge
  have hpump := hg.pump
  rw [hmo] at hm
  have e1 : (aloneZ g s t).2.moved = m := by simp [aloneZ, doZ, hmo]
  have e2 : (aloneZ g s t).2.oil = o := by simp [aloneZ, doZ, hmo]
  have e3 : (aloneZ g s t).2.refused = boltE s t := by simp [aloneZ, doZ]
  have e4 : (aloneZ g s t).1.pos = s.pos + m := by simp [aloneZ, doZ, hmo]
  have e5 : (aloneZ g s t).1.bolted = s.bolted := by simp [aloneZ, doZ]
  have e6 : (aloneZ g s t).1.charge = if t.power = true then min (s.charge - o + g.pump) g.cap else s.charge - o := by simp [aloneZ, doZ, hmo]
  refine ⟨hok.pos.1, hok.pos.2, hok.charge.1, hok.charge.2, by rw [e4, e1], by rw [e1]; exact hl.1, e5, by rw [e2]; exact hm.2.1, by rw [e2]; exact hm.2.2, fun h => by rw [e6, if_pos h, e2], fun h => by rw [e6, if_neg (by simp [h]), e2]; simp only at hm; omega, by rw [e1, e2]; exact hl.2.1, by rw [e1]; exact hl.2.2.1, by rw [e1]; exact hl.2.2.2, e3⟩

theorem step_err {g : GateV} {s : St} {t : Stp} (h : (stepZ g s t).2.2 ≠ 0) : (stepZ g s t).1 = ⟨0, 0, false⟩ ∧ (stepZ g s t).2.1 = ⟨0, 0, 0⟩ := by
  unfold stepZ at h ⊢
  split
  · exact ⟨rfl, rfl⟩
  · split
    · exact ⟨rfl, rfl⟩
    · rename_i h1 h2
      rw [if_neg h1, if_neg h2] at h
      exact absurd rfl h

set_option maxRecDepth 100000 in
set_option maxHeartbeats 4000000 in
theorem limits_err (g : GateV) (s : St) (t : Stp) (w : World) (hok : g.Ok w) (h0 : (stepZ g s t).2.2 ≠ 0) :
    Calls Try.prog 5 #[g.val, s.val, t.val] w fun e w' => e = .returned (.bool true) ∧ Below w.heap.size w w' := by
  have htw := Tw.new w g s t
  have Htw := Lib.hid htw
  have Hok := Lib.hid (hok.below htw.below (Nat.le_refl _))
  clear hok htw
  obtain ⟨e1, e2⟩ := step_err h0
  obtain ⟨E, hE⟩ : ∃ E, E = (stepZ g s t).2.2 := ⟨_, rfl⟩
  have hst : stepZ g s t = (⟨0, 0, false⟩, ⟨0, 0, 0⟩, E) := by rw [hE, ← e1, ← e2]
  have HE := Lib.hid hst
  have h1 : (E != 0) = true := by rw [hE]; simp [h0]
  clear e1 e2 hE hst h0
  go_enter Try.func5, Try.ntmps5
  go_wp2_with (first
      | (with_reducible show wpList _ _ _ (({ dst := _, op := .load 33 (.tmp 3), type := _, pos := _, after := _, guard := none } : Oper) :: _) _ _; refine wpList_load_gate Htw.out.gate rfl (.tmp 3) rfl rfl ?_)
      | (with_reducible show wpList _ _ _ (({ dst := _, op := .load 43 (.tmp 4), type := _, pos := _, after := _, guard := none } : Oper) :: _) _ _; refine wpList_load_st Htw.out.st rfl (.tmp 4) rfl rfl ?_)
      | (with_reducible show wpList _ _ _ (({ dst := _, op := .load 45 (.tmp 5), type := _, pos := _, after := _, guard := none } : Oper) :: _) _ _; refine wpList_load_stp Htw.out.step rfl (.tmp 5) rfl rfl ?_)
      | (go_at_call 27; refine (step_any g s t _ Hok.out).mono ?_; rintro e w1 ⟨rfl, hb1⟩; rw [HE.out]; have hB1 := Htw.out.call hb1; have s0 := (cell_of_row _ _ 0 _ _ _ hB1.st).trans rfl; have s1 := (cell_of_row _ _ 1 _ _ _ hB1.st).trans rfl; have s2 := (cell_of_row _ _ 2 _ _ _ hB1.st).trans rfl; have t0 := (cell_of_row _ _ 0 _ _ _ hB1.step).trans rfl; have t1 := (cell_of_row _ _ 1 _ _ _ hB1.step).trans rfl; have g2 := hB1.gate.cell 2 _ rfl; have g13 := hB1.gate.cell 13 _ rfl; have g14 := hB1.gate.cell 14 _ rfl; have g15 := hB1.gate.cell 15 _ rfl; have g16 := hB1.gate.cell 16 _ rfl; have g17 := hB1.gate.cell 17 _ rfl; have B1 := Lib.hid hB1; have lt1 := hB1.size; have lz0 : w.heap.size < w1.heap.size := (by omega); have lz1 : w.heap.size + 1 < w1.heap.size := (by omega); clear hB1 hb1)
      | (go_at_call 24; refine (awake_any _).mono ?_; rintro e w3 ⟨rfl, hb3⟩; (first | have B3 := Lib.hid (((B1.out.alloc _).alloc _).call hb3) | have B3 := Lib.hid ((((B1.out.alloc _).alloc _).call (below_drewN (Below.refl _ _) _)).call hb3)); clear hb3))
  go_ret
  exact ⟨rfl, B3.out.below⟩

set_option maxRecDepth 100000 in
set_option maxHeartbeats 8000000 in
theorem limits_ok (g : GateV) (s : St) (t : Stp) (w : World) (hok : g.Ok w) (h0 : (stepZ g s t).2.2 = 0) :
    Calls Try.prog 5 #[g.val, s.val, t.val] w fun e w' => e = .returned (.bool true) ∧ Below w.heap.size w w' := by
  have htw := Tw.new w g s t
  have Htw := Lib.hid htw
  have Hok := Lib.hid (hok.below htw.below (Nat.le_refl _))
  clear hok htw
  obtain ⟨hg, hs, ht, ho, hst, _⟩ := step_force h0
  have hl := lim_law (t := t) hg hs
  obtain ⟨x, hx⟩ : ∃ x, x = (aloneZ g s t).1 := ⟨_, rfl⟩
  obtain ⟨y, hy⟩ : ∃ y, y = (aloneZ g s t).2 := ⟨_, rfl⟩
  rw [← hx, ← hy] at hl hst
  have HE := Lib.hid hst
  obtain ⟨p0, p1, c0, c1, ps, sz, bo, o0, o1, cp, cn, ol, r1, r2, rf⟩ := hl
  have hps := hs.pos
  have hch := hs.charge
  have htr := hg.travel
  have hcap := hg.cap
  have hpm := hg.pump
  have hus := hg.use
  have hsp := hg.speed
  have hgr := hg.gravity
  clear hx hy hst ht h0 hs hg
  have f1 : decide (x.pos < 0) = false := by simp; omega
  have f2 : decide (x.pos > g.travel) = false := by simp; omega
  have f3 : decide (x.charge < 0) = false := by simp; omega
  have f4 : decide (x.charge > g.cap) = false := by simp; omega
  have f5 : (x.pos != s.pos + y.moved) = false := by simp [ps]
  have w5 : IntKind.i64.wrap (s.pos + y.moved) = s.pos + y.moved := by rw [IntKind.wrap_i64]; omega
  have f6 : decide (max y.moved (-y.moved) > max g.speed g.gravity) = false := by simp only [gt_iff_lt, decide_eq_false_iff_not]; omega
  have f7 : (x.bolted != s.bolted) = false := by simp [bo]
  have q1 : decide (y.oil < 0) = false := by simp; omega
  have q2 : decide (y.oil > s.charge) = false := by simp; omega
  have w6 : IntKind.i64.wrap (s.charge - y.oil) = s.charge - y.oil := by rw [IntKind.wrap_i64]; omega
  have w7 : IntKind.i64.wrap (s.charge - y.oil + g.pump) = s.charge - y.oil + g.pump := by rw [IntKind.wrap_i64]; omega
  have k3 : (x.charge != min (s.charge - y.oil + if t.power = true then g.pump else 0) g.cap) = false := by
    cases hpw : t.power with
    | true => simp [cp hpw]
    | false => simp [cn hpw]
  have hmv : -5000 ≤ y.moved ∧ y.moved ≤ 5000 := by omega
  have k13 : (t.order = 1 ∧ decide (y.moved < 0) = false ∧ (t.order == 1) = true ∧ (t.order == 2) = false ∧ (t.order == 0) = false ∧ (t.order != 0) = true) ∨ (t.order = 2 ∧ decide (y.moved > 0) = false ∧ (t.order == 1) = false ∧ (t.order == 2) = true ∧ (t.order == 0) = false ∧ (t.order != 0) = true) ∨ (t.order = 0 ∧ (t.order == 1) = false ∧ (t.order == 2) = false ∧ (t.order == 0) = true ∧ (t.order != 0) = false) := by
    have h3 : t.order = 1 ∨ t.order = 2 ∨ t.order = 0 := by omega
    rcases h3 with h3 | h3 | h3
    · exact .inl ⟨h3, by have := r1 h3; simp; omega, by simp [h3], by simp [h3], by simp [h3], by simp [h3]⟩
    · exact .inr (.inl ⟨h3, by have := r2 h3; simp; omega, by simp [h3], by simp [h3], by simp [h3], by simp [h3]⟩)
    · exact .inr (.inr ⟨h3, by simp [h3], by simp [h3], by simp [h3], by simp [h3]⟩)
  have hol : (decide (y.oil > 0) = false) ∨ (decide (y.oil > 0) = true ∧ t.power = true ∧ s.bolted = false ∧ t.order ≠ 0 ∧ decide (max y.moved (-y.moved) > g.speed) = false ∧ IntKind.i64.wrap (max y.moved (-y.moved) * g.use) = max y.moved (-y.moved) * g.use ∧ IntKind.i64.wrap (max y.moved (-y.moved) * g.use + 99) = max y.moved (-y.moved) * g.use + 99 ∧ (y.oil != (max y.moved (-y.moved) * g.use + 99) / 100) = false ∧ 0 ≤ max y.moved (-y.moved) * g.use ∧ 0 ≤ max y.moved (-y.moved) * g.use + 99 ∧ IntKind.i64.wrap ((max y.moved (-y.moved) * g.use + 99).tdiv 100) = y.oil) := by
    by_cases h : 0 < y.oil
    · obtain ⟨a, b, c, d, e⟩ := ol h
      have m1 := mul_bd0 (a := max y.moved (-y.moved)) (b := g.use) (A := 100) (B := 100000) (by omega) (by omega) hus.1 hus.2
      exact .inr ⟨by simpa using h, a, c, b, by simp only [gt_iff_lt, decide_eq_false_iff_not]; omega, by rw [IntKind.wrap_i64]; omega, by rw [IntKind.wrap_i64]; omega, by rw [← e]; simp, by omega, by omega, by rw [Int.tdiv_eq_ediv_of_nonneg (by omega), ← e, IntKind.wrap_i64]; omega⟩
    · exact .inl (by simpa using h)
  clear cp cn ol r1 r2 ps sz
  rcases hol with q3 | ⟨q3, hpw, hbo, q6, q7, q8, q9, q10, q11, q12, q13⟩
  · cases hpw : t.power
    all_goals cases hbo : s.bolted
    all_goals rcases k13 with ⟨k4, k5, k6, k7, k8, k9⟩ | ⟨k4, k5, k6, k7, k8, k9⟩ | ⟨k4, k6, k7, k8, k9⟩
    all_goals
      have rv := rf
      have bx := bo.trans hbo
      simp [boltE, hbo, k4] at rv
      simp only [hpw, hbo, if_true, if_false, Bool.false_eq_true, Int.add_zero] at k3
      clear f7 bo
      clear rf hps hch htr hcap hpm hus hsp hgr p0 p1 c0 c1 o0 o1 ho
      go_enter Try.func5, Try.ntmps5
      go_upto_region 4 with (first
        | (with_reducible show wpList _ _ _ (({ dst := _, op := .load 33 (.tmp 3), type := _, pos := _, after := _, guard := none } : Oper) :: _) _ _; refine wpList_load_gate Htw.out.gate rfl (.tmp 3) rfl rfl ?_)
        | (with_reducible show wpList _ _ _ (({ dst := _, op := .load 43 (.tmp 4), type := _, pos := _, after := _, guard := none } : Oper) :: _) _ _; refine wpList_load_st Htw.out.st rfl (.tmp 4) rfl rfl ?_)
        | (with_reducible show wpList _ _ _ (({ dst := _, op := .load 45 (.tmp 5), type := _, pos := _, after := _, guard := none } : Oper) :: _) _ _; refine wpList_load_stp Htw.out.step rfl (.tmp 5) rfl rfl ?_)
        | (go_at_call 27; refine (step_any g s t _ Hok.out).mono ?_; rintro e w1 ⟨rfl, hb1⟩; rw [HE.out]; have hB1 := Htw.out.call hb1; have s0 := (cell_of_row _ _ 0 _ _ _ hB1.st).trans rfl; have s1 := (cell_of_row _ _ 1 _ _ _ hB1.st).trans rfl; have s2 := (cell_of_row _ _ 2 _ _ _ hB1.st).trans rfl; have t0 := (cell_of_row _ _ 0 _ _ _ hB1.step).trans rfl; have t1 := (cell_of_row _ _ 1 _ _ _ hB1.step).trans rfl; have g2 := hB1.gate.cell 2 _ rfl; have g13 := hB1.gate.cell 13 _ rfl; have g14 := hB1.gate.cell 14 _ rfl; have g15 := hB1.gate.cell 15 _ rfl; have g16 := hB1.gate.cell 16 _ rfl; have g17 := hB1.gate.cell 17 _ rfl; have B1 := Lib.hid hB1; have lt1 := hB1.size; have lz0 : w.heap.size < w1.heap.size := (by omega); have lz1 : w.heap.size + 1 < w1.heap.size := (by omega); clear hB1 hb1)
        | (go_at_call 24; refine (awake_any _).mono ?_; rintro e w3 ⟨rfl, hb3⟩; (first | have B3 := Lib.hid (((B1.out.alloc _).alloc _).call hb3) | have B3 := Lib.hid ((((B1.out.alloc _).alloc _).call (below_drewN (Below.refl _ _) _)).call hb3)); clear hb3))
      go_quiet ((go_at_call 28; first | exact quiet_add_left (size_any _ _ (by omega) (by omega)) | exact quiet_left (size_any _ _ (by omega) (by omega))))
      go_wp2_with (first
        | (with_reducible show wpList _ _ _ (({ dst := _, op := .load 33 (.tmp 3), type := _, pos := _, after := _, guard := none } : Oper) :: _) _ _; refine wpList_load_gate Htw.out.gate rfl (.tmp 3) rfl rfl ?_)
        | (with_reducible show wpList _ _ _ (({ dst := _, op := .load 43 (.tmp 4), type := _, pos := _, after := _, guard := none } : Oper) :: _) _ _; refine wpList_load_st Htw.out.st rfl (.tmp 4) rfl rfl ?_)
        | (with_reducible show wpList _ _ _ (({ dst := _, op := .load 45 (.tmp 5), type := _, pos := _, after := _, guard := none } : Oper) :: _) _ _; refine wpList_load_stp Htw.out.step rfl (.tmp 5) rfl rfl ?_)
        | (go_at_call 27; refine (step_any g s t _ Hok.out).mono ?_; rintro e w1 ⟨rfl, hb1⟩; rw [HE.out]; have hB1 := Htw.out.call hb1; have s0 := (cell_of_row _ _ 0 _ _ _ hB1.st).trans rfl; have s1 := (cell_of_row _ _ 1 _ _ _ hB1.st).trans rfl; have s2 := (cell_of_row _ _ 2 _ _ _ hB1.st).trans rfl; have t0 := (cell_of_row _ _ 0 _ _ _ hB1.step).trans rfl; have t1 := (cell_of_row _ _ 1 _ _ _ hB1.step).trans rfl; have g2 := hB1.gate.cell 2 _ rfl; have g13 := hB1.gate.cell 13 _ rfl; have g14 := hB1.gate.cell 14 _ rfl; have g15 := hB1.gate.cell 15 _ rfl; have g16 := hB1.gate.cell 16 _ rfl; have g17 := hB1.gate.cell 17 _ rfl; have B1 := Lib.hid hB1; have lt1 := hB1.size; have lz0 : w.heap.size < w1.heap.size := (by omega); have lz1 : w.heap.size + 1 < w1.heap.size := (by omega); clear hB1 hb1)
        | (go_at_call 24; refine (awake_any _).mono ?_; rintro e w3 ⟨rfl, hb3⟩; (first | have B3 := Lib.hid (((B1.out.alloc _).alloc _).call hb3) | have B3 := Lib.hid ((((B1.out.alloc _).alloc _).call (below_drewN (Below.refl _ _) _)).call hb3)); clear hb3))
      go_quiet ((go_at_call 28; first | exact quiet_add_left (size_any _ _ (by omega) (by omega)) | exact quiet_left (size_any _ _ (by omega) (by omega))))
      go_wp2_with (first
        | (with_reducible show wpList _ _ _ (({ dst := _, op := .load 33 (.tmp 3), type := _, pos := _, after := _, guard := none } : Oper) :: _) _ _; refine wpList_load_gate Htw.out.gate rfl (.tmp 3) rfl rfl ?_)
        | (with_reducible show wpList _ _ _ (({ dst := _, op := .load 43 (.tmp 4), type := _, pos := _, after := _, guard := none } : Oper) :: _) _ _; refine wpList_load_st Htw.out.st rfl (.tmp 4) rfl rfl ?_)
        | (with_reducible show wpList _ _ _ (({ dst := _, op := .load 45 (.tmp 5), type := _, pos := _, after := _, guard := none } : Oper) :: _) _ _; refine wpList_load_stp Htw.out.step rfl (.tmp 5) rfl rfl ?_)
        | (go_at_call 27; refine (step_any g s t _ Hok.out).mono ?_; rintro e w1 ⟨rfl, hb1⟩; rw [HE.out]; have hB1 := Htw.out.call hb1; have s0 := (cell_of_row _ _ 0 _ _ _ hB1.st).trans rfl; have s1 := (cell_of_row _ _ 1 _ _ _ hB1.st).trans rfl; have s2 := (cell_of_row _ _ 2 _ _ _ hB1.st).trans rfl; have t0 := (cell_of_row _ _ 0 _ _ _ hB1.step).trans rfl; have t1 := (cell_of_row _ _ 1 _ _ _ hB1.step).trans rfl; have g2 := hB1.gate.cell 2 _ rfl; have g13 := hB1.gate.cell 13 _ rfl; have g14 := hB1.gate.cell 14 _ rfl; have g15 := hB1.gate.cell 15 _ rfl; have g16 := hB1.gate.cell 16 _ rfl; have g17 := hB1.gate.cell 17 _ rfl; have B1 := Lib.hid hB1; have lt1 := hB1.size; have lz0 : w.heap.size < w1.heap.size := (by omega); have lz1 : w.heap.size + 1 < w1.heap.size := (by omega); clear hB1 hb1)
        | (go_at_call 24; refine (awake_any _).mono ?_; rintro e w3 ⟨rfl, hb3⟩; (first | have B3 := Lib.hid (((B1.out.alloc _).alloc _).call hb3) | have B3 := Lib.hid ((((B1.out.alloc _).alloc _).call (below_drewN (Below.refl _ _) _)).call hb3)); clear hb3))
      go_ret
      exact ⟨rfl, B3.out.below⟩
  · rcases k13 with ⟨k4, k5, k6, k7, k8, k9⟩ | ⟨k4, k5, k6, k7, k8, k9⟩ | ⟨k4, k6, k7, k8, k9⟩
    all_goals first
      | exact absurd k4 q6
      | skip
    all_goals
      have rv := rf
      have bx := bo.trans hbo
      simp [boltE, hbo, k4] at rv
      simp only [hpw, hbo, if_true, if_false, Bool.false_eq_true, Int.add_zero] at k3
      clear f7 bo
      clear rf hps hch htr hcap hpm hus hsp hgr p0 p1 c0 c1 o0 o1 ho
      go_enter Try.func5, Try.ntmps5
      go_upto_region 4 with (first
        | (with_reducible show wpList _ _ _ (({ dst := _, op := .load 33 (.tmp 3), type := _, pos := _, after := _, guard := none } : Oper) :: _) _ _; refine wpList_load_gate Htw.out.gate rfl (.tmp 3) rfl rfl ?_)
        | (with_reducible show wpList _ _ _ (({ dst := _, op := .load 43 (.tmp 4), type := _, pos := _, after := _, guard := none } : Oper) :: _) _ _; refine wpList_load_st Htw.out.st rfl (.tmp 4) rfl rfl ?_)
        | (with_reducible show wpList _ _ _ (({ dst := _, op := .load 45 (.tmp 5), type := _, pos := _, after := _, guard := none } : Oper) :: _) _ _; refine wpList_load_stp Htw.out.step rfl (.tmp 5) rfl rfl ?_)
        | (go_at_call 27; refine (step_any g s t _ Hok.out).mono ?_; rintro e w1 ⟨rfl, hb1⟩; rw [HE.out]; have hB1 := Htw.out.call hb1; have s0 := (cell_of_row _ _ 0 _ _ _ hB1.st).trans rfl; have s1 := (cell_of_row _ _ 1 _ _ _ hB1.st).trans rfl; have s2 := (cell_of_row _ _ 2 _ _ _ hB1.st).trans rfl; have t0 := (cell_of_row _ _ 0 _ _ _ hB1.step).trans rfl; have t1 := (cell_of_row _ _ 1 _ _ _ hB1.step).trans rfl; have g2 := hB1.gate.cell 2 _ rfl; have g13 := hB1.gate.cell 13 _ rfl; have g14 := hB1.gate.cell 14 _ rfl; have g15 := hB1.gate.cell 15 _ rfl; have g16 := hB1.gate.cell 16 _ rfl; have g17 := hB1.gate.cell 17 _ rfl; have B1 := Lib.hid hB1; have lt1 := hB1.size; have lz0 : w.heap.size < w1.heap.size := (by omega); have lz1 : w.heap.size + 1 < w1.heap.size := (by omega); clear hB1 hb1)
        | (go_at_call 24; refine (awake_any _).mono ?_; rintro e w3 ⟨rfl, hb3⟩; (first | have B3 := Lib.hid (((B1.out.alloc _).alloc _).call hb3) | have B3 := Lib.hid ((((B1.out.alloc _).alloc _).call (below_drewN (Below.refl _ _) _)).call hb3)); clear hb3))
      go_quiet ((go_at_call 28; first | exact quiet_add_left (size_any _ _ (by omega) (by omega)) | exact quiet_left (size_any _ _ (by omega) (by omega))))
      go_wp2_with (first
        | (with_reducible show wpList _ _ _ (({ dst := _, op := .load 33 (.tmp 3), type := _, pos := _, after := _, guard := none } : Oper) :: _) _ _; refine wpList_load_gate Htw.out.gate rfl (.tmp 3) rfl rfl ?_)
        | (with_reducible show wpList _ _ _ (({ dst := _, op := .load 43 (.tmp 4), type := _, pos := _, after := _, guard := none } : Oper) :: _) _ _; refine wpList_load_st Htw.out.st rfl (.tmp 4) rfl rfl ?_)
        | (with_reducible show wpList _ _ _ (({ dst := _, op := .load 45 (.tmp 5), type := _, pos := _, after := _, guard := none } : Oper) :: _) _ _; refine wpList_load_stp Htw.out.step rfl (.tmp 5) rfl rfl ?_)
        | (go_at_call 27; refine (step_any g s t _ Hok.out).mono ?_; rintro e w1 ⟨rfl, hb1⟩; rw [HE.out]; have hB1 := Htw.out.call hb1; have s0 := (cell_of_row _ _ 0 _ _ _ hB1.st).trans rfl; have s1 := (cell_of_row _ _ 1 _ _ _ hB1.st).trans rfl; have s2 := (cell_of_row _ _ 2 _ _ _ hB1.st).trans rfl; have t0 := (cell_of_row _ _ 0 _ _ _ hB1.step).trans rfl; have t1 := (cell_of_row _ _ 1 _ _ _ hB1.step).trans rfl; have g2 := hB1.gate.cell 2 _ rfl; have g13 := hB1.gate.cell 13 _ rfl; have g14 := hB1.gate.cell 14 _ rfl; have g15 := hB1.gate.cell 15 _ rfl; have g16 := hB1.gate.cell 16 _ rfl; have g17 := hB1.gate.cell 17 _ rfl; have B1 := Lib.hid hB1; have lt1 := hB1.size; have lz0 : w.heap.size < w1.heap.size := (by omega); have lz1 : w.heap.size + 1 < w1.heap.size := (by omega); clear hB1 hb1)
        | (go_at_call 24; refine (awake_any _).mono ?_; rintro e w3 ⟨rfl, hb3⟩; (first | have B3 := Lib.hid (((B1.out.alloc _).alloc _).call hb3) | have B3 := Lib.hid ((((B1.out.alloc _).alloc _).call (below_drewN (Below.refl _ _) _)).call hb3)); clear hb3))
      go_quiet ((go_at_call 28; first | exact quiet_add_left (size_any _ _ (by omega) (by omega)) | exact quiet_left (size_any _ _ (by omega) (by omega))))
      go_wp2_with (first
        | (with_reducible show wpList _ _ _ (({ dst := _, op := .load 33 (.tmp 3), type := _, pos := _, after := _, guard := none } : Oper) :: _) _ _; refine wpList_load_gate Htw.out.gate rfl (.tmp 3) rfl rfl ?_)
        | (with_reducible show wpList _ _ _ (({ dst := _, op := .load 43 (.tmp 4), type := _, pos := _, after := _, guard := none } : Oper) :: _) _ _; refine wpList_load_st Htw.out.st rfl (.tmp 4) rfl rfl ?_)
        | (with_reducible show wpList _ _ _ (({ dst := _, op := .load 45 (.tmp 5), type := _, pos := _, after := _, guard := none } : Oper) :: _) _ _; refine wpList_load_stp Htw.out.step rfl (.tmp 5) rfl rfl ?_)
        | (go_at_call 27; refine (step_any g s t _ Hok.out).mono ?_; rintro e w1 ⟨rfl, hb1⟩; rw [HE.out]; have hB1 := Htw.out.call hb1; have s0 := (cell_of_row _ _ 0 _ _ _ hB1.st).trans rfl; have s1 := (cell_of_row _ _ 1 _ _ _ hB1.st).trans rfl; have s2 := (cell_of_row _ _ 2 _ _ _ hB1.st).trans rfl; have t0 := (cell_of_row _ _ 0 _ _ _ hB1.step).trans rfl; have t1 := (cell_of_row _ _ 1 _ _ _ hB1.step).trans rfl; have g2 := hB1.gate.cell 2 _ rfl; have g13 := hB1.gate.cell 13 _ rfl; have g14 := hB1.gate.cell 14 _ rfl; have g15 := hB1.gate.cell 15 _ rfl; have g16 := hB1.gate.cell 16 _ rfl; have g17 := hB1.gate.cell 17 _ rfl; have B1 := Lib.hid hB1; have lt1 := hB1.size; have lz0 : w.heap.size < w1.heap.size := (by omega); have lz1 : w.heap.size + 1 < w1.heap.size := (by omega); clear hB1 hb1)
        | (go_at_call 24; refine (awake_any _).mono ?_; rintro e w3 ⟨rfl, hb3⟩; (first | have B3 := Lib.hid (((B1.out.alloc _).alloc _).call hb3) | have B3 := Lib.hid ((((B1.out.alloc _).alloc _).call (below_drewN (Below.refl _ _) _)).call hb3)); clear hb3))
      go_ret
      exact ⟨rfl, B3.out.below⟩

theorem limits_any (g : GateV) (s : St) (t : Stp) (w : World) (hok : g.Ok w) :
    Calls Try.prog 5 #[g.val, s.val, t.val] w fun e w' => e = .returned (.bool true) ∧ Below w.heap.size w w' := by
  by_cases h0 : (stepZ g s t).2.2 = 0
  · exact limits_ok g s t w hok h0
  · exact limits_err g s t w hok h0
end Go.Proofs.Ythalanpmfhhhnaa
