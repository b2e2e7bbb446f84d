/-
  What a machine does: fuel, push, shut, open, hold.
-/
import Derived.Test.YtgfdindlihfidaaGreatMa
import Derived.StillTailTactics
namespace Go.Proofs.YtgfdindlihfidaaGreat
open Go.RowKit
set_option linter.unusedSimpArgs false
set_option linter.unusedVariables false
attribute [local go_sem high] run_min_z run_max_z
attribute [local go_sem ↓] run_min_z run_max_z

theorem kr_bd {g : GateV} (hg : g.Good) {p : Int} (hp : 0 ≤ p) (hp2 : p ≤ g.travel) : (0 ≤ kZ g p ∧ kZ g p ≤ (g.own.length : Int) - 2) ∧ 0 ≤ rZ g p ∧ rZ g p ≤ g.travel := by
  have t1 := hg.travel
  have l1 := hg.len
  have m1 : 0 ≤ p * ((g.own.length : Int) - 1) := Int.mul_nonneg hp (by omega)
  have k0 : 0 ≤ p * ((g.own.length : Int) - 1) / g.travel := Int.ediv_nonneg m1 (by omega)
  have k1 : p * ((g.own.length : Int) - 1) / g.travel * g.travel ≤ p * ((g.own.length : Int) - 1) := Int.ediv_mul_le _ (by omega)
  have k2 : p * ((g.own.length : Int) - 1) < (p * ((g.own.length : Int) - 1) / g.travel + 1) * g.travel := Int.lt_ediv_add_one_mul_self _ (by omega)
  have k3 : p * ((g.own.length : Int) - 1) ≤ g.travel * ((g.own.length : Int) - 1) := Int.mul_le_mul_of_nonneg_right hp2 (by omega)
  unfold rZ
  have hk : kZ g p = min (p * ((g.own.length : Int) - 1) / g.travel) ((g.own.length : Int) - 2) := rfl
  have hn : nZ g p = p * ((g.own.length : Int) - 1) := rfl
  rw [hn]
  generalize kZ g p = k at *
  refine ⟨by omega, ?_⟩
  rcases Int.le_total (p * ((g.own.length : Int) - 1) / g.travel) ((g.own.length : Int) - 2) with h | h
  · have : k = p * ((g.own.length : Int) - 1) / g.travel := by omega
    rw [this]
    rw [Int.add_mul] at k2
    omega
  · have e : k = (g.own.length : Int) - 2 := by omega
    have h2 : k * g.travel ≤ p * ((g.own.length : Int) - 1) / g.travel * g.travel := Int.mul_le_mul_of_nonneg_right (by omega) (by omega)
    have e2 : (g.own.length : Int) - 1 = k + 1 := by omega
    have h3 : g.travel * ((g.own.length : Int) - 1) = k * g.travel + g.travel := by rw [e2, Int.mul_add, Int.mul_comm g.travel k]; omega
    omega

/-- The levels of a step are levels. -/
structure Stp.Lv (t : Stp) : Prop where
  outer : -20000 ≤ t.outer ∧ t.outer ≤ 20000
  inner : -20000 ≤ t.inner ∧ t.inner ≤ 20000

/-- The numbers of a state of a valid gate. -/
structure St.Ok (s : St) (g : GateV) : Prop where
  pos : 0 ≤ s.pos ∧ s.pos ≤ g.travel
  charge : 0 ≤ s.charge ∧ s.charge ≤ g.cap

theorem net_bd {g : GateV} (hg : g.Good) {p o i : Int} (hp : 0 ≤ p) (hp2 : p ≤ g.travel) (ho : -20000 ≤ o ∧ o ≤ 20000) (hi : -20000 ≤ i ∧ i ≤ 20000) :
    -3000000000 ≤ netZ g p o i ∧ netZ g p o i ≤ 3000000000 := by
  obtain ⟨hk, hr⟩ := kr_bd hg hp hp2
  have t1 := hg.travel
  have a1 := mul_bd (a := ownZ' g (kZ g p)) (b := g.travel - rZ g p) (A := 200000) (B := 5000) (hg.own _).1 (hg.own _).2 (by omega) (by omega)
  have a2 := mul_bd (a := ownZ' g (kZ g p + 1)) (b := rZ g p) (A := 200000) (B := 5000) (hg.own _).1 (hg.own _).2 (by omega) (by omega)
  have a3 := ediv_bd (a := ownZ' g (kZ g p) * (g.travel - rZ g p) + ownZ' g (kZ g p + 1) * rZ g p) (b := g.travel) (A := 2000000000) (by omega) (by omega) (by omega)
  have a4 := mul_bd0 (a := g.float) (b := min (max (min o i - edgeZ g p) 0) g.height) (A := 10000) (B := 30000) (by have := hg.float; omega) (by have := hg.float; omega) (by have := hg.height; omega) (by have := hg.height; omega)
  have a5 := ediv_bd (a := g.float * min (max (min o i - edgeZ g p) 0) g.height) (b := 1000) (A := 300000000) (by omega) (by omega) (by omega)
  have a6 := mul_bd (a := g.push) (b := o - i) (A := 10000) (B := 40000) (by have := hg.push; omega) (by have := hg.push; omega) (by omega) (by omega)
  have a7 := ediv_bd (a := g.push * (o - i)) (b := 1000) (A := 400000000) (by omega) (by omega) (by omega)
  unfold netZ own0Z floatZ
  split <;> omega
theorem rub_bd {g : GateV} (hg : g.Good) {p o i : Int} (ho : -20000 ≤ o ∧ o ≤ 20000) (hi : -20000 ≤ i ∧ i ≤ 20000) :
    0 ≤ rubZ g p o i ∧ rubZ g p o i ≤ 30000000000000 := by
  have m9 := mul_bd0 (a := g.slide) (b := max o i - min o i) (A := 10000) (B := 40000) (by have := hg.slide; omega) (by have := hg.slide; omega) (by omega) (by omega)
  have bW : 0 ≤ wetZ g p o i ∧ wetZ g p o i ≤ 30000 := by have := hg.height; unfold wetZ; omega
  have m10 := mul_bd0 m9.1 m9.2 bW.1 bW.2
  have bR := ediv_bd (a := g.slide * (max o i - min o i) * wetZ g p o i + 999999) (b := 1000000) (A := 20000000000000) (by omega) (by omega) (by omega)
  have bR0 : 0 ≤ (g.slide * (max o i - min o i) * wetZ g p o i + 999999) / 1000000 := Int.ediv_nonneg (by omega) (by omega)
  have := hg.sealing
  unfold rubZ
  omega

/-- The oil for so many cm. -/
def fuelZ (g : GateV) (cm : Int) : Int := (cm * g.use + 99) / 100
/-- How far a gate goes under a force in its direction, of a way that is left, and the oil. -/
def pushZ (g : GateV) (s : St) (t : Stp) (rub force left : Int) : Int × Int :=
  if rub < force then (min g.gravity left, 0)
  else if t.power = false ∨ force + g.drive ≤ rub then (0, 0)
  else if 0 < g.use then (min g.speed (min left (s.charge * 100 / g.use)), fuelZ g (min g.speed (min left (s.charge * 100 / g.use))))
  else (min g.speed left, fuelZ g (min g.speed left))

theorem pushZ_bd {g : GateV} {s : St} {t : Stp} (hg : g.Good) (rub force left : Int) (hl : 0 ≤ left) (hc : 0 ≤ s.charge) : 0 ≤ (pushZ g s t rub force left).1 ∧ (pushZ g s t rub force left).1 ≤ left := by
  have h1 := hg.gravity
  have h2 := hg.speed
  unfold pushZ
  split
  · simp only; omega
  · split
    · simp only; omega
    · split
      · rename_i h3
        have := Int.ediv_nonneg (a := s.charge * 100) (b := g.use) (by omega) (by omega)
        simp only; omega
      · simp only; omega
theorem MachIn.cell {w : World} {M : Nat} {g : GateV} {s : St} {t : Stp} {net rub oil : Int} (hm : MachIn w M g s t net rub oil) (k : Nat) (v : Value)
    (h : (machCells g s t net rub oil)[k]? = some v) : w.cell? ⟨M, k, none⟩ = some v :=
  (cell_of_row w M k _ _ _ hm.blk).trans h
theorem MachIn.drewN {w : World} {M : Nat} {g : GateV} {s : St} {t : Stp} {net rub oil : Int} (hm : MachIn w M g s t net rub oil) (n : Nat) : MachIn (w.drewN n) M g s t net rub oil := ⟨hm.lt, hm.blk⟩
theorem MachIn.frozen {w : World} {M : Nat} {g : GateV} {s : St} {t : Stp} {net rub oil : Int} (hm : MachIn w M g s t net rub oil) (k : Nat) : w.frozen? ⟨M, k, none⟩ = false := frozen_of_row w M k _ _ hm.blk
theorem MachIn.setOil {w : World} {M : Nat} {g : GateV} {s : St} {t : Stp} {net rub oil : Int} (hm : MachIn w M g s t net rub oil) (o : Int) : MachIn (w.setCell ⟨M, 30, none⟩ (.int .i64 o)) M g s t net rub o :=
  ⟨by simpa [World.setCell] using hm.lt, heap_setCell_same w M 30 _ _ _ hm.blk⟩

theorem fuel_any (M : Nat) (g : GateV) (s : St) (t : Stp) (net rub oil : Int) (cm : Int) (w : World) (hm : MachIn w M g s t net rub oil) (hg : g.Good) (h0 : 0 ≤ cm) (h1 : cm ≤ 100) :
    Calls Tryz.prog 86 #[.pointer (some ⟨M, 0, none⟩), .int .i64 cm] w fun e w' => e = .returned (.int .i64 (fuelZ g cm)) ∧ w = w' := by
  have c15 := hm.cell 15 _ rfl
  have m1 := mul_bd0 (a := cm) (b := g.use) (A := 100) (B := 100000) h0 h1 hg.use.1 hg.use.2
  obtain ⟨m1a, m1b⟩ := m1
  have hm2 := Lib.hid hm
  clear hg hm
  go_enter Tryz.func86, Tryz.ntmps86
  go_wp2
  go_ret
  exact ⟨rfl, rfl⟩

set_option maxRecDepth 100000 in
set_option maxHeartbeats 4000000 in
theorem push_any (M : Nat) (g : GateV) (s : St) (t : Stp) (net rub : Int) (force left : Int) (w : World) (hm : MachIn w M g s t net rub 0) (hg : g.Good)
    (hf : -3000000000 ≤ force ∧ force ≤ 3000000000) (hr : 0 ≤ rub ∧ rub ≤ 30000000000000) (hl : 0 ≤ left ∧ left ≤ 5000) (hc : 0 ≤ s.charge ∧ s.charge ≤ 100000) :
    Calls Tryz.prog 79 #[.pointer (some ⟨M, 0, none⟩), .int .i64 force, .int .i64 left] w fun e w' =>
      e = .returned (.int .i64 (pushZ g s t rub force left).1) ∧ MachIn w' M g s t net rub (pushZ g s t rub force left).2 ∧ Below M w w' := by
  have c11 := hm.cell 11 _ rfl
  have c13 := hm.cell 13 _ rfl
  have c14 := hm.cell 14 _ rfl
  have c15 := hm.cell 15 _ rfl
  have c22 := hm.cell 22 _ rfl
  have c25 := hm.cell 25 _ rfl
  have c29 := hm.cell 29 _ rfl
  have Hm := Lib.hid hm
  have Hg := Lib.hid hg
  have hdr := hg.drive
  have hsp := hg.speed
  have hus := hg.use
  obtain ⟨hf1, hf2⟩ := hf
  obtain ⟨hr1, hr2⟩ := hr
  obtain ⟨hl1, hl2⟩ := hl
  obtain ⟨hc1, hc2⟩ := hc
  obtain ⟨hd1, hd2⟩ := hdr
  obtain ⟨hsp1, hsp2⟩ := hsp
  obtain ⟨hus1, hus2⟩ := hus
  clear hm hg
  by_cases h1 : rub < force
  · have hp : pushZ g s t rub force left = (min g.gravity left, 0) := by rw [pushZ, if_pos h1]
    rw [hp]
    clear hp
    go_enter Tryz.func79, Tryz.ntmps79
    go_wp2
    go_ret
    exact ⟨rfl, Hm.out, Below.refl _ _⟩
  · by_cases hpw : t.power = false
    · have hp : pushZ g s t rub force left = (0, 0) := by rw [pushZ, if_neg h1, if_pos (.inl hpw)]
      rw [hp]
      clear hp
      go_enter Tryz.func79, Tryz.ntmps79
      go_wp2
      go_quiet (fail)
      go_wp2
      go_ret
      exact ⟨rfl, Hm.out.drewN _, below_drewN (Below.refl _ _) _⟩
    · simp only [Bool.not_eq_false] at hpw
      by_cases h2 : force + g.drive ≤ rub
      · have hp : pushZ g s t rub force left = (0, 0) := by rw [pushZ, if_neg h1, if_pos (.inr h2)]
        rw [hp]
        clear hp
        go_enter Tryz.func79, Tryz.ntmps79
        go_wp2
        go_quiet (fail)
        go_wp2
        go_ret
        exact ⟨rfl, Hm.out.drewN _, below_drewN (Below.refl _ _) _⟩
      · by_cases h3 : 0 < g.use
        · have hp : pushZ g s t rub force left = (min g.speed (min left (s.charge * 100 / g.use)), fuelZ g (min g.speed (min left (s.charge * 100 / g.use)))) := by rw [pushZ, if_neg h1, if_neg (by simp [hpw]; omega), if_pos h3]
          rw [hp]
          clear hp
          have q0 : 0 ≤ s.charge * 100 / g.use := Int.ediv_nonneg (by omega) (by omega)
          have q1 := ediv_bd (a := s.charge * 100) (b := g.use) (A := 10000000) (by omega) (by omega) (by omega)
          obtain ⟨q1a, q1b⟩ := q1
          go_enter Tryz.func79, Tryz.ntmps79
          go_wp2
          go_quiet (fail)
          go_wp2
          go_quiet (fail)
          have cf := Hm.out.frozen 30
          have c30 := Hm.out.cell 30 _ rfl
          go_wp2_with (go_at_call 86; refine (fuel_any M g s t net rub 0 _ _ (Hm.out.drewN _) Hg.out (by omega) (by omega)).mono ?_; rintro e w' ⟨rfl, rfl⟩)
          go_ret
          exact ⟨rfl, (Hm.out.drewN _).setOil _, (below_drewN (Below.refl M w) _).setCell (p := ⟨M, 30, none⟩) (Nat.le_refl _) _⟩
        · have hp : pushZ g s t rub force left = (min g.speed left, fuelZ g (min g.speed left)) := by rw [pushZ, if_neg h1, if_neg (by simp [hpw]; omega), if_neg h3]
          rw [hp]
          clear hp
          go_enter Tryz.func79, Tryz.ntmps79
          go_wp2
          go_quiet (fail)
          have cf := Hm.out.frozen 30
          have c30 := Hm.out.cell 30 _ rfl
          go_wp2_with (go_at_call 86; refine (fuel_any M g s t net rub 0 _ _ (Hm.out.drewN _) Hg.out (by omega) (by omega)).mono ?_; rintro e w' ⟨rfl, rfl⟩)
          go_ret
          exact ⟨rfl, (Hm.out.drewN _).setOil _, (below_drewN (Below.refl M w) _).setCell (p := ⟨M, 30, none⟩) (Nat.le_refl _) _⟩

set_option maxRecDepth 100000 in
set_option maxHeartbeats 4000000 in
theorem shut_any (M : Nat) (g : GateV) (s : St) (t : Stp) (net rub : Int) (w : World) (hm : MachIn w M g s t net rub 0) (hg : g.Good)
    (hf : -3000000000 ≤ net ∧ net ≤ 3000000000) (hr : 0 ≤ rub ∧ rub ≤ 30000000000000) (hp : 0 ≤ s.pos ∧ s.pos ≤ g.travel) (hc : 0 ≤ s.charge ∧ s.charge ≤ 100000) :
    Calls Tryz.prog 64 #[.pointer (some ⟨M, 0, none⟩)] w fun e w' =>
      e = .returned (.int .i64 (pushZ g s t rub net (g.travel - s.pos)).1) ∧ MachIn w' M g s t net rub (pushZ g s t rub net (g.travel - s.pos)).2 ∧ Below M w w' := by
  have c2 := hm.cell 2 _ rfl
  have c21 := hm.cell 21 _ rfl
  have c28 := hm.cell 28 _ rfl
  have ht := hg.travel
  have Hm := Lib.hid hm
  have Hg := Lib.hid hg
  have Hf := Lib.hid hf
  have Hr := Lib.hid hr
  have Hc := Lib.hid hc
  obtain ⟨hp1, hp2⟩ := hp
  obtain ⟨ht1, ht2⟩ := ht
  clear hm hg hf hr hc
  go_enter Tryz.func64, Tryz.ntmps64
  go_wp2
  go_still_tail 16, (by kernel_rfl)
  go_wp2_with (go_at_call 79; refine (push_any M g s t net rub net (g.travel - s.pos) _ (Hm.out.drewN 1) Hg.out Hf.out Hr.out (by omega) Hc.out).mono ?_; rintro e w1 ⟨rfl, hm1, hb1⟩)
  go_ret
  exact ⟨rfl, hm1, (below_drewN (Below.refl M w) 1).trans hb1⟩

set_option maxRecDepth 100000 in
set_option maxHeartbeats 4000000 in
theorem open_any (M : Nat) (g : GateV) (s : St) (t : Stp) (net rub : Int) (w : World) (hm : MachIn w M g s t net rub 0) (hg : g.Good)
    (hf : -3000000000 ≤ net ∧ net ≤ 3000000000) (hr : 0 ≤ rub ∧ rub ≤ 30000000000000) (hp : 0 ≤ s.pos ∧ s.pos ≤ g.travel) (hc : 0 ≤ s.charge ∧ s.charge ≤ 100000) :
    Calls Tryz.prog 65 #[.pointer (some ⟨M, 0, none⟩)] w fun e w' =>
      e = .returned (.int .i64 (-(pushZ g s t rub (-net) s.pos).1)) ∧ MachIn w' M g s t net rub (pushZ g s t rub (-net) s.pos).2 ∧ Below M w w' := by
  have hq := pushZ_bd (t := t) hg rub (-net) s.pos hp.1 hc.1
  have c21 := hm.cell 21 _ rfl
  have c28 := hm.cell 28 _ rfl
  have ht := hg.travel
  have Hm := Lib.hid hm
  have Hg := Lib.hid hg
  have Hf := Lib.hid hf
  have Hr := Lib.hid hr
  have Hc := Lib.hid hc
  obtain ⟨hp1, hp2⟩ := hp
  obtain ⟨ht1, ht2⟩ := ht
  obtain ⟨hf1, hf2⟩ := hf
  obtain ⟨hq1, hq2⟩ := hq
  clear hm hg hr hc
  go_enter Tryz.func65, Tryz.ntmps65
  go_wp2
  go_still_tail 11, (by kernel_rfl)
  go_wp2_with (go_at_call 79; refine (push_any M g s t net rub (-net) s.pos _ (Hm.out.drewN 1) Hg.out (by omega) Hr.out (by omega) Hc.out).mono ?_; rintro e w1 ⟨rfl, hm1, hb1⟩)
  go_ret
  exact ⟨rfl, hm1, (below_drewN (Below.refl M w) 1).trans hb1⟩

/-- How a gate that is held slips. -/
def holdZ (g : GateV) (s : St) (net rub : Int) : Int :=
  if g.brake + rub < net then min g.gravity (g.travel - s.pos) else if g.brake + rub < -net then -min g.gravity s.pos else 0

set_option maxRecDepth 100000 in
set_option maxHeartbeats 4000000 in
theorem hold_any (M : Nat) (g : GateV) (s : St) (t : Stp) (net rub : Int) (w : World) (hm : MachIn w M g s t net rub 0) (hg : g.Good)
    (hf : -3000000000 ≤ net ∧ net ≤ 3000000000) (hr : 0 ≤ rub ∧ rub ≤ 30000000000000) (hp : 0 ≤ s.pos ∧ s.pos ≤ g.travel) :
    Calls Tryz.prog 63 #[.pointer (some ⟨M, 0, none⟩)] w fun e w' =>
      e = .returned (.int .i64 (holdZ g s net rub)) ∧ MachIn w' M g s t net rub 0 ∧ Below M w w' := by
  have c2 := hm.cell 2 _ rfl
  have c12 := hm.cell 12 _ rfl
  have c14 := hm.cell 14 _ rfl
  have c21 := hm.cell 21 _ rfl
  have c28 := hm.cell 28 _ rfl
  have c29 := hm.cell 29 _ rfl
  have ht := hg.travel
  have hgr := hg.gravity
  have hbr := hg.brake
  have Hm := Lib.hid hm
  obtain ⟨hp1, hp2⟩ := hp
  obtain ⟨ht1, ht2⟩ := ht
  obtain ⟨hf1, hf2⟩ := hf
  obtain ⟨hr1, hr2⟩ := hr
  obtain ⟨hg1, hg2⟩ := hgr
  obtain ⟨hb1, hb2⟩ := hbr
  clear hm hg
  by_cases h1 : g.brake + rub < net
  · have hh : holdZ g s net rub = min g.gravity (g.travel - s.pos) := by rw [holdZ, if_pos h1]
    rw [hh]
    clear hh
    go_enter Tryz.func63, Tryz.ntmps63
    go_wp2
    go_quiet (fail)
    go_wp2
    go_quiet (fail)
    go_wp2
    go_ret
    exact ⟨rfl, (Hm.out.drewN _).drewN _, below_drewN (below_drewN (Below.refl M w) _) _⟩
  · by_cases h2 : g.brake + rub < -net
    · have hh : holdZ g s net rub = -min g.gravity s.pos := by rw [holdZ, if_neg h1, if_pos h2]
      rw [hh]
      clear hh
      go_enter Tryz.func63, Tryz.ntmps63
      go_wp2
      go_quiet (fail)
      go_wp2
      go_quiet (fail)
      go_wp2
      go_quiet (fail)
      go_wp2
      go_ret
      exact ⟨rfl, ((Hm.out.drewN _).drewN _).drewN _, below_drewN (below_drewN (below_drewN (Below.refl M w) _) _) _⟩
    · have hh : holdZ g s net rub = 0 := by rw [holdZ, if_neg h1, if_neg h2]
      rw [hh]
      clear hh
      go_enter Tryz.func63, Tryz.ntmps63
      go_wp2
      go_quiet (fail)
      go_wp2
      go_quiet (fail)
      go_wp2
      go_ret
      exact ⟨rfl, (Hm.out.drewN _).drewN _, below_drewN (below_drewN (Below.refl M w) _) _⟩
end Go.Proofs.YtgfdindlihfidaaGreat
