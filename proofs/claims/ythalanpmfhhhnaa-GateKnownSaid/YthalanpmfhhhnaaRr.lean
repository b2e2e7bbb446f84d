/-
  The reference's forces: floor, clamp, and the closing force and the friction, the same as the program's.
-/
import Derived.Test.YthalanpmfhhhnaaRp
import Derived.Test.YthalanpmfhhhnaaBk
import Derived.Deep.DeepCutAuto
namespace Go.Proofs.Ythalanpmfhhhnaa
open Go.RowKit
set_option linter.unusedSimpArgs false
set_option linter.unusedVariables false
attribute [local go_sem high] run_min_z run_max_z
attribute [local go_sem ↓] run_min_z run_max_z

theorem floor_any (a b : Int) (w : World) (hb : 1 ≤ b) (hb2 : b ≤ 1000000) (ha : -100000000000000 ≤ a) (ha2 : a ≤ 100000000000000) :
    Calls Try.prog 104 #[.int .i64 a, .int .i64 b] w fun e w' => e = .returned (.int .i64 (a / b)) ∧ w = w' := by
  by_cases h : a < 0
  · have hq := floor_neg h hb
    have h0 : 0 ≤ (-a) / b := Int.ediv_nonneg (by omega) (by omega)
    have h1 : (-a) / b ≤ -a := Int.ediv_le_self _ (by omega)
    have h2 := Int.ediv_mul_le (-a) (show b ≠ 0 by omega)
    have hs := fun h => floor_step (a := a) hb h
    have ht := fun h' => floor_stay (a := a) h hb h'
    have Hs := Lib.hid hs
    have Ht := Lib.hid ht
    have hw : IntKind.i64.wrap (a.tdiv b) = -((-a) / b) := by rw [hq, IntKind.wrap_i64]; omega
    clear hs ht hq
    generalize (-a) / b = q at *
    have hm : 0 ≤ q * b := Int.mul_nonneg h0 (by omega)
    have h3 : -q * b = -(q * b) := Int.neg_mul _ _
    have h4 : -100000000000000 ≤ -q * b := by omega
    have h5 : -q * b ≤ 0 := by omega
    have H3 := Lib.hid h3
    clear h3
    by_cases hlt : a < -q * b
    · have hr := Hs.out hlt
      have Hr := Lib.hid hr
      clear hr
      go_enter Try.func104, Try.ntmps104
      go_wp2
      go_ret
      exact ⟨ret_int Hr.out, rfl⟩
    · have hr := Ht.out hlt
      have Hr := Lib.hid hr
      clear hr
      go_enter Try.func104, Try.ntmps104
      go_wp2
      go_ret
      exact ⟨ret_int Hr.out, rfl⟩
  · have h0 : 0 ≤ a := by omega
    have h1 : 0 ≤ a / b := Int.ediv_nonneg (by omega) (by omega)
    have h2 : a / b ≤ a := Int.ediv_le_self _ (by omega)
    have h3 := Int.ediv_mul_le a (show b ≠ 0 by omega)
    have h4 : 0 ≤ a / b * b := Int.mul_nonneg h1 (by omega)
    have h5 : ¬ a < a / b * b := by omega
    go_enter Try.func104, Try.ntmps104
    go_wp2
    go_ret
    exact ⟨rfl, rfl⟩

theorem clamp_any (n most : Int) (w : World) :
    Calls Try.prog 105 #[.int .i64 n, .int .i64 most] w fun e w' => e = .returned (.int .i64 (min (max n 0) most)) ∧ w = w' := by
  go_enter Try.func105, Try.ntmps105
  go_wp2
  go_ret
  exact ⟨rfl, rfl⟩

theorem kr_lt {g : GateV} (hg : g.Good) {p : Int} (hp : 0 ≤ p) (hp2 : p < g.travel) : kZ g p = nZ g p / g.travel ∧ rZ g p = nZ g p % g.travel ∧ nZ g p / g.travel ≤ (g.own.length : Int) - 2 := by
  have t1 := hg.travel
  have l1 := hg.len
  have m1 : 0 ≤ p * ((g.own.length : Int) - 1) := Int.mul_nonneg hp (by omega)
  have m2 : p * ((g.own.length : Int) - 1) < g.travel * ((g.own.length : Int) - 1) := Int.mul_lt_mul_of_pos_right hp2 (by omega)
  have k2 : p * ((g.own.length : Int) - 1) / g.travel < (g.own.length : Int) - 1 := Int.ediv_lt_of_lt_mul (by omega) (by rw [Int.mul_comm _ g.travel]; exact m2)
  have hk : kZ g p = nZ g p / g.travel := by unfold kZ nZ; omega
  refine ⟨hk, ?_, by unfold nZ; omega⟩
  unfold rZ
  rw [hk]
  have := Int.emod_add_mul_ediv (nZ g p) g.travel
  rw [Int.mul_comm] at this
  omega
theorem own0_end {g : GateV} (hg : g.Good) : own0Z g g.travel = g.own[g.own.length - 1]?.getD 0 := by
  have t1 := hg.travel
  have l1 := hg.len
  have hk : kZ g g.travel = (g.own.length : Int) - 2 := by
    unfold kZ nZ
    rw [Int.mul_ediv_cancel_left _ (by omega)]
    omega
  have hr : rZ g g.travel = g.travel := by
    unfold rZ nZ
    rw [hk, Int.mul_comm ((g.own.length : Int) - 2), ← Int.mul_sub, show (g.own.length : Int) - 1 - ((g.own.length : Int) - 2) = 1 by omega, Int.mul_one]
  unfold own0Z
  rw [hr, hk, Int.sub_self, Int.mul_zero, Int.zero_add, Int.mul_ediv_cancel _ (by omega)]
  unfold ownZ'
  rw [show ((g.own.length : Int) - 2 + 1).toNat = g.own.length - 1 by omega]

/-- The friction, as the reference has it. -/
theorem rub_ref (g : GateV) (p o i x : Int) (hx : x = max (o - i) (i - o)) : g.sealing - (-g.slide * x * wetZ g p o i) / 1000000 = rubZ g p o i := by
  subst hx
  unfold rubZ
  rw [show max (o - i) (i - o) = max o i - min o i by omega, show -g.slide * (max o i - min o i) * wetZ g p o i = -(g.slide * (max o i - min o i) * wetZ g p o i) by rw [Int.neg_mul, Int.neg_mul]]
  generalize g.slide * (max o i - min o i) * wetZ g p o i = y
  omega

set_option maxRecDepth 100000 in
set_option maxHeartbeats 4000000 in
theorem rforces_any (g : GateV) (p o i : Int) (w : World) (hown : IntsAt w g.ownA g.own) (hg : g.Good)
    (hp : 0 ≤ p) (hp2 : p ≤ g.travel) (ho : -20000 ≤ o ∧ o ≤ 20000) (hi : -20000 ≤ i ∧ i ≤ 20000) :
    Calls Try.prog 87 #[g.val, .int .i64 p, .int .i64 o, .int .i64 i] w fun e w' => e = .returned (.tuple #[.int .i64 (netZ g p o i), .int .i64 (rubZ g p o i)]) ∧ Below w.heap.size w w' := by
  have t1 := hg.travel.1
  have t2 := hg.travel.2
  have l1 := hg.len.1
  have l2 := hg.len.2
  have hg2 := Lib.hid hg
  have hown2 := Lib.hid (hown.below ((Below.refl _ _).alloc (Nat.le_refl _) (.cells g.cells 33)) (Nat.le_refl _))
  clear hg hown
  have m1 : 0 ≤ p * ((g.own.length : Int) - 1) ∧ p * ((g.own.length : Int) - 1) ≤ 5000 * 15 := mul_bd0 hp (by omega) (by omega) (by omega)
  obtain ⟨m1a, m1b⟩ := m1
  go_enter Try.func87, Try.ntmps87
  go_upto_region 1 with (fail)
  obtain ⟨W, hW⟩ : ∃ W, W = w.alloc (.cells g.cells 33) := ⟨_, rfl⟩
  have hgi : GateIn W w.heap.size g := by rw [hW]; exact gateIn_new w g
  have hbw : Below w.heap.size w W := by rw [hW]; exact (Below.refl _ _).alloc (Nat.le_refl _) _
  rw [← hW] at hown2 ⊢
  have c1 := hgi.cell 1 _ rfl
  have c2 := hgi.cell 2 _ rfl
  have c3 : W.cell? ⟨w.heap.size, 3, none⟩ = some (.slice g.ownA g.own.length g.ownC) := hgi.cell 3 _ rfl
  have c4 := hgi.cell 4 _ rfl
  have c5 := hgi.cell 5 _ rfl
  have c6 := hgi.cell 6 _ rfl
  have c7 := hgi.cell 7 _ rfl
  have c8 := hgi.cell 8 _ rfl
  have c9 := hgi.cell 9 _ rfl
  have c10 := hgi.cell 10 _ rfl
  have Hbw := Lib.hid hbw
  clear hW hgi hbw
  go_wp2
  go_quiet (fail)
  have hw : wetZ g p o i = min (max (max o i - edgeZ g p) 0) g.height := rfl
  have hrub := rub_ref g p o i _ rfl
  have HW := Lib.hid hw
  have HR := Lib.hid hrub
  clear hw hrub
  have hnd := own0_end hg2.out
  have Hnd := Lib.hid hnd
  have Hown := Lib.hid hg2.out.own
  obtain ⟨_, hol⟩ := hown2.out
  rcases hol with hol | ⟨b, off, ha, hb, hol⟩
  · rw [hol] at l1; simp at l1
  have dE := hol (g.own.length - 1) (by omega)
  have e0 : (0 : Int) ≤ (g.own.length : Int) - 1 := by omega
  have e1 : (g.own.length : Int) - 1 < (g.own.length : Int) := by omega
  have e2 : ((g.own.length : Int) - 1).toNat = g.own.length - 1 := by omega
  rw [ha] at c3
  have Hol := Lib.hid hol
  have hE : g.own[g.own.length - 1]?.getD 0 = g.own[g.own.length - 1]?.getD 0 := rfl
  clear hol hnd hE hown2 ha
  have m5 := mul_bd (a := g.open_) (b := g.travel - p) (A := 20000) (B := 5000) (by have := hg2.out.open_; omega) (by have := hg2.out.open_; omega) (by omega) (by omega)
  have m6 := mul_bd (a := g.shut) (b := p) (A := 20000) (B := 5000) (by have := hg2.out.shut; omega) (by have := hg2.out.shut; omega) (by omega) (by omega)
  obtain ⟨m5a, m5b⟩ := m5
  obtain ⟨m6a, m6b⟩ := m6
  rcases Int.lt_or_le p g.travel with hlt | hge
  · obtain ⟨hk, hr, hkl⟩ := kr_lt hg2.out hp hlt
    have k0 : 0 ≤ p * ((g.own.length : Int) - 1) / g.travel := Int.ediv_nonneg m1a (by omega)
    have r0 : 0 ≤ p * ((g.own.length : Int) - 1) % g.travel := Int.emod_nonneg _ (by omega)
    have r1 : p * ((g.own.length : Int) - 1) % g.travel < g.travel := Int.emod_lt_of_pos _ (by omega)
    unfold nZ at hk hr hkl
    generalize p * ((g.own.length : Int) - 1) / g.travel = k at *
    generalize p * ((g.own.length : Int) - 1) % g.travel = r at *
    obtain ⟨kn, rfl⟩ := Int.eq_ofNat_of_zero_le k0
    have dA := Hol.out kn (by omega)
    have dB := Hol.out (kn + 1) (by omega)
    have bA := Hown.out kn
    have bB := Hown.out (kn + 1)
    have hN : own0Z g p = (g.own[kn]?.getD 0 * (g.travel - r) + g.own[kn + 1]?.getD 0 * r) / g.travel := by
      rw [own0Z, hk, hr]; rfl
    have HN := Lib.hid hN
    clear hN hk hr
    generalize g.own[kn]?.getD 0 = A at *
    generalize g.own[kn + 1]?.getD 0 = B at *
    generalize g.own[g.own.length - 1]?.getD 0 = E0 at *
    have m3 := mul_bd (a := A) (b := g.travel - r) (A := 200000) (B := 5000) (by omega) (by omega) (by omega) (by omega)
    have m4 := mul_bd (a := B) (b := r) (A := 200000) (B := 5000) (by omega) (by omega) (by omega) (by omega)
    obtain ⟨m3a, m3b⟩ := m3
    obtain ⟨m4a, m4b⟩ := m4
    clear bA bB
    have i0 : (0 : Int) ≤ (kn : Int) := by omega
    have i1 : (kn : Int) < (g.own.length : Int) := by omega
    have i2 : (0 : Int) ≤ (kn : Int) + 1 := by omega
    have i3 : (kn : Int) + 1 < (g.own.length : Int) := by omega
    have i4 : ((kn : Int) + 1).toNat = kn + 1 := by omega
    go_wp2
    go_quiet ((go_at_call 104; exact quiet_add_left (floor_any _ _ _ (by omega) (by omega) (by omega) (by omega))))
    have bN := ediv_bd (a := A * (g.travel - r) + B * r) (b := g.travel) (A := 2000000000) (by omega) (by omega) (by omega)
    clear dA dB i0 i1 i2 i3 i4 dE e0 e1 e2 c3
    generalize (A * (g.travel - r) + B * r) / g.travel = N at *
    clear m3a m3b m4a m4b
    go_wp2_with (go_at_call 104; refine (floor_any _ _ _ (by omega) (by omega) (by omega) (by omega)).mono ?_; rintro e w' ⟨rfl, rfl⟩)
    have bE := ediv_bd (a := g.open_ * (g.travel - p) + g.shut * p) (b := g.travel) (A := 200000000) (by omega) (by omega) (by omega)
    have hE : (g.open_ * (g.travel - p) + g.shut * p) / g.travel = edgeZ g p := rfl
    generalize (g.open_ * (g.travel - p) + g.shut * p) / g.travel = E at *
    have HE := Lib.hid hE
    clear hE m5a m5b m6a m6b
    obtain ⟨ho1, ho2⟩ := ho
    obtain ⟨hi1, hi2⟩ := hi
    go_quiet ((go_at_call 105; exact quiet_add_left (clamp_any _ _ _)))
    have hF : floatZ g p o i = g.float * min (max (min o i - E) 0) g.height / 1000 := by rw [floatZ, HE.out]
    have hW : wetZ g p o i = min (max (max o i - E) 0) g.height := by rw [wetZ, HE.out]
    have bD : 0 ≤ min (max (min o i - E) 0) g.height ∧ min (max (min o i - E) 0) g.height ≤ 30000 := by have := hg2.out.height; omega
    have bW : 0 ≤ min (max (max o i - E) 0) g.height ∧ min (max (max o i - E) 0) g.height ≤ 30000 := by have := hg2.out.height; omega
    rw [HW.out, ← HE.out] at HR
    have HF := Lib.hid hF
    clear hF hW
    generalize min (max (min o i - E) 0) g.height = D at *
    generalize min (max (max o i - E) 0) g.height = X at *
    have m7 := mul_bd0 (a := g.float) (b := D) (A := 10000) (B := 30000) (by have := hg2.out.float; omega) (by have := hg2.out.float; omega) bD.1 bD.2
    obtain ⟨m7a, m7b⟩ := m7
    obtain ⟨bWa, bWb⟩ := bW
    have bF := ediv_bd (a := g.float * D) (b := 1000) (A := 300000000) (by omega) (by omega) (by omega)
    obtain ⟨bFa, bFb⟩ := bF
    obtain ⟨bNa, bNb⟩ := bN
    have m8 := mul_bd (a := g.push) (b := o - i) (A := 10000) (B := 40000) (by have := hg2.out.push; omega) (by have := hg2.out.push; omega) (by omega) (by omega)
    obtain ⟨m8a, m8b⟩ := m8
    have bP := ediv_bd (a := g.push * (o - i)) (b := 1000) (A := 400000000) (by omega) (by omega) (by omega)
    obtain ⟨bPa, bPb⟩ := bP
    have hd0 : 0 ≤ max (o - i) (i - o) ∧ max (o - i) (i - o) ≤ 40000 := by omega
    have s0 := hg2.out.slide
    have m9 := mul_bd (a := -g.slide) (b := max (o - i) (i - o)) (A := 10000) (B := 40000) (by omega) (by omega) (by omega) (by omega)
    obtain ⟨m9a, m9b⟩ := m9
    have m10 := mul_bd (a := -g.slide * max (o - i) (i - o)) (b := X) (A := 10000 * 40000) (B := 30000) m9a m9b (by omega) (by omega)
    obtain ⟨m10a, m10b⟩ := m10
    have bR := ediv_bd (a := -g.slide * max (o - i) (i - o) * X) (b := 1000000) (A := 20000000000000) (by omega) (by omega) (by omega)
    obtain ⟨bRa, bRb⟩ := bR
    obtain ⟨hse1, hse2⟩ := hg2.out.sealing
    obtain ⟨s0a, s0b⟩ := s0
    clear hd0 bD bE
    by_cases hk3 : g.kind = 3
    · have hk : (g.kind != 3) = false := by simp [hk3]
      have Hres := Lib.hid (show netZ g p o i = N + g.float * D / 1000 + g.push * (o - i) / 1000 by rw [netZ, if_pos hk3, HN.out, HF.out])
      clear hk3
      go_wp2_with (go_at_call 104; refine (floor_any _ _ _ (by omega) (by omega) (by omega) (by omega)).mono ?_; rintro e w' ⟨rfl, rfl⟩)
      go_quiet ((go_at_call 104; exact quiet_add_left (floor_any _ _ _ (by omega) (by omega) (by omega) (by omega))))
      go_wp2
      go_ret2
      exact ⟨ret2 (by rw [Hres.out, ← HR.out]), by simp only [World.drewN_drewN]; exact below_drewN Hbw.out _⟩
    · have hk : (g.kind != 3) = true := by simp [hk3]
      have Hres := Lib.hid (show netZ g p o i = N + -(g.float * D / 1000) + g.push * (o - i) / 1000 by rw [netZ, if_neg hk3, HN.out, HF.out]; omega)
      clear hk3
      go_wp2_with (go_at_call 104; refine (floor_any _ _ _ (by omega) (by omega) (by omega) (by omega)).mono ?_; rintro e w' ⟨rfl, rfl⟩)
      go_quiet ((go_at_call 104; exact quiet_add_left (floor_any _ _ _ (by omega) (by omega) (by omega) (by omega))))
      go_wp2
      go_ret2
      exact ⟨ret2 (by rw [Hres.out, ← HR.out]), by simp only [World.drewN_drewN]; exact below_drewN Hbw.out _⟩
  · have hpe : p = g.travel := by omega
    have hn : ¬ p < g.travel := by omega
    have bN := Hown.out (g.own.length - 1)
    have hN : own0Z g p = g.own[g.own.length - 1]?.getD 0 := by rw [hpe]; exact Hnd.out
    have HN := Lib.hid hN
    clear hN hpe
    generalize p * ((g.own.length : Int) - 1) / g.travel = k at *
    generalize p * ((g.own.length : Int) - 1) % g.travel = r at *
    go_wp2_with fail
    generalize g.own[g.own.length - 1]?.getD 0 = N at *
    clear dE e0 e1 e2 c3
    go_wp2_with (go_at_call 104; refine (floor_any _ _ _ (by omega) (by omega) (by omega) (by omega)).mono ?_; rintro e w' ⟨rfl, rfl⟩)
    have bE := ediv_bd (a := g.open_ * (g.travel - p) + g.shut * p) (b := g.travel) (A := 200000000) (by omega) (by omega) (by omega)
    have hE : (g.open_ * (g.travel - p) + g.shut * p) / g.travel = edgeZ g p := rfl
    generalize (g.open_ * (g.travel - p) + g.shut * p) / g.travel = E at *
    have HE := Lib.hid hE
    clear hE m5a m5b m6a m6b
    obtain ⟨ho1, ho2⟩ := ho
    obtain ⟨hi1, hi2⟩ := hi
    go_quiet ((go_at_call 105; exact quiet_add_left (clamp_any _ _ _)))
    have hF : floatZ g p o i = g.float * min (max (min o i - E) 0) g.height / 1000 := by rw [floatZ, HE.out]
    have hW : wetZ g p o i = min (max (max o i - E) 0) g.height := by rw [wetZ, HE.out]
    have bD : 0 ≤ min (max (min o i - E) 0) g.height ∧ min (max (min o i - E) 0) g.height ≤ 30000 := by have := hg2.out.height; omega
    have bW : 0 ≤ min (max (max o i - E) 0) g.height ∧ min (max (max o i - E) 0) g.height ≤ 30000 := by have := hg2.out.height; omega
    rw [HW.out, ← HE.out] at HR
    have HF := Lib.hid hF
    clear hF hW
    generalize min (max (min o i - E) 0) g.height = D at *
    generalize min (max (max o i - E) 0) g.height = X at *
    have m7 := mul_bd0 (a := g.float) (b := D) (A := 10000) (B := 30000) (by have := hg2.out.float; omega) (by have := hg2.out.float; omega) bD.1 bD.2
    obtain ⟨m7a, m7b⟩ := m7
    obtain ⟨bWa, bWb⟩ := bW
    have bF := ediv_bd (a := g.float * D) (b := 1000) (A := 300000000) (by omega) (by omega) (by omega)
    obtain ⟨bFa, bFb⟩ := bF
    obtain ⟨bNa, bNb⟩ := bN
    have m8 := mul_bd (a := g.push) (b := o - i) (A := 10000) (B := 40000) (by have := hg2.out.push; omega) (by have := hg2.out.push; omega) (by omega) (by omega)
    obtain ⟨m8a, m8b⟩ := m8
    have bP := ediv_bd (a := g.push * (o - i)) (b := 1000) (A := 400000000) (by omega) (by omega) (by omega)
    obtain ⟨bPa, bPb⟩ := bP
    have hd0 : 0 ≤ max (o - i) (i - o) ∧ max (o - i) (i - o) ≤ 40000 := by omega
    have s0 := hg2.out.slide
    have m9 := mul_bd (a := -g.slide) (b := max (o - i) (i - o)) (A := 10000) (B := 40000) (by omega) (by omega) (by omega) (by omega)
    obtain ⟨m9a, m9b⟩ := m9
    have m10 := mul_bd (a := -g.slide * max (o - i) (i - o)) (b := X) (A := 10000 * 40000) (B := 30000) m9a m9b (by omega) (by omega)
    obtain ⟨m10a, m10b⟩ := m10
    have bR := ediv_bd (a := -g.slide * max (o - i) (i - o) * X) (b := 1000000) (A := 20000000000000) (by omega) (by omega) (by omega)
    obtain ⟨bRa, bRb⟩ := bR
    obtain ⟨hse1, hse2⟩ := hg2.out.sealing
    obtain ⟨s0a, s0b⟩ := s0
    clear hd0 bD bE
    by_cases hk3 : g.kind = 3
    · have hk : (g.kind != 3) = false := by simp [hk3]
      have Hres := Lib.hid (show netZ g p o i = N + g.float * D / 1000 + g.push * (o - i) / 1000 by rw [netZ, if_pos hk3, HN.out, HF.out])
      clear hk3
      go_wp2_with (go_at_call 104; refine (floor_any _ _ _ (by omega) (by omega) (by omega) (by omega)).mono ?_; rintro e w' ⟨rfl, rfl⟩)
      go_quiet ((go_at_call 104; exact quiet_add_left (floor_any _ _ _ (by omega) (by omega) (by omega) (by omega))))
      go_wp2
      go_ret2
      exact ⟨ret2 (by rw [Hres.out, ← HR.out]), by simp only [World.drewN_drewN]; exact below_drewN Hbw.out _⟩
    · have hk : (g.kind != 3) = true := by simp [hk3]
      have Hres := Lib.hid (show netZ g p o i = N + -(g.float * D / 1000) + g.push * (o - i) / 1000 by rw [netZ, if_neg hk3, HN.out, HF.out]; omega)
      clear hk3
      go_wp2_with (go_at_call 104; refine (floor_any _ _ _ (by omega) (by omega) (by omega) (by omega)).mono ?_; rintro e w' ⟨rfl, rfl⟩)
      go_quiet ((go_at_call 104; exact quiet_add_left (floor_any _ _ _ (by omega) (by omega) (by omega) (by omega))))
      go_wp2
      go_ret2
      exact ⟨ret2 (by rw [Hres.out, ← HR.out]), by simp only [World.drewN_drewN]; exact below_drewN Hbw.out _⟩
end Go.Proofs.Ythalanpmfhhhnaa
