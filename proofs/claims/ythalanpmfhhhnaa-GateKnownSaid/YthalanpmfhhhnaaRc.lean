/-
  The reference's Check returns what the program's does: part, index and error of any gate.
-/
import Derived.Test.YthalanpmfhhhnaaRl
namespace Go.Proofs.Ythalanpmfhhhnaa
open Go.RowKit
set_option linter.unusedSimpArgs false
set_option linter.unusedVariables false

/-- What the reference's sensors returns. -/
def senZ (g : GateV) : Int × Int :=
  if 6 < g.sens.length then (0, 3) else if (scan sensorE g.sens 0).2 ≠ 0 then scan sensorE g.sens 0 else if outB g.wrong 0 g.sens.length then (0, 7) else (0, 0)

theorem sensorE_2 {s : Sen} (h : outB s.kind 1 2 = true ∨ (s.kind = 1 ∧ s.at_ ≠ 0)) : sensorE s = 2 := by
  unfold sensorE
  rw [if_pos]
  rcases h with h | h
  · have := outB_tt h; omega
  · omega
theorem sensorE_7 {s : Sen} (h : outB s.kind 1 2 = false) (h2 : ¬ (s.kind = 1 ∧ s.at_ ≠ 0)) (h3 : outB s.at_ 0 5000 = true ∨ outB s.tol 0 5000 = true) : sensorE s = 7 := by
  unfold sensorE
  have := outB_ft h
  rw [if_neg (by omega), if_pos]
  simp [anyB, h3]
theorem sensorE_0 {s : Sen} (h : outB s.kind 1 2 = false) (h2 : ¬ (s.kind = 1 ∧ s.at_ ≠ 0)) (h3 : outB s.at_ 0 5000 = false) (h4 : outB s.tol 0 5000 = false) : sensorE s = 0 := by
  unfold sensorE
  have := outB_ft h
  rw [if_neg (by omega), if_neg]
  simp [anyB, h3, h4]

set_option maxRecDepth 100000 in
set_option maxHeartbeats 2000000 in
theorem sensors_any (g : GateV) (w : World) (hok : g.Ok w) :
    Calls Try.prog 75 #[g.val] w fun e w' => e = .returned (.tuple #[.int .i64 (senZ g).1, .int .i64 (senZ g).2]) ∧ Below w.heap.size w w' := by
  have K0 := Keep.new w g
  have HK := Lib.hid K0
  have Hok := Lib.hid hok
  have hsm := hok.sens.1
  unfold maxLen at hsm
  clear K0 hok
  by_cases hs6 : 6 < g.sens.length
  · have hr : senZ g = (0, 3) := by rw [senZ, if_pos hs6]
    have Hr := Lib.hid hr
    clear hr
    go_enter Try.func75, Try.ntmps75
    go_wp2
    go_ret2
    exact ⟨ret2 (by rw [Hr.out]), HK.out.below⟩
  · have hr : senZ g = if (scan sensorE g.sens 0).2 ≠ 0 then scan sensorE g.sens 0 else if outB g.wrong 0 g.sens.length then (0, 7) else (0, 0) := by rw [senZ, if_neg hs6]
    have Hr := Lib.hid hr
    clear hr
    go_enter Try.func75, Try.ntmps75
    go_wp2
    go_loopw [4] (fun i wr => ∃ k : Nat, k ≤ g.sens.length ∧ i = .int .i64 k ∧ scan sensorE (g.sens.drop k) k = scan sensorE g.sens 0 ∧ Keep w w.heap.size g wr) (fun i _ => g.sens.length - (intOf i).toNat)
    case atStart => exact ⟨0, Nat.zero_le _, rfl, rfl, HK.out⟩
    case round =>
      obtain ⟨k, hk, rfl, hix, hkp⟩ := hrel
      have Hix := Lib.hid hix
      have Hkp := Lib.hid hkp
      clear hix
      have c20 := hkp.gate.cell 20 _ rfl
      have c19 : wr.cell? ⟨w.heap.size, 19, none⟩ = some (.slice g.senA g.sens.length g.senC) := hkp.gate.cell 19 _ rfl
      clear hkp
      by_cases hlt : k < g.sens.length
      · obtain ⟨_, hsn⟩ := Hok.out.sens.below Hkp.out.below (Nat.le_refl _)
        rcases hsn with hl | ⟨b, off, ha, hb, hl⟩
        · rw [hl] at hlt; exact absurd hlt (by simp)
        · obtain ⟨d0, d1, d2⟩ := hl k hlt
          rw [ha] at c19
          have HKr := Hkp.out.alloc (.cells g.sens[k].cells 103)
          have HKr2 := Lib.hid HKr
          have hst := fun hf => scan_step (f := sensorE) hlt hf
          have hht := fun hf => scan_hit (f := sensorE) hlt hf
          rw [Hix.out] at hst hht
          have Hst := Lib.hid hst
          have Hht := Lib.hid hht
          obtain ⟨s, hs⟩ : ∃ s, s = g.sens[k] := ⟨_, rfl⟩
          rw [← hs] at d0 d1 d2 Hst Hht HKr2
          clear hl ha HKr c20 hst hht hs Hix
          have hstep2 : sensorE s = 2 → senZ g = ((k : Int), 2) := fun h => by
            have h1 := Hht.out (by rw [h]; decide)
            rw [Hr.out, h1, h, if_pos (by simp)]
          have hstep7 : sensorE s = 7 → senZ g = ((k : Int), 7) := fun h => by
            have h1 := Hht.out (by rw [h]; decide)
            rw [Hr.out, h1, h, if_pos (by simp)]
          have H2 := Lib.hid hstep2
          have H7 := Lib.hid hstep7
          clear hstep2 hstep7
          have hc : (outB s.kind 1 2 = true) ∨ (outB s.kind 1 2 = false ∧ s.kind = 1 ∧ (s.at_ == 0) = false) ∨ (outB s.kind 1 2 = false ∧ (s.kind == 1) = false ∧ outB s.at_ 0 5000 = true) ∨
              (outB s.kind 1 2 = false ∧ (s.kind == 1) = false ∧ outB s.at_ 0 5000 = false ∧ outB s.tol 0 5000 = true) ∨ (outB s.kind 1 2 = false ∧ (s.kind == 1) = false ∧ outB s.at_ 0 5000 = false ∧ outB s.tol 0 5000 = false) ∨
              (outB s.kind 1 2 = false ∧ s.kind = 1 ∧ s.at_ = 0 ∧ outB s.at_ 0 5000 = false ∧ outB s.tol 0 5000 = true) ∨ (outB s.kind 1 2 = false ∧ s.kind = 1 ∧ s.at_ = 0 ∧ outB s.at_ 0 5000 = false ∧ outB s.tol 0 5000 = false) := by
            have h0 : s.at_ = 0 → outB s.at_ 0 5000 = false := fun h => by rw [h]; rfl
            by_cases k1 : outB s.kind 1 2 = true <;> by_cases k2 : s.kind = 1 <;> by_cases k3 : s.at_ = 0 <;> by_cases k4 : outB s.at_ 0 5000 = true <;> by_cases k5 : outB s.tol 0 5000 = true <;> simp_all
          rcases hc with k1 | ⟨k1, k2, k3⟩ | ⟨k1, k2, k3⟩ | ⟨k1, k2, k3, k4⟩ | ⟨k1, k2, k3, k4⟩ | ⟨k1, k2, k3, k4, k5⟩ | ⟨k1, k2, k3, k4, k5⟩
          · have hr2 := H2.out (sensorE_2 (.inl k1))
            have Hr2 := Lib.hid hr2
            clear hr2
            go_wp2_with (go_at_call 56; refine (in3_any _ _ _ _).mono ?_; rintro e w' ⟨rfl, rfl⟩)
            go_ret2
            exact ⟨ret2 (by rw [Hr2.out]), HKr2.out.below⟩
          · have hr2 := H2.out (sensorE_2 (.inr ⟨k2, by simpa using k3⟩))
            have Hr2 := Lib.hid hr2
            have k22 : (s.kind == 1) = true := by simp [k2]
            clear hr2 k2
            go_wp2_with (go_at_call 56; refine (in3_any _ _ _ _).mono ?_; rintro e w' ⟨rfl, rfl⟩)
            go_ret2
            exact ⟨ret2 (by rw [Hr2.out]), HKr2.out.below⟩
          · have hr2 := H7.out (sensorE_7 k1 (by simp only [beq_eq_false_iff_ne, ne_eq] at k2; omega) (.inl k3))
            have Hr2 := Lib.hid hr2
            clear hr2
            go_wp2_with (go_at_call 56; refine (in3_any _ _ _ _).mono ?_; rintro e w' ⟨rfl, rfl⟩)
            go_ret2
            exact ⟨ret2 (by rw [Hr2.out]), HKr2.out.below⟩
          · have hr2 := H7.out (sensorE_7 k1 (by simp only [beq_eq_false_iff_ne, ne_eq] at k2; omega) (.inr k4))
            have Hr2 := Lib.hid hr2
            clear hr2
            go_wp2_with (go_at_call 56; refine (in3_any _ _ _ _).mono ?_; rintro e w' ⟨rfl, rfl⟩)
            go_ret2
            exact ⟨ret2 (by rw [Hr2.out]), HKr2.out.below⟩
          · have hr2 := Hst.out (sensorE_0 k1 (by simp only [beq_eq_false_iff_ne, ne_eq] at k2; omega) k3 k4)
            have Hr2 := Lib.hid hr2
            clear hr2
            go_wp2_with (go_at_call 56; refine (in3_any _ _ _ _).mono ?_; rintro e w' ⟨rfl, rfl⟩)
            go_roundw
            case rel => exact ⟨k + 1, by omega, by go_num, Hr2.out.symm, HKr2.out⟩
            case measure => simp [intOf]; omega
          · have hr2 := H7.out (sensorE_7 k1 (by omega) (.inr k5))
            have Hr2 := Lib.hid hr2
            have k22 : (s.kind == 1) = true := by simp [k2]
            have k32 : (s.at_ != 0) = false := by simp [k3]
            clear hr2 k2 k3
            go_wp2_with (go_at_call 56; refine (in3_any _ _ _ _).mono ?_; rintro e w' ⟨rfl, rfl⟩)
            go_ret2
            exact ⟨ret2 (by rw [Hr2.out]), HKr2.out.below⟩
          · have hr2 := Hst.out (sensorE_0 k1 (by omega) k4 k5)
            have Hr2 := Lib.hid hr2
            have k22 : (s.kind == 1) = true := by simp [k2]
            have k32 : (s.at_ != 0) = false := by simp [k3]
            clear hr2 k2 k3
            go_wp2_with (go_at_call 56; refine (in3_any _ _ _ _).mono ?_; rintro e w' ⟨rfl, rfl⟩)
            go_roundw
            case rel => exact ⟨k + 1, by omega, by go_num, Hr2.out.symm, HKr2.out⟩
            case measure => simp [intOf]; omega
      · have hs := scan_out (f := sensorE) hlt
        rw [Hix.out] at hs
        have hr2 := Hr.out
        rw [hs, if_neg (by simp)] at hr2
        have Hr2 := Lib.hid hr2
        clear hr2 hs Hix Hr
        by_cases hw : outB g.wrong 0 g.sens.length = true
        · have hr3 := Hr2.out
          rw [if_pos hw] at hr3
          have Hr3 := Lib.hid hr3
          clear hr3 Hr2
          go_wp2_with (go_at_call 56; refine (in3_any _ _ _ _).mono ?_; rintro e w' ⟨rfl, rfl⟩)
          go_ret2
          exact ⟨ret2 (by rw [Hr3.out]), Hkp.out.below⟩
        · have hr3 := Hr2.out
          rw [if_neg hw] at hr3
          simp only [Bool.not_eq_true] at hw
          have Hr3 := Lib.hid hr3
          clear hr3 Hr2
          go_wp2_with (go_at_call 56; refine (in3_any _ _ _ _).mono ?_; rintro e w' ⟨rfl, rfl⟩)
          go_ret2
          exact ⟨ret2 (by rw [Hr3.out]), Hkp.out.below⟩

theorem checkZ_eq (g : GateV) (h : headE g = 0) : checkZ g =
    if (ownZ g).2 ≠ 0 then (2, (ownZ g).1, (ownZ g).2) else if numsB g then (3, 0, 7) else if (senZ g).2 ≠ 0 then (4, (senZ g).1, (senZ g).2) else (0, 0, 0) := by
  unfold checkZ ownZ senZ
  rw [if_neg (by simp [h])]
  generalize scan (forceE g.kind) g.own 0 = p
  generalize scan sensorE g.sens 0 = q
  generalize numsB g = n
  generalize outB g.own.length 2 16 = o
  generalize outB g.wrong 0 g.sens.length = u
  by_cases h4 : 6 < g.sens.length <;> cases o <;> cases n <;> cases u <;> by_cases hp : p.2 = 0 <;> by_cases hq : q.2 = 0 <;> simp [*]

theorem numsB_cons (g : GateV) : numsB g =
    (outB g.open_ (-20000) 20000 || outB g.shut (-20000) 20000 || outB g.height 1 30000 || outB g.float 0 10000 || outB g.slide 0 10000 || outB g.push (-10000) 10000 || outB g.sealing 0 200000 || outB g.drive 0 200000 || outB g.brake 0 200000 ||
      outB g.speed 1 100 || outB g.gravity 1 100 || outB g.use 0 100000 || outB g.pump 0 100000 || outB g.cap 0 100000 || outB g.slack 0 ((g.travel - 1) / 2)) := by
  simp [numsB, anyB, Bool.or_assoc]

set_option maxRecDepth 100000 in
set_option maxHeartbeats 4000000 in
theorem rcheck_6 (g : GateV) (w : World) (hok : g.Ok w) (n1 : nameB g.nm = false) :
    Calls Try.prog 23 #[g.val] w fun e w' => e = .returned (.tuple #[.int .i64 (checkZ g).1, .int .i64 (checkZ g).2.1, .int .i64 (checkZ g).2.2]) ∧ Below w.heap.size w w' := by
  have K0 := Keep.new w g
  have HK := Lib.hid K0
  have Hok := Lib.hid hok
  clear K0 hok
  have hr : checkZ g = (1, 0, 6) := by
    have hh : headE g = 6 := by simp [headE, n1]
    rw [checkZ, hh, if_pos (by decide)]
  have Hr := Lib.hid hr
  clear hr
  go_enter Try.func23, Try.ntmps23
  go_wp2_with (first | (go_at_call 56; refine (in3_any _ _ _ _).mono ?_; rintro e w' ⟨rfl, rfl⟩) | (go_at_call 69; refine (rname_any _ Hok.out.nm _).mono ?_; rintro e w' ⟨rfl, rfl⟩))
  go_ret3
  exact ⟨ret3 (by rw [Hr.out]), HK.out.below⟩

set_option maxRecDepth 100000 in
set_option maxHeartbeats 4000000 in
theorem rcheck_2 (g : GateV) (w : World) (hok : g.Ok w) (n1 : nameB g.nm = true) (n2 : outB g.kind 1 3 = true) :
    Calls Try.prog 23 #[g.val] w fun e w' => e = .returned (.tuple #[.int .i64 (checkZ g).1, .int .i64 (checkZ g).2.1, .int .i64 (checkZ g).2.2]) ∧ Below w.heap.size w w' := by
  have K0 := Keep.new w g
  have HK := Lib.hid K0
  have Hok := Lib.hid hok
  clear K0 hok
  have hr : checkZ g = (1, 0, 2) := by
    have hh : headE g = 2 := by simp [headE, n1, n2]
    rw [checkZ, hh, if_pos (by decide)]
  have Hr := Lib.hid hr
  clear hr
  go_enter Try.func23, Try.ntmps23
  go_wp2_with (first | (go_at_call 56; refine (in3_any _ _ _ _).mono ?_; rintro e w' ⟨rfl, rfl⟩) | (go_at_call 69; refine (rname_any _ Hok.out.nm _).mono ?_; rintro e w' ⟨rfl, rfl⟩))
  go_ret3
  exact ⟨ret3 (by rw [Hr.out]), HK.out.below⟩

set_option maxRecDepth 100000 in
set_option maxHeartbeats 4000000 in
theorem rcheck_7 (g : GateV) (w : World) (hok : g.Ok w) (n1 : nameB g.nm = true) (n2 : outB g.kind 1 3 = false) (n3 : outB g.travel 1 5000 = true) :
    Calls Try.prog 23 #[g.val] w fun e w' => e = .returned (.tuple #[.int .i64 (checkZ g).1, .int .i64 (checkZ g).2.1, .int .i64 (checkZ g).2.2]) ∧ Below w.heap.size w w' := by
  have K0 := Keep.new w g
  have HK := Lib.hid K0
  have Hok := Lib.hid hok
  clear K0 hok
  have hr : checkZ g = (1, 0, 7) := by
    have hh : headE g = 7 := by simp [headE, n1, n2, n3]
    rw [checkZ, hh, if_pos (by decide)]
  have Hr := Lib.hid hr
  clear hr
  go_enter Try.func23, Try.ntmps23
  go_wp2_with (first | (go_at_call 56; refine (in3_any _ _ _ _).mono ?_; rintro e w' ⟨rfl, rfl⟩) | (go_at_call 69; refine (rname_any _ Hok.out.nm _).mono ?_; rintro e w' ⟨rfl, rfl⟩))
  go_ret3
  exact ⟨ret3 (by rw [Hr.out]), HK.out.below⟩

/-- Which of the numbers is the first that is not as stated. -/
theorem numsB_ways (g : GateV) : (numsB g = true ∧ ((outB g.open_ (-20000) 20000 = true) ∨ (outB g.open_ (-20000) 20000 = false ∧ outB g.shut (-20000) 20000 = true) ∨ (outB g.open_ (-20000) 20000 = false ∧ outB g.shut (-20000) 20000 = false ∧ outB g.height 1 30000 = true) ∨ (outB g.open_ (-20000) 20000 = false ∧ outB g.shut (-20000) 20000 = false ∧ outB g.height 1 30000 = false ∧ outB g.float 0 10000 = true) ∨ (outB g.open_ (-20000) 20000 = false ∧ outB g.shut (-20000) 20000 = false ∧ outB g.height 1 30000 = false ∧ outB g.float 0 10000 = false ∧ outB g.slide 0 10000 = true) ∨ (outB g.open_ (-20000) 20000 = false ∧ outB g.shut (-20000) 20000 = false ∧ outB g.height 1 30000 = false ∧ outB g.float 0 10000 = false ∧ outB g.slide 0 10000 = false ∧ outB g.push (-10000) 10000 = true) ∨ (outB g.open_ (-20000) 20000 = false ∧ outB g.shut (-20000) 20000 = false ∧ outB g.height 1 30000 = false ∧ outB g.float 0 10000 = false ∧ outB g.slide 0 10000 = false ∧ outB g.push (-10000) 10000 = false ∧ outB g.sealing 0 200000 = true) ∨ (outB g.open_ (-20000) 20000 = false ∧ outB g.shut (-20000) 20000 = false ∧ outB g.height 1 30000 = false ∧ outB g.float 0 10000 = false ∧ outB g.slide 0 10000 = false ∧ outB g.push (-10000) 10000 = false ∧ outB g.sealing 0 200000 = false ∧ outB g.drive 0 200000 = true) ∨ (outB g.open_ (-20000) 20000 = false ∧ outB g.shut (-20000) 20000 = false ∧ outB g.height 1 30000 = false ∧ outB g.float 0 10000 = false ∧ outB g.slide 0 10000 = false ∧ outB g.push (-10000) 10000 = false ∧ outB g.sealing 0 200000 = false ∧ outB g.drive 0 200000 = false ∧ outB g.brake 0 200000 = true) ∨ (outB g.open_ (-20000) 20000 = false ∧ outB g.shut (-20000) 20000 = false ∧ outB g.height 1 30000 = false ∧ outB g.float 0 10000 = false ∧ outB g.slide 0 10000 = false ∧ outB g.push (-10000) 10000 = false ∧ outB g.sealing 0 200000 = false ∧ outB g.drive 0 200000 = false ∧ outB g.brake 0 200000 = false ∧ outB g.speed 1 100 = true) ∨ (outB g.open_ (-20000) 20000 = false ∧ outB g.shut (-20000) 20000 = false ∧ outB g.height 1 30000 = false ∧ outB g.float 0 10000 = false ∧ outB g.slide 0 10000 = false ∧ outB g.push (-10000) 10000 = false ∧ outB g.sealing 0 200000 = false ∧ outB g.drive 0 200000 = false ∧ outB g.brake 0 200000 = false ∧ outB g.speed 1 100 = false ∧ outB g.gravity 1 100 = true) ∨ (outB g.open_ (-20000) 20000 = false ∧ outB g.shut (-20000) 20000 = false ∧ outB g.height 1 30000 = false ∧ outB g.float 0 10000 = false ∧ outB g.slide 0 10000 = false ∧ outB g.push (-10000) 10000 = false ∧ outB g.sealing 0 200000 = false ∧ outB g.drive 0 200000 = false ∧ outB g.brake 0 200000 = false ∧ outB g.speed 1 100 = false ∧ outB g.gravity 1 100 = false ∧ outB g.use 0 100000 = true) ∨ (outB g.open_ (-20000) 20000 = false ∧ outB g.shut (-20000) 20000 = false ∧ outB g.height 1 30000 = false ∧ outB g.float 0 10000 = false ∧ outB g.slide 0 10000 = false ∧ outB g.push (-10000) 10000 = false ∧ outB g.sealing 0 200000 = false ∧ outB g.drive 0 200000 = false ∧ outB g.brake 0 200000 = false ∧ outB g.speed 1 100 = false ∧ outB g.gravity 1 100 = false ∧ outB g.use 0 100000 = false ∧ outB g.pump 0 100000 = true) ∨ (outB g.open_ (-20000) 20000 = false ∧ outB g.shut (-20000) 20000 = false ∧ outB g.height 1 30000 = false ∧ outB g.float 0 10000 = false ∧ outB g.slide 0 10000 = false ∧ outB g.push (-10000) 10000 = false ∧ outB g.sealing 0 200000 = false ∧ outB g.drive 0 200000 = false ∧ outB g.brake 0 200000 = false ∧ outB g.speed 1 100 = false ∧ outB g.gravity 1 100 = false ∧ outB g.use 0 100000 = false ∧ outB g.pump 0 100000 = false ∧ outB g.cap 0 100000 = true) ∨ (outB g.open_ (-20000) 20000 = false ∧ outB g.shut (-20000) 20000 = false ∧ outB g.height 1 30000 = false ∧ outB g.float 0 10000 = false ∧ outB g.slide 0 10000 = false ∧ outB g.push (-10000) 10000 = false ∧ outB g.sealing 0 200000 = false ∧ outB g.drive 0 200000 = false ∧ outB g.brake 0 200000 = false ∧ outB g.speed 1 100 = false ∧ outB g.gravity 1 100 = false ∧ outB g.use 0 100000 = false ∧ outB g.pump 0 100000 = false ∧ outB g.cap 0 100000 = false ∧ outB g.slack 0 ((g.travel - 1) / 2) = true))) ∨ (numsB g = false ∧ (outB g.open_ (-20000) 20000 = false ∧ outB g.shut (-20000) 20000 = false ∧ outB g.height 1 30000 = false ∧ outB g.float 0 10000 = false ∧ outB g.slide 0 10000 = false ∧ outB g.push (-10000) 10000 = false ∧ outB g.sealing 0 200000 = false ∧ outB g.drive 0 200000 = false ∧ outB g.brake 0 200000 = false ∧ outB g.speed 1 100 = false ∧ outB g.gravity 1 100 = false ∧ outB g.use 0 100000 = false ∧ outB g.pump 0 100000 = false ∧ outB g.cap 0 100000 = false ∧ outB g.slack 0 ((g.travel - 1) / 2) = false)) := by
  rw [numsB_cons]
  generalize outB g.open_ (-20000) 20000 = x0
  generalize outB g.shut (-20000) 20000 = x1
  generalize outB g.height 1 30000 = x2
  generalize outB g.float 0 10000 = x3
  generalize outB g.slide 0 10000 = x4
  generalize outB g.push (-10000) 10000 = x5
  generalize outB g.sealing 0 200000 = x6
  generalize outB g.drive 0 200000 = x7
  generalize outB g.brake 0 200000 = x8
  generalize outB g.speed 1 100 = x9
  generalize outB g.gravity 1 100 = x10
  generalize outB g.use 0 100000 = x11
  generalize outB g.pump 0 100000 = x12
  generalize outB g.cap 0 100000 = x13
  generalize outB g.slack 0 ((g.travel - 1) / 2) = x14
  cases x0; rotate_left; · exact .inl ⟨by simp, by simp⟩
  cases x1; rotate_left; · exact .inl ⟨by simp, by simp⟩
  cases x2; rotate_left; · exact .inl ⟨by simp, by simp⟩
  cases x3; rotate_left; · exact .inl ⟨by simp, by simp⟩
  cases x4; rotate_left; · exact .inl ⟨by simp, by simp⟩
  cases x5; rotate_left; · exact .inl ⟨by simp, by simp⟩
  cases x6; rotate_left; · exact .inl ⟨by simp, by simp⟩
  cases x7; rotate_left; · exact .inl ⟨by simp, by simp⟩
  cases x8; rotate_left; · exact .inl ⟨by simp, by simp⟩
  cases x9; rotate_left; · exact .inl ⟨by simp, by simp⟩
  cases x10; rotate_left; · exact .inl ⟨by simp, by simp⟩
  cases x11; rotate_left; · exact .inl ⟨by simp, by simp⟩
  cases x12; rotate_left; · exact .inl ⟨by simp, by simp⟩
  cases x13; rotate_left; · exact .inl ⟨by simp, by simp⟩
  cases x14; rotate_left; · exact .inl ⟨by simp, by simp⟩
  exact .inr ⟨rfl, by simp⟩

theorem A.gateSize : (Try.prog.info? 33).map (·.size) = some 21 := by kernel_rfl

/-- A gate is loaded whole out of its block. -/
theorem wpList_load_gate {ops : Array Oper} {rest : List Oper} {o : Oper} {a : Act} {w : World} {Q : Exit → Act → World → Prop} {B : Nat} {g : GateV} (hg : GateIn w B g) (hgd : o.guard = none) (x : Operand)
    (ho : o.op = .load 33 x) (hx : a.eval x = .pointer (some ⟨B, 0, none⟩)) (h : wpList Try.prog ops Q rest (a.put o.dst g.val) w) : wpList Try.prog ops Q (o :: rest) a w :=
  wpList_load_row hgd 33 x ho B hx 33 g.cells (0, 0) _ hg.blk Try.underlying33 rfl A.gateSize h

set_option maxRecDepth 100000 in
set_option maxHeartbeats 4000000 in
theorem rcheck_0 (g : GateV) (w : World) (hok : g.Ok w) (n1 : nameB g.nm = true) (n2 : outB g.kind 1 3 = false) (n3 : outB g.travel 1 5000 = false) :
    Calls Try.prog 23 #[g.val] w fun e w' => e = .returned (.tuple #[.int .i64 (checkZ g).1, .int .i64 (checkZ g).2.1, .int .i64 (checkZ g).2.2]) ∧ Below w.heap.size w w' := by
  have K0 := Keep.new w g
  have HK := Lib.hid K0
  have Hok := Lib.hid hok
  clear K0 hok
  have hr := checkZ_eq g (by simp [headE, n1, n2, n3])
  have Hr := Lib.hid hr
  obtain ⟨ht1, ht2⟩ := outB_ft n3
  clear hr
  go_enter Try.func23, Try.ntmps23
  go_wp2_with (first | (go_at_call 56; refine (in3_any _ _ _ _).mono ?_; rintro e w' ⟨rfl, rfl⟩) | (go_at_call 69; refine (rname_any _ Hok.out.nm _).mono ?_; rintro e w' ⟨rfl, rfl⟩) | (with_reducible show wpList _ _ _ (({ dst := _, op := .load 33 (.tmp 1), type := _, pos := _, after := _, guard := none } : Oper) :: _) _ _; refine wpList_load_gate HK.out.gate rfl (.tmp 1) rfl rfl ?_))
  refine (own_any g _ (Hok.out.below HK.out.below (Nat.le_refl _))).mono ?_
  rintro e w1 ⟨rfl, hb1⟩
  have K1 := HK.out.call hb1
  have HK1 := Lib.hid K1
  have c4 := K1.gate.cell 4 _ rfl
  have c5 := K1.gate.cell 5 _ rfl
  have c6 := K1.gate.cell 6 _ rfl
  have c7 := K1.gate.cell 7 _ rfl
  have c8 := K1.gate.cell 8 _ rfl
  have c9 := K1.gate.cell 9 _ rfl
  have c10 := K1.gate.cell 10 _ rfl
  have c11 := K1.gate.cell 11 _ rfl
  have c12 := K1.gate.cell 12 _ rfl
  have c13 := K1.gate.cell 13 _ rfl
  have c14 := K1.gate.cell 14 _ rfl
  have c15 := K1.gate.cell 15 _ rfl
  have c16 := K1.gate.cell 16 _ rfl
  have c17 := K1.gate.cell 17 _ rfl
  have c18 := K1.gate.cell 18 _ rfl
  have c2 := K1.gate.cell 2 _ rfl
  clear K1 hb1 n1 n2 n3 HK
  by_cases ho : (ownZ g).2 = 0
  · have hr2 := Hr.out
    rw [if_neg (by simp [ho])] at hr2
    rw [ho]
    have Hr2 := Lib.hid hr2
    have hn := numsB_cons g
    have Hn := Lib.hid hn
    clear hr2 Hr ho hn Hn
    rcases numsB_ways g with ⟨hnb, hw⟩ | ⟨hnb, b0, b1, b2, b3, b4, b5, b6, b7, b8, b9, b10, b11, b12, b13, b14⟩
    · have hr3 := Hr2.out
      rw [if_pos hnb] at hr3
      have Hr3 := Lib.hid hr3
      clear hr3 Hr2 hnb
      rcases hw with b0 | ⟨b0, b1⟩ | ⟨b0, b1, b2⟩ | ⟨b0, b1, b2, b3⟩ | ⟨b0, b1, b2, b3, b4⟩ | ⟨b0, b1, b2, b3, b4, b5⟩ | ⟨b0, b1, b2, b3, b4, b5, b6⟩ | ⟨b0, b1, b2, b3, b4, b5, b6, b7⟩ | ⟨b0, b1, b2, b3, b4, b5, b6, b7, b8⟩ | ⟨b0, b1, b2, b3, b4, b5, b6, b7, b8, b9⟩ | ⟨b0, b1, b2, b3, b4, b5, b6, b7, b8, b9, b10⟩ | ⟨b0, b1, b2, b3, b4, b5, b6, b7, b8, b9, b10, b11⟩ | ⟨b0, b1, b2, b3, b4, b5, b6, b7, b8, b9, b10, b11, b12⟩ | ⟨b0, b1, b2, b3, b4, b5, b6, b7, b8, b9, b10, b11, b12, b13⟩ | ⟨b0, b1, b2, b3, b4, b5, b6, b7, b8, b9, b10, b11, b12, b13, b14⟩
      all_goals
        go_wp2_with (first | (go_at_call 56; refine (in3_any _ _ _ _).mono ?_; rintro e w' ⟨rfl, rfl⟩) | (go_at_call 71; refine (level_any _ _).mono ?_; rintro e w' ⟨rfl, rfl⟩) | (go_at_call 72; refine (rate_any _ _).mono ?_; rintro e w' ⟨rfl, rfl⟩) | (go_at_call 73; refine (rforce_any _ _).mono ?_; rintro e w' ⟨rfl, rfl⟩) | (go_at_call 74; refine (oil_any _ _).mono ?_; rintro e w' ⟨rfl, rfl⟩))
        go_ret3
        exact ⟨ret3 (by rw [Hr3.out]), HK1.out.below⟩
    · have hr3 := Hr2.out
      rw [if_neg (by rw [hnb]; simp)] at hr3
      have Hr3 := Lib.hid hr3
      clear hr3 Hr2 hnb
      go_wp2_with (first | (go_at_call 56; refine (in3_any _ _ _ _).mono ?_; rintro e w' ⟨rfl, rfl⟩) | (go_at_call 71; refine (level_any _ _).mono ?_; rintro e w' ⟨rfl, rfl⟩) | (go_at_call 72; refine (rate_any _ _).mono ?_; rintro e w' ⟨rfl, rfl⟩) | (go_at_call 73; refine (rforce_any _ _).mono ?_; rintro e w' ⟨rfl, rfl⟩) | (go_at_call 74; refine (oil_any _ _).mono ?_; rintro e w' ⟨rfl, rfl⟩) | (with_reducible show wpList _ _ _ (({ dst := _, op := .load 33 (.tmp 1), type := _, pos := _, after := _, guard := none } : Oper) :: _) _ _; refine wpList_load_gate HK1.out.gate rfl (.tmp 1) rfl rfl ?_))
      refine (sensors_any g _ (Hok.out.below HK1.out.below (Nat.le_refl _))).mono ?_
      rintro e w2 ⟨rfl, hb2⟩
      have K2 := HK1.out.call hb2
      have HK2 := Lib.hid K2
      clear K2 hb2 b0 b1 b2 b3 b4 b5 b6 b7 b8 b9 b10 b11 b12 b13 b14
      by_cases hs : (senZ g).2 = 0
      · have hr4 := Hr3.out
        rw [if_neg (by simp [hs])] at hr4
        have Hr4 := Lib.hid hr4
        rw [hs]
        clear hr4 Hr3 hs
        go_wp2
        go_ret3
        exact ⟨ret3 (by rw [Hr4.out]), HK2.out.below⟩
      · have hr4 := Hr3.out
        rw [if_pos (by simp [hs])] at hr4
        have Hr4 := Lib.hid hr4
        have hs2 : ((senZ g).2 != 0) = true := by simp [hs]
        clear hr4 Hr3 hs
        go_wp2
        go_ret3
        exact ⟨ret3 (by rw [Hr4.out]), HK2.out.below⟩
  · have hr2 := Hr.out
    rw [if_pos (by simp [ho])] at hr2
    have Hr2 := Lib.hid hr2
    have ho2 : ((ownZ g).2 != 0) = true := by simp [ho]
    clear hr2 Hr ho
    go_wp2
    go_ret3
    exact ⟨ret3 (by rw [Hr2.out]), HK1.out.below⟩

theorem rcheck_any (g : GateV) (w : World) (hok : g.Ok w) :
    Calls Try.prog 23 #[g.val] w fun e w' => e = .returned (.tuple #[.int .i64 (checkZ g).1, .int .i64 (checkZ g).2.1, .int .i64 (checkZ g).2.2]) ∧ Below w.heap.size w w' := by
  cases n1 : nameB g.nm with
  | false => exact rcheck_6 g w hok n1
  | true =>
    cases n2 : outB g.kind 1 3 with
    | true => exact rcheck_2 g w hok n1 n2
    | false =>
      cases n3 : outB g.travel 1 5000 with
      | true => exact rcheck_7 g w hok n1 n2 n3
      | false => exact rcheck_0 g w hok n1 n2 n3
end Go.Proofs.Ythalanpmfhhhnaa
