/-
  Plain lemmas on the reference's step: how far a gate is driven.
-/
import Derived.Test.YthalanpmfhhhnaaTi
namespace Go.Proofs.Ythalanpmfhhhnaa
open Go.RowKit
set_option linter.unusedVariables false

/-- How far a gate is driven at most, of a way that is left. -/
def drvZ (g : GateV) (s : St) (left : Int) : Int := if 0 < g.use then min g.speed (min left (s.charge * 100 / g.use)) else min g.speed left
theorem drvZ_bd {g : GateV} {s : St} (hg : g.Good) {left : Int} (hl : 0 ≤ left) (hc : 0 ≤ s.charge) : 0 ≤ drvZ g s left ∧ drvZ g s left ≤ min g.speed left := by
  have h1 := hg.speed
  unfold drvZ
  split
  · rename_i h
    have := Int.ediv_nonneg (a := s.charge * 100) (b := g.use) (by omega) (by omega)
    omega
  · omega
theorem drvZ_ok {g : GateV} {s : St} (hg : g.Good) (hs : s.Ok g) {left : Int} (hl : 0 ≤ left) : fuelZ g (drvZ g s left) ≤ s.charge := by
  have h1 := hg.use
  have h2 := hs.charge
  have h5 := hg.speed
  unfold drvZ
  split
  · rename_i h3
    have := Int.ediv_nonneg (a := s.charge * 100) (b := g.use) (by omega) (by omega)
    exact fuelZ_le hg hs _ (by omega) h3 (by omega)
  · have h4 : g.use = 0 := by omega
    simp only [fuelZ, h4, Int.mul_zero]
    omega
theorem drvZ_gt {g : GateV} {s : St} {left d : Int} (hg : g.Good) (hs : s.Ok g) (h : drvZ g s left < d) (h2 : d ≤ min g.speed left) : s.charge < fuelZ g d := by
  have h1 := hg.use
  unfold drvZ at h
  split at h
  · rename_i hu
    have h3 : s.charge * 100 / g.use < d := by omega
    have h4 : s.charge * 100 < (s.charge * 100 / g.use + 1) * g.use := Int.lt_ediv_add_one_mul_self _ (by omega)
    have h5 : (s.charge * 100 / g.use + 1) * g.use ≤ d * g.use := Int.mul_le_mul_of_nonneg_right (by omega) (by omega)
    unfold fuelZ
    omega
  · omega
theorem pushZ_drv (g : GateV) (s : St) (t : Stp) (rub force left : Int) :
    pushZ g s t rub force left = if rub < force then (min g.gravity left, 0) else if t.power = true ∧ rub < force + g.drive then (drvZ g s left, fuelZ g (drvZ g s left)) else (0, 0) := by
  unfold pushZ drvZ
  by_cases h1 : rub < force
  · simp [h1]
  · rw [if_neg h1, if_neg h1]
    by_cases h2 : t.power = true ∧ rub < force + g.drive
    · rw [if_neg (by rintro (h | h); · rw [h2.1] at h; cases h
                     · omega), if_pos h2]
      split <;> rfl
    · rw [if_pos, if_neg h2]
      by_cases h3 : t.power = true
      · exact .inr (by have : ¬ rub < force + g.drive := fun h => h2 ⟨h3, h⟩
                       omega)
      · exact .inl (by simpa using h3)

/-- An order that is refused is GtHold. -/
theorem moveZ_refused (g : GateV) (s : St) (t : Stp) (r : Int) (hr : r ≠ 0) : moveZ g s t r = moveZ g s ⟨0, t.power, t.outer, t.inner⟩ 0 := by
  unfold moveZ
  simp [hr]

/-- Rounded down, by the sign of what is divided. -/
theorem floor_neg {a b : Int} (ha : a < 0) (hb : 1 ≤ b) : a.tdiv b = -((-a) / b) := by
  have h : a.tdiv b = -((-a).tdiv b) := by rw [Int.neg_tdiv, Int.neg_neg]
  rw [h, Int.tdiv_eq_ediv_of_nonneg (by omega)]
theorem floor_step {a b : Int} (hb : 1 ≤ b) (h : a < -((-a) / b) * b) : -((-a) / b) - 1 = a / b := by
  have h1 := Int.ediv_mul_le (-a) (show b ≠ 0 by omega)
  have h2 : -a < ((-a) / b + 1) * b := Int.lt_ediv_add_one_mul_self _ (by omega)
  generalize (-a) / b = q at *
  rw [Int.add_mul] at h2
  rw [Int.neg_mul] at h
  have h3 := (Int.ediv_emod_unique (a := a) (b := b) (r := a - b * (-q - 1)) (q := -q - 1) (by omega)).2 ⟨by omega, by rw [Int.mul_sub, Int.mul_neg, Int.mul_comm b q]; omega, by rw [Int.mul_sub, Int.mul_neg, Int.mul_comm b q]; omega⟩
  exact h3.1.symm
theorem floor_stay {a b : Int} (ha : a < 0) (hb : 1 ≤ b) (h : ¬ a < -((-a) / b) * b) : -((-a) / b) = a / b := by
  have h1 := Int.ediv_mul_le (-a) (show b ≠ 0 by omega)
  generalize (-a) / b = q at *
  rw [Int.neg_mul] at h
  have h3 := (Int.ediv_emod_unique (a := a) (b := b) (r := 0) (q := -q) (by omega)).2 ⟨by rw [Int.mul_neg, Int.mul_comm b q]; omega, by omega, by omega⟩
  exact h3.1.symm
end Go.Proofs.Ythalanpmfhhhnaa
