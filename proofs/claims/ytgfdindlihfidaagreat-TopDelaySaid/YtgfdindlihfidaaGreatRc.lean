/-
  The reference's Check returns what the program's does: part, index and error of any gate.
-/
import Derived.Test.YtgfdindlihfidaaGreatZb
namespace Go.Proofs.YtgfdindlihfidaaGreat
open Go.RowKit
set_option linter.unusedSimpArgs false
set_option linter.unusedVariables false

/-- What the reference's sensors returns. -/
def senZ (g : GateV) : Int × Int :=
  if 6 < g.sens.length then (0, 3) else if (scan sensorE g.sens 0).2 ≠ 0 then scan sensorE g.sens 0 else if outB g.wrong 0 g.sens.length then (0, 7) else (0, 0)

theorem sensorE_2 {s : Sen} (h : outB s.kind 1 2 = true ∨ (s.kind = 1 ∧ s.at_ ≠ 0)) : sensorE s = 2 := by
  unfold sensorE
  rw [if_pos]
  rcases h with h | h
  · have := outB_tt h; omega
  · omega
theorem sensorE_7 {s : Sen} (h : outB s.kind 1 2 = false) (h2 : ¬ (s.kind = 1 ∧ s.at_ ≠ 0)) (h3 : outB s.at_ 0 5000 = true ∨ outB s.tol 0 5000 = true) : sensorE s = 7 := by
  unfold sensorE
  have := outB_ft h
  rw [if_neg (by omega), if_pos]
  simp [anyB, h3]
theorem sensorE_0 {s : Sen} (h : outB s.kind 1 2 = false) (h2 : ¬ (s.kind = 1 ∧ s.at_ ≠ 0)) (h3 : outB s.at_ 0 5000 = false) (h4 : outB s.tol 0 5000 = false) : sensorE s = 0 := by
  unfold sensorE
  have := outB_ft h
  rw [if_neg (by omega), if_neg]
  simp [anyB, h3, h4]

theorem checkZ_eq (g : GateV) (h : headE g = 0) : checkZ g =
    if (ownZ g).2 ≠ 0 then (2, (ownZ g).1, (ownZ g).2) else if numsB g then (3, 0, 7) else if (senZ g).2 ≠ 0 then (4, (senZ g).1, (senZ g).2) else (0, 0, 0) := by
  unfold checkZ ownZ senZ
  rw [if_neg (by simp [h])]
  generalize scan (forceE g.kind) g.own 0 = p
  generalize scan sensorE g.sens 0 = q
  generalize numsB g = n
  generalize outB g.own.length 2 16 = o
  generalize outB g.wrong 0 g.sens.length = u
  by_cases h4 : 6 < g.sens.length <;> cases o <;> cases n <;> cases u <;> by_cases hp : p.2 = 0 <;> by_cases hq : q.2 = 0 <;> simp [*]

theorem numsB_cons (g : GateV) : numsB g =
    (outB g.open_ (-20000) 20000 || outB g.shut (-20000) 20000 || outB g.height 1 30000 || outB g.float 0 10000 || outB g.slide 0 10000 || outB g.push (-10000) 10000 || outB g.sealing 0 200000 || outB g.drive 0 200000 || outB g.brake 0 200000 ||
      outB g.speed 1 100 || outB g.gravity 1 100 || outB g.use 0 100000 || outB g.pump 0 100000 || outB g.cap 0 100000 || outB g.slack 0 ((g.travel - 1) / 2)) := by
  simp [numsB, anyB, Bool.or_assoc]

/-- Which of the numbers is the first that is not as stated. -/
theorem numsB_ways (g : GateV) : (numsB g = true ∧ ((outB g.open_ (-20000) 20000 = true) ∨ (outB g.open_ (-20000) 20000 = false ∧ outB g.shut (-20000) 20000 = true) ∨ (outB g.open_ (-20000) 20000 = false ∧ outB g.shut (-20000) 20000 = false ∧ outB g.height 1 30000 = true) ∨ (outB g.open_ (-20000) 20000 = false ∧ outB g.shut (-20000) 20000 = false ∧ outB g.height 1 30000 = false ∧ outB g.float 0 10000 = true) ∨ (outB g.open_ (-20000) 20000 = false ∧ outB g.shut (-20000) 20000 = false ∧ outB g.height 1 30000 = false ∧ outB g.float 0 10000 = false ∧ outB g.slide 0 10000 = true) ∨ (outB g.open_ (-20000) 20000 = false ∧ outB g.shut (-20000) 20000 = false ∧ outB g.height 1 30000 = false ∧ outB g.float 0 10000 = false ∧ outB g.slide 0 10000 = false ∧ outB g.push (-10000) 10000 = true) ∨ (outB g.open_ (-20000) 20000 = false ∧ outB g.shut (-20000) 20000 = false ∧ outB g.height 1 30000 = false ∧ outB g.float 0 10000 = false ∧ outB g.slide 0 10000 = false ∧ outB g.push (-10000) 10000 = false ∧ outB g.sealing 0 200000 = true) ∨ (outB g.open_ (-20000) 20000 = false ∧ outB g.shut (-20000) 20000 = false ∧ outB g.height 1 30000 = false ∧ outB g.float 0 10000 = false ∧ outB g.slide 0 10000 = false ∧ outB g.push (-10000) 10000 = false ∧ outB g.sealing 0 200000 = false ∧ outB g.drive 0 200000 = true) ∨ (outB g.open_ (-20000) 20000 = false ∧ outB g.shut (-20000) 20000 = false ∧ outB g.height 1 30000 = false ∧ outB g.float 0 10000 = false ∧ outB g.slide 0 10000 = false ∧ outB g.push (-10000) 10000 = false ∧ outB g.sealing 0 200000 = false ∧ outB g.drive 0 200000 = false ∧ outB g.brake 0 200000 = true) ∨ (outB g.open_ (-20000) 20000 = false ∧ outB g.shut (-20000) 20000 = false ∧ outB g.height 1 30000 = false ∧ outB g.float 0 10000 = false ∧ outB g.slide 0 10000 = false ∧ outB g.push (-10000) 10000 = false ∧ outB g.sealing 0 200000 = false ∧ outB g.drive 0 200000 = false ∧ outB g.brake 0 200000 = false ∧ outB g.speed 1 100 = true) ∨ (outB g.open_ (-20000) 20000 = false ∧ outB g.shut (-20000) 20000 = false ∧ outB g.height 1 30000 = false ∧ outB g.float 0 10000 = false ∧ outB g.slide 0 10000 = false ∧ outB g.push (-10000) 10000 = false ∧ outB g.sealing 0 200000 = false ∧ outB g.drive 0 200000 = false ∧ outB g.brake 0 200000 = false ∧ outB g.speed 1 100 = false ∧ outB g.gravity 1 100 = true) ∨ (outB g.open_ (-20000) 20000 = false ∧ outB g.shut (-20000) 20000 = false ∧ outB g.height 1 30000 = false ∧ outB g.float 0 10000 = false ∧ outB g.slide 0 10000 = false ∧ outB g.push (-10000) 10000 = false ∧ outB g.sealing 0 200000 = false ∧ outB g.drive 0 200000 = false ∧ outB g.brake 0 200000 = false ∧ outB g.speed 1 100 = false ∧ outB g.gravity 1 100 = false ∧ outB g.use 0 100000 = true) ∨ (outB g.open_ (-20000) 20000 = false ∧ outB g.shut (-20000) 20000 = false ∧ outB g.height 1 30000 = false ∧ outB g.float 0 10000 = false ∧ outB g.slide 0 10000 = false ∧ outB g.push (-10000) 10000 = false ∧ outB g.sealing 0 200000 = false ∧ outB g.drive 0 200000 = false ∧ outB g.brake 0 200000 = false ∧ outB g.speed 1 100 = false ∧ outB g.gravity 1 100 = false ∧ outB g.use 0 100000 = false ∧ outB g.pump 0 100000 = true) ∨ (outB g.open_ (-20000) 20000 = false ∧ outB g.shut (-20000) 20000 = false ∧ outB g.height 1 30000 = false ∧ outB g.float 0 10000 = false ∧ outB g.slide 0 10000 = false ∧ outB g.push (-10000) 10000 = false ∧ outB g.sealing 0 200000 = false ∧ outB g.drive 0 200000 = false ∧ outB g.brake 0 200000 = false ∧ outB g.speed 1 100 = false ∧ outB g.gravity 1 100 = false ∧ outB g.use 0 100000 = false ∧ outB g.pump 0 100000 = false ∧ outB g.cap 0 100000 = true) ∨ (outB g.open_ (-20000) 20000 = false ∧ outB g.shut (-20000) 20000 = false ∧ outB g.height 1 30000 = false ∧ outB g.float 0 10000 = false ∧ outB g.slide 0 10000 = false ∧ outB g.push (-10000) 10000 = false ∧ outB g.sealing 0 200000 = false ∧ outB g.drive 0 200000 = false ∧ outB g.brake 0 200000 = false ∧ outB g.speed 1 100 = false ∧ outB g.gravity 1 100 = false ∧ outB g.use 0 100000 = false ∧ outB g.pump 0 100000 = false ∧ outB g.cap 0 100000 = false ∧ outB g.slack 0 ((g.travel - 1) / 2) = true))) ∨ (numsB g = false ∧ (outB g.open_ (-20000) 20000 = false ∧ outB g.shut (-20000) 20000 = false ∧ outB g.height 1 30000 = false ∧ outB g.float 0 10000 = false ∧ outB g.slide 0 10000 = false ∧ outB g.push (-10000) 10000 = false ∧ outB g.sealing 0 200000 = false ∧ outB g.drive 0 200000 = false ∧ outB g.brake 0 200000 = false ∧ outB g.speed 1 100 = false ∧ outB g.gravity 1 100 = false ∧ outB g.use 0 100000 = false ∧ outB g.pump 0 100000 = false ∧ outB g.cap 0 100000 = false ∧ outB g.slack 0 ((g.travel - 1) / 2) = false)) := by
  rw [numsB_cons]
  generalize outB g.open_ (-20000) 20000 = x0
  generalize outB g.shut (-20000) 20000 = x1
  generalize outB g.height 1 30000 = x2
  generalize outB g.float 0 10000 = x3
  generalize outB g.slide 0 10000 = x4
  generalize outB g.push (-10000) 10000 = x5
  generalize outB g.sealing 0 200000 = x6
  generalize outB g.drive 0 200000 = x7
  generalize outB g.brake 0 200000 = x8
  generalize outB g.speed 1 100 = x9
  generalize outB g.gravity 1 100 = x10
  generalize outB g.use 0 100000 = x11
  generalize outB g.pump 0 100000 = x12
  generalize outB g.cap 0 100000 = x13
  generalize outB g.slack 0 ((g.travel - 1) / 2) = x14
  cases x0; rotate_left; · exact .inl ⟨by simp, by simp⟩
  cases x1; rotate_left; · exact .inl ⟨by simp, by simp⟩
  cases x2; rotate_left; · exact .inl ⟨by simp, by simp⟩
  cases x3; rotate_left; · exact .inl ⟨by simp, by simp⟩
  cases x4; rotate_left; · exact .inl ⟨by simp, by simp⟩
  cases x5; rotate_left; · exact .inl ⟨by simp, by simp⟩
  cases x6; rotate_left; · exact .inl ⟨by simp, by simp⟩
  cases x7; rotate_left; · exact .inl ⟨by simp, by simp⟩
  cases x8; rotate_left; · exact .inl ⟨by simp, by simp⟩
  cases x9; rotate_left; · exact .inl ⟨by simp, by simp⟩
  cases x10; rotate_left; · exact .inl ⟨by simp, by simp⟩
  cases x11; rotate_left; · exact .inl ⟨by simp, by simp⟩
  cases x12; rotate_left; · exact .inl ⟨by simp, by simp⟩
  cases x13; rotate_left; · exact .inl ⟨by simp, by simp⟩
  cases x14; rotate_left; · exact .inl ⟨by simp, by simp⟩
  exact .inr ⟨rfl, by simp⟩

theorem A.gateSize : (Tryz.prog.info? 60).map (·.size) = some 21 := by kernel_rfl

/-- A gate is loaded whole out of its block. -/
theorem wpList_load_gate {ops : Array Oper} {rest : List Oper} {o : Oper} {a : Act} {w : World} {Q : Exit → Act → World → Prop} {B : Nat} {g : GateV} (hg : GateIn w B g) (hgd : o.guard = none) (x : Operand)
    (ho : o.op = .load 60 x) (hx : a.eval x = .pointer (some ⟨B, 0, none⟩)) (h : wpList Tryz.prog ops Q rest (a.put o.dst g.val) w) : wpList Tryz.prog ops Q (o :: rest) a w :=
  wpList_load_row hgd 60 x ho B hx 60 g.cells (0, 0) _ hg.blk Tryz.underlying60 rfl A.gateSize h

end Go.Proofs.YtgfdindlihfidaaGreat
