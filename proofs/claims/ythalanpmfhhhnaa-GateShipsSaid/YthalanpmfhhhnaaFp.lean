/-
  The plain law behind GateFalls: a gate that closes by itself, and in how many steps.
-/
import Derived.Test.YthalanpmfhhhnaaHe
namespace Go.Proofs.Ythalanpmfhhhnaa
open Go.RowKit
set_option linter.unusedSimpArgs false
set_option linter.unusedVariables false

theorem fall_cases (g : GateV) (o i : Int) : ∀ (n : Nat) (p : Int), (fallFrom g o i n p = -1 ∧ ∀ j, p ≤ j → j < p + n → rubZ g j o i < netZ g j o i) ∨ (p ≤ fallFrom g o i n p ∧ fallFrom g o i n p < p + n ∧ netZ g (fallFrom g o i n p) o i ≤ rubZ g (fallFrom g o i n p) o i)
  | 0, p => .inl ⟨rfl, fun j h1 h2 => absurd h2 (by omega)⟩
  | n + 1, p => by
    rw [fallFrom]
    by_cases h : netZ g p o i ≤ rubZ g p o i
    · rw [if_pos h]
      exact .inr ⟨by omega, by omega, h⟩
    · rw [if_neg h]
      rcases fall_cases g o i n (p + 1) with ⟨h1, h2⟩ | ⟨h1, h2, h3⟩
      · refine .inl ⟨h1, fun j h3 h4 => ?_⟩
        by_cases e : j = p
        · subst e; omega
        · exact h2 j (by omega) (by omega)
      · exact .inr ⟨by omega, by omega, h3⟩

/-- In how many steps a gate has gone a way, so much a step. -/
def ceilZ (d gr : Int) : Int := (d + gr - 1) / gr
theorem ceilZ_0 {gr : Int} (h : 1 ≤ gr) : ceilZ 0 gr = 0 := by
  unfold ceilZ
  exact Int.ediv_eq_zero_of_lt (by omega) (by omega)
theorem ceilZ_step {d gr : Int} (h : 1 ≤ gr) (hd : 1 ≤ d) : ceilZ d gr = ceilZ (d - min gr d) gr + 1 := by
  by_cases hle : d ≤ gr
  · rw [show d - min gr d = 0 from by omega, ceilZ_0 h]
    unfold ceilZ
    rw [show d + gr - 1 = (d - 1) + 1 * gr from by omega, Int.add_mul_ediv_right _ _ (by omega), Int.ediv_eq_zero_of_lt (by omega) (by omega)]
  · rw [show d - min gr d = d - gr from by omega]
    unfold ceilZ
    rw [show d + gr - 1 = (d - gr + gr - 1) + 1 * gr from by omega, Int.add_mul_ediv_right _ _ (by omega)]
theorem ceilZ_nn {d gr : Int} (h : 1 ≤ gr) (hd : 0 ≤ d) : 0 ≤ ceilZ d gr := Int.ediv_nonneg (by omega) (by omega)

theorem time_falls {g : GateV} {o i : Int} {power : Bool} (hg : g.Good) (hf : ∀ j, 0 ≤ j → j < g.travel → rubZ g j o i < netZ g j o i) :
    ∀ (n : Nat) (s : St) (k : Int), s.Ok g → s.bolted = false → timeFrom g ⟨1, power, o, i⟩ n s k = if ceilZ (g.travel - s.pos) g.gravity < n then (k + ceilZ (g.travel - s.pos) g.gravity, 0) else (0, 9)
  | 0, s, k, hs, hb => by
    have := ceilZ_nn (d := g.travel - s.pos) hg.gravity.1 (by have := hs.pos; omega)
    rw [timeFrom, if_neg (by simp; omega)]
  | n + 1, s, k, hs, hb => by
    have hp := hs.pos
    have hgr := hg.gravity
    rw [timeFrom]
    by_cases e : s.pos = g.travel
    · rw [if_pos e, e, Int.sub_self, ceilZ_0 hgr.1, if_pos (by omega), Int.add_zero]
    · rw [if_neg e]
      have hm : moveZ g s ⟨1, power, o, i⟩ (boltE s ⟨1, power, o, i⟩) = (min g.gravity (g.travel - s.pos), 0) := by
        have h1 := hf s.pos (by omega) (by omega)
        simp [moveZ, boltE, pushZ, hb, h1]
      have hx : (aloneZ g s ⟨1, power, o, i⟩).1.pos = s.pos + min g.gravity (g.travel - s.pos) := by simp [aloneZ, doZ, hm]
      have hbx : (aloneZ g s ⟨1, power, o, i⟩).1.bolted = false := by simp [aloneZ, doZ, hb]
      rw [time_falls hg hf n _ (k + 1) (aloneZ_ok hg hs) hbx, hx]
      have hc := ceilZ_step (d := g.travel - s.pos) hgr.1 (by omega)
      rw [show g.travel - (s.pos + min g.gravity (g.travel - s.pos)) = g.travel - s.pos - min g.gravity (g.travel - s.pos) from by omega]
      generalize ceilZ (g.travel - s.pos - min g.gravity (g.travel - s.pos)) g.gravity = c at hc ⊢
      rw [hc]
      by_cases hlt : c < n
      · rw [if_pos hlt, if_pos (by omega)]
        congr 1; omega
      · rw [if_neg hlt, if_neg (by omega)]

theorem odd_ok {g : GateV} {s : St} {t : Stp} (hs : s.Ok g) (ht : t.Lv) (ho : 0 ≤ t.order ∧ t.order ≤ 2) : oddE g s t = 0 := by
  have h1 := hs.pos
  have h2 := hs.charge
  have h3 := ht.outer
  have h4 := ht.inner
  have a1 : outB s.pos 0 g.travel = false := by simp [outB]; omega
  have a2 : outB s.charge 0 g.cap = false := by simp [outB]; omega
  have a3 : outB t.outer (-20000) 20000 = false := by simp [outB]; omega
  have a4 : outB t.inner (-20000) 20000 = false := by simp [outB]; omega
  have a5 : outB t.order 0 2 = false := by simp [outB]; omega
  have hl : lostE g s = 0 := by unfold lostE; rw [if_neg (by simp [a1, a2])]
  unfold oddE
  simp [hl, a3, a4, a5]

theorem at_check {g : GateV} {o i : Int} (h : atE g o i = 0) : (checkZ g).2.2 = 0 := by
  unfold atE at h
  split at h
  · omega
  · omega

/-- What GateFalls asks, where Falls returns a position. -/
theorem falls_stay {g : GateV} {o i p : Int} (h : atE g o i = 0) (h0 : 0 ≤ p) (h1 : p < g.travel) (hn : netZ g p o i ≤ rubZ g p o i) :
    (stepZ g ⟨p, 0, false⟩ ⟨1, false, o, i⟩).1.pos = p ∧ (stepZ g ⟨p, 0, false⟩ ⟨1, false, o, i⟩).2.2 = 0 := by
  obtain ⟨hg, ho, hi⟩ := atE_0 h
  have hs : (⟨p, 0, false⟩ : St).Ok g := ⟨⟨h0, by simp only; omega⟩, by simp only; exact ⟨by omega, hg.cap.1⟩⟩
  have hodd : oddE g ⟨p, 0, false⟩ ⟨1, false, o, i⟩ = 0 := odd_ok hs ⟨ho, hi⟩ (by simp)
  have hm : moveZ g ⟨p, 0, false⟩ ⟨1, false, o, i⟩ (boltE ⟨p, 0, false⟩ ⟨1, false, o, i⟩) = (0, 0) := by
    have h2 : ¬ rubZ g p o i < netZ g p o i := by omega
    simp [moveZ, boltE, pushZ, h2]
  have hst : stepZ g ⟨p, 0, false⟩ ⟨1, false, o, i⟩ = ((aloneZ g ⟨p, 0, false⟩ ⟨1, false, o, i⟩).1, (aloneZ g ⟨p, 0, false⟩ ⟨1, false, o, i⟩).2, 0) := by
    rw [stepZ, if_neg (by simp [at_check h]), if_neg (by simp [hodd])]
  rw [hst]
  exact ⟨by simp [aloneZ, doZ, hm], rfl⟩

/-- What GateFalls asks, where Falls returns -1. -/
theorem falls_time {g : GateV} {o i a : Int} {power : Bool} (h : atE g o i = 0) (h0 : 0 ≤ a) (h1 : a ≤ g.travel) (hf : ∀ j, 0 ≤ j → j < g.travel → rubZ g j o i < netZ g j o i) :
    timeZ g ⟨a, 0, false⟩ o i power = if ceilZ (g.travel - a) g.gravity < 2001 then (ceilZ (g.travel - a) g.gravity, 0) else (0, 9) := by
  obtain ⟨hg, ho, hi⟩ := atE_0 h
  have hs : (⟨a, 0, false⟩ : St).Ok g := ⟨⟨h0, h1⟩, by simp only; exact ⟨by omega, hg.cap.1⟩⟩
  have hodd : oddE g ⟨a, 0, false⟩ ⟨1, power, o, i⟩ = 0 := odd_ok hs ⟨ho, hi⟩ (by simp)
  rw [timeZ, if_neg (by simp [at_check h]), if_neg (by simp [hodd]), time_falls hg hf 2001 _ 0 hs rfl]
  simp
end Go.Proofs.Ythalanpmfhhhnaa
