/-
  The plain law behind GateShips: what a gate does in a set is what Step does with it alone, with no order where a ship or a rule holds it.
-/
import Derived.Test.YthalanpmfhhhnaaLp
import Derived.Test.YthalanpmfhhhnaaMz
import Derived.Test.YthalanpmfhhhnaaRp
namespace Go.Proofs.Ythalanpmfhhhnaa
open Go.RowKit
set_option linter.unusedSimpArgs false
set_option linter.unusedVariables false

/-- The gate is held back. -/
def heldB (h : Bool) (x : St) (t : Stp) : Bool := (h && (t.order != 0)) && !x.bolted
/-- The step that is taken alone. -/
def shipT (h : Bool) (x : St) (t : Stp) : Stp := if heldB h x t = true then ⟨0, t.power, t.outer, t.inner⟩ else t
/-- What holds gate k. -/
def holdB (rules : List Rul) (sts : List St) (k : Int) (b : Bool) : Bool := b || rules.any (ruleHit sts k)

theorem odd_idle {g : GateV} {x : St} {t : Stp} (h : oddE g x t = 0) : oddE g x ⟨0, t.power, t.outer, t.inner⟩ = 0 := by
  unfold oddE at h ⊢
  split at h
  · rename_i a; exact absurd h a
  · rename_i a
    rw [if_neg a]
    split at h
    · simp at h
    · rename_i b
      rw [if_neg (by simp [outB])]
      exact h
theorem held_ref {rules : List Rul} {sts : List St} {k : Int} {x : St} {t : Stp} {b : Bool} (h : heldB (holdB rules sts k b) x t = true) : refE rules sts k x t b = if b = true then 131 else 132 := by
  simp only [heldB, holdB, Bool.and_eq_true, Bool.or_eq_true, bne_iff_ne, ne_eq, Bool.not_eq_true'] at h
  obtain ⟨⟨h1, h2⟩, h3⟩ := h
  rw [refE, if_neg h2, if_neg (by simp [h3])]
  cases b with
  | true => rfl
  | false =>
    rcases h1 with h1 | h1
    · cases h1
    · rw [if_neg (show ¬ false = true by simp), if_pos h1, if_neg (show ¬ false = true by simp)]
theorem free_ref {rules : List Rul} {sts : List St} {k : Int} {x : St} {t : Stp} {b : Bool} (h : heldB (holdB rules sts k b) x t = false) : refE rules sts k x t b = boltE x t := by
  unfold refE boltE
  by_cases h0 : t.order = 0
  · simp [h0]
  · rw [if_neg h0]
    cases hb : x.bolted with
    | true => simp [h0]
    | false =>
      have h1 : holdB rules sts k b = false := by
        simp only [heldB, hb] at h
        simpa [h0] using h
      simp only [holdB, Bool.or_eq_false_iff] at h1
      rw [h1.1, h1.2]
      simp
theorem ships_step {g : GateV} {rules : List Rul} {sts : List St} {k : Int} {x : St} {t : Stp} {b : Bool} (hc : (checkZ g).2.2 = 0) (ho : oddE g x t = 0) :
    stepZ g x (shipT (holdB rules sts k b) x t) = ((doZ g x t (refE rules sts k x t b)).1, ⟨if heldB (holdB rules sts k b) x t = true then 0 else refE rules sts k x t b, (doZ g x t (refE rules sts k x t b)).2.moved, (doZ g x t (refE rules sts k x t b)).2.oil⟩, 0) := by
  cases hh : heldB (holdB rules sts k b) x t with
  | false =>
    rw [shipT, hh, if_neg (by simp), stepZ, if_neg (by simp [hc]), if_neg (by simp [ho]), aloneZ, free_ref hh, if_neg (by simp)]
    rfl
  | true =>
    have hr : refE rules sts k x t b ≠ 0 := by rw [held_ref hh]; split <;> simp
    rw [shipT, hh, if_pos rfl, stepZ, if_neg (by simp [hc]), if_neg (by simp [odd_idle ho]), aloneZ, if_pos rfl]
    have hb : boltE x ⟨0, t.power, t.outer, t.inner⟩ = 0 := by simp [boltE]
    rw [hb]
    unfold doZ
    rw [moveZ_refused g x t _ hr]
theorem free_0 {rules : List Rul} {sts : List St} {k : Int} {x : St} {t : Stp} {b : Bool} (h : heldB (holdB rules sts k b) x t = false) : (refE rules sts k x t b != 0 && !x.bolted) = false := by
  rw [free_ref h]
  unfold boltE
  cases x.bolted <;> simp
theorem take_any {f : Rul → Bool} {l : List Rul} {m : Nat} (h : m < l.length) : (l.take (m + 1)).any f = ((l.take m).any f || f l[m]) := by
  rw [List.take_succ_eq_append_getElem h, List.any_append]
  simp
end Go.Proofs.Ythalanpmfhhhnaa
