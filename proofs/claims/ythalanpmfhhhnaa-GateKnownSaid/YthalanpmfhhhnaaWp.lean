/-
  The plain part of Where: sensors that agree with a position, the positions with which enough of them agree, their span.
-/
import Derived.Test.YthalanpmfhhhnaaWb
namespace Go.Proofs.Ythalanpmfhhhnaa
open Go.RowKit
set_option linter.unusedVariables false

/-- A sensor agrees with a position. -/
def agrB (s : Sen) (r p : Int) : Bool :=
  if s.kind = 1 then decide (p - s.tol ≤ r) && decide (r ≤ p + s.tol) else (decide (r = 1) && decide (s.at_ - s.tol ≤ p)) || (decide (r = 0) && decide (p ≤ s.at_ + s.tol))
/-- Sensor k agrees with a position. -/
def agrAt (ss : List Sen) (rs : List Int) (p : Int) (k : Nat) : Bool := match ss[k]?, rs[k]? with | some s, some r => agrB s r p | _, _ => true
theorem agrAt_eq {ss : List Sen} {rs : List Int} {p : Int} {k : Nat} (h1 : k < ss.length) (h2 : k < rs.length) : agrAt ss rs p k = agrB ss[k] rs[k] p := by
  unfold agrAt
  rw [List.getElem?_eq_getElem h1, List.getElem?_eq_getElem h2]
/-- How many of the first k sensors do not agree. -/
def badN (ss : List Sen) (rs : List Int) (p : Int) : Nat → Nat
  | 0 => 0
  | k + 1 => badN ss rs p k + if agrAt ss rs p k then 0 else 1
theorem badN_le (ss : List Sen) (rs : List Int) (p : Int) : ∀ k, badN ss rs p k ≤ k
  | 0 => Nat.le_refl _
  | k + 1 => by
    have := badN_le ss rs p k
    rw [badN]
    split <;> omega
/-- Enough sensors agree with a position. -/
def fitB (g : GateV) (rs : List Int) (p : Int) : Bool := decide ((badN g.sens rs p g.sens.length : Int) ≤ g.wrong)
/-- The first n positions with which enough agree. -/
def psUpto (g : GateV) (rs : List Int) (n : Nat) : List Int := ((List.range n).map fun k : Nat => (k : Int)).filter (fitB g rs)
theorem psUpto_succ (g : GateV) (rs : List Int) (n : Nat) : psUpto g rs (n + 1) = psUpto g rs n ++ if fitB g rs n then [(n : Int)] else [] := by
  unfold psUpto
  rw [List.range_succ, List.map_append, List.filter_append]
  cases h : fitB g rs n <;> simp [h]
theorem psUpto_pre (g : GateV) (rs : List Int) {m n : Nat} (h : m ≤ n) : psUpto g rs m <+: psUpto g rs n := by
  obtain ⟨d, rfl⟩ : ∃ d, n = m + d := ⟨n - m, by omega⟩
  clear h
  induction d with
  | zero => exact List.prefix_rfl
  | succ d ih => rw [← Nat.add_assoc, psUpto_succ]; exact ih.trans (List.prefix_append _ _)
theorem psUpto_len (g : GateV) (rs : List Int) (n : Nat) : (psUpto g rs n).length ≤ n := by
  have := List.length_filter_le (fitB g rs) ((List.range n).map fun k : Nat => (k : Int))
  simpa [psUpto] using this
theorem psUpto_lt (g : GateV) (rs : List Int) {m n : Nat} (h : m < n) (hf : fitB g rs m = true) : (psUpto g rs m).length < (psUpto g rs n).length := by
  have h1 := (psUpto_pre g rs (show m + 1 ≤ n from h)).length_le
  rw [psUpto_succ, hf] at h1
  simp at h1
  omega
theorem psUpto_mem {g : GateV} {rs : List Int} {n : Nat} {p : Int} (h : p ∈ psUpto g rs n) : 0 ≤ p ∧ p < n ∧ fitB g rs p = true := by
  unfold psUpto at h
  simp only [List.mem_filter, List.mem_map, List.mem_range] at h
  obtain ⟨⟨k, hk, rfl⟩, hf⟩ := h
  exact ⟨by omega, by omega, hf⟩
theorem psUpto_in {g : GateV} {rs : List Int} {n : Nat} {p : Int} (h0 : 0 ≤ p) (h1 : p < n) (hf : fitB g rs p = true) : p ∈ psUpto g rs n := by
  unfold psUpto
  simp only [List.mem_filter, List.mem_map, List.mem_range]
  exact ⟨⟨p.toNat, by omega, by omega⟩, hf⟩

/-- The span of some positions, and the error. -/
def spanLo (l : List Int) : Int := l.head?.getD 0
def spanHi (l : List Int) : Int := l.getLast?.getD 0
def spanE (l : List Int) : Int := if l.isEmpty then 9 else 0
theorem spanLo_snoc (l : List Int) (p : Int) : spanLo (l ++ [p]) = if l.isEmpty then p else spanLo l := by
  cases l <;> rfl
theorem spanHi_snoc (l : List Int) (p : Int) : spanHi (l ++ [p]) = p := by
  unfold spanHi; simp
theorem spanE_snoc (l : List Int) (p : Int) : spanE (l ++ [p]) = 0 := by
  unfold spanE; simp
theorem spanLo_mem {l : List Int} (h : l.isEmpty = false) : spanLo l ∈ l := by
  cases l with
  | nil => cases h
  | cons a l => simp [spanLo]
theorem spanHi_mem {l : List Int} (h : l.isEmpty = false) : spanHi l ∈ l := by
  have hne : l ≠ [] := by intro e; rw [e] at h; cases h
  unfold spanHi
  rw [List.getLast?_eq_some_getLast hne, Option.getD_some]
  exact List.getLast_mem hne

/-- What Where returns of a gate and readings. -/
def whereL (g : GateV) (rs : List Int) : List Int := psUpto g rs (g.travel.toNat + 1)
def whereE (g : GateV) (rs : List Int) : Int := if (checkZ g).2.2 ≠ 0 then (checkZ g).2.2 else if rs.length ≠ g.sens.length then 2 else spanE (whereL g rs)
def whereLo (g : GateV) (rs : List Int) : Int := if whereE g rs = 0 then spanLo (whereL g rs) else 0
def whereHi (g : GateV) (rs : List Int) : Int := if whereE g rs = 0 then spanHi (whereL g rs) else 0

/-- What Check tells of the sensors. -/
theorem check_sens {g : GateV} (h : (checkZ g).2.2 = 0) : g.sens.length ≤ 6 ∧ (∀ s ∈ g.sens, sensorE s = 0) ∧ 0 ≤ g.wrong ∧ g.wrong ≤ g.sens.length := by
  unfold checkZ at h
  split at h
  · rename_i h1; exact absurd h h1
  split at h
  · simp at h
  split at h
  · rename_i h1; exact absurd h h1
  split at h
  · simp at h
  split at h
  · simp at h
  split at h
  · rename_i h1; exact absurd h h1
  split at h
  · simp at h
  · rename_i h1 h2 h3
    refine ⟨by omega, fun s hs => scan_0 _ _ _ (by simpa using h2) s hs, ?_⟩
    simp only [Bool.not_eq_true] at h3
    exact outB_ft h3
theorem sensorE_bd {s : Sen} (h : sensorE s = 0) : (s.kind = 1 ∨ s.kind = 2) ∧ (0 ≤ s.at_ ∧ s.at_ ≤ 5000) ∧ 0 ≤ s.tol ∧ s.tol ≤ 5000 := by
  unfold sensorE at h
  split at h
  · omega
  · rename_i h1
    split at h
    · omega
    · rename_i h2
      simp [anyB, outB] at h2
      omega
end Go.Proofs.Ythalanpmfhhhnaa
