/-
  Rows of one's own, read as lists of states and of what came of steps; the plain part of gate.all and gate.Delay.
-/
import Derived.Test.YtgfdindlihfidaaGreatTr
import Derived.Laws.OwnMore
namespace Go.Proofs.YtgfdindlihfidaaGreat
open Go.RowKit
set_option linter.unusedSimpArgs false
set_option linter.unusedVariables false

theorem stRow_len (f : Nat → St × Mvd) : ∀ n, (stRow f n).length = n * 3
  | 0 => rfl
  | n + 1 => by rw [stRow_succ, List.length_append, stRow_len f n]; simp; omega
theorem mvRow_len (f : Nat → St × Mvd) : ∀ n, (mvRow f n).length = n * 3
  | 0 => rfl
  | n + 1 => by rw [mvRow_succ, List.length_append, mvRow_len f n]; simp; omega
theorem stRow_get (f : Nat → St × Mvd) : ∀ n k r, k < n → r < 3 → (stRow f n)[k * 3 + r]? = (f k).1.cells.toList[r]?
  | 0, k, r, h, _ => absurd h (by omega)
  | n + 1, k, r, h, hr => by
    rw [stRow_succ]
    by_cases e : k < n
    · rw [List.getElem?_append_left (by rw [stRow_len]; omega)]
      exact stRow_get f n k r e hr
    · have e2 : k = n := by omega
      subst e2
      rw [List.getElem?_append_right (by rw [stRow_len]; omega), stRow_len]
      congr 1; omega
theorem mvRow_get (f : Nat → St × Mvd) : ∀ n k r, k < n → r < 3 → (mvRow f n)[k * 3 + r]? = (f k).2.cells.toList[r]?
  | 0, k, r, h, _ => absurd h (by omega)
  | n + 1, k, r, h, hr => by
    rw [mvRow_succ]
    by_cases e : k < n
    · rw [List.getElem?_append_left (by rw [mvRow_len]; omega)]
      exact mvRow_get f n k r e hr
    · have e2 : k = n := by omega
      subst e2
      rw [List.getElem?_append_right (by rw [mvRow_len]; omega), mvRow_len]
      congr 1; omega

/-- What came of steps lies in memory. -/
def MvsAt (w : World) (a : Option Addr) (l : List Mvd) : Prop :=
  l.length ≤ maxLen ∧ (l = [] ∨ ∃ b off, a = some ⟨b, off, none⟩ ∧ b < w.heap.size ∧ ∀ k, (h : k < l.length) →
    w.cell? ⟨b, off + k * 3, none⟩ = some (.int .i64 l[k].refused) ∧ w.cell? ⟨b, off + k * 3 + 1, none⟩ = some (.int .i64 l[k].moved) ∧ w.cell? ⟨b, off + k * 3 + 2, none⟩ = some (.int .i64 l[k].oil))
theorem MvsAt.below {w w' : World} {a : Option Addr} {l : List Mvd} {B : Nat} (h : MvsAt w a l) (hb : Below B w w') (hB : w.heap.size ≤ B) : MvsAt w' a l := by
  obtain ⟨hm, h⟩ := h
  refine ⟨hm, ?_⟩
  rcases h with h | ⟨b, off, h1, h2, h3⟩
  · exact .inl h
  · refine .inr ⟨b, off, h1, Nat.lt_of_lt_of_le h2 hb.size, fun k hk => ?_⟩
    have hlt := Nat.lt_of_lt_of_le h2 hB
    obtain ⟨c0, c1, c2⟩ := h3 k hk
    exact ⟨(hb.cell (p := ⟨b, off + k * 3, none⟩) hlt).trans c0, (hb.cell (p := ⟨b, off + k * 3 + 1, none⟩) hlt).trans c1, (hb.cell (p := ⟨b, off + k * 3 + 2, none⟩) hlt).trans c2⟩

/-- The states that come of a step of all gates; and what came. -/
def stList (f : Nat → St × Mvd) (n : Nat) : List St := (List.range n).map fun i => (f i).1
def mvList (f : Nat → St × Mvd) (n : Nat) : List Mvd := (List.range n).map fun i => (f i).2
theorem stList_len (f : Nat → St × Mvd) (n : Nat) : (stList f n).length = n := by simp [stList]
theorem mvList_len (f : Nat → St × Mvd) (n : Nat) : (mvList f n).length = n := by simp [mvList]

theorem sts_of_row {w : World} {base n : Nat} {v : Value} {f : Nat → St × Mvd} (hm : n ≤ maxLen) (h : w.ownsRow base 62 3 v n (stRow f n)) : ∃ a cap, v = .slice a n cap ∧ StsAt w a (stList f n) := by
  by_cases h0 : n = 0
  · subst h0
    rcases h.2 with ⟨rfl, _⟩ | ⟨g, cap, cur, rfl, _⟩
    · exact ⟨none, 0, rfl, by simp [stList], .inl (by simp [stList])⟩
    · exact ⟨_, cap, rfl, by simp [stList], .inl (by simp [stList])⟩
  · obtain ⟨g, cap, rfl, hb, hlt⟩ := h.form (by omega)
    refine ⟨_, cap, rfl, by simpa [stList] using hm, .inr ⟨g, 0, rfl, hlt, fun k hk => ?_⟩⟩
    have hk' : k < n := by simpa [stList] using hk
    have e : (stList f n)[k] = (f k).1 := by simp [stList]
    rw [e]
    have c := fun r (hr : r < 3) => (h.cellAt (k * 3 + r) (by omega)).trans (stRow_get f n k r hk' hr)
    have c0 := c 0 (by omega)
    have c1 := c 1 (by omega)
    have c2 := c 2 (by omega)
    simp only [Nat.zero_add]
    exact ⟨c0, c1, c2⟩
theorem mvs_of_row {w : World} {base n : Nat} {v : Value} {f : Nat → St × Mvd} (hm : n ≤ maxLen) (h : w.ownsRow base 95 3 v n (mvRow f n)) : ∃ a cap, v = .slice a n cap ∧ MvsAt w a (mvList f n) := by
  by_cases h0 : n = 0
  · subst h0
    rcases h.2 with ⟨rfl, _⟩ | ⟨g, cap, cur, rfl, _⟩
    · exact ⟨none, 0, rfl, by simp [mvList], .inl (by simp [mvList])⟩
    · exact ⟨_, cap, rfl, by simp [mvList], .inl (by simp [mvList])⟩
  · obtain ⟨g, cap, rfl, hb, hlt⟩ := h.form (by omega)
    refine ⟨_, cap, rfl, by simpa [mvList] using hm, .inr ⟨g, 0, rfl, hlt, fun k hk => ?_⟩⟩
    have hk' : k < n := by simpa [mvList] using hk
    have e : (mvList f n)[k] = (f k).2 := by simp [mvList]
    rw [e]
    have c := fun r (hr : r < 3) => (h.cellAt (k * 3 + r) (by omega)).trans (mvRow_get f n k r hk' hr)
    have c0 := c 0 (by omega)
    have c1 := c 1 (by omega)
    have c2 := c 2 (by omega)
    simp only [Nat.zero_add]
    exact ⟨c0, c1, c2⟩
end Go.Proofs.YtgfdindlihfidaaGreat
