/-
  A list of states appended to a row of one's own, wherever the list lies (nowhere, if it is empty); a row that holds a list of states.
-/
import Derived.Test.YtgfdindlihfidaaGreatRo
import Derived.Maps.AppendAt
import Derived.Deep.AppendLies
import Derived.RegionTactic
import Derived.OwnWalk
namespace Go.Proofs.YtgfdindlihfidaaGreat
open Go.RowKit
set_option linter.unusedVariables false
set_option linter.unusedSimpArgs false

theorem bcl {W : World} {P : Nat} {cs : Array Value} {t : TypeId} (h : W.heap[P]? = some (.cells cs t (0, 0))) (i : Nat) (v : Value) (hv : cs[i]? = some v) : W.cell? ⟨P, i, none⟩ = some v := by
  rw [cell_of_row W P i _ _ _ h, hv]
/-- The cells of a list of states. -/
def rowL (L : List St) : List Value := L.flatMap fun s => s.cells.toList
theorem rowL_len : ∀ L : List St, (rowL L).length = L.length * 3
  | [] => rfl
  | s :: L => by
    have := rowL_len L
    simp only [rowL, List.flatMap_cons, List.length_append] at this ⊢
    rw [this]
    simp
    omega
theorem rowL_app (A B : List St) : rowL (A ++ B) = rowL A ++ rowL B := by simp [rowL, List.flatMap_append]
theorem rowL_one : ∀ {L : List St} {u : Value}, u ∈ rowL L → u.oneCell' = true := by
  intro L u h
  unfold rowL at h
  obtain ⟨s, _, h⟩ := List.mem_flatMap.1 h
  simp at h
  rcases h with rfl | rfl | rfl <;> rfl
theorem rowL_get : ∀ (L : List St) (k : Nat) (h : k < L.length) (r : Nat), r < 3 → (rowL L)[k * 3 + r]? = L[k].cells[r]?
  | s :: L, 0, _, r, hr => by
    rw [Nat.zero_mul, Nat.zero_add]
    show (s.cells.toList ++ rowL L)[r]? = s.cells[r]?
    rw [List.getElem?_append_left (by simpa using hr)]
    simp
  | s :: L, k + 1, h, r, hr => by
    have ih := rowL_get L k (by simpa using h) r hr
    show (s.cells.toList ++ rowL L)[(k + 1) * 3 + r]? = _
    rw [List.getElem?_append_right (by simp; omega)]
    have e : (k + 1) * 3 + r - s.cells.toList.length = k * 3 + r := by simp; omega
    rw [e, ih]
    rfl
theorem sts_cells {w : World} {ad : Addr} {L : List St} (h : StsAt w (some ad) L) : ∀ j u, (rowL L)[j]? = some u → w.cell? (ad.add j) = some u := by
  intro j u hu
  have hj : j < L.length * 3 := by
    rw [← rowL_len]
    exact (List.getElem?_eq_some_iff.1 hu).1
  rcases h.2 with rfl | ⟨b, off, e, hb, hc⟩
  · simp at hj
  · injection e with e
    subst e
    have hk : j / 3 < L.length := by omega
    obtain ⟨c0, c1, c2⟩ := hc (j / 3) hk
    have hg := rowL_get L (j / 3) hk (j % 3) (by omega)
    rw [show j / 3 * 3 + j % 3 = j by omega, hu] at hg
    have had : (⟨b, off, none⟩ : Addr).add j = ⟨b, off + j, none⟩ := by unfold Addr.add; split <;> simp_all
    rw [had]
    have hr : j % 3 = 0 ∨ j % 3 = 1 ∨ j % 3 = 2 := by omega
    rcases hr with hr | hr | hr
    · rw [hr] at hg
      rw [show off + j = off + j / 3 * 3 by omega, c0, hg]
      rfl
    · rw [hr] at hg
      rw [show off + j = off + j / 3 * 3 + 1 by omega, c1, hg]
      rfl
    · rw [hr] at hg
      rw [show off + j = off + j / 3 * 3 + 2 by omega, c2, hg]
      rfl
theorem own_sts {w : World} {base : Nat} {v : Value} {L : List St} (hl : 0 < L.length) (hm : L.length ≤ maxLen) (h : w.ownsRow base 62 3 v L.length (rowL L)) : ∃ a cap, v = .slice a L.length cap ∧ StsAt w a L := by
  obtain ⟨g, cap, rfl, hb, hlt⟩ := h.form hl
  refine ⟨_, cap, rfl, hm, .inr ⟨g, 0, rfl, hlt, fun k hk => ?_⟩⟩
  have c := fun r (hr : r < 3) => (h.cellAt (k * 3 + r) (by omega)).trans (rowL_get L k hk r hr)
  simp only [Nat.zero_add]
  exact ⟨c 0 (by omega), c 1 (by omega), c 2 (by omega)⟩

theorem run_app_sts (w : World) (ty : TypeId) (base n : Nat) (v : Value) (xs : List Value) (hown : w.ownsRow base 62 3 v n xs) (aa : Option Addr) (c : Nat) (L : List St) (hL : StsAt w aa L) (hb : n + L.length ≤ 4000) (hbase : base ≤ w.heap.size) :
    ∃ v' w', (Builtin.append_ #[26, 26] ty #[v, .slice aa L.length c]).run Tryz.prog w = .ok v' w' ∧ w'.ownsRow base 62 3 v' (n + L.length) (xs ++ rowL L) ∧ w.grownBy w' v.ownBlock := by
  obtain ⟨i1, hi, hz, hs, hby⟩ := info_parts A.stInfo
  cases aa with
  | none =>
    have hn : L = [] := by
      rcases hL.2 with h | ⟨b, off, h, _⟩
      · exact h
      · cases h
    subst hn
    refine ⟨v, w, ?_, by simpa [rowL] using hown, World.grownBy.refl w _⟩
    rcases hown.2 with ⟨rfl, rfl⟩ | ⟨g, cap, cur, rfl, _, _, hnc, _⟩
    · simp [Builtin.append_, run_underlying Tryz.underlying26, sizeOf, typeInfo, hi, Builtin.lenOf, Builtin.firstCells]
    · simp [Builtin.append_, run_underlying Tryz.underlying26, sizeOf, typeInfo, hi, Builtin.lenOf, Builtin.firstCells, hnc, storeCells]
  | some ad =>
    obtain ⟨v', w', hrun, h2, h3, _, _⟩ := run_append_own_at (P := Tryz.prog) w base 26 ty 62 i1 _ 3 24 Tryz.underlying26 hi hz hs hby rfl (by decide) v n xs hown ad L.length c (rowL L) (rowL_len L) (sts_cells hL) (fun u => rowL_one) (by unfold maxLen; omega) (by omega) hbase
    exact ⟨v', w', hrun, h2, h3⟩
theorem step_app_sts {w : World} {ops : Array Oper} {o : Oper} {a : Act} {K : Act → World → Prop} {Q : Exit → Act → World → Prop} {E : Prop} (hw : Region.wanted o (yielded ops a.tmps) = true) (s x : Operand)
    (ho : o.op = .call { callee := .builtin .append, args := #[s, x], argTypes := #[26, 26] })
    (base n : Nat) (v : Value) (xs : List Value) (hs : a.eval s = v) (hown : w.ownsRow base 62 3 v n xs) (A : Option Addr) (m c : Nat) (L : List St) (hx : a.eval x = .slice A m c) (hm : L.length = m) (hL : StsAt w A L) (hb : n + m ≤ 4000) (hbase : base ≤ w.heap.size)
    (h : ∀ v' w', w'.ownsRow base 62 3 v' (n + m) (xs ++ rowL L) → w.grownBy w' v.ownBlock → K (a.put o.dst v') w') :
    if Region.wanted o (yielded ops a.tmps) = true then Oper.wp Tryz.prog o a w K Q else E := by
  subst hm
  rw [if_pos hw]
  obtain ⟨v', w', hrun, h2, h3⟩ := run_app_sts w o.type base n v xs hown A c L hL hb hbase
  unfold Oper.wp execOp
  simp only [ho, resolve, invoke, builtin, Sem.run_bind, Sem.run_pure, Result.andThen_ok, List.map_toArray, List.map_cons, List.map_nil, hs, hx, hrun]
  exact h v' w' h2 h3
end Go.Proofs.YtgfdindlihfidaaGreat
