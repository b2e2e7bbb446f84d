/-
  The plain law behind GateAgain: what Run does with the first steps and then with the others is what it does with all of them.
-/
import Derived.Test.YthalanpmfhhhnaaRk
import Derived.Test.YthalanpmfhhhnaaFs
namespace Go.Proofs.Ythalanpmfhhhnaa
open Go.RowKit Go.ChangeShapes Go.WideShapes Go.ChangeAt Go.Deep
set_option linter.unusedVariables false

theorem aft_take {g : GateV} {s : St} {l : List Stp} {h : Nat} : ∀ k, k ≤ h → aft g s (l.take h) k = aft g s l k
  | 0, _ => rfl
  | k + 1, hk => by
    have ih := aft_take (g := g) (s := s) (l := l) (h := h) k (by omega)
    rw [aft, aft, ih, List.getElem?_take_of_lt (by omega)]
theorem aft_drop {g : GateV} {s : St} {l : List Stp} {h : Nat} : ∀ k, aft g (aft g s l h) (l.drop h) k = aft g s l (h + k)
  | 0 => rfl
  | k + 1 => by
    have ih := aft_drop (g := g) (s := s) (l := l) (h := h) k
    rw [aft, ih, ← Nat.add_assoc, aft, List.getElem?_drop]
theorem nzFirst_all {f : Nat → Int} : ∀ {n k : Nat}, (∀ j, k ≤ j → j < k + n → f j = 0) → nzFirst f n k = 0
  | 0, _, _ => rfl
  | n + 1, k, h => by
    have h0 := h k (Nat.le_refl _) (by omega)
    have ih := nzFirst_all (f := f) (n := n) (k := k + 1) (fun j h1 h2 => h j (by omega) (by omega))
    simp [nzFirst, h0, ih]
theorem aft_ok {g : GateV} {s : St} {l : List Stp} (hg : g.Good) (hs : s.Ok g) : ∀ k, (aft g s l k).Ok g
  | 0 => hs
  | k + 1 => by
    have ih := aft_ok (l := l) hg hs k
    rw [aft]
    split
    · exact aloneZ_ok hg ih
    · exact ih
theorem lostE_ok {g : GateV} {s : St} (h : s.Ok g) : lostE g s = 0 := by
  obtain ⟨h1, h2⟩ := h
  unfold lostE
  rw [if_neg]
  simp [outB]
  omega
theorem runE_of {g : GateV} {s : St} {l : List Stp} (hc : (checkZ g).2.2 = 0) (hl : l.length ≤ 2000) (hs : lostE g s = 0) (h : ∀ k, k < l.length → runOdd g s l k = 0) : runE g s l = 0 := by
  rw [runE, if_neg (by simp [hc]), if_neg (by omega), if_neg (by simp [hs])]
  exact nzFirst_all (fun j _ h2 => h j (by omega))
theorem runOdd_0 {g : GateV} {s : St} {l : List Stp} (h : runE g s l = 0) (k : Nat) (hk : k < l.length) : runOdd g s l k = 0 := nzFirst_0 (runE_0 h).2.2.2 k (by omega) (by omega)
theorem run_take {g : GateV} {s : St} {l : List Stp} (h : runE g s l = 0) (m : Nat) : runE g s (l.take m) = 0 := by
  obtain ⟨hc, hl, hs, _⟩ := runE_0 h
  refine runE_of hc (by simp; omega) hs (fun k hk => ?_)
  have hk2 : k < l.length := by simp at hk; omega
  have hkm : k < m := by simp at hk; omega
  have := runOdd_0 h k hk2
  rw [runOdd] at this ⊢
  rw [List.getElem?_take_of_lt hkm, aft_take k (by omega)]
  exact this
theorem run_drop {g : GateV} {s : St} {l : List Stp} (h : runE g s l = 0) (m : Nat) : runE g (aft g s l m) (l.drop m) = 0 := by
  obtain ⟨hc, hl, hs, _⟩ := runE_0 h
  refine runE_of hc (by simp; omega) (lostE_ok (aft_ok (check_good hc) (lostE_0 hs) m)) (fun k hk => ?_)
  have hk2 : m + k < l.length := by simp at hk; omega
  have := runOdd_0 h (m + k) hk2
  rw [runOdd] at this ⊢
  rw [List.getElem?_drop, aft_drop]
  exact this
theorem runL_get {g : GateV} {s : St} {l : List Stp} (h : runE g s l = 0) {k : Nat} (hk : k < (runL g s l).length) : (runL g s l)[k] = aft g s l (k + 1) := by
  simp only [runL, h, if_true, stList, List.getElem_map, List.getElem_range, runF]
theorem run_split {g : GateV} {s : St} {l : List Stp} (h : runE g s l = 0) {m : Nat} (hm : m ≤ l.length) : runL g s l = runL g s (l.take m) ++ runL g (aft g s l m) (l.drop m) := by
  have h1 := runL_0 (run_take h m)
  have h2 := runL_0 (run_drop h m)
  have h0 := runL_0 h
  refine List.ext_getElem ?_ (fun k k1 k2 => ?_)
  · rw [List.length_append, h0, h1, h2]; simp; omega
  · rw [runL_get h]
    by_cases hk : k < m
    · rw [List.getElem_append_left (by rw [h1]; simp; omega), runL_get (run_take h m), aft_take _ (by omega)]
    · rw [List.getElem_append_right (by rw [h1]; simp; omega), runL_get (run_drop h m), aft_drop]
      congr 1
      rw [h1]
      simp
      omega
theorem run_step {g : GateV} {s : St} {l : List Stp} (h : runE g s l = 0) (hl : 0 < l.length) : ∃ m, stepZ g s l[0] = (aft g s l 1, m, 0) := by
  obtain ⟨hc, _, hs, _⟩ := runE_0 h
  have h0 := runOdd_0 h 0 hl
  rw [runOdd_eq hl] at h0
  refine ⟨(aloneZ g s l[0]).2, ?_⟩
  have h0' : oddE g s l[0] = 0 := h0
  rw [stepZ, if_neg (by simp [hc]), if_neg (by simp [h0']), aft_succ hl]
  rfl

section
variable {H : Type} {enc : TypeId × Value → H} {w : World} {base b0 : Nat} {spare : Nat → Bool} {held : Bool} {r : Reach}
theorem slice_caps {t e : TypeId} {fuel : Nat} {c : Value} {x : DataW H × List MemPlace} (ht : Try.prog.underlying t = some (.slice e)) (h : DataW.trod enc Try.prog w base spare held fuel t [c] = some x) :
    ∃ (a : Option Addr) (n cap : Nat), c = .slice a n cap ∧ n ≤ cap ∧ cap ≤ maxLen := by
  rcases open_slice ht h with ⟨hc, _⟩ | ⟨a, len, cap, m, n, D, Pl, hc, _, hl, hm, hmm, _, hi⟩
  · simp at hc
    exact ⟨none, 0, 0, hc, Nat.le_refl _, by simp⟩
  · simp at hc
    exact ⟨some a, len, cap, hc, hl, hm⟩
set_option maxRecDepth 100000 in
theorem stps_arg2 {v : Value} {d : DataW H} {p : List MemPlace} (hv : Value.okWide Try.prog w r b0 62 v) (h : DataW.Trod enc Try.prog w base spare held 62 v d p) : ∃ (a : Option Addr) (l : List Stp) (cap : Nat), v = .slice a l.length cap ∧ StpsAt w a l ∧ l.length ≤ cap ∧ cap ≤ maxLen := by
  obtain ⟨a, n, c, rfl⟩ := okWide_slice Try.underlying62 hv
  obtain ⟨fu, x, hx⟩ := cell_cells rfl h
  obtain ⟨a1, l, c1, e1, h1⟩ := stps_at hx
  obtain ⟨a2, n2, c2, e2, h2, h3⟩ := slice_caps Try.underlying62 hx
  simp only [Value.slice.injEq] at e1 e2
  obtain ⟨rfl, rfl, rfl⟩ := e1
  obtain ⟨rfl, rfl, rfl⟩ := e2
  exact ⟨_, l, _, rfl, h1, h2, h3⟩
end
end Go.Proofs.Ythalanpmfhhhnaa
