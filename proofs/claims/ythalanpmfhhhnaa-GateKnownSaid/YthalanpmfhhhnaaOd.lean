/-
  What Check tells of the numbers; the errors of a state and a step.
-/
import Derived.Test.YthalanpmfhhhnaaMb
import Derived.Test.YthalanpmfhhhnaaRc
namespace Go.Proofs.Ythalanpmfhhhnaa
open Go.RowKit
set_option linter.unusedSimpArgs false
set_option linter.unusedVariables false

theorem scan_0 {α : Type} (f : α → Int) : ∀ (l : List α) (k : Int), (scan f l k).2 = 0 → ∀ x ∈ l, f x = 0
  | [], _, _, x, hx => by simp at hx
  | y :: l, k, h, x, hx => by
    by_cases hy : f y = 0
    · rw [scan, if_pos hy] at h
      rcases List.mem_cons.1 hx with rfl | hx
      · exact hy
      · exact scan_0 f l (k + 1) h x hx
    · rw [scan, if_neg hy] at h
      exact absurd h hy

theorem forceE_bd {kind n : Int} (h : forceE kind n = 0) : -200000 ≤ n ∧ n ≤ 200000 := by
  unfold forceE at h
  split at h
  · omega
  · rename_i h1
    simp only [Bool.not_eq_true] at h1
    exact outB_ft h1

/-- A gate that Check takes has good numbers. -/
theorem check_good {g : GateV} (h : (checkZ g).2.2 = 0) : g.Good := by
  have h0 : headE g = 0 := by
    by_cases hh : headE g = 0
    · exact hh
    · rw [checkZ, if_pos hh] at h
      exact absurd h hh
  obtain ⟨hn, hk, ht⟩ := headE_0 h0
  rw [checkZ_eq g h0] at h
  have ho : (ownZ g).2 = 0 := by
    by_cases hh : (ownZ g).2 = 0
    · exact hh
    · rw [if_pos hh] at h
      exact absurd h hh
  rw [if_neg (by simp [ho])] at h
  have hnb : numsB g = false := by
    cases hh : numsB g with
    | false => rfl
    | true => rw [hh] at h; simp at h
  rw [numsB_cons] at hnb
  simp only [Bool.or_eq_false_iff] at hnb
  obtain ⟨⟨⟨⟨⟨⟨⟨⟨⟨⟨⟨⟨⟨⟨b0, b1⟩, b2⟩, b3⟩, b4⟩, b5⟩, b6⟩, b7⟩, b8⟩, b9⟩, b10⟩, b11⟩, b12⟩, b13⟩, b14⟩ := hnb
  have hl : outB g.own.length 2 16 = false := by
    cases hh : outB g.own.length 2 16 with
    | false => rfl
    | true => rw [ownZ, if_pos hh] at ho; simp at ho
  have hs : (scan (forceE g.kind) g.own 0).2 = 0 := by rwa [ownZ, if_neg (by rw [hl]; decide)] at ho
  have hl2 := outB_ft hl
  refine ⟨hk, ht, by omega, fun i => ?_, outB_ft b0, outB_ft b1, outB_ft b2, outB_ft b3, outB_ft b4, outB_ft b5, outB_ft b6, outB_ft b7, outB_ft b8, outB_ft b9, outB_ft b10, outB_ft b11, outB_ft b12, outB_ft b13, by have := outB_ft b14; omega⟩
  by_cases hi : i < g.own.length
  · rw [List.getElem?_eq_getElem hi, Option.getD_some]
    exact forceE_bd (scan_0 _ _ _ hs _ (List.getElem_mem hi))
  · rw [List.getElem?_eq_none (by omega), Option.getD_none]
    omega

/-- The error of a state. -/
def lostE (g : GateV) (s : St) : Int := if (outB s.pos 0 g.travel || outB s.charge 0 g.cap) = true then 7 else 0
/-- The error of a state and a step. -/
def oddE (g : GateV) (s : St) (t : Stp) : Int :=
  if lostE g s ≠ 0 then lostE g s else if outB t.order 0 2 = true then 2 else if (outB t.outer (-20000) 20000 || outB t.inner (-20000) 20000) = true then 7 else 0

theorem lostE_0 {g : GateV} {s : St} (h : lostE g s = 0) : s.Ok g := by
  unfold lostE at h
  split at h
  · omega
  · rename_i h1
    simp only [Bool.not_eq_true, Bool.or_eq_false_iff] at h1
    exact ⟨outB_ft h1.1, outB_ft h1.2⟩
theorem oddE_0 {g : GateV} {s : St} {t : Stp} (h : oddE g s t = 0) : s.Ok g ∧ t.Lv ∧ 0 ≤ t.order ∧ t.order ≤ 2 := by
  unfold oddE at h
  split at h
  · omega
  · rename_i h0
    split at h
    · omega
    · rename_i h1
      split at h
      · omega
      · rename_i h2
        simp only [Bool.not_eq_true, Bool.or_eq_false_iff] at h1 h2
        have := outB_ft h1
        exact ⟨lostE_0 (by omega), ⟨outB_ft h2.1, outB_ft h2.2⟩, this.1, this.2⟩

theorem lost_any (g : GateV) (s : St) (w : World) :
    Calls Try.prog 91 #[g.val, s.val] w fun e w' => e = .returned (.int .i64 (lostE g s)) ∧ Below w.heap.size w w' := by
  by_cases h1 : outB s.pos 0 g.travel = true
  · have hr : lostE g s = 7 := by simp [lostE, h1]
    have Hr := Lib.hid hr
    clear hr
    go_enter Try.func91, Try.ntmps91
    go_wp2_with (go_at_call 50; refine (out_any _ _ _ _).mono ?_; rintro e w' ⟨rfl, rfl⟩)
    go_ret
    exact ⟨ret_int Hr.out.symm, ((Below.refl _ _).alloc (Nat.le_refl _) _).alloc (by simp) _⟩
  · by_cases h2 : outB s.charge 0 g.cap = true
    · have hr : lostE g s = 7 := by simp [lostE, h2]
      have Hr := Lib.hid hr
      simp only [Bool.not_eq_true] at h1
      clear hr
      go_enter Try.func91, Try.ntmps91
      go_wp2_with (go_at_call 50; refine (out_any _ _ _ _).mono ?_; rintro e w' ⟨rfl, rfl⟩)
      go_ret
      exact ⟨ret_int Hr.out.symm, ((Below.refl _ _).alloc (Nat.le_refl _) _).alloc (by simp) _⟩
    · have hr : lostE g s = 0 := by simp [lostE, h1, h2]
      have Hr := Lib.hid hr
      simp only [Bool.not_eq_true] at h1 h2
      clear hr
      go_enter Try.func91, Try.ntmps91
      go_wp2_with (go_at_call 50; refine (out_any _ _ _ _).mono ?_; rintro e w' ⟨rfl, rfl⟩)
      go_ret
      exact ⟨ret_int Hr.out.symm, ((Below.refl _ _).alloc (Nat.le_refl _) _).alloc (by simp) _⟩

/-- A step lies in block B. -/
structure StpIn (w : World) (B : Nat) (t : Stp) : Prop where
  lt : B < w.heap.size
  blk : w.heap[B]? = some (.cells t.cells 45 (0, 0))
theorem StpIn.below {w W : World} {B B0 : Nat} {t : Stp} (h : StpIn w B t) (hb : Below B0 w W) (hB : w.heap.size ≤ B0) : StpIn W B t :=
  ⟨Nat.lt_of_lt_of_le h.lt hb.size, (hb.block B (Nat.lt_of_lt_of_le h.lt hB)).trans h.blk⟩
theorem StpIn.cell {w : World} {B : Nat} {t : Stp} (h : StpIn w B t) (k : Nat) (v : Value) (hv : t.cells[k]? = some v) : w.cell? ⟨B, k, none⟩ = some v := by
  rw [cell_of_row w B k _ _ _ h.blk, hv]

theorem odd1_any (B : Nat) (t : Stp) (w : World) (hg : StpIn w B t) :
    Calls Try.prog 100 #[.pointer (some ⟨B, 0, none⟩)] w fun e w' => e = .returned (.bool (outB t.order 0 2)) ∧ Below w.heap.size w w' := by
  have c0 := hg.cell 0 _ rfl
  clear hg
  go_enter Try.func100, Try.ntmps100
  go_wp2_with (go_at_call 50; refine (out_any _ _ _ _).mono ?_; rintro e w' ⟨rfl, rfl⟩)
  go_ret
  exact ⟨rfl, Below.refl _ _⟩
theorem odd2_any (B : Nat) (t : Stp) (w : World) (hg : StpIn w B t) :
    Calls Try.prog 101 #[.pointer (some ⟨B, 0, none⟩)] w fun e w' => e = .returned (.bool (outB t.outer (-20000) 20000 || outB t.inner (-20000) 20000)) ∧ Below w.heap.size w w' := by
  have c2 := hg.cell 2 _ rfl
  have c3 := hg.cell 3 _ rfl
  clear hg
  by_cases h1 : outB t.outer (-20000) 20000 = true
  all_goals
    try simp only [Bool.not_eq_true] at h1
    go_enter Try.func101, Try.ntmps101
    go_wp2_with (go_at_call 63; refine (dry_any _ _).mono ?_; rintro e w' ⟨rfl, rfl⟩)
    go_ret
    exact ⟨ret_bool (by simp [h1]), Below.refl _ _⟩

/-- The two faults of a step. -/
def flts2 (B : Nat) (t : Stp) : List Flt :=
  [⟨100, #[.pointer (some ⟨B, 0, none⟩)], 2, outB t.order 0 2⟩, ⟨101, #[.pointer (some ⟨B, 0, none⟩)], 7, outB t.outer (-20000) 20000 || outB t.inner (-20000) 20000⟩]
theorem flts2_ok (B : Nat) (t : Stp) (w : World) (hg : StpIn w B t) : FltsOk w (flts2 B t) :=
  ⟨⟨enters_of Try.func100 (by kernel_rfl) rfl, fun W hb => odd1_any B t W (hg.below hb (Nat.le_refl _))⟩, fun _ =>
   ⟨⟨enters_of Try.func101 (by kernel_rfl) rfl, fun W hb => odd2_any B t W (hg.below hb (Nat.le_refl _))⟩, fun _ => trivial⟩⟩
theorem flts2_at (w : World) (B : Nat) (s : Stp) (t : TypeId) :
    FltsAt (w.alloc (.cells #[.func (.func 100) #[] #[.pointer (some ⟨B, 0, none⟩)], .int .i64 2, .func (.func 101) #[] #[.pointer (some ⟨B, 0, none⟩)], .int .i64 7] t)) w.heap.size 0 (flts2 B s) := by
  refine ⟨by simp, fun k h => ?_⟩
  match k, h with
  | 0, _ => exact ⟨by simp [go_sem, flts2], by simp [go_sem, flts2]⟩
  | 1, _ => exact ⟨by simp [go_sem, flts2], by simp [go_sem, flts2]⟩

set_option maxRecDepth 100000 in
set_option maxHeartbeats 1000000 in
theorem odd_any (g : GateV) (s : St) (t : Stp) (w : World) :
    Calls Try.prog 81 #[g.val, s.val, t.val] w fun e w' => e = .returned (.int .i64 (oddE g s t)) ∧ Below w.heap.size w w' := by
  have hgi := ((gateIn_new w g).below ((Below.refl _ _).alloc (Nat.le_refl _) (.cells s.cells 43)) (Nat.le_refl _)).below ((Below.refl _ _).alloc (Nat.le_refl _) (.cells t.cells 45)) (Nat.le_refl _)
  have Hgi := Lib.hid hgi
  have hbl : Below w.heap.size w (((w.alloc (.cells g.cells 33)).alloc (.cells s.cells 43)).alloc (.cells t.cells 45)) := (((Below.refl _ _).alloc (Nat.le_refl _) _).alloc (by simp) _).alloc (by simp; omega) _
  have Hbl := Lib.hid hbl
  have hst : StpIn (((w.alloc (.cells g.cells 33)).alloc (.cells s.cells 43)).alloc (.cells t.cells 45)) (w.heap.size + 1 + 1) t :=
    ⟨by simp, by have := heap_alloc_new ((w.alloc (.cells g.cells 33)).alloc (.cells s.cells 43)) (.cells t.cells 45); rwa [World.size_alloc, World.size_alloc] at this⟩
  have Hst := Lib.hid hst
  clear hgi hbl hst
  go_enter Try.func81, Try.ntmps81
  go_wp2_with (with_reducible show wpList _ _ _ (({ dst := _, op := .load 33 (.tmp 3), type := _, pos := _, after := _, guard := none } : Oper) :: _) _ _; refine wpList_load_gate Hgi.out rfl (.tmp 3) rfl rfl ?_)
  refine (lost_any g s _).mono ?_
  rintro e w1 ⟨rfl, hb1⟩
  have hb2 := Hbl.out.trans (hb1.mono Hbl.out.size)
  have hst1 := Hst.out.below hb1 (Nat.le_refl _)
  have Hb2 := Lib.hid hb2
  have Hst1 := Lib.hid hst1
  clear hb1 hb2 hst1 Hgi Hst Hbl
  by_cases h1 : lostE g s = 0
  · have hr : oddE g s t = firstE (flts2 (w.heap.size + 1 + 1) t) := by
      rw [oddE, if_neg (by simp [h1])]; rfl
    have Hr := Lib.hid hr
    rw [h1]
    clear hr h1
    go_wp2_with fail
    refine (first_any w1.heap.size 0 (flts2 (w.heap.size + 1 + 1) t) 2 _ (by simp [flts2]) (flts2_at w1 (w.heap.size + 1 + 1) t _) (flts2_ok _ t _ (Hst1.out.below ((Below.refl _ _).alloc (Nat.le_refl _) _) (Nat.le_refl _)))).mono ?_
    rintro e w2 ⟨rfl, hb3⟩
    have hb4 := (Hb2.out.alloc Hb2.out.size _).trans (hb3.mono (by have := Hb2.out.size; simp; omega))
    have Hb4 := Lib.hid hb4
    clear hb3 hb4
    go_wp2
    go_ret
    exact ⟨ret_int Hr.out.symm, Hb4.out⟩
  · have hr : oddE g s t = lostE g s := by rw [oddE, if_pos h1]
    have Hr := Lib.hid hr
    have h2 : (lostE g s != 0) = true := by simp [h1]
    clear hr h1
    go_wp2
    go_ret
    exact ⟨ret_int Hr.out.symm, Hb2.out⟩
end Go.Proofs.Ythalanpmfhhhnaa
