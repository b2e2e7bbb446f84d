/-
  What Check tells of the numbers; the errors of a state and a step.
-/
import Derived.Test.YtgfdindlihfidaaGreatMb
import Derived.Test.YtgfdindlihfidaaGreatRc
import Derived.Test.YtgfdindlihfidaaGreatDo
namespace Go.Proofs.YtgfdindlihfidaaGreat
open Go.RowKit
set_option linter.unusedSimpArgs false
set_option linter.unusedVariables false

theorem scan_0 {α : Type} (f : α → Int) : ∀ (l : List α) (k : Int), (scan f l k).2 = 0 → ∀ x ∈ l, f x = 0
  | [], _, _, x, hx => by simp at hx
  | y :: l, k, h, x, hx => by
    by_cases hy : f y = 0
    · rw [scan, if_pos hy] at h
      rcases List.mem_cons.1 hx with rfl | hx
      · exact hy
      · exact scan_0 f l (k + 1) h x hx
    · rw [scan, if_neg hy] at h
      exact absurd h hy

theorem forceE_bd {kind n : Int} (h : forceE kind n = 0) : -200000 ≤ n ∧ n ≤ 200000 := by
  unfold forceE at h
  split at h
  · omega
  · rename_i h1
    simp only [Bool.not_eq_true] at h1
    exact outB_ft h1

/-- A gate that Check takes has good numbers. -/
theorem check_good {g : GateV} (h : (checkZ g).2.2 = 0) : g.Good := by
  have h0 : headE g = 0 := by
    by_cases hh : headE g = 0
    · exact hh
    · rw [checkZ, if_pos hh] at h
      exact absurd h hh
  obtain ⟨hn, hk, ht⟩ := headE_0 h0
  rw [checkZ_eq g h0] at h
  have ho : (ownZ g).2 = 0 := by
    by_cases hh : (ownZ g).2 = 0
    · exact hh
    · rw [if_pos hh] at h
      exact absurd h hh
  rw [if_neg (by simp [ho])] at h
  have hnb : numsB g = false := by
    cases hh : numsB g with
    | false => rfl
    | true => rw [hh] at h; simp at h
  rw [numsB_cons] at hnb
  simp only [Bool.or_eq_false_iff] at hnb
  obtain ⟨⟨⟨⟨⟨⟨⟨⟨⟨⟨⟨⟨⟨⟨b0, b1⟩, b2⟩, b3⟩, b4⟩, b5⟩, b6⟩, b7⟩, b8⟩, b9⟩, b10⟩, b11⟩, b12⟩, b13⟩, b14⟩ := hnb
  have hl : outB g.own.length 2 16 = false := by
    cases hh : outB g.own.length 2 16 with
    | false => rfl
    | true => rw [ownZ, if_pos hh] at ho; simp at ho
  have hs : (scan (forceE g.kind) g.own 0).2 = 0 := by rwa [ownZ, if_neg (by rw [hl]; decide)] at ho
  have hl2 := outB_ft hl
  refine ⟨hk, ht, by omega, fun i => ?_, outB_ft b0, outB_ft b1, outB_ft b2, outB_ft b3, outB_ft b4, outB_ft b5, outB_ft b6, outB_ft b7, outB_ft b8, outB_ft b9, outB_ft b10, outB_ft b11, outB_ft b12, outB_ft b13, by have := outB_ft b14; omega⟩
  by_cases hi : i < g.own.length
  · rw [List.getElem?_eq_getElem hi, Option.getD_some]
    exact forceE_bd (scan_0 _ _ _ hs _ (List.getElem_mem hi))
  · rw [List.getElem?_eq_none (by omega), Option.getD_none]
    omega

/-- The error of a state. -/
def lostE (g : GateV) (s : St) : Int := if (outB s.pos 0 g.travel || outB s.charge 0 g.cap) = true then 7 else 0
/-- The error of a state and a step. -/
def oddE (g : GateV) (s : St) (t : Stp) : Int :=
  if lostE g s ≠ 0 then lostE g s else if outB t.order 0 2 = true then 2 else if (outB t.outer (-20000) 20000 || outB t.inner (-20000) 20000) = true then 7 else 0

theorem lostE_0 {g : GateV} {s : St} (h : lostE g s = 0) : s.Ok g := by
  unfold lostE at h
  split at h
  · omega
  · rename_i h1
    simp only [Bool.not_eq_true, Bool.or_eq_false_iff] at h1
    exact ⟨outB_ft h1.1, outB_ft h1.2⟩
theorem oddE_0 {g : GateV} {s : St} {t : Stp} (h : oddE g s t = 0) : s.Ok g ∧ t.Lv ∧ 0 ≤ t.order ∧ t.order ≤ 2 := by
  unfold oddE at h
  split at h
  · omega
  · rename_i h0
    split at h
    · omega
    · rename_i h1
      split at h
      · omega
      · rename_i h2
        simp only [Bool.not_eq_true, Bool.or_eq_false_iff] at h1 h2
        have := outB_ft h1
        exact ⟨lostE_0 (by omega), ⟨outB_ft h2.1, outB_ft h2.2⟩, this.1, this.2⟩

theorem lost_any (g : GateV) (s : St) (w : World) :
    Calls Tryz.prog 59 #[g.val, s.val] w fun e w' => e = .returned (.int .i64 (lostE g s)) ∧ Below w.heap.size w w' := by
  by_cases h1 : outB s.pos 0 g.travel = true
  · have hr : lostE g s = 7 := by simp [lostE, h1]
    have Hr := Lib.hid hr
    clear hr
    go_enter Tryz.func59, Tryz.ntmps59
    go_wp2_with (go_at_call 22; refine (out_any _ _ _ _).mono ?_; rintro e w' ⟨rfl, rfl⟩)
    go_ret
    exact ⟨ret_int Hr.out.symm, ((Below.refl _ _).alloc (Nat.le_refl _) _).alloc (by simp) _⟩
  · by_cases h2 : outB s.charge 0 g.cap = true
    · have hr : lostE g s = 7 := by simp [lostE, h2]
      have Hr := Lib.hid hr
      simp only [Bool.not_eq_true] at h1
      clear hr
      go_enter Tryz.func59, Tryz.ntmps59
      go_wp2_with (go_at_call 22; refine (out_any _ _ _ _).mono ?_; rintro e w' ⟨rfl, rfl⟩)
      go_ret
      exact ⟨ret_int Hr.out.symm, ((Below.refl _ _).alloc (Nat.le_refl _) _).alloc (by simp) _⟩
    · have hr : lostE g s = 0 := by simp [lostE, h1, h2]
      have Hr := Lib.hid hr
      simp only [Bool.not_eq_true] at h1 h2
      clear hr
      go_enter Tryz.func59, Tryz.ntmps59
      go_wp2_with (go_at_call 22; refine (out_any _ _ _ _).mono ?_; rintro e w' ⟨rfl, rfl⟩)
      go_ret
      exact ⟨ret_int Hr.out.symm, ((Below.refl _ _).alloc (Nat.le_refl _) _).alloc (by simp) _⟩

/-- A step lies in block B. -/
structure StpIn (w : World) (B : Nat) (t : Stp) : Prop where
  lt : B < w.heap.size
  blk : w.heap[B]? = some (.cells t.cells 47 (0, 0))
theorem StpIn.below {w W : World} {B B0 : Nat} {t : Stp} (h : StpIn w B t) (hb : Below B0 w W) (hB : w.heap.size ≤ B0) : StpIn W B t :=
  ⟨Nat.lt_of_lt_of_le h.lt hb.size, (hb.block B (Nat.lt_of_lt_of_le h.lt hB)).trans h.blk⟩
theorem StpIn.cell {w : World} {B : Nat} {t : Stp} (h : StpIn w B t) (k : Nat) (v : Value) (hv : t.cells[k]? = some v) : w.cell? ⟨B, k, none⟩ = some v := by
  rw [cell_of_row w B k _ _ _ h.blk, hv]

theorem odd1_any (B : Nat) (t : Stp) (w : World) (hg : StpIn w B t) :
    Calls Tryz.prog 60 #[.pointer (some ⟨B, 0, none⟩)] w fun e w' => e = .returned (.bool (outB t.order 0 2)) ∧ Below w.heap.size w w' := by
  have c0 := hg.cell 0 _ rfl
  clear hg
  go_enter Tryz.func60, Tryz.ntmps60
  go_wp2_with (go_at_call 22; refine (out_any _ _ _ _).mono ?_; rintro e w' ⟨rfl, rfl⟩)
  go_ret
  exact ⟨rfl, Below.refl _ _⟩
theorem odd2_any (B : Nat) (t : Stp) (w : World) (hg : StpIn w B t) :
    Calls Tryz.prog 61 #[.pointer (some ⟨B, 0, none⟩)] w fun e w' => e = .returned (.bool (outB t.outer (-20000) 20000 || outB t.inner (-20000) 20000)) ∧ Below w.heap.size w w' := by
  have c2 := hg.cell 2 _ rfl
  have c3 := hg.cell 3 _ rfl
  clear hg
  by_cases h1 : outB t.outer (-20000) 20000 = true
  all_goals
    try simp only [Bool.not_eq_true] at h1
    go_enter Tryz.func61, Tryz.ntmps61
    go_wp2_with (go_at_call 51; refine (dry_any _ _).mono ?_; rintro e w' ⟨rfl, rfl⟩)
    go_ret
    exact ⟨ret_bool (by simp [h1]), Below.refl _ _⟩

/-- The two faults of a step. -/
def flts2 (B : Nat) (t : Stp) : List Flt :=
  [⟨60, #[.pointer (some ⟨B, 0, none⟩)], 2, outB t.order 0 2⟩, ⟨61, #[.pointer (some ⟨B, 0, none⟩)], 7, outB t.outer (-20000) 20000 || outB t.inner (-20000) 20000⟩]
theorem flts2_ok (B : Nat) (t : Stp) (w : World) (hg : StpIn w B t) : FltsOk w (flts2 B t) :=
  ⟨⟨enters_of Tryz.func60 (by kernel_rfl) rfl, fun W hb => odd1_any B t W (hg.below hb (Nat.le_refl _))⟩, fun _ =>
   ⟨⟨enters_of Tryz.func61 (by kernel_rfl) rfl, fun W hb => odd2_any B t W (hg.below hb (Nat.le_refl _))⟩, fun _ => trivial⟩⟩
theorem flts2_at (w : World) (B : Nat) (s : Stp) (t : TypeId) :
    FltsAt (w.alloc (.cells #[.func (.func 60) #[] #[.pointer (some ⟨B, 0, none⟩)], .int .i64 2, .func (.func 61) #[] #[.pointer (some ⟨B, 0, none⟩)], .int .i64 7] t)) w.heap.size 0 (flts2 B s) := by
  refine ⟨by simp, fun k h => ?_⟩
  match k, h with
  | 0, _ => exact ⟨by simp [go_sem, flts2], by simp [go_sem, flts2]⟩
  | 1, _ => exact ⟨by simp [go_sem, flts2], by simp [go_sem, flts2]⟩

set_option maxRecDepth 100000 in
set_option maxHeartbeats 1000000 in
theorem odd_any (g : GateV) (s : St) (t : Stp) (w : World) :
    Calls Tryz.prog 29 #[g.val, s.val, t.val] w fun e w' => e = .returned (.int .i64 (oddE g s t)) ∧ Below w.heap.size w w' := by
  have hgi := ((gateIn_new w g).below ((Below.refl _ _).alloc (Nat.le_refl _) (.cells s.cells 62)) (Nat.le_refl _)).below ((Below.refl _ _).alloc (Nat.le_refl _) (.cells t.cells 47)) (Nat.le_refl _)
  have Hgi := Lib.hid hgi
  have hbl : Below w.heap.size w (((w.alloc (.cells g.cells 60)).alloc (.cells s.cells 62)).alloc (.cells t.cells 47)) := (((Below.refl _ _).alloc (Nat.le_refl _) _).alloc (by simp) _).alloc (by simp; omega) _
  have Hbl := Lib.hid hbl
  have hst : StpIn (((w.alloc (.cells g.cells 60)).alloc (.cells s.cells 62)).alloc (.cells t.cells 47)) (w.heap.size + 1 + 1) t :=
    ⟨by simp, by have := heap_alloc_new ((w.alloc (.cells g.cells 60)).alloc (.cells s.cells 62)) (.cells t.cells 47); rwa [World.size_alloc, World.size_alloc] at this⟩
  have Hst := Lib.hid hst
  clear hgi hbl hst
  go_enter Tryz.func29, Tryz.ntmps29
  go_wp2_with (with_reducible show wpList _ _ _ (({ dst := _, op := .load 60 (.tmp 3), type := _, pos := _, after := _, guard := none } : Oper) :: _) _ _; refine wpList_load_gate Hgi.out rfl (.tmp 3) rfl rfl ?_)
  refine (lost_any g s _).mono ?_
  rintro e w1 ⟨rfl, hb1⟩
  have hb2 := Hbl.out.trans (hb1.mono Hbl.out.size)
  have hst1 := Hst.out.below hb1 (Nat.le_refl _)
  have Hb2 := Lib.hid hb2
  have Hst1 := Lib.hid hst1
  clear hb1 hb2 hst1 Hgi Hst Hbl
  by_cases h1 : lostE g s = 0
  · have hr : oddE g s t = firstE (flts2 (w.heap.size + 1 + 1) t) := by
      rw [oddE, if_neg (by simp [h1])]; rfl
    have Hr := Lib.hid hr
    rw [h1]
    clear hr h1
    go_wp2_with fail
    refine (first_any w1.heap.size 0 (flts2 (w.heap.size + 1 + 1) t) 2 _ (by simp [flts2]) (flts2_at w1 (w.heap.size + 1 + 1) t _) (flts2_ok _ t _ (Hst1.out.below ((Below.refl _ _).alloc (Nat.le_refl _) _) (Nat.le_refl _)))).mono ?_
    rintro e w2 ⟨rfl, hb3⟩
    have hb4 := (Hb2.out.alloc Hb2.out.size _).trans (hb3.mono (by have := Hb2.out.size; simp; omega))
    have Hb4 := Lib.hid hb4
    clear hb3 hb4
    go_wp2
    go_ret
    exact ⟨ret_int Hr.out.symm, Hb4.out⟩
  · have hr : oddE g s t = lostE g s := by rw [oddE, if_pos h1]
    have Hr := Lib.hid hr
    have h2 : (lostE g s != 0) = true := by simp [h1]
    clear hr h1
    go_wp2
    go_ret
    exact ⟨ret_int Hr.out.symm, Hb2.out⟩
end Go.Proofs.YtgfdindlihfidaaGreat

/-
  gate.alone and gate.Step.
-/
namespace Go.Proofs.YtgfdindlihfidaaGreat
open Go.RowKit
set_option linter.unusedSimpArgs false
set_option linter.unusedVariables false

/-- The boxes of a function of a gate, a state and a step with results of a state and what came of it. -/
structure Bx (w W : World) (g : GateV) (s : St) (t : Stp) : Prop where
  below : Below w.heap.size w W
  size : w.heap.size + 1 + 1 + 1 + 1 < W.heap.size
  gate : GateIn W w.heap.size g
  st : W.heap[w.heap.size + 1]? = some (.cells s.cells 62 (0, 0))
  step : W.heap[w.heap.size + 1 + 1]? = some (.cells t.cells 47 (0, 0))
  r1 : W.heap[w.heap.size + 1 + 1 + 1]? = some (.cells #[.int .i64 0, .int .i64 0, .bool false] 62 (0, 0))
  r2 : W.heap[w.heap.size + 1 + 1 + 1 + 1]? = some (.cells #[.int .i64 0, .int .i64 0, .int .i64 0] 95 (0, 0))
theorem Bx.new (w : World) (g : GateV) (s : St) (t : Stp) : Bx w (doW5 g s t w) g s t := by
  have z := doW5_size g s t w
  refine ⟨doW5_below g s t w, by omega, doW5_gate g s t w, ?_, ?_, ?_, ?_⟩
  · rw [Below.heap_alloc _ _ _ (by simp), Below.heap_alloc _ _ _ (by simp), Below.heap_alloc _ _ _ (by simp)]
    have := heap_alloc_new (w.alloc (.cells g.cells 60)) (.cells s.cells 62)
    rwa [World.size_alloc] at this
  · rw [Below.heap_alloc _ _ _ (by simp), Below.heap_alloc _ _ _ (by simp)]
    have := heap_alloc_new ((w.alloc (.cells g.cells 60)).alloc (.cells s.cells 62)) (.cells t.cells 47)
    rwa [World.size_alloc, World.size_alloc] at this
  · rw [Below.heap_alloc _ _ _ (by simp)]
    have := heap_alloc_new (((w.alloc (.cells g.cells 60)).alloc (.cells s.cells 62)).alloc (.cells t.cells 47)) (.cells #[.int .i64 0, .int .i64 0, .bool false] 62)
    rwa [World.size_alloc, World.size_alloc, World.size_alloc] at this
  · have := heap_alloc_new ((((w.alloc (.cells g.cells 60)).alloc (.cells s.cells 62)).alloc (.cells t.cells 47)).alloc (.cells #[.int .i64 0, .int .i64 0, .bool false] 62)) (.cells #[.int .i64 0, .int .i64 0, .int .i64 0] 95)
    rwa [World.size_alloc, World.size_alloc, World.size_alloc, World.size_alloc] at this
theorem Bx.call {w W W' : World} {g : GateV} {s : St} {t : Stp} (h : Bx w W g s t) (hb : Below W.heap.size W W') : Bx w W' g s t := by
  have z := h.size
  exact ⟨h.below.trans (hb.mono h.below.size), by have := hb.size; omega, h.gate.below hb (Nat.le_refl _), below_heap hb (by omega) h.st, below_heap hb (by omega) h.step, below_heap hb (by omega) h.r1, below_heap hb (by omega) h.r2⟩

theorem A.stSize : (Tryz.prog.info? 62).map (·.size) = some 3 := by kernel_rfl
theorem A.stpSize : (Tryz.prog.info? 47).map (·.size) = some 4 := by kernel_rfl
/-- A state is loaded whole out of its block. -/
theorem wpList_load_st {ops : Array Oper} {rest : List Oper} {o : Oper} {a : Act} {w : World} {Q : Exit → Act → World → Prop} {B : Nat} {s : St} (hg : w.heap[B]? = some (.cells s.cells 62 (0, 0))) (hgd : o.guard = none) (x : Operand)
    (ho : o.op = .load 62 x) (hx : a.eval x = .pointer (some ⟨B, 0, none⟩)) (h : wpList Tryz.prog ops Q rest (a.put o.dst s.val) w) : wpList Tryz.prog ops Q (o :: rest) a w :=
  wpList_load_row hgd 62 x ho B hx 62 s.cells (0, 0) _ hg Tryz.underlying62 rfl A.stSize h
/-- A step is loaded whole out of its block. -/
theorem wpList_load_stp {ops : Array Oper} {rest : List Oper} {o : Oper} {a : Act} {w : World} {Q : Exit → Act → World → Prop} {B : Nat} {s : Stp} (hg : w.heap[B]? = some (.cells s.cells 47 (0, 0))) (hgd : o.guard = none) (x : Operand)
    (ho : o.op = .load 47 x) (hx : a.eval x = .pointer (some ⟨B, 0, none⟩)) (h : wpList Tryz.prog ops Q rest (a.put o.dst s.val) w) : wpList Tryz.prog ops Q (o :: rest) a w :=
  wpList_load_row hgd 47 x ho B hx 47 s.cells (0, 0) _ hg Tryz.underlying47 rfl A.stpSize h

/-- Why an order to a gate alone is refused. -/
def boltE (s : St) (t : Stp) : Int := if s.bolted = true ∧ t.order ≠ 0 then 130 else 0
def aloneZ (g : GateV) (s : St) (t : Stp) : St × Mvd := doZ g s t (boltE s t)

theorem balloc {a w : World} {o : Obj} (h : Below a.heap.size a w) : Below a.heap.size a (w.alloc o) := h.alloc h.size o

/-- What Step returns. -/
def stepZ (g : GateV) (s : St) (t : Stp) : St × Mvd × Int :=
  if (checkZ g).2.2 ≠ 0 then (⟨0, 0, false⟩, ⟨0, 0, 0⟩, (checkZ g).2.2) else if oddE g s t ≠ 0 then (⟨0, 0, false⟩, ⟨0, 0, 0⟩, oddE g s t) else ((aloneZ g s t).1, (aloneZ g s t).2, 0)

end Go.Proofs.YtgfdindlihfidaaGreat

/-
  gate.Time.
-/
namespace Go.Proofs.YtgfdindlihfidaaGreat
open Go.RowKit
set_option linter.unusedSimpArgs false
set_option linter.unusedVariables false

theorem holdZ_way {g : GateV} {s : St} (hg : g.Good) (hs : s.Ok g) (net rub : Int) : 0 ≤ s.pos + holdZ g s net rub ∧ s.pos + holdZ g s net rub ≤ g.travel := by
  have h1 := hg.gravity
  have h2 := hs.pos
  unfold holdZ
  split
  · omega
  · split <;> omega
theorem fuelZ_le {g : GateV} {s : St} (hg : g.Good) (hs : s.Ok g) (cm : Int) (h0 : 0 ≤ cm) (hu : 0 < g.use) (h : cm ≤ s.charge * 100 / g.use) : fuelZ g cm ≤ s.charge := by
  have h1 := hg.use
  have h2 := hs.charge
  have h3 : cm * g.use ≤ s.charge * 100 / g.use * g.use := Int.mul_le_mul_of_nonneg_right h (by omega)
  have h4 : s.charge * 100 / g.use * g.use ≤ s.charge * 100 := Int.ediv_mul_le _ (by omega)
  unfold fuelZ
  omega
theorem pushZ_charge {g : GateV} {s : St} {t : Stp} (hg : g.Good) (hs : s.Ok g) (rub force left : Int) (hl : 0 ≤ left) : (pushZ g s t rub force left).2 ≤ s.charge := by
  have h1 := hg.use
  have h2 := hs.charge
  have h5 := hg.speed
  unfold pushZ
  split
  · simp only; omega
  · split
    · simp only; omega
    · split
      · rename_i h3
        have := Int.ediv_nonneg (a := s.charge * 100) (b := g.use) (by omega) (by omega)
        exact fuelZ_le hg hs _ (by omega) h3 (by omega)
      · rename_i h3
        have h4 : g.use = 0 := by omega
        simp only [fuelZ, h4, Int.mul_zero]
        omega
/-- A step keeps a state within its limits. -/
theorem moveZ_ok {g : GateV} {s : St} {t : Stp} (r : Int) (hg : g.Good) (hs : s.Ok g) : (0 ≤ s.pos + (moveZ g s t r).1 ∧ s.pos + (moveZ g s t r).1 ≤ g.travel) ∧ 0 ≤ (moveZ g s t r).2 ∧ (moveZ g s t r).2 ≤ s.charge := by
  have hp := hs.pos
  have hc := hs.charge
  have ht := hg.travel
  unfold moveZ
  split
  · simp only; omega
  · split
    · have := holdZ_way hg hs (netZ g s.pos t.outer t.inner) (rubZ g s.pos t.outer t.inner)
      simp only; omega
    · split
      · have a := pushZ_bd (t := t) (s := s) hg (rubZ g s.pos t.outer t.inner) (netZ g s.pos t.outer t.inner) (g.travel - s.pos) (by omega) hc.1
        have b := pushZ_oil (t := t) (s := s) hg (rubZ g s.pos t.outer t.inner) (netZ g s.pos t.outer t.inner) (g.travel - s.pos) (by omega) hc.1
        have c := pushZ_charge (t := t) hg hs (rubZ g s.pos t.outer t.inner) (netZ g s.pos t.outer t.inner) (g.travel - s.pos) (by omega)
        omega
      · split
        · have a := pushZ_bd (t := t) (s := s) hg (rubZ g s.pos t.outer t.inner) (-netZ g s.pos t.outer t.inner) s.pos (by omega) hc.1
          have b := pushZ_oil (t := t) (s := s) hg (rubZ g s.pos t.outer t.inner) (-netZ g s.pos t.outer t.inner) s.pos (by omega) hc.1
          have c := pushZ_charge (t := t) hg hs (rubZ g s.pos t.outer t.inner) (-netZ g s.pos t.outer t.inner) s.pos (by omega)
          simp only; omega
        · have := holdZ_way hg hs (netZ g s.pos t.outer t.inner) (rubZ g s.pos t.outer t.inner)
          simp only; omega
theorem doZ_ok {g : GateV} {s : St} {t : Stp} (r : Int) (hg : g.Good) (hs : s.Ok g) : (doZ g s t r).1.Ok g := by
  have h := moveZ_ok (t := t) r hg hs
  have hp := hg.pump
  have hc := hg.cap
  have hc2 := hs.charge
  unfold doZ
  refine ⟨h.1, ?_⟩
  simp only
  split <;> omega
theorem aloneZ_ok {g : GateV} {s : St} {t : Stp} (hg : g.Good) (hs : s.Ok g) : (aloneZ g s t).1.Ok g := doZ_ok _ hg hs

/-- The first step, from the k-th on, of n, before which the gate is shut; ErrDown. -/
def timeFrom (g : GateV) (t : Stp) : Nat → St → Int → Int × Int
  | 0, _, _ => (0, 9)
  | n + 1, s, k => if s.pos = g.travel then (k, 0) else timeFrom g t n (aloneZ g s t).1 (k + 1)
/-- What Time returns. -/
def timeZ (g : GateV) (s : St) (o i : Int) (power : Bool) : Int × Int :=
  if (checkZ g).2.2 ≠ 0 then (0, (checkZ g).2.2) else if oddE g s ⟨1, power, o, i⟩ ≠ 0 then (0, oddE g s ⟨1, power, o, i⟩) else timeFrom g ⟨1, power, o, i⟩ 2001 s 0

/-- The boxes of a function of a gate, a state and a step. -/
structure Tw (w W : World) (g : GateV) (s : St) (t : Stp) : Prop where
  below : Below w.heap.size w W
  size : w.heap.size + 1 + 1 < W.heap.size
  gate : GateIn W w.heap.size g
  st : W.heap[w.heap.size + 1]? = some (.cells s.cells 62 (0, 0))
  step : W.heap[w.heap.size + 1 + 1]? = some (.cells t.cells 47 (0, 0))
theorem Tw.new (w : World) (g : GateV) (s : St) (t : Stp) : Tw w (((w.alloc (.cells g.cells 60)).alloc (.cells s.cells 62)).alloc (.cells t.cells 47)) g s t := by
  refine ⟨(((Below.refl w.heap.size w).alloc (Nat.le_refl _) _).alloc (by simp) _).alloc (by simp; omega) _, by simp, ((gateIn_new w g).below ((Below.refl _ _).alloc (Nat.le_refl _) _) (Nat.le_refl _)).below ((Below.refl _ _).alloc (Nat.le_refl _) _) (Nat.le_refl _), ?_, ?_⟩
  · rw [Below.heap_alloc _ _ _ (by simp)]
    have := heap_alloc_new (w.alloc (.cells g.cells 60)) (.cells s.cells 62)
    rwa [World.size_alloc] at this
  · have := heap_alloc_new ((w.alloc (.cells g.cells 60)).alloc (.cells s.cells 62)) (.cells t.cells 47)
    rwa [World.size_alloc, World.size_alloc] at this
theorem Tw.call {w W W' : World} {g : GateV} {s : St} {t : Stp} (h : Tw w W g s t) (hb : Below W.heap.size W W') : Tw w W' g s t := by
  have z := h.size
  exact ⟨h.below.trans (hb.mono h.below.size), by have := hb.size; omega, h.gate.below hb (Nat.le_refl _), below_heap hb (by omega) h.st, below_heap hb (by omega) h.step⟩
theorem setCell_blk {W : World} {b : Nat} (k o : Nat) (v : Value) {x : Option Obj} (hk : k ≠ b) (h : W.heap[k]? = x) : (W.setCell ⟨b, o, none⟩ v).heap[k]? = x := (heap_setCell_other W ⟨b, o, none⟩ k v hk).trans h
theorem Tw.store {w W : World} {g : GateV} {s : St} {t : Stp} (h : Tw w W g s t) (x : St) :
    Tw w (((W.setCell ⟨w.heap.size + 1, 0, none⟩ (.int .i64 x.pos)).setCell ⟨w.heap.size + 1, 1, none⟩ (.int .i64 x.charge)).setCell ⟨w.heap.size + 1, 2, none⟩ (.bool x.bolted)) g x t := by
  have z := h.size
  have h0 := heap_setCell_same W (w.heap.size + 1) 0 _ _ (.int .i64 x.pos) h.st
  have h1 := heap_setCell_same _ (w.heap.size + 1) 1 _ _ (.int .i64 x.charge) h0
  have h2 := heap_setCell_same _ (w.heap.size + 1) 2 _ _ (.bool x.bolted) h1
  refine ⟨((h.below.setCell (by simp) _).setCell (by simp) _).setCell (by simp) _, by simpa [World.setCell] using z, ⟨by simpa [World.setCell] using h.gate.lt, ?_⟩, h2, ?_⟩
  · exact setCell_blk _ _ _ (by omega) (setCell_blk _ _ _ (by omega) (setCell_blk _ _ _ (by omega) h.gate.blk))
  · exact setCell_blk _ _ _ (by omega) (setCell_blk _ _ _ (by omega) (setCell_blk _ _ _ (by omega) h.step))

end Go.Proofs.YtgfdindlihfidaaGreat
