/-
  gate.alone and gate.Step.
-/
import Derived.Test.YthalanpmfhhhnaaDo
import Derived.Test.YthalanpmfhhhnaaOd
namespace Go.Proofs.Ythalanpmfhhhnaa
open Go.RowKit
set_option linter.unusedSimpArgs false
set_option linter.unusedVariables false

/-- The boxes of a function of a gate, a state and a step with results of a state and what came of it. -/
structure Bx (w W : World) (g : GateV) (s : St) (t : Stp) : Prop where
  below : Below w.heap.size w W
  size : w.heap.size + 1 + 1 + 1 + 1 < W.heap.size
  gate : GateIn W w.heap.size g
  st : W.heap[w.heap.size + 1]? = some (.cells s.cells 43 (0, 0))
  step : W.heap[w.heap.size + 1 + 1]? = some (.cells t.cells 45 (0, 0))
  r1 : W.heap[w.heap.size + 1 + 1 + 1]? = some (.cells #[.int .i64 0, .int .i64 0, .bool false] 43 (0, 0))
  r2 : W.heap[w.heap.size + 1 + 1 + 1 + 1]? = some (.cells #[.int .i64 0, .int .i64 0, .int .i64 0] 47 (0, 0))
theorem Bx.new (w : World) (g : GateV) (s : St) (t : Stp) : Bx w (doW5 g s t w) g s t := by
  have z := doW5_size g s t w
  refine ⟨doW5_below g s t w, by omega, doW5_gate g s t w, ?_, ?_, ?_, ?_⟩
  · rw [Below.heap_alloc _ _ _ (by simp), Below.heap_alloc _ _ _ (by simp), Below.heap_alloc _ _ _ (by simp)]
    have := heap_alloc_new (w.alloc (.cells g.cells 33)) (.cells s.cells 43)
    rwa [World.size_alloc] at this
  · rw [Below.heap_alloc _ _ _ (by simp), Below.heap_alloc _ _ _ (by simp)]
    have := heap_alloc_new ((w.alloc (.cells g.cells 33)).alloc (.cells s.cells 43)) (.cells t.cells 45)
    rwa [World.size_alloc, World.size_alloc] at this
  · rw [Below.heap_alloc _ _ _ (by simp)]
    have := heap_alloc_new (((w.alloc (.cells g.cells 33)).alloc (.cells s.cells 43)).alloc (.cells t.cells 45)) (.cells #[.int .i64 0, .int .i64 0, .bool false] 43)
    rwa [World.size_alloc, World.size_alloc, World.size_alloc] at this
  · have := heap_alloc_new ((((w.alloc (.cells g.cells 33)).alloc (.cells s.cells 43)).alloc (.cells t.cells 45)).alloc (.cells #[.int .i64 0, .int .i64 0, .bool false] 43)) (.cells #[.int .i64 0, .int .i64 0, .int .i64 0] 47)
    rwa [World.size_alloc, World.size_alloc, World.size_alloc, World.size_alloc] at this
theorem Bx.call {w W W' : World} {g : GateV} {s : St} {t : Stp} (h : Bx w W g s t) (hb : Below W.heap.size W W') : Bx w W' g s t := by
  have z := h.size
  exact ⟨h.below.trans (hb.mono h.below.size), by have := hb.size; omega, h.gate.below hb (Nat.le_refl _), below_heap hb (by omega) h.st, below_heap hb (by omega) h.step, below_heap hb (by omega) h.r1, below_heap hb (by omega) h.r2⟩

theorem A.stSize : (Try.prog.info? 43).map (·.size) = some 3 := by kernel_rfl
theorem A.stpSize : (Try.prog.info? 45).map (·.size) = some 4 := by kernel_rfl
/-- A state is loaded whole out of its block. -/
theorem wpList_load_st {ops : Array Oper} {rest : List Oper} {o : Oper} {a : Act} {w : World} {Q : Exit → Act → World → Prop} {B : Nat} {s : St} (hg : w.heap[B]? = some (.cells s.cells 43 (0, 0))) (hgd : o.guard = none) (x : Operand)
    (ho : o.op = .load 43 x) (hx : a.eval x = .pointer (some ⟨B, 0, none⟩)) (h : wpList Try.prog ops Q rest (a.put o.dst s.val) w) : wpList Try.prog ops Q (o :: rest) a w :=
  wpList_load_row hgd 43 x ho B hx 43 s.cells (0, 0) _ hg Try.underlying43 rfl A.stSize h
/-- A step is loaded whole out of its block. -/
theorem wpList_load_stp {ops : Array Oper} {rest : List Oper} {o : Oper} {a : Act} {w : World} {Q : Exit → Act → World → Prop} {B : Nat} {s : Stp} (hg : w.heap[B]? = some (.cells s.cells 45 (0, 0))) (hgd : o.guard = none) (x : Operand)
    (ho : o.op = .load 45 x) (hx : a.eval x = .pointer (some ⟨B, 0, none⟩)) (h : wpList Try.prog ops Q rest (a.put o.dst s.val) w) : wpList Try.prog ops Q (o :: rest) a w :=
  wpList_load_row hgd 45 x ho B hx 45 s.cells (0, 0) _ hg Try.underlying45 rfl A.stpSize h

/-- Why an order to a gate alone is refused. -/
def boltE (s : St) (t : Stp) : Int := if s.bolted = true ∧ t.order ≠ 0 then 130 else 0
def aloneZ (g : GateV) (s : St) (t : Stp) : St × Mvd := doZ g s t (boltE s t)

set_option maxRecDepth 100000 in
set_option maxHeartbeats 1000000 in
theorem alone_any (g : GateV) (s : St) (t : Stp) (w : World) (hg : g.Good) (hown : IntsAt w g.ownA g.own) (hs : s.Ok g) (ht : t.Lv) :
    Calls Try.prog 82 #[g.val, s.val, t.val] w fun e w' => e = .returned (.tuple #[(aloneZ g s t).1.val, (aloneZ g s t).2.val]) ∧ Below w.heap.size w w' := by
  have Hg := Lib.hid hg
  have Hbx := Lib.hid (Bx.new w g s t)
  have Hown := Lib.hid (hown.below (doW5_below g s t w) (Nat.le_refl _))
  have Hs := Lib.hid hs
  have Ht := Lib.hid ht
  have Hgi := Lib.hid (doW5_gate g s t w)
  clear hown hs ht hg
  have hc : ((s.bolted = true ∧ (t.order != 0) = true) ∧ aloneZ g s t = doZ g s t 130) ∨ ((s.bolted = true ∧ (t.order != 0) = false) ∧ aloneZ g s t = doZ g s t 0) ∨ (s.bolted = false ∧ aloneZ g s t = doZ g s t 0) := by
    cases h1 : s.bolted with
    | false => exact .inr (.inr ⟨rfl, by rw [aloneZ, boltE, if_neg (by simp [h1])]⟩)
    | true =>
      by_cases h2 : t.order = 0
      · exact .inr (.inl ⟨⟨rfl, by simp [h2]⟩, by rw [aloneZ, boltE, if_neg (by simp [h2])]⟩)
      · exact .inl ⟨⟨rfl, by simp [h2]⟩, by rw [aloneZ, boltE, if_pos ⟨h1, h2⟩]⟩
  rcases hc with ⟨⟨h1, h2⟩, hz⟩ | ⟨⟨h1, h2⟩, hz⟩ | ⟨h1, hz⟩
  all_goals
    rw [hz]
    generalize hd : doZ g s t _ = d
    obtain ⟨x, y⟩ := d
    have Hd := Lib.hid hd
    clear hz hd
    go_enter Try.func82, Try.ntmps82
    go_wp2_with (first
      | (with_reducible show wpList _ _ _ (({ dst := _, op := .load 33 (.tmp 3), type := _, pos := _, after := _, guard := none } : Oper) :: _) _ _; refine wpList_load_gate Hbx.out.gate rfl (.tmp 3) rfl rfl ?_)
      | (with_reducible show wpList _ _ _ (({ dst := _, op := .load 43 (.tmp 4), type := _, pos := _, after := _, guard := none } : Oper) :: _) _ _; refine wpList_load_st Hbx.out.st rfl (.tmp 4) rfl rfl ?_)
      | (with_reducible show wpList _ _ _ (({ dst := _, op := .load 45 (.tmp 5), type := _, pos := _, after := _, guard := none } : Oper) :: _) _ _; refine wpList_load_stp Hbx.out.step rfl (.tmp 5) rfl rfl ?_))
    refine (do_any g s t _ _ Hg.out Hown.out Hs.out Ht.out).mono ?_
    rintro e w1 ⟨rfl, hb1⟩
    rw [Hd.out]
    have B1 := Hbx.out.call hb1
    have HB1 := Lib.hid B1.below
    have a0 := (cell_of_row _ _ 0 _ _ _ B1.r1).trans rfl
    have a1 := (cell_of_row _ _ 1 _ _ _ B1.r1).trans rfl
    have a2 := (cell_of_row _ _ 2 _ _ _ B1.r1).trans rfl
    have af0 := frozen_of_row _ _ 0 _ _ B1.r1
    have af1 := frozen_of_row _ _ 1 _ _ B1.r1
    have af2 := frozen_of_row _ _ 2 _ _ B1.r1
    have b0 := (cell_of_row _ _ 0 _ _ _ B1.r2).trans rfl
    have b1 := (cell_of_row _ _ 1 _ _ _ B1.r2).trans rfl
    have b2 := (cell_of_row _ _ 2 _ _ _ B1.r2).trans rfl
    have bf0 := frozen_of_row _ _ 0 _ _ B1.r2
    have bf1 := frozen_of_row _ _ 1 _ _ B1.r2
    have bf2 := frozen_of_row _ _ 2 _ _ B1.r2
    clear B1 hb1
    go_wp2
    refine bodyPost_ret (v := .tuple #[x.val, y.val]) (by simp [results, Try.results82, go_sem, *]) rfl ⟨rfl, ?_⟩
    repeat (first | (with_reducible exact HB1.out) | (with_reducible refine bset ?_ (by omega)))

theorem balloc {a w : World} {o : Obj} (h : Below a.heap.size a w) : Below a.heap.size a (w.alloc o) := h.alloc h.size o

/-- What Step returns. -/
def stepZ (g : GateV) (s : St) (t : Stp) : St × Mvd × Int :=
  if (checkZ g).2.2 ≠ 0 then (⟨0, 0, false⟩, ⟨0, 0, 0⟩, (checkZ g).2.2) else if oddE g s t ≠ 0 then (⟨0, 0, false⟩, ⟨0, 0, 0⟩, oddE g s t) else ((aloneZ g s t).1, (aloneZ g s t).2, 0)

set_option maxRecDepth 100000 in
set_option maxHeartbeats 1000000 in
theorem step_any (g : GateV) (s : St) (t : Stp) (w : World) (hok : g.Ok w) :
    Calls Try.prog 27 #[g.val, s.val, t.val] w fun e w' => e = .returned (.tuple #[(stepZ g s t).1.val, (stepZ g s t).2.1.val, .int .i64 (stepZ g s t).2.2]) ∧ Below w.heap.size w w' := by
  have Hbx := Lib.hid (Bx.new w g s t)
  have Hok := Lib.hid (hok.below (doW5_below g s t w) (Nat.le_refl _))
  clear hok
  by_cases hc : (checkZ g).2.2 = 0
  · by_cases ho : oddE g s t = 0
    · obtain ⟨hs, ht, _⟩ := oddE_0 ho
      have hr : stepZ g s t = ((aloneZ g s t).1, (aloneZ g s t).2, 0) := by rw [stepZ, if_neg (by simp [hc]), if_neg (by simp [ho])]
      rw [hr]
      generalize hd : aloneZ g s t = d
      obtain ⟨x, y⟩ := d
      have Hd := Lib.hid hd
      have Hc := Lib.hid hc
      have Ho := Lib.hid ho
      have Hs := Lib.hid hs
      have Ht := Lib.hid ht
      have Hg := Lib.hid (check_good hc)
      clear hr hd hc ho hs ht
      go_enter Try.func27, Try.ntmps27
      go_wp2_with (with_reducible show wpList _ _ _ (({ dst := _, op := .load 33 (.tmp 3), type := _, pos := _, after := _, guard := none } : Oper) :: _) _ _; refine wpList_load_gate Hbx.out.gate rfl (.tmp 3) rfl rfl ?_)
      refine (check_any g _ Hok.out).mono ?_
      rintro e w1 ⟨rfl, hb1⟩
      have B1 := Lib.hid (Hbx.out.call hb1)
      have Ok1 := Lib.hid (Hok.out.below hb1 (Nat.le_refl _))
      rw [Hc.out]
      clear hb1
      go_wp2_with (first
        | (with_reducible show wpList _ _ _ (({ dst := _, op := .load 33 (.tmp 3), type := _, pos := _, after := _, guard := none } : Oper) :: _) _ _; refine wpList_load_gate B1.out.gate rfl (.tmp 3) rfl rfl ?_)
        | (with_reducible show wpList _ _ _ (({ dst := _, op := .load 43 (.tmp 4), type := _, pos := _, after := _, guard := none } : Oper) :: _) _ _; refine wpList_load_st B1.out.st rfl (.tmp 4) rfl rfl ?_)
        | (with_reducible show wpList _ _ _ (({ dst := _, op := .load 45 (.tmp 5), type := _, pos := _, after := _, guard := none } : Oper) :: _) _ _; refine wpList_load_stp B1.out.step rfl (.tmp 5) rfl rfl ?_))
      refine (odd_any g s t _).mono ?_
      rintro e w2 ⟨rfl, hb2⟩
      have B2 := Lib.hid (B1.out.call hb2)
      have Ok2 := Lib.hid (Ok1.out.below hb2 (Nat.le_refl _))
      rw [Ho.out]
      clear hb2 B1 Ok1
      go_wp2_with (first
        | (with_reducible show wpList _ _ _ (({ dst := _, op := .load 33 (.tmp 3), type := _, pos := _, after := _, guard := none } : Oper) :: _) _ _; refine wpList_load_gate B2.out.gate rfl (.tmp 3) rfl rfl ?_)
        | (with_reducible show wpList _ _ _ (({ dst := _, op := .load 43 (.tmp 4), type := _, pos := _, after := _, guard := none } : Oper) :: _) _ _; refine wpList_load_st B2.out.st rfl (.tmp 4) rfl rfl ?_)
        | (with_reducible show wpList _ _ _ (({ dst := _, op := .load 45 (.tmp 5), type := _, pos := _, after := _, guard := none } : Oper) :: _) _ _; refine wpList_load_stp B2.out.step rfl (.tmp 5) rfl rfl ?_))
      refine (alone_any g s t _ Hg.out Ok2.out.own Hs.out Ht.out).mono ?_
      rintro e w3 ⟨rfl, hb3⟩
      rw [Hd.out]
      have B3 := B2.out.call hb3
      have HB3 := Lib.hid B3.below
      have hsz := B3.size
      have hz0 : w.heap.size < w3.heap.size := by omega
      have hz1 : w.heap.size + 1 < w3.heap.size := by omega
      have hz2 : w.heap.size + 1 + 1 < w3.heap.size := by omega
      have hz3 : w.heap.size + 1 + 1 + 1 < w3.heap.size := by omega
      have a0 := (cell_of_row _ _ 0 _ _ _ B3.r1).trans rfl
      have a1 := (cell_of_row _ _ 1 _ _ _ B3.r1).trans rfl
      have a2 := (cell_of_row _ _ 2 _ _ _ B3.r1).trans rfl
      have af0 := frozen_of_row _ _ 0 _ _ B3.r1
      have af1 := frozen_of_row _ _ 1 _ _ B3.r1
      have af2 := frozen_of_row _ _ 2 _ _ B3.r1
      have b0 := (cell_of_row _ _ 0 _ _ _ B3.r2).trans rfl
      have b1 := (cell_of_row _ _ 1 _ _ _ B3.r2).trans rfl
      have b2 := (cell_of_row _ _ 2 _ _ _ B3.r2).trans rfl
      have bf0 := frozen_of_row _ _ 0 _ _ B3.r2
      have bf1 := frozen_of_row _ _ 1 _ _ B3.r2
      have bf2 := frozen_of_row _ _ 2 _ _ B3.r2
      have s0 := (cell_of_row _ _ 0 _ _ _ B3.st).trans rfl
      have s1 := (cell_of_row _ _ 1 _ _ _ B3.st).trans rfl
      have s2 := (cell_of_row _ _ 2 _ _ _ B3.st).trans rfl
      have sf0 := frozen_of_row _ _ 0 _ _ B3.st
      have sf1 := frozen_of_row _ _ 1 _ _ B3.st
      have sf2 := frozen_of_row _ _ 2 _ _ B3.st
      clear hb3 B3
      go_wp2
      go_region
      all_goals
        go_wp2
        refine bodyPost_ret (v := .tuple #[x.val, y.val, .int .i64 0]) (by simp [results, Try.results27, go_sem, *]) rfl ⟨rfl, ?_⟩
        repeat (first | (with_reducible exact HB3.out) | (with_reducible refine Below.drew ?_) | (with_reducible refine balloc ?_) | (with_reducible refine bset ?_ (by omega)))
    · have hr : stepZ g s t = (⟨0, 0, false⟩, ⟨0, 0, 0⟩, oddE g s t) := by rw [stepZ, if_neg (by simp [hc]), if_pos ho]
      rw [hr]
      have Hc := Lib.hid hc
      have h1 : (oddE g s t != 0) = true := by simp [ho]
      clear hr hc ho
      go_enter Try.func27, Try.ntmps27
      go_wp2_with (first
        | (with_reducible show wpList _ _ _ (({ dst := _, op := .load 33 (.tmp 3), type := _, pos := _, after := _, guard := none } : Oper) :: _) _ _; refine wpList_load_gate Hbx.out.gate rfl (.tmp 3) rfl rfl ?_)
        | (with_reducible show wpList _ _ _ (({ dst := _, op := .load 43 (.tmp 4), type := _, pos := _, after := _, guard := none } : Oper) :: _) _ _; refine wpList_load_st Hbx.out.st rfl (.tmp 4) rfl rfl ?_)
        | (with_reducible show wpList _ _ _ (({ dst := _, op := .load 45 (.tmp 5), type := _, pos := _, after := _, guard := none } : Oper) :: _) _ _; refine wpList_load_stp Hbx.out.step rfl (.tmp 5) rfl rfl ?_))
      refine (check_any g _ Hok.out).mono ?_
      rintro e w1 ⟨rfl, hb1⟩
      have B1 := Lib.hid (Hbx.out.call hb1)
      have Ok1 := Lib.hid (Hok.out.below hb1 (Nat.le_refl _))
      rw [Hc.out]
      clear hb1
      go_wp2_with (first
        | (with_reducible show wpList _ _ _ (({ dst := _, op := .load 33 (.tmp 3), type := _, pos := _, after := _, guard := none } : Oper) :: _) _ _; refine wpList_load_gate B1.out.gate rfl (.tmp 3) rfl rfl ?_)
        | (with_reducible show wpList _ _ _ (({ dst := _, op := .load 43 (.tmp 4), type := _, pos := _, after := _, guard := none } : Oper) :: _) _ _; refine wpList_load_st B1.out.st rfl (.tmp 4) rfl rfl ?_)
        | (with_reducible show wpList _ _ _ (({ dst := _, op := .load 45 (.tmp 5), type := _, pos := _, after := _, guard := none } : Oper) :: _) _ _; refine wpList_load_stp B1.out.step rfl (.tmp 5) rfl rfl ?_))
      refine (odd_any g s t _).mono ?_
      rintro e w2 ⟨rfl, hb2⟩
      have B2 := B1.out.call hb2
      have HB2 := Lib.hid B2.below
      have a0 := (cell_of_row _ _ 0 _ _ _ B2.r1).trans rfl
      have a1 := (cell_of_row _ _ 1 _ _ _ B2.r1).trans rfl
      have a2 := (cell_of_row _ _ 2 _ _ _ B2.r1).trans rfl
      have af0 := frozen_of_row _ _ 0 _ _ B2.r1
      have af1 := frozen_of_row _ _ 1 _ _ B2.r1
      have af2 := frozen_of_row _ _ 2 _ _ B2.r1
      have b0 := (cell_of_row _ _ 0 _ _ _ B2.r2).trans rfl
      have b1 := (cell_of_row _ _ 1 _ _ _ B2.r2).trans rfl
      have b2 := (cell_of_row _ _ 2 _ _ _ B2.r2).trans rfl
      have bf0 := frozen_of_row _ _ 0 _ _ B2.r2
      have bf1 := frozen_of_row _ _ 1 _ _ B2.r2
      have bf2 := frozen_of_row _ _ 2 _ _ B2.r2
      clear hb2 B2
      go_wp2
      refine bodyPost_ret (v := .tuple #[(St.mk 0 0 false).val, (Mvd.mk 0 0 0).val, .int .i64 (oddE g s t)]) (by simp [results, Try.results27, go_sem, *]) rfl ⟨rfl, ?_⟩
      repeat (first | (with_reducible exact HB2.out) | (with_reducible refine Below.drew ?_) | (with_reducible refine balloc ?_) | (with_reducible refine bset ?_ (by omega)))
  · have hr : stepZ g s t = (⟨0, 0, false⟩, ⟨0, 0, 0⟩, (checkZ g).2.2) := by rw [stepZ, if_pos hc]
    rw [hr]
    have h1 : ((checkZ g).2.2 != 0) = true := by simp [hc]
    have h2 : ((checkZ g).2.2 == 0) = false := by simp [hc]
    clear hr hc
    go_enter Try.func27, Try.ntmps27
    go_wp2_with (first
        | (with_reducible show wpList _ _ _ (({ dst := _, op := .load 33 (.tmp 3), type := _, pos := _, after := _, guard := none } : Oper) :: _) _ _; refine wpList_load_gate Hbx.out.gate rfl (.tmp 3) rfl rfl ?_)
        | (with_reducible show wpList _ _ _ (({ dst := _, op := .load 43 (.tmp 4), type := _, pos := _, after := _, guard := none } : Oper) :: _) _ _; refine wpList_load_st Hbx.out.st rfl (.tmp 4) rfl rfl ?_)
        | (with_reducible show wpList _ _ _ (({ dst := _, op := .load 45 (.tmp 5), type := _, pos := _, after := _, guard := none } : Oper) :: _) _ _; refine wpList_load_stp Hbx.out.step rfl (.tmp 5) rfl rfl ?_))
    refine (check_any g _ Hok.out).mono ?_
    rintro e w1 ⟨rfl, hb1⟩
    have B1 := Hbx.out.call hb1
    have HB1 := Lib.hid B1.below
    have a0 := (cell_of_row _ _ 0 _ _ _ B1.r1).trans rfl
    have a1 := (cell_of_row _ _ 1 _ _ _ B1.r1).trans rfl
    have a2 := (cell_of_row _ _ 2 _ _ _ B1.r1).trans rfl
    have af0 := frozen_of_row _ _ 0 _ _ B1.r1
    have af1 := frozen_of_row _ _ 1 _ _ B1.r1
    have af2 := frozen_of_row _ _ 2 _ _ B1.r1
    have b0 := (cell_of_row _ _ 0 _ _ _ B1.r2).trans rfl
    have b1 := (cell_of_row _ _ 1 _ _ _ B1.r2).trans rfl
    have b2 := (cell_of_row _ _ 2 _ _ _ B1.r2).trans rfl
    have bf0 := frozen_of_row _ _ 0 _ _ B1.r2
    have bf1 := frozen_of_row _ _ 1 _ _ B1.r2
    have bf2 := frozen_of_row _ _ 2 _ _ B1.r2
    clear hb1 B1
    go_wp2
    refine bodyPost_ret (v := .tuple #[(St.mk 0 0 false).val, (Mvd.mk 0 0 0).val, .int .i64 (checkZ g).2.2]) (by simp [results, Try.results27, go_sem, *]) rfl ⟨rfl, ?_⟩
    repeat (first | (with_reducible exact HB1.out) | (with_reducible refine Below.drew ?_) | (with_reducible refine balloc ?_) | (with_reducible refine bset ?_ (by omega)))
end Go.Proofs.Ythalanpmfhhhnaa
