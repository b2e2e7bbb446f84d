/-
  gate.Time.
-/
import Derived.Test.YthalanpmfhhhnaaSt
namespace Go.Proofs.Ythalanpmfhhhnaa
open Go.RowKit
set_option linter.unusedSimpArgs false
set_option linter.unusedVariables false

theorem holdZ_way {g : GateV} {s : St} (hg : g.Good) (hs : s.Ok g) (net rub : Int) : 0 ≤ s.pos + holdZ g s net rub ∧ s.pos + holdZ g s net rub ≤ g.travel := by
  have h1 := hg.gravity
  have h2 := hs.pos
  unfold holdZ
  split
  · omega
  · split <;> omega
theorem fuelZ_le {g : GateV} {s : St} (hg : g.Good) (hs : s.Ok g) (cm : Int) (h0 : 0 ≤ cm) (hu : 0 < g.use) (h : cm ≤ s.charge * 100 / g.use) : fuelZ g cm ≤ s.charge := by
  have h1 := hg.use
  have h2 := hs.charge
  have h3 : cm * g.use ≤ s.charge * 100 / g.use * g.use := Int.mul_le_mul_of_nonneg_right h (by omega)
  have h4 : s.charge * 100 / g.use * g.use ≤ s.charge * 100 := Int.ediv_mul_le _ (by omega)
  unfold fuelZ
  omega
theorem pushZ_charge {g : GateV} {s : St} {t : Stp} (hg : g.Good) (hs : s.Ok g) (rub force left : Int) (hl : 0 ≤ left) : (pushZ g s t rub force left).2 ≤ s.charge := by
  have h1 := hg.use
  have h2 := hs.charge
  have h5 := hg.speed
  unfold pushZ
  split
  · simp only; omega
  · split
    · simp only; omega
    · split
      · rename_i h3
        have := Int.ediv_nonneg (a := s.charge * 100) (b := g.use) (by omega) (by omega)
        exact fuelZ_le hg hs _ (by omega) h3 (by omega)
      · rename_i h3
        have h4 : g.use = 0 := by omega
        simp only [fuelZ, h4, Int.mul_zero]
        omega
/-- A step keeps a state within its limits. -/
theorem moveZ_ok {g : GateV} {s : St} {t : Stp} (r : Int) (hg : g.Good) (hs : s.Ok g) : (0 ≤ s.pos + (moveZ g s t r).1 ∧ s.pos + (moveZ g s t r).1 ≤ g.travel) ∧ 0 ≤ (moveZ g s t r).2 ∧ (moveZ g s t r).2 ≤ s.charge := by
  have hp := hs.pos
  have hc := hs.charge
  have ht := hg.travel
  unfold moveZ
  split
  · simp only; omega
  · split
    · have := holdZ_way hg hs (netZ g s.pos t.outer t.inner) (rubZ g s.pos t.outer t.inner)
      simp only; omega
    · split
      · have a := pushZ_bd (t := t) (s := s) hg (rubZ g s.pos t.outer t.inner) (netZ g s.pos t.outer t.inner) (g.travel - s.pos) (by omega) hc.1
        have b := pushZ_oil (t := t) (s := s) hg (rubZ g s.pos t.outer t.inner) (netZ g s.pos t.outer t.inner) (g.travel - s.pos) (by omega) hc.1
        have c := pushZ_charge (t := t) hg hs (rubZ g s.pos t.outer t.inner) (netZ g s.pos t.outer t.inner) (g.travel - s.pos) (by omega)
        omega
      · split
        · have a := pushZ_bd (t := t) (s := s) hg (rubZ g s.pos t.outer t.inner) (-netZ g s.pos t.outer t.inner) s.pos (by omega) hc.1
          have b := pushZ_oil (t := t) (s := s) hg (rubZ g s.pos t.outer t.inner) (-netZ g s.pos t.outer t.inner) s.pos (by omega) hc.1
          have c := pushZ_charge (t := t) hg hs (rubZ g s.pos t.outer t.inner) (-netZ g s.pos t.outer t.inner) s.pos (by omega)
          simp only; omega
        · have := holdZ_way hg hs (netZ g s.pos t.outer t.inner) (rubZ g s.pos t.outer t.inner)
          simp only; omega
theorem doZ_ok {g : GateV} {s : St} {t : Stp} (r : Int) (hg : g.Good) (hs : s.Ok g) : (doZ g s t r).1.Ok g := by
  have h := moveZ_ok (t := t) r hg hs
  have hp := hg.pump
  have hc := hg.cap
  have hc2 := hs.charge
  unfold doZ
  refine ⟨h.1, ?_⟩
  simp only
  split <;> omega
theorem aloneZ_ok {g : GateV} {s : St} {t : Stp} (hg : g.Good) (hs : s.Ok g) : (aloneZ g s t).1.Ok g := doZ_ok _ hg hs

/-- The first step, from the k-th on, of n, before which the gate is shut; ErrDown. -/
def timeFrom (g : GateV) (t : Stp) : Nat → St → Int → Int × Int
  | 0, _, _ => (0, 9)
  | n + 1, s, k => if s.pos = g.travel then (k, 0) else timeFrom g t n (aloneZ g s t).1 (k + 1)
/-- What Time returns. -/
def timeZ (g : GateV) (s : St) (o i : Int) (power : Bool) : Int × Int :=
  if (checkZ g).2.2 ≠ 0 then (0, (checkZ g).2.2) else if oddE g s ⟨1, power, o, i⟩ ≠ 0 then (0, oddE g s ⟨1, power, o, i⟩) else timeFrom g ⟨1, power, o, i⟩ 2001 s 0

/-- The boxes of a function of a gate, a state and a step. -/
structure Tw (w W : World) (g : GateV) (s : St) (t : Stp) : Prop where
  below : Below w.heap.size w W
  size : w.heap.size + 1 + 1 < W.heap.size
  gate : GateIn W w.heap.size g
  st : W.heap[w.heap.size + 1]? = some (.cells s.cells 43 (0, 0))
  step : W.heap[w.heap.size + 1 + 1]? = some (.cells t.cells 45 (0, 0))
theorem Tw.new (w : World) (g : GateV) (s : St) (t : Stp) : Tw w (((w.alloc (.cells g.cells 33)).alloc (.cells s.cells 43)).alloc (.cells t.cells 45)) g s t := by
  refine ⟨(((Below.refl w.heap.size w).alloc (Nat.le_refl _) _).alloc (by simp) _).alloc (by simp; omega) _, by simp, ((gateIn_new w g).below ((Below.refl _ _).alloc (Nat.le_refl _) _) (Nat.le_refl _)).below ((Below.refl _ _).alloc (Nat.le_refl _) _) (Nat.le_refl _), ?_, ?_⟩
  · rw [Below.heap_alloc _ _ _ (by simp)]
    have := heap_alloc_new (w.alloc (.cells g.cells 33)) (.cells s.cells 43)
    rwa [World.size_alloc] at this
  · have := heap_alloc_new ((w.alloc (.cells g.cells 33)).alloc (.cells s.cells 43)) (.cells t.cells 45)
    rwa [World.size_alloc, World.size_alloc] at this
theorem Tw.call {w W W' : World} {g : GateV} {s : St} {t : Stp} (h : Tw w W g s t) (hb : Below W.heap.size W W') : Tw w W' g s t := by
  have z := h.size
  exact ⟨h.below.trans (hb.mono h.below.size), by have := hb.size; omega, h.gate.below hb (Nat.le_refl _), below_heap hb (by omega) h.st, below_heap hb (by omega) h.step⟩
theorem setCell_blk {W : World} {b : Nat} (k o : Nat) (v : Value) {x : Option Obj} (hk : k ≠ b) (h : W.heap[k]? = x) : (W.setCell ⟨b, o, none⟩ v).heap[k]? = x := (heap_setCell_other W ⟨b, o, none⟩ k v hk).trans h
theorem Tw.store {w W : World} {g : GateV} {s : St} {t : Stp} (h : Tw w W g s t) (x : St) :
    Tw w (((W.setCell ⟨w.heap.size + 1, 0, none⟩ (.int .i64 x.pos)).setCell ⟨w.heap.size + 1, 1, none⟩ (.int .i64 x.charge)).setCell ⟨w.heap.size + 1, 2, none⟩ (.bool x.bolted)) g x t := by
  have z := h.size
  have h0 := heap_setCell_same W (w.heap.size + 1) 0 _ _ (.int .i64 x.pos) h.st
  have h1 := heap_setCell_same _ (w.heap.size + 1) 1 _ _ (.int .i64 x.charge) h0
  have h2 := heap_setCell_same _ (w.heap.size + 1) 2 _ _ (.bool x.bolted) h1
  refine ⟨((h.below.setCell (by simp) _).setCell (by simp) _).setCell (by simp) _, by simpa [World.setCell] using z, ⟨by simpa [World.setCell] using h.gate.lt, ?_⟩, h2, ?_⟩
  · exact setCell_blk _ _ _ (by omega) (setCell_blk _ _ _ (by omega) (setCell_blk _ _ _ (by omega) h.gate.blk))
  · exact setCell_blk _ _ _ (by omega) (setCell_blk _ _ _ (by omega) (setCell_blk _ _ _ (by omega) h.step))

set_option maxRecDepth 100000 in
set_option maxHeartbeats 1000000 in
theorem time_any (g : GateV) (s : St) (o i : Int) (power : Bool) (w : World) (hok : g.Ok w) :
    Calls Try.prog 38 #[g.val, s.val, .int .i64 o, .int .i64 i, .bool power] w fun e w' => e = .returned (.tuple #[.int .i64 (timeZ g s o i power).1, .int .i64 (timeZ g s o i power).2]) ∧ Below w.heap.size w w' := by
  have htw := Tw.new w g s ⟨1, power, o, i⟩
  have Htw := Lib.hid htw
  have Hok := Lib.hid (hok.below htw.below (Nat.le_refl _))
  have Hok0 := Lib.hid hok
  clear hok htw
  by_cases hc : (checkZ g).2.2 = 0
  · by_cases ho : oddE g s ⟨1, power, o, i⟩ = 0
    · obtain ⟨hs, ht, _⟩ := oddE_0 ho
      have hr : timeZ g s o i power = timeFrom g ⟨1, power, o, i⟩ 2001 s 0 := by rw [timeZ, if_neg (by simp [hc]), if_neg (by simp [ho])]
      rw [hr]
      have Hc := Lib.hid hc
      have Ho := Lib.hid ho
      have Hs := Lib.hid hs
      have Ht := Lib.hid ht
      have Hg := Lib.hid (check_good hc)
      clear hr hc ho hs ht
      go_enter Try.func38, Try.ntmps38
      go_wp2_with (with_reducible show wpList _ _ _ (({ dst := _, op := .load 33 (.tmp 5), type := _, pos := _, after := _, guard := none } : Oper) :: _) _ _; refine wpList_load_gate Htw.out.gate rfl (.tmp 5) rfl rfl ?_)
      refine (check_any g _ Hok.out).mono ?_
      rintro e w1 ⟨rfl, hb1⟩
      have B1 := Lib.hid (Htw.out.call hb1)
      have Ok1 := Lib.hid (Hok.out.below hb1 (Nat.le_refl _))
      rw [Hc.out]
      clear hb1
      go_wp2_with (first
        | (with_reducible show wpList _ _ _ (({ dst := _, op := .load 33 (.tmp 5), type := _, pos := _, after := _, guard := none } : Oper) :: _) _ _; refine wpList_load_gate B1.out.gate rfl (.tmp 5) rfl rfl ?_)
        | (with_reducible show wpList _ _ _ (({ dst := _, op := .load 43 (.tmp 6), type := _, pos := _, after := _, guard := none } : Oper) :: _) _ _; refine wpList_load_st B1.out.st rfl (.tmp 6) rfl rfl ?_)
        | (with_reducible show wpList _ _ _ (({ dst := _, op := .load 45 (.tmp 12), type := _, pos := _, after := _, guard := none } : Oper) :: _) _ _; refine wpList_load_stp B1.out.step rfl (.tmp 12) rfl rfl ?_))
      refine (odd_any g s ⟨1, power, o, i⟩ _).mono ?_
      rintro e w2 ⟨rfl, hb2⟩
      have B2 := Lib.hid (B1.out.call hb2)
      have Ok2 := Lib.hid (Ok1.out.below hb2 (Nat.le_refl _))
      rw [Ho.out]
      clear hb2 B1 Ok1
      go_wp2
      go_loopw [36] (fun i' wr => ∃ (k : Nat) (sk : St), k ≤ 2001 ∧ i' = .int .i64 k ∧ timeFrom g ⟨1, power, o, i⟩ (2001 - k) sk k = timeFrom g ⟨1, power, o, i⟩ 2001 s 0 ∧ sk.Ok g ∧ Tw w wr g sk ⟨1, power, o, i⟩) (fun i' _ => 2001 - (intOf i').toNat)
      case atStart => exact ⟨0, s, Nat.zero_le _, rfl, rfl, Hs.out, B2.out⟩
      case round =>
        obtain ⟨k, sk, hk, rfl, hix, hsk, htw⟩ := hrel
        have Hix := Lib.hid hix
        have Hsk := Lib.hid hsk
        have Hw := Lib.hid htw
        have s0 : wr.cell? ⟨w.heap.size + 1, 0, none⟩ = some (.int .i64 sk.pos) := (cell_of_row _ _ 0 _ _ _ htw.st).trans rfl
        have g2 : wr.cell? ⟨w.heap.size, 2, none⟩ = some (.int .i64 g.travel) := htw.gate.cell 2 _ rfl
        clear hix hsk htw
        by_cases hlt : k < 2001
        · have hs : timeFrom g ⟨1, power, o, i⟩ (2001 - k) sk k = if sk.pos = g.travel then ((k : Int), 0) else timeFrom g ⟨1, power, o, i⟩ (2001 - (k + 1)) (aloneZ g sk ⟨1, power, o, i⟩).1 ((k : Int) + 1) := by
            rw [show 2001 - k = (2001 - (k + 1)) + 1 from by omega, timeFrom]
          have Hss := Lib.hid hs
          clear hs
          by_cases hp : sk.pos = g.travel
          · have Hp := Lib.hid hp
            have hp2 : (sk.pos == g.travel) = true := by simp [hp]
            clear hp
            go_wp2
            go_ret2
            exact ⟨ret2 (by rw [← Hix.out, Hss.out, if_pos Hp.out]), Hw.out.below⟩
          · have Hp := Lib.hid hp
            have hp2 : (sk.pos == g.travel) = false := by simp [hp]
            clear hp
            go_wp2_with (first
          | (with_reducible show wpList _ _ _ (({ dst := _, op := .load 33 (.tmp 5), type := _, pos := _, after := _, guard := none } : Oper) :: _) _ _; refine wpList_load_gate Hw.out.gate rfl (.tmp 5) rfl rfl ?_)
          | (with_reducible show wpList _ _ _ (({ dst := _, op := .load 43 (.tmp 6), type := _, pos := _, after := _, guard := none } : Oper) :: _) _ _; refine wpList_load_st Hw.out.st rfl (.tmp 6) rfl rfl ?_)
          | (with_reducible show wpList _ _ _ (({ dst := _, op := .load 45 (.tmp 12), type := _, pos := _, after := _, guard := none } : Oper) :: _) _ _; refine wpList_load_stp Hw.out.step rfl (.tmp 12) rfl rfl ?_))
            refine (alone_any g sk ⟨1, power, o, i⟩ _ Hg.out (Hok0.out.below Hw.out.below (Nat.le_refl _)).own Hsk.out Ht.out).mono ?_
            rintro e w3 ⟨rfl, hb3⟩
            have B3 := Hw.out.call hb3
            have HB3 := Lib.hid B3
            have hokx := aloneZ_ok (t := ⟨1, power, o, i⟩) Hg.out Hsk.out
            have Hokx := Lib.hid hokx
            generalize hd : aloneZ g sk ⟨1, power, o, i⟩ = d
            have Hd := Lib.hid hd
            obtain ⟨x, y⟩ := d
            have hsz := B3.size
            have hz0 : w.heap.size < w3.heap.size := by omega
            have hz1 : w.heap.size + 1 < w3.heap.size := by omega
            have t0 := (cell_of_row _ _ 0 _ _ _ B3.st).trans rfl
            have t1 := (cell_of_row _ _ 1 _ _ _ B3.st).trans rfl
            have t2 := (cell_of_row _ _ 2 _ _ _ B3.st).trans rfl
            have sf0 := frozen_of_row _ _ 0 _ _ B3.st
            have sf1 := frozen_of_row _ _ 1 _ _ B3.st
            have sf2 := frozen_of_row _ _ 2 _ _ B3.st
            clear hb3 B3 hd hokx
            go_wp2
            go_roundw
            case rel => exact ⟨k + 1, x, by omega, by go_num, by have h1 := Hd.out; rw [← Hix.out, Hss.out, if_neg Hp.out, h1]; rfl, by have h1 := Hd.out; have h2 := Hokx.out; rw [h1] at h2; exact h2, HB3.out.store x⟩
            case measure => simp [intOf]; omega
        · have hs : timeFrom g ⟨1, power, o, i⟩ (2001 - k) sk k = (0, 9) := by
            rw [show 2001 - k = 0 from by omega, timeFrom]
          have Hss := Lib.hid hs
          clear hs
          go_wp2
          go_ret2
          exact ⟨ret2 (by rw [← Hix.out, Hss.out]), Hw.out.below⟩
    · have hr : timeZ g s o i power = (0, oddE g s ⟨1, power, o, i⟩) := by rw [timeZ, if_neg (by simp [hc]), if_pos ho]
      rw [hr]
      have Hc := Lib.hid hc
      have h1 : (oddE g s ⟨1, power, o, i⟩ != 0) = true := by simp [ho]
      clear hr hc ho
      go_enter Try.func38, Try.ntmps38
      go_wp2_with (first
          | (with_reducible show wpList _ _ _ (({ dst := _, op := .load 33 (.tmp 5), type := _, pos := _, after := _, guard := none } : Oper) :: _) _ _; refine wpList_load_gate Htw.out.gate rfl (.tmp 5) rfl rfl ?_)
          | (with_reducible show wpList _ _ _ (({ dst := _, op := .load 43 (.tmp 6), type := _, pos := _, after := _, guard := none } : Oper) :: _) _ _; refine wpList_load_st Htw.out.st rfl (.tmp 6) rfl rfl ?_)
          | (with_reducible show wpList _ _ _ (({ dst := _, op := .load 45 (.tmp 12), type := _, pos := _, after := _, guard := none } : Oper) :: _) _ _; refine wpList_load_stp Htw.out.step rfl (.tmp 12) rfl rfl ?_))
      refine (check_any g _ Hok.out).mono ?_
      rintro e w1 ⟨rfl, hb1⟩
      have B1 := Lib.hid (Htw.out.call hb1)
      rw [Hc.out]
      clear hb1
      go_wp2_with (first
          | (with_reducible show wpList _ _ _ (({ dst := _, op := .load 33 (.tmp 5), type := _, pos := _, after := _, guard := none } : Oper) :: _) _ _; refine wpList_load_gate B1.out.gate rfl (.tmp 5) rfl rfl ?_)
          | (with_reducible show wpList _ _ _ (({ dst := _, op := .load 43 (.tmp 6), type := _, pos := _, after := _, guard := none } : Oper) :: _) _ _; refine wpList_load_st B1.out.st rfl (.tmp 6) rfl rfl ?_)
          | (with_reducible show wpList _ _ _ (({ dst := _, op := .load 45 (.tmp 12), type := _, pos := _, after := _, guard := none } : Oper) :: _) _ _; refine wpList_load_stp B1.out.step rfl (.tmp 12) rfl rfl ?_))
      refine (odd_any g s ⟨1, power, o, i⟩ _).mono ?_
      rintro e w2 ⟨rfl, hb2⟩
      have B2 := Lib.hid (B1.out.call hb2)
      clear hb2 B1
      go_wp2
      go_ret2
      exact ⟨rfl, B2.out.below⟩
  · have hr : timeZ g s o i power = (0, (checkZ g).2.2) := by rw [timeZ, if_pos hc]
    rw [hr]
    have h1 : ((checkZ g).2.2 != 0) = true := by simp [hc]
    have h2 : ((checkZ g).2.2 == 0) = false := by simp [hc]
    clear hr hc
    go_enter Try.func38, Try.ntmps38
    go_wp2_with (first
          | (with_reducible show wpList _ _ _ (({ dst := _, op := .load 33 (.tmp 5), type := _, pos := _, after := _, guard := none } : Oper) :: _) _ _; refine wpList_load_gate Htw.out.gate rfl (.tmp 5) rfl rfl ?_)
          | (with_reducible show wpList _ _ _ (({ dst := _, op := .load 43 (.tmp 6), type := _, pos := _, after := _, guard := none } : Oper) :: _) _ _; refine wpList_load_st Htw.out.st rfl (.tmp 6) rfl rfl ?_)
          | (with_reducible show wpList _ _ _ (({ dst := _, op := .load 45 (.tmp 12), type := _, pos := _, after := _, guard := none } : Oper) :: _) _ _; refine wpList_load_stp Htw.out.step rfl (.tmp 12) rfl rfl ?_))
    refine (check_any g _ Hok.out).mono ?_
    rintro e w1 ⟨rfl, hb1⟩
    have B1 := Lib.hid (Htw.out.call hb1)
    clear hb1
    go_wp2
    go_ret2
    exact ⟨rfl, B1.out.below⟩
end Go.Proofs.Ythalanpmfhhhnaa
