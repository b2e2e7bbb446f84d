/-
  gate.do: a step of a gate that is valid.
-/
import Derived.Test.YtgfdindlihfidaaGreatMb
import Derived.Test.YtgfdindlihfidaaGreatRc
namespace Go.Proofs.YtgfdindlihfidaaGreat
open Go.RowKit
set_option linter.unusedSimpArgs false
set_option linter.unusedVariables false
attribute [local go_sem high] run_min_z run_max_z
attribute [local go_sem ↓] run_min_z run_max_z

/-- By how much a gate moves, and the oil. -/
def moveZ (g : GateV) (s : St) (t : Stp) (refused : Int) : Int × Int :=
  if s.bolted = true then (0, 0)
  else if refused ≠ 0 then (holdZ g s (netZ g s.pos t.outer t.inner) (rubZ g s.pos t.outer t.inner), 0)
  else if t.order = 1 then pushZ g s t (rubZ g s.pos t.outer t.inner) (netZ g s.pos t.outer t.inner) (g.travel - s.pos)
  else if t.order = 2 then (-(pushZ g s t (rubZ g s.pos t.outer t.inner) (-netZ g s.pos t.outer t.inner) s.pos).1, (pushZ g s t (rubZ g s.pos t.outer t.inner) (-netZ g s.pos t.outer t.inner) s.pos).2)
  else (holdZ g s (netZ g s.pos t.outer t.inner) (rubZ g s.pos t.outer t.inner), 0)
/-- The state after a step, and what came of it. -/
def doZ (g : GateV) (s : St) (t : Stp) (refused : Int) : St × Mvd :=
  (⟨s.pos + (moveZ g s t refused).1, if t.power = true then min (s.charge - (moveZ g s t refused).2 + g.pump) g.cap else s.charge - (moveZ g s t refused).2, s.bolted⟩, ⟨refused, (moveZ g s t refused).1, (moveZ g s t refused).2⟩)

/-- The world of 'do' before its machine is laid. -/
abbrev doW5 (g : GateV) (s : St) (t : Stp) (w : World) : World :=
  ((((w.alloc (.cells g.cells 60)).alloc (.cells s.cells 62)).alloc (.cells t.cells 47)).alloc (.cells #[.int .i64 0, .int .i64 0, .bool false] 62)).alloc (.cells #[.int .i64 0, .int .i64 0, .int .i64 0] 95)
theorem doW5_size (g : GateV) (s : St) (t : Stp) (w : World) : (doW5 g s t w).heap.size = w.heap.size + 1 + 1 + 1 + 1 + 1 := by simp [doW5]
theorem doW5_below (g : GateV) (s : St) (t : Stp) (w : World) : Below w.heap.size w (doW5 g s t w) :=
  (((((Below.refl w.heap.size w).alloc (Nat.le_refl _) _).alloc (by simp) _).alloc (by simp; omega) _).alloc (by simp; omega) _).alloc (by simp; omega) _
theorem doW5_gate (g : GateV) (s : St) (t : Stp) (w : World) : GateIn (doW5 g s t w) w.heap.size g :=
  ((((gateIn_new w g).below ((Below.refl _ _).alloc (Nat.le_refl _) _) (Nat.le_refl _)).below ((Below.refl _ _).alloc (Nat.le_refl _) _) (Nat.le_refl _)).below ((Below.refl _ _).alloc (Nat.le_refl _) _) (Nat.le_refl _)).below ((Below.refl _ _).alloc (Nat.le_refl _) _) (Nat.le_refl _)
theorem mach_new (W : World) (M : Nat) (hM : W.heap.size = M) (g : GateV) (s : St) (t : Stp) (net rub oil : Int) : MachIn (W.alloc (.cells (machCells g s t net rub oil) 136)) M g s t net rub oil := by
  subst hM
  exact ⟨by simp, heap_alloc_new W _⟩

/-- What the end of 'do' needs of the world: its boxes, and the oil. -/
structure DoW (w W : World) (g : GateV) (pos charge : Int) (bolted power : Bool) (oil : Int) : Prop where
  below : Below w.heap.size w W
  size : w.heap.size + 1 + 1 + 1 + 1 + 1 < W.heap.size
  gate : GateIn W w.heap.size g
  st : W.heap[w.heap.size + 1]? = some (.cells #[.int .i64 pos, .int .i64 charge, .bool bolted] 62 (0, 0))
  step : W.cell? ⟨w.heap.size + 1 + 1, 1, none⟩ = some (.bool power)
  r1 : W.heap[w.heap.size + 1 + 1 + 1]? = some (.cells #[.int .i64 0, .int .i64 0, .bool false] 62 (0, 0))
  r2 : W.heap[w.heap.size + 1 + 1 + 1 + 1]? = some (.cells #[.int .i64 0, .int .i64 0, .int .i64 0] 95 (0, 0))
  oil : W.cell? ⟨w.heap.size + 1 + 1 + 1 + 1 + 1, 30, none⟩ = some (.int .i64 oil)

theorem bset {B : Nat} {a w : World} {b o : Nat} {u : Value} (h : Below B a w) (hb : B ≤ b) : Below B a (w.setCell ⟨b, o, none⟩ u) := h.setCell hb u
theorem below_heap {B : Nat} {w W : World} (h : Below B w W) {k : Nat} (hk : k < B) {o : Option Obj} (e : w.heap[k]? = o) : W.heap[k]? = o := (h.block k hk).trans e

theorem doW5_dow (g : GateV) (s : St) (t : Stp) (w : World) (net rub oil : Int) : DoW w ((doW5 g s t w).alloc (.cells (machCells g s t net rub oil) 136)) g s.pos s.charge s.bolted t.power oil := by
  have z := doW5_size g s t w
  refine ⟨(doW5_below g s t w).alloc (doW5_below g s t w).size _, by simp, (doW5_gate g s t w).below ((Below.refl _ _).alloc (Nat.le_refl _) _) (Nat.le_refl _), ?_, ?_, ?_, ?_, ?_⟩
  · rw [Below.heap_alloc _ _ _ (by omega), Below.heap_alloc _ _ _ (by simp), Below.heap_alloc _ _ _ (by simp), Below.heap_alloc _ _ _ (by simp)]
    have := heap_alloc_new (w.alloc (.cells g.cells 60)) (.cells s.cells 62)
    rwa [World.size_alloc] at this
  · have h : ((doW5 g s t w).alloc (.cells (machCells g s t net rub oil) 136)).heap[w.heap.size + 1 + 1]? = some (.cells t.cells 47 (0, 0)) := by
      rw [Below.heap_alloc _ _ _ (by omega), Below.heap_alloc _ _ _ (by simp), Below.heap_alloc _ _ _ (by simp)]
      have := heap_alloc_new ((w.alloc (.cells g.cells 60)).alloc (.cells s.cells 62)) (.cells t.cells 47)
      rwa [World.size_alloc, World.size_alloc] at this
    exact (cell_of_row _ _ 1 _ _ _ h).trans rfl
  · rw [Below.heap_alloc _ _ _ (by omega), Below.heap_alloc _ _ _ (by simp)]
    have := heap_alloc_new (((w.alloc (.cells g.cells 60)).alloc (.cells s.cells 62)).alloc (.cells t.cells 47)) (.cells #[.int .i64 0, .int .i64 0, .bool false] 62)
    rwa [World.size_alloc, World.size_alloc, World.size_alloc] at this
  · rw [Below.heap_alloc _ _ _ (by omega)]
    have := heap_alloc_new ((((w.alloc (.cells g.cells 60)).alloc (.cells s.cells 62)).alloc (.cells t.cells 47)).alloc (.cells #[.int .i64 0, .int .i64 0, .bool false] 62)) (.cells #[.int .i64 0, .int .i64 0, .int .i64 0] 95)
    rwa [World.size_alloc, World.size_alloc, World.size_alloc, World.size_alloc] at this
  · exact (mach_new (doW5 g s t w) _ z g s t net rub oil).cell 30 _ rfl

theorem DoW.drewN {w W : World} {g : GateV} {pos charge : Int} {bolted power : Bool} {oil : Int} (h : DoW w W g pos charge bolted power oil) (n : Nat) : DoW w (W.drewN n) g pos charge bolted power oil :=
  ⟨below_drewN h.below n, h.size, ⟨h.gate.lt, h.gate.blk⟩, h.st, h.step, h.r1, h.r2, h.oil⟩
/-- A store into the machine leaves the rest. -/
theorem DoW.mach {w W : World} {g : GateV} {pos charge : Int} {bolted power : Bool} {oil : Int} (h : DoW w W g pos charge bolted power oil) (k : Nat) (hk : k ≠ 30) (v : Value) : DoW w (W.setCell ⟨w.heap.size + 1 + 1 + 1 + 1 + 1, k, none⟩ v) g pos charge bolted power oil := by
  have hb := (Below.refl (w.heap.size + 1 + 1 + 1 + 1 + 1) W).setCell (p := ⟨w.heap.size + 1 + 1 + 1 + 1 + 1, k, none⟩) (Nat.le_refl _) v
  refine ⟨h.below.setCell (by first | (simp; done) | (simp; omega)) _, by simpa [World.setCell] using h.size, ⟨by simpa [World.setCell] using h.gate.lt, below_heap hb (by omega) h.gate.blk⟩, below_heap hb (by omega) h.st, ?_, below_heap hb (by omega) h.r1, below_heap hb (by omega) h.r2, ?_⟩
  · exact (hb.cell (p := ⟨w.heap.size + 1 + 1, 1, none⟩) (by first | (simp; done) | (simp; omega))).trans h.step
  · exact (World.cell?_setCell_other _ _ _ _ (by first | (simp; done) | (simp; omega))).trans h.oil
/-- Blocks below the machine stay. -/
theorem DoW.call {w W W' : World} {g : GateV} {pos charge : Int} {bolted power : Bool} {oil oil' : Int} (h : DoW w W g pos charge bolted power oil) (hb : Below (w.heap.size + 1 + 1 + 1 + 1 + 1) W W') (ho : W'.cell? ⟨w.heap.size + 1 + 1 + 1 + 1 + 1, 30, none⟩ = some (.int .i64 oil')) : DoW w W' g pos charge bolted power oil' := by
  have := hb.size
  have := h.size
  refine ⟨h.below.trans (hb.mono (by omega)), by omega, ⟨by have := h.gate.lt; omega, below_heap hb (by omega) h.gate.blk⟩, below_heap hb (by omega) h.st, ?_, below_heap hb (by omega) h.r1, below_heap hb (by omega) h.r2, ho⟩
  exact (hb.cell (p := ⟨w.heap.size + 1 + 1, 1, none⟩) (by first | (simp; done) | (simp; omega))).trans h.step
/-- A store into the state's box. -/
theorem DoW.pos {w W : World} {g : GateV} {pos charge : Int} {bolted power : Bool} {oil : Int} (h : DoW w W g pos charge bolted power oil) (v : Int) : DoW w (W.setCell ⟨w.heap.size + 1, 0, none⟩ (.int .i64 v)) g v charge bolted power oil := by
  have hs := heap_setCell_same W (w.heap.size + 1) 0 _ _ (.int .i64 v) h.st
  have ho := fun (k : Nat) (hk : k ≠ w.heap.size + 1) => heap_setCell_other W ⟨w.heap.size + 1, 0, none⟩ k (.int .i64 v) hk
  refine ⟨h.below.setCell (by simp) _, by simpa [World.setCell] using h.size, ⟨by simpa [World.setCell] using h.gate.lt, (ho _ (by omega)).trans h.gate.blk⟩, hs, ?_, (ho _ (by omega)).trans h.r1, (ho _ (by omega)).trans h.r2, ?_⟩
  · exact (World.cell?_setCell_other _ _ _ _ (by simp)).trans h.step
  · exact (World.cell?_setCell_other _ _ _ _ (by first | (simp; done) | (simp; omega))).trans h.oil

set_option maxRecDepth 100000 in
set_option maxHeartbeats 4000000 in
theorem do_bolted (g : GateV) (s : St) (t : Stp) (refused : Int) (w : World) (hg : g.Good) (hown : IntsAt w g.ownA g.own) (hs : s.Ok g) (ht : t.Lv) (hb : s.bolted = true) :
    Calls Tryz.prog 30 #[g.val, s.val, t.val, .int .i64 refused] w fun e w' => e = .returned (.tuple #[(doZ g s t refused).1.val, (doZ g s t refused).2.val]) ∧ Below w.heap.size w w' := by
  have Hg := Lib.hid hg
  have Hgi := Lib.hid (doW5_gate g s t w)
  have Nb := Lib.hid (net_bd hg hs.pos.1 hs.pos.2 ht.outer ht.inner)
  have Rb := Lib.hid (rub_bd (p := s.pos) hg ht.outer ht.inner)
  have Hm := Lib.hid (mach_new (doW5 g s t w) _ (doW5_size g s t w) g s t 0 0 0)
  have Hown := Lib.hid (hown.below ((doW5_below g s t w).alloc (doW5_below g s t w).size (.cells (machCells g s t 0 0 0) 136)) (Nat.le_refl _))
  have Hdw := Lib.hid (doW5_dow g s t w 0 0 0)
  have Hs := Lib.hid hs
  have Ht := Lib.hid ht
  have hc1 := hs.charge
  have hc2 := hs.pos
  have hp1 := hg.pump
  have hp2 := hg.cap
  have hp3 := hg.travel
  clear hown hs ht hg
  have hz : doZ g s t refused = (⟨s.pos, if t.power = true then min (s.charge + g.pump) g.cap else s.charge, true⟩, ⟨refused, 0, 0⟩) := by
    have hm : moveZ g s t refused = (0, 0) := by rw [moveZ, if_pos hb]
    rw [doZ, hm, hb]; simp
  rw [hz]
  have Hb := Lib.hid hb
  clear hz hb
  go_enter Tryz.func30, Tryz.ntmps30
  go_wp2_with (with_reducible show wpList _ _ _ (({ dst := _, op := .load 60 (.tmp 4), type := _, pos := _, after := _, guard := none } : Oper) :: _) _ _; refine wpList_load_gate Hgi.out rfl (.tmp 4) rfl rfl ?_)
  refine (forces_any _ g s t 0 0 0 s.pos _ Hm.out Hown.out Hg.out Hs.out.pos.1 Hs.out.pos.2 Ht.out.outer Ht.out.inner).mono ?_
  rintro e w1 ⟨rfl, n, rfl⟩
  generalize hN : netZ g s.pos t.outer t.inner = N
  generalize hR : rubZ g s.pos t.outer t.inner = R
  have HN := Lib.hid hN
  have HR := Lib.hid hR
  clear hN hR
  have hb := Hb.out
  go_wp2
  all_goals
    have hD := (((Hdw.out.drewN n).mach 28 (by decide) (.int .i64 N)).mach 29 (by decide) (.int .i64 R)).pos s.pos
    rw [hb] at hD
    generalize (((((doW5 g s t w).alloc (.cells (machCells g s t 0 0 0) 136)).drewN n).setCell ⟨w.heap.size + 1 + 1 + 1 + 1 + 1, 28, none⟩ (.int .i64 N)).setCell ⟨w.heap.size + 1 + 1 + 1 + 1 + 1, 29, none⟩ (.int .i64 R)).setCell ⟨w.heap.size + 1, 0, none⟩ (.int .i64 s.pos) = W at hD ⊢
    have c16 := hD.gate.cell 16 _ rfl
    have c17 := hD.gate.cell 17 _ rfl
    have s0 := (cell_of_row _ _ 0 _ _ _ hD.st).trans rfl
    have s1 := (cell_of_row _ _ 1 _ _ _ hD.st).trans rfl
    have s2 := (cell_of_row _ _ 2 _ _ _ hD.st).trans rfl
    have f0 := frozen_of_row _ _ 0 _ _ hD.st
    have f1 := frozen_of_row _ _ 1 _ _ hD.st
    have a0 := (cell_of_row _ _ 0 _ _ _ hD.r1).trans rfl
    have a1 := (cell_of_row _ _ 1 _ _ _ hD.r1).trans rfl
    have a2 := (cell_of_row _ _ 2 _ _ _ hD.r1).trans rfl
    have af0 := frozen_of_row _ _ 0 _ _ hD.r1
    have af1 := frozen_of_row _ _ 1 _ _ hD.r1
    have af2 := frozen_of_row _ _ 2 _ _ hD.r1
    have b0 := (cell_of_row _ _ 0 _ _ _ hD.r2).trans rfl
    have b1 := (cell_of_row _ _ 1 _ _ _ hD.r2).trans rfl
    have b2 := (cell_of_row _ _ 2 _ _ _ hD.r2).trans rfl
    have bf0 := frozen_of_row _ _ 0 _ _ hD.r2
    have bf1 := frozen_of_row _ _ 1 _ _ hD.r2
    have bf2 := frozen_of_row _ _ 2 _ _ hD.r2
    have tp := hD.step
    have mo := hD.oil
    have Hbl := Lib.hid hD.below
    clear hD
    go_still_tail 8, (by kernel_rfl)
    go_wp2
    all_goals
      go_region
      all_goals
        go_wp2
      all_goals
        first
          | refine bodyPost_ret (v := .tuple #[(St.mk (s.pos) (min (s.charge + g.pump) g.cap) true).val, (Mvd.mk refused (0) (0)).val]) (by simp [results, Tryz.results30, go_sem, *]) rfl ⟨rfl, ?_⟩
          | refine bodyPost_ret (v := .tuple #[(St.mk (s.pos) (s.charge) true).val, (Mvd.mk refused (0) (0)).val]) (by simp [results, Tryz.results30, go_sem, *]) rfl ⟨rfl, ?_⟩
        repeat (first | (with_reducible exact Hbl.out) | (with_reducible refine Below.drew ?_) | (with_reducible refine bset ?_ (by omega)))

theorem MachIn.setNet {w : World} {M : Nat} {g : GateV} {s : St} {t : Stp} {net rub oil : Int} (hm : MachIn w M g s t net rub oil) (o : Int) : MachIn (w.setCell ⟨M, 28, none⟩ (.int .i64 o)) M g s t o rub oil :=
  ⟨by simpa [World.setCell] using hm.lt, heap_setCell_same w M 28 _ _ _ hm.blk⟩
theorem MachIn.setRub {w : World} {M : Nat} {g : GateV} {s : St} {t : Stp} {net rub oil : Int} (hm : MachIn w M g s t net rub oil) (o : Int) : MachIn (w.setCell ⟨M, 29, none⟩ (.int .i64 o)) M g s t net o oil :=
  ⟨by simpa [World.setCell] using hm.lt, heap_setCell_same w M 29 _ _ _ hm.blk⟩
theorem fuelZ_bd {g : GateV} (hg : g.Good) (cm : Int) (h0 : 0 ≤ cm) (h1 : cm ≤ 100) : 0 ≤ fuelZ g cm ∧ fuelZ g cm ≤ 200000 := by
  have m1 := mul_bd0 (a := cm) (b := g.use) (A := 100) (B := 100000) h0 h1 hg.use.1 hg.use.2
  unfold fuelZ
  omega
theorem pushZ_oil {g : GateV} {s : St} {t : Stp} (hg : g.Good) (rub force left : Int) (hl : 0 ≤ left) (hc : 0 ≤ s.charge) : 0 ≤ (pushZ g s t rub force left).2 ∧ (pushZ g s t rub force left).2 ≤ 200000 := by
  have h2 := hg.speed
  unfold pushZ
  split
  · simp only; omega
  · split
    · simp only; omega
    · split
      · rename_i h3
        have := Int.ediv_nonneg (a := s.charge * 100) (b := g.use) (by omega) (by omega)
        exact fuelZ_bd hg _ (by omega) (by omega)
      · exact fuelZ_bd hg _ (by omega) (by omega)
theorem holdZ_bd {g : GateV} {s : St} (hg : g.Good) (hs : s.Ok g) (net rub : Int) : -5000 ≤ holdZ g s net rub ∧ holdZ g s net rub ≤ 5000 := by
  have h1 := hg.gravity
  have h2 := hs.pos
  have h3 := hg.travel
  unfold holdZ
  split
  · omega
  · split <;> omega

set_option maxRecDepth 100000 in
set_option maxHeartbeats 4000000 in
theorem do_refused (g : GateV) (s : St) (t : Stp) (refused : Int) (w : World) (hg : g.Good) (hown : IntsAt w g.ownA g.own) (hs : s.Ok g) (ht : t.Lv) (hb : s.bolted = false) (hr : (refused != 0) = true) :
    Calls Tryz.prog 30 #[g.val, s.val, t.val, .int .i64 refused] w fun e w' => e = .returned (.tuple #[(doZ g s t refused).1.val, (doZ g s t refused).2.val]) ∧ Below w.heap.size w w' := by
  have Hg := Lib.hid hg
  have Hgi := Lib.hid (doW5_gate g s t w)
  have Nb := Lib.hid (net_bd hg hs.pos.1 hs.pos.2 ht.outer ht.inner)
  have Rb := Lib.hid (rub_bd (p := s.pos) hg ht.outer ht.inner)
  have Hm := Lib.hid (mach_new (doW5 g s t w) _ (doW5_size g s t w) g s t 0 0 0)
  have Hown := Lib.hid (hown.below ((doW5_below g s t w).alloc (doW5_below g s t w).size (.cells (machCells g s t 0 0 0) 136)) (Nat.le_refl _))
  have Hdw := Lib.hid (doW5_dow g s t w 0 0 0)
  have Hs := Lib.hid hs
  have Ht := Lib.hid ht
  have hc1 := hs.charge
  have hc2 := hs.pos
  have hp1 := hg.pump
  have hp2 := hg.cap
  have hp3 := hg.travel
  clear hown hs ht hg
  have hm : moveZ g s t refused = (holdZ g s (netZ g s.pos t.outer t.inner) (rubZ g s.pos t.outer t.inner), 0) := by
    rw [moveZ, if_neg (by rw [hb]; decide), if_pos (by simpa using hr)]
  have hz : doZ g s t refused = (⟨s.pos + (moveZ g s t refused).1, if t.power = true then min (s.charge - (moveZ g s t refused).2 + g.pump) g.cap else s.charge - (moveZ g s t refused).2, false⟩, ⟨refused, (moveZ g s t refused).1, (moveZ g s t refused).2⟩) := by
    rw [doZ, hb]
  rw [hz, hm]
  have Hb := Lib.hid hb
  clear hz hb hm
  have hNb := Nb.out
  have hRb := Rb.out
  generalize hNe : netZ g s.pos t.outer t.inner = N at hNb ⊢
  generalize hRe : rubZ g s.pos t.outer t.inner = R at hRb ⊢
  have HN := Lib.hid hNb
  have HR := Lib.hid hRb
  have HNe := Lib.hid hNe
  have HRe := Lib.hid hRe
  clear hNb hRb hNe hRe
  have bc := holdZ_bd Hg.out Hs.out N R
  have bo := (⟨Int.le_refl 0, Int.le_refl 0⟩ : (0 : Int) ≤ 0 ∧ (0 : Int) ≤ 0)
  generalize hce : holdZ g s N R = c at bc ⊢
  have Hce := Lib.hid hce
  obtain ⟨bc1, bc2⟩ := bc
  obtain ⟨bo1, bo2⟩ := bo
  clear hce
  go_enter Tryz.func30, Tryz.ntmps30
  go_wp2_with (with_reducible show wpList _ _ _ (({ dst := _, op := .load 60 (.tmp 4), type := _, pos := _, after := _, guard := none } : Oper) :: _) _ _; refine wpList_load_gate Hgi.out rfl (.tmp 4) rfl rfl ?_)
  refine (forces_any _ g s t 0 0 0 s.pos _ Hm.out Hown.out Hg.out Hs.out.pos.1 Hs.out.pos.2 Ht.out.outer Ht.out.inner).mono ?_
  rintro e w1 ⟨rfl, n, rfl⟩
  rw [HNe.out, HRe.out]
  have hm6 := ((Hm.out.drewN n).setNet N).setRub R
  have Hm6 := Lib.hid hm6
  have hD6 := ((Hdw.out.drewN n).mach 28 (by decide) (.int .i64 N)).mach 29 (by decide) (.int .i64 R)
  have HD6 := Lib.hid hD6
  clear hm6 hD6
  have hb := Hb.out
  go_wp2_with fail
  refine (hold_any (w.heap.size + 1 + 1 + 1 + 1 + 1) g s t N R _ Hm6.out Hg.out HN.out HR.out Hs.out.pos).mono ?_
  rintro e w7 ⟨rfl, hm7, hb7⟩
  rw [Hce.out]
  have hD := HD6.out.call hb7 (hm7.cell 30 _ rfl)
  rw [hb] at hD
  clear hb7 hm7 Hm6 HD6
  all_goals
    have s0 := (cell_of_row _ _ 0 _ _ _ hD.st).trans rfl
    have f0 := frozen_of_row _ _ 0 _ _ hD.st
    have HDh := Lib.hid hD
    clear hD
    go_wp2
    have hD := HDh.out.pos (s.pos + (c))
    clear s0 f0 HDh
    generalize w7.setCell ⟨w.heap.size + 1, 0, none⟩ (.int .i64 (s.pos + (c))) = W at hD ⊢
    have c16 := hD.gate.cell 16 _ rfl
    have c17 := hD.gate.cell 17 _ rfl
    have s0 := (cell_of_row _ _ 0 _ _ _ hD.st).trans rfl
    have s1 := (cell_of_row _ _ 1 _ _ _ hD.st).trans rfl
    have s2 := (cell_of_row _ _ 2 _ _ _ hD.st).trans rfl
    have f0 := frozen_of_row _ _ 0 _ _ hD.st
    have f1 := frozen_of_row _ _ 1 _ _ hD.st
    have a0 := (cell_of_row _ _ 0 _ _ _ hD.r1).trans rfl
    have a1 := (cell_of_row _ _ 1 _ _ _ hD.r1).trans rfl
    have a2 := (cell_of_row _ _ 2 _ _ _ hD.r1).trans rfl
    have af0 := frozen_of_row _ _ 0 _ _ hD.r1
    have af1 := frozen_of_row _ _ 1 _ _ hD.r1
    have af2 := frozen_of_row _ _ 2 _ _ hD.r1
    have b0 := (cell_of_row _ _ 0 _ _ _ hD.r2).trans rfl
    have b1 := (cell_of_row _ _ 1 _ _ _ hD.r2).trans rfl
    have b2 := (cell_of_row _ _ 2 _ _ _ hD.r2).trans rfl
    have bf0 := frozen_of_row _ _ 0 _ _ hD.r2
    have bf1 := frozen_of_row _ _ 1 _ _ hD.r2
    have bf2 := frozen_of_row _ _ 2 _ _ hD.r2
    have tp := hD.step
    have mo := hD.oil
    have Hbl := Lib.hid hD.below
    clear hD
    go_still_tail 8, (by kernel_rfl)
    go_wp2
    all_goals
      go_region
      all_goals
        go_wp2
      all_goals
        first
          | refine bodyPost_ret (v := .tuple #[(St.mk (s.pos + c) (min (s.charge + g.pump) g.cap) false).val, (Mvd.mk refused (c) (0)).val]) (by simp [results, Tryz.results30, go_sem, *]) rfl ⟨rfl, ?_⟩
          | refine bodyPost_ret (v := .tuple #[(St.mk (s.pos + c) (s.charge) false).val, (Mvd.mk refused (c) (0)).val]) (by simp [results, Tryz.results30, go_sem, *]) rfl ⟨rfl, ?_⟩
        repeat (first | (with_reducible exact Hbl.out) | (with_reducible refine Below.drew ?_) | (with_reducible refine bset ?_ (by omega)))

set_option maxRecDepth 100000 in
set_option maxHeartbeats 4000000 in
theorem do_still (g : GateV) (s : St) (t : Stp) (refused : Int) (w : World) (hg : g.Good) (hown : IntsAt w g.ownA g.own) (hs : s.Ok g) (ht : t.Lv) (hb : s.bolted = false) (hr : (refused != 0) = false) (h1 : (t.order == 1) = false) (h2 : (t.order == 2) = false) :
    Calls Tryz.prog 30 #[g.val, s.val, t.val, .int .i64 refused] w fun e w' => e = .returned (.tuple #[(doZ g s t refused).1.val, (doZ g s t refused).2.val]) ∧ Below w.heap.size w w' := by
  have Hg := Lib.hid hg
  have Hgi := Lib.hid (doW5_gate g s t w)
  have Nb := Lib.hid (net_bd hg hs.pos.1 hs.pos.2 ht.outer ht.inner)
  have Rb := Lib.hid (rub_bd (p := s.pos) hg ht.outer ht.inner)
  have Hm := Lib.hid (mach_new (doW5 g s t w) _ (doW5_size g s t w) g s t 0 0 0)
  have Hown := Lib.hid (hown.below ((doW5_below g s t w).alloc (doW5_below g s t w).size (.cells (machCells g s t 0 0 0) 136)) (Nat.le_refl _))
  have Hdw := Lib.hid (doW5_dow g s t w 0 0 0)
  have Hs := Lib.hid hs
  have Ht := Lib.hid ht
  have hc1 := hs.charge
  have hc2 := hs.pos
  have hp1 := hg.pump
  have hp2 := hg.cap
  have hp3 := hg.travel
  clear hown hs ht hg
  have hm : moveZ g s t refused = (holdZ g s (netZ g s.pos t.outer t.inner) (rubZ g s.pos t.outer t.inner), 0) := by
    rw [moveZ, if_neg (by rw [hb]; decide), if_neg (by simpa using hr), if_neg (by simpa using h1), if_neg (by simpa using h2)]
  have hz : doZ g s t refused = (⟨s.pos + (moveZ g s t refused).1, if t.power = true then min (s.charge - (moveZ g s t refused).2 + g.pump) g.cap else s.charge - (moveZ g s t refused).2, false⟩, ⟨refused, (moveZ g s t refused).1, (moveZ g s t refused).2⟩) := by
    rw [doZ, hb]
  rw [hz, hm]
  have Hb := Lib.hid hb
  clear hz hb hm
  have hNb := Nb.out
  have hRb := Rb.out
  generalize hNe : netZ g s.pos t.outer t.inner = N at hNb ⊢
  generalize hRe : rubZ g s.pos t.outer t.inner = R at hRb ⊢
  have HN := Lib.hid hNb
  have HR := Lib.hid hRb
  have HNe := Lib.hid hNe
  have HRe := Lib.hid hRe
  clear hNb hRb hNe hRe
  have bc := holdZ_bd Hg.out Hs.out N R
  have bo := (⟨Int.le_refl 0, Int.le_refl 0⟩ : (0 : Int) ≤ 0 ∧ (0 : Int) ≤ 0)
  generalize hce : holdZ g s N R = c at bc ⊢
  have Hce := Lib.hid hce
  obtain ⟨bc1, bc2⟩ := bc
  obtain ⟨bo1, bo2⟩ := bo
  clear hce
  go_enter Tryz.func30, Tryz.ntmps30
  go_wp2_with (with_reducible show wpList _ _ _ (({ dst := _, op := .load 60 (.tmp 4), type := _, pos := _, after := _, guard := none } : Oper) :: _) _ _; refine wpList_load_gate Hgi.out rfl (.tmp 4) rfl rfl ?_)
  refine (forces_any _ g s t 0 0 0 s.pos _ Hm.out Hown.out Hg.out Hs.out.pos.1 Hs.out.pos.2 Ht.out.outer Ht.out.inner).mono ?_
  rintro e w1 ⟨rfl, n, rfl⟩
  rw [HNe.out, HRe.out]
  have hm6 := ((Hm.out.drewN n).setNet N).setRub R
  have Hm6 := Lib.hid hm6
  have hD6 := ((Hdw.out.drewN n).mach 28 (by decide) (.int .i64 N)).mach 29 (by decide) (.int .i64 R)
  have HD6 := Lib.hid hD6
  clear hm6 hD6
  have hb := Hb.out
  go_wp2_with fail
  refine (hold_any (w.heap.size + 1 + 1 + 1 + 1 + 1) g s t N R _ Hm6.out Hg.out HN.out HR.out Hs.out.pos).mono ?_
  rintro e w7 ⟨rfl, hm7, hb7⟩
  rw [Hce.out]
  have hD := HD6.out.call hb7 (hm7.cell 30 _ rfl)
  rw [hb] at hD
  clear hb7 hm7 Hm6 HD6
  all_goals
    have s0 := (cell_of_row _ _ 0 _ _ _ hD.st).trans rfl
    have f0 := frozen_of_row _ _ 0 _ _ hD.st
    have HDh := Lib.hid hD
    clear hD
    go_wp2
    have hD := HDh.out.pos (s.pos + (c))
    clear s0 f0 HDh
    generalize w7.setCell ⟨w.heap.size + 1, 0, none⟩ (.int .i64 (s.pos + (c))) = W at hD ⊢
    have c16 := hD.gate.cell 16 _ rfl
    have c17 := hD.gate.cell 17 _ rfl
    have s0 := (cell_of_row _ _ 0 _ _ _ hD.st).trans rfl
    have s1 := (cell_of_row _ _ 1 _ _ _ hD.st).trans rfl
    have s2 := (cell_of_row _ _ 2 _ _ _ hD.st).trans rfl
    have f0 := frozen_of_row _ _ 0 _ _ hD.st
    have f1 := frozen_of_row _ _ 1 _ _ hD.st
    have a0 := (cell_of_row _ _ 0 _ _ _ hD.r1).trans rfl
    have a1 := (cell_of_row _ _ 1 _ _ _ hD.r1).trans rfl
    have a2 := (cell_of_row _ _ 2 _ _ _ hD.r1).trans rfl
    have af0 := frozen_of_row _ _ 0 _ _ hD.r1
    have af1 := frozen_of_row _ _ 1 _ _ hD.r1
    have af2 := frozen_of_row _ _ 2 _ _ hD.r1
    have b0 := (cell_of_row _ _ 0 _ _ _ hD.r2).trans rfl
    have b1 := (cell_of_row _ _ 1 _ _ _ hD.r2).trans rfl
    have b2 := (cell_of_row _ _ 2 _ _ _ hD.r2).trans rfl
    have bf0 := frozen_of_row _ _ 0 _ _ hD.r2
    have bf1 := frozen_of_row _ _ 1 _ _ hD.r2
    have bf2 := frozen_of_row _ _ 2 _ _ hD.r2
    have tp := hD.step
    have mo := hD.oil
    have Hbl := Lib.hid hD.below
    clear hD
    go_still_tail 8, (by kernel_rfl)
    go_wp2
    all_goals
      go_region
      all_goals
        go_wp2
      all_goals
        first
          | refine bodyPost_ret (v := .tuple #[(St.mk (s.pos + c) (min (s.charge + g.pump) g.cap) false).val, (Mvd.mk refused (c) (0)).val]) (by simp [results, Tryz.results30, go_sem, *]) rfl ⟨rfl, ?_⟩
          | refine bodyPost_ret (v := .tuple #[(St.mk (s.pos + c) (s.charge) false).val, (Mvd.mk refused (c) (0)).val]) (by simp [results, Tryz.results30, go_sem, *]) rfl ⟨rfl, ?_⟩
        repeat (first | (with_reducible exact Hbl.out) | (with_reducible refine Below.drew ?_) | (with_reducible refine bset ?_ (by omega)))

set_option maxRecDepth 100000 in
set_option maxHeartbeats 4000000 in
theorem do_close (g : GateV) (s : St) (t : Stp) (refused : Int) (w : World) (hg : g.Good) (hown : IntsAt w g.ownA g.own) (hs : s.Ok g) (ht : t.Lv) (hb : s.bolted = false) (hr : (refused != 0) = false) (h1 : (t.order == 1) = true) :
    Calls Tryz.prog 30 #[g.val, s.val, t.val, .int .i64 refused] w fun e w' => e = .returned (.tuple #[(doZ g s t refused).1.val, (doZ g s t refused).2.val]) ∧ Below w.heap.size w w' := by
  have Hg := Lib.hid hg
  have Hgi := Lib.hid (doW5_gate g s t w)
  have Nb := Lib.hid (net_bd hg hs.pos.1 hs.pos.2 ht.outer ht.inner)
  have Rb := Lib.hid (rub_bd (p := s.pos) hg ht.outer ht.inner)
  have Hm := Lib.hid (mach_new (doW5 g s t w) _ (doW5_size g s t w) g s t 0 0 0)
  have Hown := Lib.hid (hown.below ((doW5_below g s t w).alloc (doW5_below g s t w).size (.cells (machCells g s t 0 0 0) 136)) (Nat.le_refl _))
  have Hdw := Lib.hid (doW5_dow g s t w 0 0 0)
  have Hs := Lib.hid hs
  have Ht := Lib.hid ht
  have hc1 := hs.charge
  have hc2 := hs.pos
  have hp1 := hg.pump
  have hp2 := hg.cap
  have hp3 := hg.travel
  clear hown hs ht hg
  have hm : moveZ g s t refused = pushZ g s t (rubZ g s.pos t.outer t.inner) (netZ g s.pos t.outer t.inner) (g.travel - s.pos) := by
    rw [moveZ, if_neg (by rw [hb]; decide), if_neg (by simpa using hr), if_pos (by simpa using h1)]
  have hz : doZ g s t refused = (⟨s.pos + (moveZ g s t refused).1, if t.power = true then min (s.charge - (moveZ g s t refused).2 + g.pump) g.cap else s.charge - (moveZ g s t refused).2, false⟩, ⟨refused, (moveZ g s t refused).1, (moveZ g s t refused).2⟩) := by
    rw [doZ, hb]
  rw [hz, hm]
  have Hb := Lib.hid hb
  clear hz hb hm
  have hNb := Nb.out
  have hRb := Rb.out
  generalize hNe : netZ g s.pos t.outer t.inner = N at hNb ⊢
  generalize hRe : rubZ g s.pos t.outer t.inner = R at hRb ⊢
  have HN := Lib.hid hNb
  have HR := Lib.hid hRb
  have HNe := Lib.hid hNe
  have HRe := Lib.hid hRe
  clear hNb hRb hNe hRe
  have bc := pushZ_bd (s := s) (t := t) Hg.out R N (g.travel - s.pos) (by omega) (by omega)
  have bo := pushZ_oil (s := s) (t := t) Hg.out R N (g.travel - s.pos) (by omega) (by omega)
  generalize hce : (pushZ g s t R N (g.travel - s.pos)).1 = c at bc ⊢
  have Hce := Lib.hid hce
  obtain ⟨bc1, bc2⟩ := bc
  obtain ⟨bo1, bo2⟩ := bo
  clear hce
  generalize hoe : (pushZ g s t R N (g.travel - s.pos)).2 = o at bo1 bo2 ⊢
  have Hoe := Lib.hid hoe
  clear hoe
  go_enter Tryz.func30, Tryz.ntmps30
  go_wp2_with (with_reducible show wpList _ _ _ (({ dst := _, op := .load 60 (.tmp 4), type := _, pos := _, after := _, guard := none } : Oper) :: _) _ _; refine wpList_load_gate Hgi.out rfl (.tmp 4) rfl rfl ?_)
  refine (forces_any _ g s t 0 0 0 s.pos _ Hm.out Hown.out Hg.out Hs.out.pos.1 Hs.out.pos.2 Ht.out.outer Ht.out.inner).mono ?_
  rintro e w1 ⟨rfl, n, rfl⟩
  rw [HNe.out, HRe.out]
  have hm6 := ((Hm.out.drewN n).setNet N).setRub R
  have Hm6 := Lib.hid hm6
  have hD6 := ((Hdw.out.drewN n).mach 28 (by decide) (.int .i64 N)).mach 29 (by decide) (.int .i64 R)
  have HD6 := Lib.hid hD6
  clear hm6 hD6
  have hb := Hb.out
  go_wp2_with fail
  refine (shut_any (w.heap.size + 1 + 1 + 1 + 1 + 1) g s t N R _ Hm6.out Hg.out HN.out HR.out Hs.out.pos (by omega)).mono ?_
  rintro e w7 ⟨rfl, hm7, hb7⟩
  rw [Hce.out]
  rw [Hoe.out] at hm7
  have hD := HD6.out.call hb7 (hm7.cell 30 _ rfl)
  rw [hb] at hD
  clear hb7 hm7 Hm6 HD6
  all_goals
    have s0 := (cell_of_row _ _ 0 _ _ _ hD.st).trans rfl
    have f0 := frozen_of_row _ _ 0 _ _ hD.st
    have HDh := Lib.hid hD
    clear hD
    go_wp2
    have hD := HDh.out.pos (s.pos + (c))
    clear s0 f0 HDh
    generalize w7.setCell ⟨w.heap.size + 1, 0, none⟩ (.int .i64 (s.pos + (c))) = W at hD ⊢
    have c16 := hD.gate.cell 16 _ rfl
    have c17 := hD.gate.cell 17 _ rfl
    have s0 := (cell_of_row _ _ 0 _ _ _ hD.st).trans rfl
    have s1 := (cell_of_row _ _ 1 _ _ _ hD.st).trans rfl
    have s2 := (cell_of_row _ _ 2 _ _ _ hD.st).trans rfl
    have f0 := frozen_of_row _ _ 0 _ _ hD.st
    have f1 := frozen_of_row _ _ 1 _ _ hD.st
    have a0 := (cell_of_row _ _ 0 _ _ _ hD.r1).trans rfl
    have a1 := (cell_of_row _ _ 1 _ _ _ hD.r1).trans rfl
    have a2 := (cell_of_row _ _ 2 _ _ _ hD.r1).trans rfl
    have af0 := frozen_of_row _ _ 0 _ _ hD.r1
    have af1 := frozen_of_row _ _ 1 _ _ hD.r1
    have af2 := frozen_of_row _ _ 2 _ _ hD.r1
    have b0 := (cell_of_row _ _ 0 _ _ _ hD.r2).trans rfl
    have b1 := (cell_of_row _ _ 1 _ _ _ hD.r2).trans rfl
    have b2 := (cell_of_row _ _ 2 _ _ _ hD.r2).trans rfl
    have bf0 := frozen_of_row _ _ 0 _ _ hD.r2
    have bf1 := frozen_of_row _ _ 1 _ _ hD.r2
    have bf2 := frozen_of_row _ _ 2 _ _ hD.r2
    have tp := hD.step
    have mo := hD.oil
    have Hbl := Lib.hid hD.below
    clear hD
    go_still_tail 8, (by kernel_rfl)
    go_wp2
    all_goals
      go_region
      all_goals
        go_wp2
      all_goals
        first
          | refine bodyPost_ret (v := .tuple #[(St.mk (s.pos + c) (min (s.charge - o + g.pump) g.cap) false).val, (Mvd.mk refused (c) (o)).val]) (by simp [results, Tryz.results30, go_sem, *]) rfl ⟨rfl, ?_⟩
          | refine bodyPost_ret (v := .tuple #[(St.mk (s.pos + c) (s.charge - o) false).val, (Mvd.mk refused (c) (o)).val]) (by simp [results, Tryz.results30, go_sem, *]) rfl ⟨rfl, ?_⟩
        repeat (first | (with_reducible exact Hbl.out) | (with_reducible refine Below.drew ?_) | (with_reducible refine bset ?_ (by omega)))

set_option maxRecDepth 100000 in
set_option maxHeartbeats 4000000 in
theorem do_open (g : GateV) (s : St) (t : Stp) (refused : Int) (w : World) (hg : g.Good) (hown : IntsAt w g.ownA g.own) (hs : s.Ok g) (ht : t.Lv) (hb : s.bolted = false) (hr : (refused != 0) = false) (h1 : (t.order == 1) = false) (h2 : (t.order == 2) = true) :
    Calls Tryz.prog 30 #[g.val, s.val, t.val, .int .i64 refused] w fun e w' => e = .returned (.tuple #[(doZ g s t refused).1.val, (doZ g s t refused).2.val]) ∧ Below w.heap.size w w' := by
  have Hg := Lib.hid hg
  have Hgi := Lib.hid (doW5_gate g s t w)
  have Nb := Lib.hid (net_bd hg hs.pos.1 hs.pos.2 ht.outer ht.inner)
  have Rb := Lib.hid (rub_bd (p := s.pos) hg ht.outer ht.inner)
  have Hm := Lib.hid (mach_new (doW5 g s t w) _ (doW5_size g s t w) g s t 0 0 0)
  have Hown := Lib.hid (hown.below ((doW5_below g s t w).alloc (doW5_below g s t w).size (.cells (machCells g s t 0 0 0) 136)) (Nat.le_refl _))
  have Hdw := Lib.hid (doW5_dow g s t w 0 0 0)
  have Hs := Lib.hid hs
  have Ht := Lib.hid ht
  have hc1 := hs.charge
  have hc2 := hs.pos
  have hp1 := hg.pump
  have hp2 := hg.cap
  have hp3 := hg.travel
  clear hown hs ht hg
  have hm : moveZ g s t refused = (-(pushZ g s t (rubZ g s.pos t.outer t.inner) (-netZ g s.pos t.outer t.inner) s.pos).1, (pushZ g s t (rubZ g s.pos t.outer t.inner) (-netZ g s.pos t.outer t.inner) s.pos).2) := by
    rw [moveZ, if_neg (by rw [hb]; decide), if_neg (by simpa using hr), if_neg (by simpa using h1), if_pos (by simpa using h2)]
  have hz : doZ g s t refused = (⟨s.pos + (moveZ g s t refused).1, if t.power = true then min (s.charge - (moveZ g s t refused).2 + g.pump) g.cap else s.charge - (moveZ g s t refused).2, false⟩, ⟨refused, (moveZ g s t refused).1, (moveZ g s t refused).2⟩) := by
    rw [doZ, hb]
  rw [hz, hm]
  have Hb := Lib.hid hb
  clear hz hb hm
  have hNb := Nb.out
  have hRb := Rb.out
  generalize hNe : netZ g s.pos t.outer t.inner = N at hNb ⊢
  generalize hRe : rubZ g s.pos t.outer t.inner = R at hRb ⊢
  have HN := Lib.hid hNb
  have HR := Lib.hid hRb
  have HNe := Lib.hid hNe
  have HRe := Lib.hid hRe
  clear hNb hRb hNe hRe
  have bc := pushZ_bd (s := s) (t := t) Hg.out R (-N) s.pos (by omega) (by omega)
  have bo := pushZ_oil (s := s) (t := t) Hg.out R (-N) s.pos (by omega) (by omega)
  generalize hce : (pushZ g s t R (-N) s.pos).1 = c at bc ⊢
  have Hce := Lib.hid hce
  obtain ⟨bc1, bc2⟩ := bc
  obtain ⟨bo1, bo2⟩ := bo
  clear hce
  generalize hoe : (pushZ g s t R (-N) s.pos).2 = o at bo1 bo2 ⊢
  have Hoe := Lib.hid hoe
  clear hoe
  go_enter Tryz.func30, Tryz.ntmps30
  go_wp2_with (with_reducible show wpList _ _ _ (({ dst := _, op := .load 60 (.tmp 4), type := _, pos := _, after := _, guard := none } : Oper) :: _) _ _; refine wpList_load_gate Hgi.out rfl (.tmp 4) rfl rfl ?_)
  refine (forces_any _ g s t 0 0 0 s.pos _ Hm.out Hown.out Hg.out Hs.out.pos.1 Hs.out.pos.2 Ht.out.outer Ht.out.inner).mono ?_
  rintro e w1 ⟨rfl, n, rfl⟩
  rw [HNe.out, HRe.out]
  have hm6 := ((Hm.out.drewN n).setNet N).setRub R
  have Hm6 := Lib.hid hm6
  have hD6 := ((Hdw.out.drewN n).mach 28 (by decide) (.int .i64 N)).mach 29 (by decide) (.int .i64 R)
  have HD6 := Lib.hid hD6
  clear hm6 hD6
  have hb := Hb.out
  go_wp2_with fail
  refine (open_any (w.heap.size + 1 + 1 + 1 + 1 + 1) g s t N R _ Hm6.out Hg.out HN.out HR.out Hs.out.pos (by omega)).mono ?_
  rintro e w7 ⟨rfl, hm7, hb7⟩
  rw [Hce.out]
  rw [Hoe.out] at hm7
  have hD := HD6.out.call hb7 (hm7.cell 30 _ rfl)
  rw [hb] at hD
  clear hb7 hm7 Hm6 HD6
  all_goals
    have s0 := (cell_of_row _ _ 0 _ _ _ hD.st).trans rfl
    have f0 := frozen_of_row _ _ 0 _ _ hD.st
    have HDh := Lib.hid hD
    clear hD
    go_wp2
    have hD := HDh.out.pos (s.pos + (-c))
    clear s0 f0 HDh
    generalize w7.setCell ⟨w.heap.size + 1, 0, none⟩ (.int .i64 (s.pos + (-c))) = W at hD ⊢
    have c16 := hD.gate.cell 16 _ rfl
    have c17 := hD.gate.cell 17 _ rfl
    have s0 := (cell_of_row _ _ 0 _ _ _ hD.st).trans rfl
    have s1 := (cell_of_row _ _ 1 _ _ _ hD.st).trans rfl
    have s2 := (cell_of_row _ _ 2 _ _ _ hD.st).trans rfl
    have f0 := frozen_of_row _ _ 0 _ _ hD.st
    have f1 := frozen_of_row _ _ 1 _ _ hD.st
    have a0 := (cell_of_row _ _ 0 _ _ _ hD.r1).trans rfl
    have a1 := (cell_of_row _ _ 1 _ _ _ hD.r1).trans rfl
    have a2 := (cell_of_row _ _ 2 _ _ _ hD.r1).trans rfl
    have af0 := frozen_of_row _ _ 0 _ _ hD.r1
    have af1 := frozen_of_row _ _ 1 _ _ hD.r1
    have af2 := frozen_of_row _ _ 2 _ _ hD.r1
    have b0 := (cell_of_row _ _ 0 _ _ _ hD.r2).trans rfl
    have b1 := (cell_of_row _ _ 1 _ _ _ hD.r2).trans rfl
    have b2 := (cell_of_row _ _ 2 _ _ _ hD.r2).trans rfl
    have bf0 := frozen_of_row _ _ 0 _ _ hD.r2
    have bf1 := frozen_of_row _ _ 1 _ _ hD.r2
    have bf2 := frozen_of_row _ _ 2 _ _ hD.r2
    have tp := hD.step
    have mo := hD.oil
    have Hbl := Lib.hid hD.below
    clear hD
    go_still_tail 8, (by kernel_rfl)
    go_wp2
    all_goals
      go_region
      all_goals
        go_wp2
      all_goals
        first
          | refine bodyPost_ret (v := .tuple #[(St.mk (s.pos + -c) (min (s.charge - o + g.pump) g.cap) false).val, (Mvd.mk refused (-c) (o)).val]) (by simp [results, Tryz.results30, go_sem, *]) rfl ⟨rfl, ?_⟩
          | refine bodyPost_ret (v := .tuple #[(St.mk (s.pos + -c) (s.charge - o) false).val, (Mvd.mk refused (-c) (o)).val]) (by simp [results, Tryz.results30, go_sem, *]) rfl ⟨rfl, ?_⟩
        repeat (first | (with_reducible exact Hbl.out) | (with_reducible refine Below.drew ?_) | (with_reducible refine bset ?_ (by omega)))

theorem do_any (g : GateV) (s : St) (t : Stp) (refused : Int) (w : World) (hg : g.Good) (hown : IntsAt w g.ownA g.own) (hs : s.Ok g) (ht : t.Lv) :
    Calls Tryz.prog 30 #[g.val, s.val, t.val, .int .i64 refused] w fun e w' => e = .returned (.tuple #[(doZ g s t refused).1.val, (doZ g s t refused).2.val]) ∧ Below w.heap.size w w' := by
  cases hb : s.bolted with
  | true => exact do_bolted g s t refused w hg hown hs ht hb
  | false =>
    cases hr : (refused != 0) with
    | true => exact do_refused g s t refused w hg hown hs ht hb hr
    | false =>
      cases h1 : (t.order == 1) with
      | true => exact do_close g s t refused w hg hown hs ht hb hr h1
      | false =>
        cases h2 : (t.order == 2) with
        | true => exact do_open g s t refused w hg hown hs ht hb hr h1 h2
        | false => exact do_still g s t refused w hg hown hs ht hb hr h1 h2
end Go.Proofs.YtgfdindlihfidaaGreat
