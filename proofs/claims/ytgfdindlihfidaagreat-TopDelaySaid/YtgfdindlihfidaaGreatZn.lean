/-
  closure.peak at the closed task, with the plan that holds.
-/
import Derived.Test.YtgfdindlihfidaaGreatZm
namespace Go.Proofs.YtgfdindlihfidaaGreat
open Go.RowKit Go.Shelf Go.Sort
set_option linter.unusedSimpArgs false
set_option linter.unusedVariables false
attribute [local go_sem high] run_min_z run_max_z
attribute [local go_sem ↓] run_min_z run_max_z

/-- The variables of peak: s the first one. -/
structure PkW (w0 : World) (t : TaskV) (G M R s : Nat) (w W : World) : Prop where
  q : GmQ w0 t 2 G M R 2 w W
  b0 : W.heap[s]? = some (.cells #[.pointer (some ⟨R, 0, none⟩)] 107 (0, 0))
  b1 : W.heap[s + 1]? = some (.cells #[.int .i64 10, .int .i64 15] 42 (0, 0))
  b2 : W.heap[s + 1 + 1]? = some (.cells #[.int .i64 0, .int .i64 0] 150 (0, 0))
  top : ∃ lo hi : Int, W.heap[s + 1 + 1 + 1]? = some (.cells #[.int .i64 lo, .int .i64 hi] 156 (0, 0))
  b4 : W.heap[s + 1 + 1 + 1 + 1]? = some (.cells #[.int .i64 1] 3 (0, 0))
  ge : w.heap.size ≤ s
theorem PkW.lt {w0 w W : World} {t : TaskV} {G M R s : Nat} (h : PkW w0 t G M R s w W) : s + 1 + 1 + 1 + 1 < W.heap.size := (Array.getElem?_eq_some_iff.1 h.b4).1
theorem PkW.ne {w0 w W : World} {t : TaskV} {G M R s : Nat} (h : PkW w0 t G M R s w W) : s ≠ M ∧ s + 1 ≠ M ∧ s + 1 + 1 ≠ M ∧ s + 1 + 1 + 1 ≠ M ∧ s + 1 + 1 + 1 + 1 ≠ M := by
  obtain ⟨⟨c, hc, hr⟩, _⟩ := h.q
  obtain ⟨es, m, hcm⟩ := cObj_map c
  have hmp := hr.gm.mp
  rw [hcm] at hmp
  obtain ⟨lo, hi, ht⟩ := h.top
  refine ⟨fun e => ?_, fun e => ?_, fun e => ?_, fun e => ?_, fun e => ?_⟩
  · have h1 := h.b0; rw [e, hmp] at h1; cases h1
  · have h1 := h.b1; rw [e, hmp] at h1; cases h1
  · have h1 := h.b2; rw [e, hmp] at h1; cases h1
  · rw [e, hmp] at ht; cases ht
  · have h1 := h.b4; rw [e, hmp] at h1; cases h1
theorem PkW.gmj {w0 w W W' : World} {t : TaskV} {G M R s : Nat} (h : PkW w0 t G M R s w W) (hg : GmJ w0 t 2 G M 2 W W') : PkW w0 t G M R s w W' := by
  obtain ⟨n0, n1, n2, n3, n4⟩ := h.ne
  have l := h.lt
  obtain ⟨lo, hi, ht⟩ := h.top
  have k : ∀ {X : Nat} {o : Obj}, W.heap[X]? = some o → X ≠ M → W'.heap[X]? = some o := fun hX hne => (hg.grown.block _ (Array.getElem?_eq_some_iff.1 hX).1 (fun e => by injection e with e; exact hne e)).trans hX
  exact ⟨h.q.gmj hg, k h.b0 n0, k h.b1 n1, k h.b2 n2, ⟨lo, hi, k ht n3⟩, k h.b4 n4, h.ge⟩
theorem PkW.call {w0 w W W' : World} {t : TaskV} {G M R s : Nat} (h : PkW w0 t G M R s w W) (hb : Below W.heap.size W W') : PkW w0 t G M R s w W' :=
  ⟨h.q.call hb, blk_below hb h.b0, blk_below hb h.b1, blk_below hb h.b2, (let ⟨lo, hi, ht⟩ := h.top; ⟨lo, hi, blk_below hb ht⟩), blk_below hb h.b4, h.ge⟩
theorem PkW.drew {w0 w W : World} {t : TaskV} {G M R s : Nat} (h : PkW w0 t G M R s w W) : PkW w0 t G M R s w W.drew := h.call (Below.refl _ _).drew
theorem PkW.alloc {w0 w W : World} {t : TaskV} {G M R s : Nat} (h : PkW w0 t G M R s w W) (o : Obj) : PkW w0 t G M R s w (W.alloc o) := h.call ((Below.refl _ _).alloc (Nat.le_refl _) o)

theorem grown_blk {W W' : World} {M : Nat} (h : W.grownBy W' (some M)) {X : Nat} {o : Obj} (hX : W.heap[X]? = some o) (hne : X ≠ M) : W'.heap[X]? = some o :=
  (h.block _ (Array.getElem?_eq_some_iff.1 hX).1 (fun e => by injection e with e; exact hne e)).trans hX
theorem grown_cellR {W W' : World} {M : Nat} (h : W.grownBy W' (some M)) (b o : Nat) (hb : b < W.heap.size) (hne : ¬ b = M) : W'.cell? ⟨b, o, none⟩ = W.cell? ⟨b, o, none⟩ := World.cell?_of_block (a := ⟨b, o, none⟩) (h.block b hb (fun e => by injection e with e; exact hne e))
theorem grown_frozenR {W W' : World} {M : Nat} (h : W.grownBy W' (some M)) (b o : Nat) (hb : b < W.heap.size) (hne : ¬ b = M) : W'.frozen? ⟨b, o, none⟩ = W.frozen? ⟨b, o, none⟩ := World.frozen?_of_block (a := ⟨b, o, none⟩) (h.block b hb (fun e => by injection e with e; exact hne e))
theorem grown_ltR {W W' : World} {M : Nat} (h : W.grownBy W' (some M)) (b : Nat) (hb : b < W.heap.size) : b < W'.heap.size := Nat.lt_of_lt_of_le hb h.size
theorem PkW.set {w0 w W : World} {t : TaskV} {G M R s : Nat} (h : PkW w0 t G M R s w W) {X i : Nat} {cs : Array Value} {ty : TypeId} (hX : W.heap[X]? = some (.cells cs ty (0, 0))) (hty : ty ≠ 3) (hw : w0.heap.size ≤ w.heap.size) (hs : s + 1 + 1 + 1 + 1 < X) (hG : G ≠ X) (hR : R ≠ X) (v : Value) : PkW w0 t G M R s w (W.setCell ⟨X, i, none⟩ v) := by
  have hge := h.ge
  obtain ⟨lo, hi, ht⟩ := h.top
  exact ⟨⟨h.q.set hX hty (by omega) hG hR v, grown_set h.q.grown (by omega)⟩, blk_set_other (by omega) h.b0, blk_set_other (by omega) h.b1, blk_set_other (by omega) h.b2, ⟨lo, hi, blk_set_other (by omega) ht⟩, blk_set_other (by omega) h.b4, hge⟩

theorem PkW.setTop {w0 w W : World} {t : TaskV} {G M R s : Nat} (h : PkW w0 t G M R s w W) {x0 x1 : Value} (hX : W.heap[s + 1 + 1 + 1]? = some (.cells #[x0, x1] 156 (0, 0))) (hw : w0.heap.size ≤ w.heap.size) (hG : G < s) (hR : R < s) (a b : Int) :
    PkW w0 t G M R s w ((W.setCell ⟨s + 1 + 1 + 1, 0, none⟩ (.int .i64 a)).setCell ⟨s + 1 + 1 + 1, 1, none⟩ (.int .i64 b)) := by
  have hge := h.ge
  have hX1 : (W.setCell ⟨s + 1 + 1 + 1, 0, none⟩ (.int .i64 a)).heap[s + 1 + 1 + 1]? = some (.cells #[.int .i64 a, x1] 156 (0, 0)) := heap_setCell_same _ _ 0 _ _ _ hX
  have q1 : GmQ w0 t 2 G M R 2 w (W.setCell ⟨s + 1 + 1 + 1, 0, none⟩ (.int .i64 a)) := ⟨h.q.set hX (by decide) (by omega) (by omega) (by omega) _, grown_set h.q.grown (by omega)⟩
  have q2 : GmQ w0 t 2 G M R 2 w ((W.setCell ⟨s + 1 + 1 + 1, 0, none⟩ (.int .i64 a)).setCell ⟨s + 1 + 1 + 1, 1, none⟩ (.int .i64 b)) := ⟨q1.set hX1 (by decide) (by omega) (by omega) (by omega) _, grown_set q1.grown (by omega)⟩
  exact ⟨q2, blk_set_other (by omega) (blk_set_other (by omega) h.b0), blk_set_other (by omega) (blk_set_other (by omega) h.b1), blk_set_other (by omega) (blk_set_other (by omega) h.b2), ⟨a, b, blk_pair hX⟩, blk_set_other (by omega) (blk_set_other (by omega) h.b4), hge⟩
theorem PkW.self {w0 w W : World} {t : TaskV} {G M R s : Nat} (h : PkW w0 t G M R s w W) : PkW w0 t G M R s w W := h
set_option maxRecDepth 100000 in
set_option maxHeartbeats 4000000 in
theorem peak_any {w0 W : World} {t : TaskV} {G M R k : Nat} (hL : LawT t 2) (h0 : t.Ok w0) (hgf : GameFit t 10 5) (hk : k < 2) (hg : GmQ w0 t 2 G M R 2 W W) :
    Calls Tryz.prog 71 #[.pointer (some ⟨R, 0, none⟩), .int .i64 k, plV 10 15] W fun e W' => (∃ a b : Int, e = .returned (.agg #[.int .i64 a, .int .i64 b])) ∧ GmQ w0 t 2 G M R 2 W W' := by
  have hlt := hg.lt
  have hw0 : w0.heap.size ≤ W.heap.size := let ⟨c, _, hc⟩ := hg.gst; hc.below.size
  have HG := Lib.hid hg
  have HL := Lib.hid hL
  have H0 := Lib.hid h0
  clear hg hL h0 hgf
  go_enter Tryz.func71, Tryz.ntmps71
  go_upto_region 2 with fail
  obtain ⟨WX, hWX⟩ : ∃ WX, WX = (((W.alloc (.cells #[.pointer (some ⟨R, 0, none⟩)] 107)).alloc (.cells #[.int .i64 10, .int .i64 15] 42)).alloc (.cells #[.int .i64 0, .int .i64 0] 150)).alloc (.cells #[.int .i64 0, .int .i64 0] 156) := ⟨_, rfl⟩
  have hB : Below W.heap.size W WX := by rw [hWX]; exact ((((Below.refl _ _).alloc (Nat.le_refl _) _).alloc (by simp) _).alloc (by simp; omega) _).alloc (by simp; omega) _
  have hX0 : WX.heap[W.heap.size]? = some (.cells #[.pointer (some ⟨R, 0, none⟩)] 107 (0, 0)) := by rw [hWX]; exact blk_old (blk_old (blk_old (blk_new rfl)))
  have hX1 : WX.heap[W.heap.size + 1]? = some (.cells #[.int .i64 10, .int .i64 15] 42 (0, 0)) := by rw [hWX]; exact blk_old (blk_old (blk_new (by simp)))
  have hX2 : WX.heap[W.heap.size + 1 + 1]? = some (.cells #[.int .i64 0, .int .i64 0] 150 (0, 0)) := by rw [hWX]; exact blk_old (blk_new (by simp))
  have hX3 : WX.heap[W.heap.size + 1 + 1 + 1]? = some (.cells #[.int .i64 0, .int .i64 0] 156 (0, 0)) := by rw [hWX]; exact blk_new (by simp)
  have hsX : WX.heap.size = W.heap.size + 1 + 1 + 1 + 1 := by rw [hWX]; simp
  rw [← hWX]
  have HX := Lib.hid (show _ ∧ _ ∧ _ ∧ _ from ⟨hX0, hX1, hX2, hX3⟩)
  have HQ := Lib.hid (HG.out.call hB)
  have HsX := Lib.hid hsX
  clear hX0 hX1 hX2 hX3 hWX hB hsX
  go_cut [9] from 17 (fun p wx => p = .pointer (some ⟨W.heap.size + 1 + 1 + 1 + 1, 0, none⟩) ∧ PkW w0 t G M R W.heap.size W wx)
  case first =>
    have f0 : ∀ V, TgS WX V → V.cell? ⟨W.heap.size, 0, none⟩ = some (.pointer (some ⟨R, 0, none⟩)) := fun V h => (cell_of_row _ _ 0 _ _ _ (blk_below h.below HX.out.1)).trans rfl
    have f1 : ∀ V, TgS WX V → V.cell? ⟨W.heap.size + 1, 0, none⟩ = some (.int .i64 10) := fun V h => (cell_of_row _ _ 0 _ _ _ (blk_below h.below HX.out.2.1)).trans rfl
    have f2 : ∀ V, TgS WX V → V.cell? ⟨R, 0, none⟩ = some (.pointer (some ⟨G, 0, none⟩)) := fun V h => (HQ.out.call h.below).ptr
    have f3 : ∀ V, TgS WX V → V.cell? ⟨G, 11, none⟩ = some (.int .i64 10) := fun V h => let ⟨c, _, hc⟩ := (HQ.out.call h.below).gst; gc11 hc
    have f4 : ∀ V, TgS WX V → V.cell? ⟨G, 10, none⟩ = some (.int .i64 1) := fun V h => let ⟨c, _, hc⟩ := (HQ.out.call h.below).gst; gc10 HL.out hc
    have v0 : IntKind.i64.wrap 0 = 0 := by decide
    have v1 : IntKind.i64.wrap 1 = 1 := by decide
    have T0 := TgS.new WX
    go_region_held3 (fun w' => TgS WX w')
      (first
        | with_reducible assumption
        | with_reducible exact TgS.drew T0
        | ((repeat (first | with_reducible exact T0 | with_reducible refine TgS.drew ?_ | with_reducible assumption | with_reducible refine TgS.alloc ?_ _ | with_reducible refine TgS.set ?_ (by omega) _)); done))
      (first | fail)
    all_goals
      go_wp2_with fail
      go_meet
      have hbq : Below WX.heap.size WX (WX.alloc (.cells #[.int .i64 1] 3)).drew := ((Below.refl _ _).alloc (Nat.le_refl _) _).drew
      exact ⟨by rw [HsX.out], HQ.out.call hbq, blk_below hbq HX.out.1, blk_below hbq HX.out.2.1, blk_below hbq HX.out.2.2.1, ⟨0, 0, blk_below hbq HX.out.2.2.2⟩, blk_drew (blk_new HsX.out), Nat.le_refl _⟩
  case rest =>
    obtain ⟨w4, hw4⟩ : ∃ w4, w4 = wc := ⟨_, rfl⟩
    subst hw4
    obtain ⟨rfl, hpk⟩ := hcut
    have c0 : w4.cell? ⟨W.heap.size, 0, none⟩ = some (.pointer (some ⟨R, 0, none⟩)) := (cell_of_row _ _ 0 _ _ _ hpk.b0).trans rfl
    have c1 := hpk.q.ptr
    have c2 : w4.cell? ⟨G, 12, none⟩ = some (.int .i64 6) := let ⟨c, _, hc⟩ := hpk.q.gst; gc12 HL.out hc
    have HPK := Lib.hid hpk
    clear hpk HX HQ HsX HG
    go_wp2_with fail
    clear c0 c1 c2
    go_loopw [7, 44] (fun m i wr => ∃ (x y : Nat), x ≤ 6 ∧ y < 6 ∧ i = .int .i64 (x : Int) ∧ m = .int .i64 (y : Int) ∧ PkW w0 t G M R W.heap.size W wr) (fun _ i _ => (6 - intOf i).toNat)
    case atStart => exact ⟨0, 0, by omega, by omega, rfl, rfl, HPK.out⟩
    case round =>
      obtain ⟨x, y, hx, hy, rfl, rfl, hpk⟩ := hrel
      have Hpk := Lib.hid hpk
      have lP := hpk.lt
      clear HPK hpk
      by_cases hx6 : x < 6
      · have hd : decide ((x : Int) < 6) = true := by simp; omega
        have i1 : (0 : Int) ≤ (x : Int) := by omega
        go_wp2_with fail
        go_cut [12, 13] from 47 to 57 (fun p z wx => ∃ (N : Nat) (lo hi : Int), p = .pointer (some ⟨N, 0, none⟩) ∧ z = .bool true ∧ W.heap.size + 1 + 1 + 1 + 1 < N ∧ PkW w0 t G M R W.heap.size W wx ∧ wx.heap[N]? = some (.cells #[.int .i64 lo, .int .i64 hi] 156 (0, 0)))
        case first =>
          have f0 : ∀ V, PkW w0 t G M R W.heap.size W V → V.cell? ⟨W.heap.size, 0, none⟩ = some (.pointer (some ⟨R, 0, none⟩)) := fun V h => (cell_of_row _ _ 0 _ _ _ h.b0).trans rfl
          have f1 : ∀ V, PkW w0 t G M R W.heap.size W V → V.cell? ⟨W.heap.size + 1, 0, none⟩ = some (.int .i64 10) := fun V h => (cell_of_row _ _ 0 _ _ _ h.b1).trans rfl
          have f2 : ∀ V, PkW w0 t G M R W.heap.size W V → V.cell? ⟨W.heap.size + 1, 1, none⟩ = some (.int .i64 15) := fun V h => (cell_of_row _ _ 1 _ _ _ h.b1).trans rfl
          have f3 : ∀ V, PkW w0 t G M R W.heap.size W V → V.cell? ⟨R, 0, none⟩ = some (.pointer (some ⟨G, 0, none⟩)) := fun V h => h.q.ptr
          have HI := Lib.hid (fun V (h : PkW w0 t G M R W.heap.size W V) => inside_peak HL.out H0.out hk h.q.gst x hx6)
          have S0 := Hpk.out
          have hlt3 := Hpk.out.q.lt
          have hM1 : ¬ wr.heap.size = M := by omega
          go_region_held3 (fun V => PkW w0 t G M R W.heap.size W V)
            (first
              | with_reducible assumption
              | with_reducible exact PkW.drew S0
              | ((repeat (first | with_reducible assumption | with_reducible refine PkW.drew ?_ | with_reducible refine PkW.alloc ?_ _)); done)
              | exact PkW.set (PkW.set (by assumption) (grown_blk hgj.grown (by first | exact blk_drew (blk_new rfl) | exact blk_new rfl) hM1) (by decide) hw0 lP (by omega) (by omega) _) (heap_setCell_same _ _ 0 _ _ _ (grown_blk hgj.grown (by first | exact blk_drew (blk_new rfl) | exact blk_new rfl) hM1)) (by decide) hw0 lP (by omega) (by omega) _)
            (first | (go_at_call 80; obtain ⟨lo, hi, hq⟩ := HI.out _ (by assumption); (with_reducible refine hq.mono ?_); clear hq; rintro e w' ⟨rfl, hgj⟩; have tB := PkW.gmj (by assumption) hgj; have szB := hgj.grown.size; have hcB := grown_cellR hgj.grown; have hfB := grown_frozenR hgj.grown; have hlB := grown_ltR hgj.grown; (try simp only [World.size_alloc, drew_size] at szB hcB hfB hlB)))
          all_goals
            have htop : PkW w0 t G M R W.heap.size W _ := PkW.self (by assumption)
            have Htop := Lib.hid htop
            clear htop
            go_wp2_with fail
            go_meet
            refine ⟨_, lo, hi, rfl, rfl, ?_, Htop.out, ?_⟩
          all_goals first
            | omega
            | (repeat (first | ((with_reducible refine blk_new ?_); simp; done) | (with_reducible refine blk_drew ?_) | (with_reducible refine blk_pair (x0 := .int .i64 0) (x1 := .int .i64 0) ?_) | (with_reducible refine blk_old ?_) | (with_reducible refine grown_blk hgj.grown ?_ hM1)))
        case rest =>
          obtain ⟨N, lo, hi, rfl, rfl, hN, hpc, hNb⟩ := hcut
          obtain ⟨w5, hw5⟩ : ∃ w5, w5 = wc := ⟨_, rfl⟩
          subst hw5
          obtain ⟨tl, th, htop⟩ := hpc.top
          have n0 : w5.cell? ⟨N, 0, none⟩ = some (.int .i64 lo) := (cell_of_row _ _ 0 _ _ _ hNb).trans rfl
          have n1 : w5.cell? ⟨N, 1, none⟩ = some (.int .i64 hi) := (cell_of_row _ _ 1 _ _ _ hNb).trans rfl
          have t0 : w5.cell? ⟨W.heap.size + 1 + 1 + 1, 0, none⟩ = some (.int .i64 tl) := (cell_of_row _ _ 0 _ _ _ htop).trans rfl
          have t1 : w5.cell? ⟨W.heap.size + 1 + 1 + 1, 1, none⟩ = some (.int .i64 th) := (cell_of_row _ _ 1 _ _ _ htop).trans rfl
          have HPC := Lib.hid hpc
          have HNB := Lib.hid hNb
          have HTOP := Lib.hid htop
          clear hpc hNb htop Hpk lP
          go_upto_region 8 with fail
          go_cut [14] from 58 to 76 (fun p wx => ∃ b : Bool, p = .bool b ∧ wx = w5)
          case first =>
            by_cases h1 : th < hi
            · have d1 : decide (hi > th) = true := decide_eq_true h1
              have d2 : decide (th < hi) = true := decide_eq_true h1
              go_wp2_with fail
              go_meet
              exact ⟨_, rfl, rfl⟩
            · have d1 : decide (hi > th) = false := decide_eq_false h1
              have d2 : decide (th < hi) = false := decide_eq_false h1
              by_cases h2 : hi = th
              · have d3 : (hi == th) = true := by simpa using h2
                clear h2
                by_cases h3 : tl < lo
                · have d4 : decide (lo > tl) = true := decide_eq_true h3
                  have d5 : decide (tl < lo) = true := decide_eq_true h3
                  go_wp2_with fail
                  go_meet
                  exact ⟨_, rfl, rfl⟩
                · have d4 : decide (lo > tl) = false := decide_eq_false h3
                  have d5 : decide (tl < lo) = false := decide_eq_false h3
                  go_wp2_with fail
                  go_meet
                  exact ⟨_, rfl, rfl⟩
              · have d3 : (hi == th) = false := by simpa using h2
                go_wp2_with fail
                go_meet
                exact ⟨_, rfl, rfl⟩
          case rest =>
            obtain ⟨b, rfl, hwc⟩ := hcut
            have hwc2 := hwc.symm
            subst hwc2
            clear hwc
            go_upto_region 9 with fail
            clear n0 n1 t0 t1
            go_cut [90] from 77 to 90 (fun p wx => ∃ cb : Bool, p = .bool cb ∧ (cb = true → (2 ≤ x ∧ x ≤ 4) ∧ (2 ≤ y ∧ y ≤ 4)) ∧ PkW w0 t G M R W.heap.size W wx ∧ wx.heap[N]? = some (.cells #[.int .i64 lo, .int .i64 hi] 156 (0, 0)))
            case first =>
              have HO := Lib.hid (fun (z : Nat) V (h : PkW w0 t G M R W.heap.size W V) => openx_any h.q h.b1 h.b4 h.b0 z)
              by_cases hx0 : x = 0
              · have d0 : decide ((x : Int) > 0) = false := decide_eq_false (by omega)
                have d1 : decide (0 < (x : Int)) = false := decide_eq_false (by omega)
                clear hd i1
                go_wp2_with fail
                go_meet
                exact ⟨false, rfl, fun h => (by cases h), HPC.out, HNB.out⟩
              · have d0 : decide ((x : Int) > 0) = true := decide_eq_true (by omega)
                have d1 : decide (0 < (x : Int)) = true := decide_eq_true (by omega)
                have Hx := Lib.hid (HO.out x w5 HPC.out)
                cases hox : openB x with
                | true =>
                  rw [hox] at Hx
                  go_wp2_with ((with_reducible refine Hx.out.mono ?_); rintro e w6 ⟨rfl, hb6⟩)
                  go_meet
                  exact ⟨false, rfl, fun h => (by cases h), HPC.out.call hb6, blk_below hb6 HNB.out⟩
                | false =>
                  rw [hox] at Hx
                  have hx24 : 2 ≤ x ∧ x ≤ 4 := by
                    have h := of_decide_eq_false hox
                    omega
                  go_wp2_with fail
                  refine Hx.out.mono ?_
                  rintro e w6 ⟨rfl, hb6⟩
                  have Hp6 := Lib.hid (HPC.out.call hb6)
                  have Hn6 := Lib.hid (blk_below hb6 HNB.out)
                  have Hy := Lib.hid (HO.out y w6 Hp6.out)
                  clear hb6
                  cases hoy : openB y with
                  | true =>
                    rw [hoy] at Hy
                    go_wp2_with ((with_reducible refine Hy.out.mono ?_); rintro e w7 ⟨rfl, hb7⟩)
                    go_meet
                    exact ⟨false, rfl, fun h => (by cases h), Hp6.out.call hb7, blk_below hb7 Hn6.out⟩
                  | false =>
                    rw [hoy] at Hy
                    have hy24 : 2 ≤ y ∧ y ≤ 4 := by
                      have h := of_decide_eq_false hoy
                      omega
                    go_wp2_with ((with_reducible refine Hy.out.mono ?_); rintro e w7 ⟨rfl, hb7⟩)
                    go_meet
                    exact ⟨true, rfl, fun _ => ⟨hx24, hy24⟩, Hp6.out.call hb7, blk_below hb7 Hn6.out⟩
            case rest =>
              obtain ⟨cb, rfl, hcb, hp6, hn6⟩ := hcut
              obtain ⟨w6, hw6⟩ : ∃ w6, w6 = wc := ⟨_, rfl⟩
              subst hw6
              have HP6 := Lib.hid hp6
              have HN6 := Lib.hid hn6
              clear hp6 hn6 HPC HNB HTOP
              go_upto_if 90 with fail
              go_cut [14] from 91 to 111 (fun p wx => ∃ b' : Bool, p = .bool b' ∧ PkW w0 t G M R W.heap.size W wx ∧ wx.heap[N]? = some (.cells #[.int .i64 lo, .int .i64 hi] 156 (0, 0)))
              case first =>
                cases cb with
                | false =>
                  go_wp2_with fail
                  go_meet
                  exact ⟨b, rfl, HP6.out, HN6.out⟩
                | true =>
                  obtain ⟨⟨hx2, hx4⟩, hy2, hy4⟩ := hcb rfl
                  have f0 : ∀ V, PkW w0 t G M R W.heap.size W V → V.cell? ⟨W.heap.size, 0, none⟩ = some (.pointer (some ⟨R, 0, none⟩)) := fun V h => (cell_of_row _ _ 0 _ _ _ h.b0).trans rfl
                  have f1 : ∀ V, PkW w0 t G M R W.heap.size W V → V.cell? ⟨R, 0, none⟩ = some (.pointer (some ⟨G, 0, none⟩)) := fun V h => h.q.ptr
                  have f2 : ∀ V, PkW w0 t G M R W.heap.size W V → V.cell? ⟨W.heap.size + 1 + 1 + 1 + 1, 0, none⟩ = some (.int .i64 1) := fun V h => (cell_of_row _ _ 0 _ _ _ h.b4).trans rfl
                  have HRN := Lib.hid (fun V (h : PkW w0 t G M R W.heap.size W V) => run_peak HL.out H0.out hk h.q.gst)
                  have S0 := HP6.out
                  have hNM : N ≠ M := fun e => by
                    obtain ⟨⟨c, hc, hr⟩, _⟩ := HP6.out.q
                    obtain ⟨es, mm, hcm⟩ := cObj_map c
                    have h1 := hr.gm.mp
                    rw [hcm, ← e, HN6.out] at h1
                    cases h1
                  go_wp2_with fail
                  go_region_held3 (fun V => PkW w0 t G M R W.heap.size W V)
                    (first
                      | with_reducible assumption
                      | with_reducible exact PkW.drew S0)
                    (first | (go_at_call 83; (with_reducible refine (HRN.out _ (by assumption)).mono ?_); rintro e w7 ⟨v, rfl, hown, hgj⟩; have tB := PkW.gmj (by assumption) hgj))
                  obtain ⟨g, cap, rfl, hbg, hlg⟩ := hown.form (by omega)
                  obtain ⟨xx, hxx⟩ : ∃ xx, xx = x - 1 := ⟨_, rfl⟩
                  obtain ⟨yy, hyy⟩ : ∃ yy, yy = y - 1 := ⟨_, rfl⟩
                  have c1 := (hown.cellAt xx (by omega)).trans (vols_at (by omega))
                  have c2 := (hown.cellAt yy (by omega)).trans (vols_at (by omega))
                  have c3 := f2 _ tB
                  have wx : IntKind.i64.wrap ((x : Int) - 1) = (xx : Int) := by rw [IntKind.wrap_i64]; omega
                  have wy : IntKind.i64.wrap ((y : Int) - 1) = (yy : Int) := by rw [IntKind.wrap_i64]; omega
                  have wx1 : IntKind.i64.wrap (xx : Int) = (xx : Int) := by rw [IntKind.wrap_i64]; omega
                  have wy1 : IntKind.i64.wrap (yy : Int) = (yy : Int) := by rw [IntKind.wrap_i64]; omega
                  have j1 : (0 : Int) ≤ (xx : Int) := by omega
                  have j2 : (xx : Int) < 5 := by omega
                  have j3 : (0 : Int) ≤ (yy : Int) := by omega
                  have j4 : (yy : Int) < 5 := by omega
                  have HB7 := Lib.hid tB
                  have HN7 := Lib.hid (grown_blk hgj.grown (blk_drew HN6.out) hNM)
                  clear tB hown hgj hxx hyy S0 f0 f1 f2
                  go_wp2_with fail
                  go_quiet (fail)
                  go_wp2_with fail
                  go_meet
                  exact ⟨_, rfl, HB7.out.call (below_drewN (Below.refl _ _) nq), HN7.out⟩
              case rest =>
                obtain ⟨b', rfl, hp8, hn8⟩ := hcut
                obtain ⟨w8, hw8⟩ : ∃ w8, w8 = wc := ⟨_, rfl⟩
                subst hw8
                have HP8 := Lib.hid hp8
                have HN8 := Lib.hid hn8
                clear hp8 hn8 HP6 HN6
                by_cases hx0 : x = 0
                · have e0 : ((x : Int) == 0) = true := by simp; omega
                  obtain ⟨tl, th, htop⟩ := HP8.out.top
                  have t0 : w8.cell? ⟨W.heap.size + 1 + 1 + 1, 0, none⟩ = some (.int .i64 tl) := (cell_of_row _ _ 0 _ _ _ htop).trans rfl
                  have t1 : w8.cell? ⟨W.heap.size + 1 + 1 + 1, 1, none⟩ = some (.int .i64 th) := (cell_of_row _ _ 1 _ _ _ htop).trans rfl
                  have g0 := frozen_of_row _ _ 0 _ _ htop
                  have g1 := frozen_of_row _ _ 1 _ _ htop
                  have l1 := (Array.getElem?_eq_some_iff.1 htop).1
                  have f0 : ∀ V : World, V.heap[N]? = some (.cells #[.int .i64 lo, .int .i64 hi] 156 (0, 0)) → V.cell? ⟨N, 0, none⟩ = some (.int .i64 lo) := fun V h => (cell_of_row _ _ 0 _ _ _ h).trans rfl
                  have f1 : ∀ V : World, V.heap[N]? = some (.cells #[.int .i64 lo, .int .i64 hi] 156 (0, 0)) → V.cell? ⟨N, 1, none⟩ = some (.int .i64 hi) := fun V h => (cell_of_row _ _ 1 _ _ _ h).trans rfl
                  have hNN : N ≠ W.heap.size + 1 + 1 + 1 := by omega
                  have HR9 := Lib.hid (HP8.out.setTop htop hw0 (by omega) (by omega) lo hi).drew
                  have hn8 := HN8.out
                  clear htop
                  go_wp2_with fail
                  go_region_held3 (fun V => V.heap[N]? = some (.cells #[.int .i64 lo, .int .i64 hi] 156 (0, 0)))
                    (first
                      | with_reducible assumption
                      | (with_reducible exact blk_drew hn8)
                      | (exact blk_set_other hNN (blk_set_other hNN (blk_drew hn8)))
                      | (exact blk_drew (blk_set_other hNN (blk_set_other hNN hn8))))
                    (first | fail)
                  clear t0 t1 g0 g1 l1 f0 f1 hn8
                  go_wp2_with fail
                  go_roundw
                  case rel => first | exact ⟨1, 0, by omega, by omega, rfl, rfl, HR9.out⟩ | exact ⟨x + 1, x, by omega, by omega, by go_num, rfl, HR9.out⟩ | ((repeat apply Exists.intro); exact ⟨⟨x + 1, x, by omega, by omega, by go_num, rfl, HR9.out⟩, rfl⟩)
                  case measure => simp [intOf]; omega
                · have e0 : ((x : Int) == 0) = false := by simp; omega
                  cases b' with
                  | true =>
                    obtain ⟨tl, th, htop⟩ := HP8.out.top
                    have t0 : w8.cell? ⟨W.heap.size + 1 + 1 + 1, 0, none⟩ = some (.int .i64 tl) := (cell_of_row _ _ 0 _ _ _ htop).trans rfl
                    have t1 : w8.cell? ⟨W.heap.size + 1 + 1 + 1, 1, none⟩ = some (.int .i64 th) := (cell_of_row _ _ 1 _ _ _ htop).trans rfl
                    have g0 := frozen_of_row _ _ 0 _ _ htop
                    have g1 := frozen_of_row _ _ 1 _ _ htop
                    have l1 := (Array.getElem?_eq_some_iff.1 htop).1
                    have f0 : ∀ V : World, V.heap[N]? = some (.cells #[.int .i64 lo, .int .i64 hi] 156 (0, 0)) → V.cell? ⟨N, 0, none⟩ = some (.int .i64 lo) := fun V h => (cell_of_row _ _ 0 _ _ _ h).trans rfl
                    have f1 : ∀ V : World, V.heap[N]? = some (.cells #[.int .i64 lo, .int .i64 hi] 156 (0, 0)) → V.cell? ⟨N, 1, none⟩ = some (.int .i64 hi) := fun V h => (cell_of_row _ _ 1 _ _ _ h).trans rfl
                    have hNN : N ≠ W.heap.size + 1 + 1 + 1 := by omega
                    have HR9 := Lib.hid (HP8.out.setTop htop hw0 (by omega) (by omega) lo hi).drew
                    have hn8 := HN8.out
                    clear htop
                    go_wp2_with fail
                    go_region_held3 (fun V => V.heap[N]? = some (.cells #[.int .i64 lo, .int .i64 hi] 156 (0, 0)))
                      (first
                        | with_reducible assumption
                        | (with_reducible exact blk_drew hn8)
                        | (exact blk_set_other hNN (blk_set_other hNN (blk_drew hn8)))
                        | (exact blk_drew (blk_set_other hNN (blk_set_other hNN hn8))))
                      (first | fail)
                    clear t0 t1 g0 g1 l1 f0 f1 hn8
                    go_wp2_with fail
                    go_roundw
                    case rel => first | exact ⟨1, 0, by omega, by omega, rfl, rfl, HR9.out⟩ | exact ⟨x + 1, x, by omega, by omega, by go_num, rfl, HR9.out⟩ | ((repeat apply Exists.intro); exact ⟨⟨x + 1, x, by omega, by omega, by go_num, rfl, HR9.out⟩, rfl⟩)
                    case measure => simp [intOf]; omega
                  | false =>
                    go_wp2_with fail
                    go_roundw
                    case rel => first | exact ⟨x + 1, y, by omega, by omega, by go_num, rfl, HP8.out⟩ | ((repeat apply Exists.intro); exact ⟨⟨x + 1, y, by omega, by omega, by go_num, rfl, HP8.out⟩, rfl⟩)
                    case measure => simp [intOf]; omega
      · obtain rfl : x = 6 := by omega
        obtain ⟨tl, th, htop⟩ := Hpk.out.top
        have t1 : wr.cell? ⟨W.heap.size + 1 + 1 + 1, 1, none⟩ = some (.int .i64 th) := (cell_of_row _ _ 1 _ _ _ htop).trans rfl
        have c0 : wr.cell? ⟨W.heap.size, 0, none⟩ = some (.pointer (some ⟨R, 0, none⟩)) := (cell_of_row _ _ 0 _ _ _ Hpk.out.b0).trans rfl
        have c1 := Hpk.out.q.ptr
        have c2 : wr.cell? ⟨G, 11, none⟩ = some (.int .i64 10) := let ⟨c, _, hc⟩ := Hpk.out.q.gst; gc11 hc
        have s0 := cell_of_row _ _ 0 _ _ _ Hpk.out.b2
        have s1 := cell_of_row _ _ 1 _ _ _ Hpk.out.b2
        have q0 := frozen_of_row _ _ 0 _ _ Hpk.out.b2
        have q1 := frozen_of_row _ _ 1 _ _ Hpk.out.b2
        have l1 := (Array.getElem?_eq_some_iff.1 Hpk.out.b2).1
        have wf : IntKind.i64.wrap (10 + (y : Int)) = 10 + (y : Int) := by rw [IntKind.wrap_i64]; omega
        clear htop
        go_wp2_with fail
        go_still_tail 12, (by kernel_rfl)
        change wpList _ _ _ _ _ (World.drew wr)
        go_wp2_with fail
        refine bodyPost_ret (v := .agg #[.int .i64 (10 + (y : Int)), .int .i64 th]) (by simp [results, Tryz.results71, go_sem, *]) rfl ⟨⟨_, _, rfl⟩, ?_⟩
        have hq0 := Hpk.out.q.drew
        have hX := blk_drew Hpk.out.b2
        have hX1 : (wr.drew.setCell ⟨W.heap.size + 1 + 1, 0, none⟩ (.int .i64 (10 + (y : Int)))).heap[W.heap.size + 1 + 1]? = some (.cells #[.int .i64 (10 + (y : Int)), .int .i64 0] 150 (0, 0)) := heap_setCell_same _ _ 0 _ _ _ hX
        have qq1 : GmQ w0 t 2 G M R 2 W (wr.drew.setCell ⟨W.heap.size + 1 + 1, 0, none⟩ (.int .i64 (10 + (y : Int)))) := ⟨hq0.set hX (by decide) (by omega) (by omega) (by omega) _, grown_set hq0.grown (by omega)⟩
        exact ⟨qq1.set hX1 (by decide) (by omega) (by omega) (by omega) _, grown_set qq1.grown (by omega)⟩
end Go.Proofs.YtgfdindlihfidaaGreat

/-
  closure.peaks at the closed task, with the plan that holds.
-/
namespace Go.Proofs.YtgfdindlihfidaaGreat
open Go.RowKit Go.Shelf Go.Sort
set_option linter.unusedSimpArgs false
set_option linter.unusedVariables false

theorem A.peakInfo : (Tryz.prog.info? 150).map (fun i => (i.zero, i.size, i.bytes)) = some (some (.agg #[.int .i64 0, .int .i64 0]), 2, 16) := by kernel_rfl
theorem pk_block {W : World} {B n : Nat} {v : Value} {xs : List Value} {e : TypeId} {sz : Nat} (h : W.ownsRow B e sz v n xs) : v.ownBlock = none ∨ ∃ g cur, v.ownBlock = some g ∧ B ≤ g ∧ W.heap[g]? = some (.cells cur e (0, 0)) := by
  rcases h.2 with ⟨rfl, h0⟩ | ⟨g, cap, cur, rfl, hb, hc, _⟩
  · exact .inl rfl
  · exact .inr ⟨g, cur, rfl, hb, hc⟩
/-- A row of one's own stays where a map alone is turned. -/
theorem own_gmj {W W' : World} {B n M : Nat} {v : Value} {xs : List Value} {e : TypeId} {sz : Nat} {es : Array MapEntry} {m : Nat} (h : W.ownsRow B e sz v n xs) (hg : W.grownBy W' (some M)) (hM : W.heap[M]? = some (.map es m)) : W'.ownsRow B e sz v n xs := by
  refine h.kept hg ?_
  rcases pk_block h with h1 | ⟨g, cur, h1, _, h2⟩
  · exact .inl h1
  · refine .inr (fun e2 => ?_)
    rw [h1] at e2
    injection e2 with e2
    subst e2
    rw [hM] at h2
    cases h2
theorem GmQ.map {w0 w W : World} {t : TaskV} {n G M R j : Nat} (h : GmQ w0 t n G M R j w W) : ∃ es m, W.heap[M]? = some (.map es m) := by
  obtain ⟨⟨c, hc, hr⟩, _⟩ := h
  obtain ⟨es, m, hcm⟩ := cObj_map c
  exact ⟨es, m, by rw [hr.gm.mp, hcm]⟩
/-- A row that grows leaves the game as it is, where it lies behind it. -/
theorem GmQ.own {w0 w W W' : World} {t : TaskV} {G M R j B n : Nat} {v : Value} {xs : List Value} {e : TypeId} {sz : Nat} (h : GmQ w0 t 2 G M R j w W) (ho : W.ownsRow B e sz v n xs) (hg : W.grownBy W' v.ownBlock) (he : e ≠ 3) (hw : w.heap.size ≤ B) (hw0 : w0.heap.size ≤ w.heap.size) (hG : G < B) (hR : R < B) : GmQ w0 t 2 G M R j w W' := by
  obtain ⟨es, m, hM⟩ := h.map
  obtain ⟨⟨c, hc, hr⟩, hgr⟩ := h
  have hne : ∀ {X : Nat} {o : Obj}, W.heap[X]? = some o → (∀ cur, o ≠ .cells cur e (0, 0)) ∨ X < B → W'.heap[X]? = some o := fun {X o} hX hX2 => by
    refine (hg.block X (Array.getElem?_eq_some_iff.1 hX).1 (fun e2 => ?_)).trans hX
    rcases pk_block ho with h1 | ⟨g, cur, h1, hB, h2⟩
    · rw [h1] at e2; cases e2
    · rw [h1] at e2
      injection e2 with e2
      subst e2
      rcases hX2 with hX2 | hX2
      · rw [h2] at hX
        injection hX with hX
        exact hX2 cur hX.symm
      · omega
  have hrow : ∀ r, v.ownBlock = some r → B ≤ r := fun r hr => (ho.lt r hr).1
  refine ⟨⟨c, hc, ⟨hr.gm.below.trans ⟨hg.os, hg.tape, hg.output, hg.size, fun k hk => hg.block k (by have := hr.gm.below.size; omega) (fun e2 => by have := hrow k e2.symm; omega)⟩, hr.gm.gG, hr.gm.gM, ⟨hne hr.gm.game.blk (.inr hG)⟩, hne hr.gm.mp (.inl (fun cur hcur => ?_)), hr.gm.len, fun k u hu => ?_⟩, hne hr.blk (.inr hR), hr.gR⟩,
    ⟨hg.os.trans hgr.os, hg.tape.trans hgr.tape, hg.output.trans hgr.output, Nat.le_trans hgr.size hg.size, fun k hk hkM => (hg.block k (by have := hgr.size; omega) (fun e2 => by have := hrow k e2.symm; omega)).trans (hgr.block k hk hkM)⟩⟩
  · obtain ⟨es2, m2, hcm⟩ := cObj_map c
    rw [hcm] at hcur
    cases hcur
  · refine (hr.gm.vol k u hu).kept hg ?_
    obtain ⟨g2, cur2, h3, _, h4⟩ := row_block (hr.gm.vol k u hu) (by omega)
    rcases pk_block ho with h1 | ⟨g, cur, h1, hB, h2⟩
    · exact .inr (by rw [h3, h1]; intro h; cases h)
    · refine .inr (fun e2 => ?_)
      rw [h3, h1] at e2
      injection e2 with e2
      subst e2
      rw [h2] at h4
      injection h4 with h4
      injection h4 with _ h4
      exact he h4

set_option maxRecDepth 100000 in
set_option maxHeartbeats 4000000 in
theorem peaks_any {w0 W : World} {t : TaskV} {G M R : Nat} (hL : LawT t 2) (h0 : t.Ok w0) (hgf : GameFit t 10 5) (hg : GmQ w0 t 2 G M R 2 W W) :
    Calls Tryz.prog 39 #[.pointer (some ⟨R, 0, none⟩), plV 10 15] W fun e W' => (∃ a c, e = .returned (.slice a 2 c)) ∧ GmQ w0 t 2 G M R 2 W W' := by
  have hlt := hg.lt
  have hw0 : w0.heap.size ≤ W.heap.size := let ⟨c, _, hc⟩ := hg.gst; hc.below.size
  obtain ⟨WX, hWX⟩ : ∃ WX, WX = W.alloc (.cells #[.int .i64 10, .int .i64 15] 42) := ⟨_, rfl⟩
  have hB : Below W.heap.size W WX := by rw [hWX]; exact (Below.refl _ _).alloc (Nat.le_refl _) _
  have hX : WX.heap[W.heap.size]? = some (.cells #[.int .i64 10, .int .i64 15] 42 (0, 0)) := by rw [hWX]; exact blk_new rfl
  have HG := Lib.hid (show GmQ w0 t 2 G M R 2 WX WX from ⟨(hg.call hB).st, grown_of_below (Below.refl _ _)⟩)
  have HX := Lib.hid hX
  have HW := Lib.hid hWX
  have HB := Lib.hid hB
  have HL := Lib.hid hL
  have hlX := (Array.getElem?_eq_some_iff.1 hX).1
  have HPK := Lib.hid (fun k (hk : k < 2) V (hV : GmQ w0 t 2 G M R 2 WX V) => peak_any (k := k) hL h0 hgf hk (W := V) ⟨hV.st, grown_of_below (Below.refl _ _)⟩)
  clear hg hB hX hWX hL h0 hgf
  go_enter Tryz.func39, Tryz.ntmps39
  go_upto_region 1 with fail
  rw [← HW.out]
  have r0 := HG.out.ptr
  obtain ⟨ha, g6⟩ := HG.out.len HL.out
  go_wp2_with fail
  clear r0 g6
  go_loopw [4, 15] (fun l i wr => ∃ (k : Nat) (xs : List Value), k ≤ 2 ∧ i = .int .i64 (k : Int) ∧ GmQ w0 t 2 G M R 2 WX wr ∧ wr.ownsRow WX.heap.size 150 2 l k xs) (fun _ i _ => (2 - intOf i).toNat)
  case atStart => exact ⟨0, [], by omega, rfl, HG.out, World.ownsRow_nil _ _ _ _⟩
  case round =>
    obtain ⟨k, xs, hk, rfl, hq, hown⟩ := hrel
    by_cases hlt2 : k < 2
    · have hd : decide ((k : Int) < 2) = true := by simp; omega
      have hY := (hq.grown.block _ hlX (fun e => by injection e with e; omega)).trans HX.out
      have c0 : wr.cell? ⟨W.heap.size, 0, none⟩ = some (.int .i64 10) := (cell_of_row _ _ 0 _ _ _ hY).trans rfl
      have c1 : wr.cell? ⟨W.heap.size, 1, none⟩ = some (.int .i64 15) := (cell_of_row _ _ 1 _ _ _ hY).trans rfl
      have HQ := Lib.hid hq
      have HOW := Lib.hid hown
      clear hq hown hY
      go_wp2_with fail
      refine (HPK.out k hlt2 _ HQ.out).mono ?_
      rintro e w1 ⟨⟨a, b, rfl⟩, hq1⟩
      obtain ⟨es, mm, hM⟩ := HQ.out.map
      have HOW1 := Lib.hid (World.ownsRow.alloc (own_gmj HOW.out hq1.grown hM) (.cells #[.int .i64 a, .int .i64 b] 150))
      have HQ1 := Lib.hid ((HQ.out.then hq1).call ((Below.refl w1.heap.size w1).alloc (Nat.le_refl _) (.cells #[.int .i64 a, .int .i64 b] 150)))
      have hs1 := HQ1.out.grown.size
      have hs2 := HQ.out.grown.size
      have hs3 := hq1.grown.size
      obtain ⟨i1, hi1, hz1, hsz1, hb1⟩ := info_parts A.peakInfo
      clear hq1 hM HQ HOW
      go_wp2_with (at_builtin; refine wpList_append_lies _ rfl (.tmp 18) (.tmp 23) 67 rfl WX.heap.size 150 i1 _ 2 16 Tryz.underlying67 hi1 hz1 hsz1 hb1 rfl (by decide) u4 k xs rfl HOW1.out ⟨_, 0, none⟩ 1 1 [.int .i64 a, .int .i64 b] rfl rfl (World.news_of_block (cs := #[.int .i64 a, .int .i64 b]) (t := 150) (fr := (0, 0)) (blk_new rfl)) (fun u hu => by simp at hu; rcases hu with rfl | rfl <;> rfl) (by decide) (by unfold maxLen; omega) (by omega) (by simp; omega) _ rfl ?_; intro gX cX wX ownX grX atX ltX; have HoX := Lib.hid ownX; have HgX := Lib.hid grX; clear ownX grX atX ltX)
      have HQ2 := Lib.hid (HQ1.out.own HOW1.out HgX.out (by decide) (Nat.le_refl _) (by have := HB.out.size; omega) (by have := HB.out.size; omega) (by have := HB.out.size; omega))
      go_roundw
      case rel => first | exact ⟨k + 1, _, by omega, by go_num, HQ2.out, HoX.out⟩ | ((repeat apply Exists.intro); exact ⟨⟨k + 1, _, by omega, by go_num, HQ2.out, HoX.out⟩, rfl⟩)
      case measure => simp [intOf]; omega
    · obtain rfl : k = 2 := by omega
      obtain ⟨g, cap, rfl, hbg, hlg⟩ := hown.form (by omega)
      have HQ := Lib.hid hq
      clear hq hown
      go_wp2_with fail
      go_ret
      exact ⟨⟨_, _, rfl⟩, HQ.out.st, grown_trans (grown_of_below HB.out) HQ.out.grown⟩
end Go.Proofs.YtgfdindlihfidaaGreat
