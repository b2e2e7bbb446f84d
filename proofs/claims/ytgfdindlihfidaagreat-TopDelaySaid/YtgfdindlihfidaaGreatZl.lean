/-
  closure.inside, above, fails on a game of the closed task: at plans from an index on.
-/
import Derived.Test.YtgfdindlihfidaaGreatCu
import Derived.Laws.StructEq
import Derived.Test.YtgfdindlihfidaaGreatZg
namespace Go.Proofs.YtgfdindlihfidaaGreat
open Go.RowKit Go.Shelf Go.Sort
set_option linter.unusedSimpArgs false
set_option linter.unusedVariables false
attribute [local go_sem high] run_min_z run_max_z
attribute [local go_sem ↓] run_min_z run_max_z

/-- A game of the closed task that knows the first j runs at least, behind some world. -/
structure GmJ (w0 : World) (t : TaskV) (n G M j : Nat) (w W : World) : Prop where
  st : ∃ c, j ≤ c.length ∧ GmS w0 t n G M c W
  grown : w.grownBy W (some M)
theorem GmJ.mono {w0 w W : World} {t : TaskV} {n G M j i : Nat} (h : GmJ w0 t n G M j w W) (hi : i ≤ j) : GmJ w0 t n G M i w W := let ⟨⟨c, hc, hg⟩, hr⟩ := h; ⟨⟨c, by omega, hg⟩, hr⟩
theorem GmJ.call {w0 w W W' : World} {t : TaskV} {n G M j : Nat} (h : GmJ w0 t n G M j w W) (hb : Below W.heap.size W W') : GmJ w0 t n G M j w W' := let ⟨⟨c, hc, hg⟩, hr⟩ := h; ⟨⟨c, hc, hg.call hb⟩, grown_trans hr (grown_of_below hb)⟩
theorem GmJ.refl {w0 w : World} {t : TaskV} {n G M j : Nat} {c : List Value} (h : GmS w0 t n G M c w) (hj : j ≤ c.length) : GmJ w0 t n G M j w w := ⟨⟨c, hj, h⟩, grown_of_below (Below.refl _ _)⟩
theorem GmJ.then {w0 w W W' : World} {t : TaskV} {n G M j i : Nat} (h : GmJ w0 t n G M j w W) (g : GmJ w0 t n G M i W W') : GmJ w0 t n G M i w W' := ⟨g.st, grown_trans h.grown g.grown⟩
/-- run: the list of the volumes. -/
theorem run_any {w0 W : World} {t : TaskV} {n G M k j : Nat} (hL : LawT t n) (h0 : t.Ok w0) (hk : k < n) (h : ∃ c, (j ≤ c.length ∧ k ≤ c.length) ∧ GmS w0 t n G M c W) :
    Calls Tryz.prog 83 #[.pointer (some ⟨G, 0, none⟩), keyV k 1] W fun e W' => ∃ v, e = .returned v ∧ W'.ownsRow w0.heap.size 3 1 v 5 (volsV k) ∧ GmJ w0 t n G M (max j (k + 1)) W W' := by
  obtain ⟨c, ⟨hj, hc⟩, hg⟩ := h
  have hn : n ≤ 2 := by rcases hL.n12 with rfl | rfl <;> omega
  by_cases hlt : k < c.length
  · have hv : c[k]? = some c[k] := List.getElem?_eq_getElem hlt
    refine (run_hit hg k (by omega) hn _ hv).mono ?_
    rintro e W' ⟨rfl, hb⟩
    have hg2 := hg.call hb
    exact ⟨_, rfl, hg2.vol k _ hv, ⟨c, by omega, hg2⟩, grown_of_below hb⟩
  · obtain rfl : k = c.length := by omega
    refine (run_miss hL h0 hg hn hk).mono ?_
    rintro e W' ⟨v, rfl, hg2, hr⟩
    exact ⟨v, rfl, hg2.vol c.length v (by simp), ⟨_, by simp; omega, hg2⟩, hr⟩
theorem run_eqplan (a b c d : Int) (w : World) : (binOp .eql 42 (.agg #[.int .i64 a, .int .i64 b]) (.agg #[.int .i64 c, .int .i64 d])).run Tryz.prog w = .ok (.bool (a == c && b == d)) w := by
  have u := Tryz.underlying42
  rw [run_eql_struct, run_equalIn_agg (P := Tryz.prog) w 9999 42 _ _ (by simp [go_sem, u]) (by kernel_rfl)]
  cases h1 : a == c <;> cases h2 : b == d <;> simp [go_sem, u, h1, h2]
theorem run_ispl {a o : Int} (h : a ≠ -1) (w : World) : (binOp .eql 42 (.agg #[.int .i64 a, .int .i64 o]) (.agg #[.int .i64 (-1), .int .i64 (-1)])).run Tryz.prog w = .ok (.bool false) w := by
  have e : (a == (-1 : Int)) = false := by simpa using h
  rw [run_eqplan, e]
  rfl
/-- A plan's numbers: where it shuts, where it opens. -/
structure PlanFit (a o sh op : Int) : Prop where
  p_a : 0 ≤ a ∧ a ≤ 1000
  p_o : 0 ≤ o ∧ o ≤ 1000
  p_sh : sh = a - 10 + 1
  p_op : op = o - 10
abbrev plV (a o : Int) : Value := .agg #[.int .i64 a, .int .i64 o]
set_option maxRecDepth 100000 in
set_option maxHeartbeats 4000000 in
theorem inside_out {w0 W : World} {t : TaskV} {n G M k : Nat} {c : List Value} {a o sh op : Int} (hL : LawT t n) (h0 : t.Ok w0) (hk : k < n) (hg : GmS w0 t n G M c W) (hp : PlanFit a o sh op) (x : Nat) (hx : x < 6) (ho : (x : Int) ≤ sh ∨ op ≤ (x : Int)) :
    Calls Tryz.prog 80 #[.pointer (some ⟨G, 0, none⟩), .int .i64 k, plV a o, .int .i64 x] W fun e W' => e = .returned (.tuple #[.agg #[.int .i64 (hAt k x), .int .i64 (hAt k x)], .bool true]) ∧ Below W.heap.size W W' := by
  obtain ⟨hb, ho', vb, vo, vC, rb, ro, ub, uo, hm⟩ := hL.mem h0 hk
  have hlt := hg.lt
  obtain ⟨WX, hWX⟩ : ∃ WX, WX = (W.alloc (.cells #[.int .i64 a, .int .i64 o] 42)).alloc (.cells #[.int .i64 0, .int .i64 0] 156) := ⟨_, rfl⟩
  have hB : Below W.heap.size W WX := by rw [hWX]; exact ((Below.refl _ _).alloc (Nat.le_refl _) _).alloc (by simp) _
  have hX0 : WX.heap[W.heap.size]? = some (.cells #[.int .i64 a, .int .i64 o] 42 (0, 0)) := by rw [hWX]; exact blk_old (blk_new rfl)
  have hX1 : WX.heap[W.heap.size + 1]? = some (.cells #[.int .i64 0, .int .i64 0] 156 (0, 0)) := by rw [hWX]; exact blk_new (by simp)
  have HG := Lib.hid (hg.call hB)
  have HL := Lib.hid hL
  have HM := Lib.hid hm
  have HB := Lib.hid hB
  have HX := Lib.hid (show _ ∧ _ from ⟨hX0, hX1⟩)
  have HW := Lib.hid hWX
  have HP := Lib.hid hp
  clear hg hL hm hB hX0 hX1 hp h0
  go_enter Tryz.func80, Tryz.ntmps80
  go_wp2_with fail
  rw [← HW.out]
  clear hWX
  have x0 : WX.cell? ⟨W.heap.size, 0, none⟩ = some (.int .i64 a) := (cell_of_row _ _ 0 _ _ _ HX.out.1).trans rfl
  have x1 : WX.cell? ⟨W.heap.size, 1, none⟩ = some (.int .i64 o) := (cell_of_row _ _ 1 _ _ _ HX.out.1).trans rfl
  have g11 := gc11 HG.out
  have g10 := gc10 HL.out HG.out
  obtain ⟨u, hu⟩ : ∃ u, u = a - 10 := ⟨_, rfl⟩
  have w1 : IntKind.i64.wrap (a - 10) = u := by rw [IntKind.wrap_i64, hu]; have := HP.out.p_a; omega
  have w2 : IntKind.i64.wrap (u + 1) = sh := by rw [IntKind.wrap_i64, hu]; have := HP.out.p_a; have := HP.out.p_sh; omega
  clear hu
  go_quiet (fail)
  go_wp2_with fail
  have y0 : (WX.drewN nq).cell? ⟨W.heap.size, 0, none⟩ = some (.int .i64 a) := x0
  have y1 : (WX.drewN nq).cell? ⟨W.heap.size, 1, none⟩ = some (.int .i64 o) := x1
  have y11 : (WX.drewN nq).cell? ⟨G, 11, none⟩ = some (.int .i64 10) := g11
  have HG2 := Lib.hid (show GmS w0 t n G M c (WX.drewN nq) from HG.out.call (below_drewN (Below.refl _ _) nq))
  have HB2 := Lib.hid (show Below W.heap.size W (WX.drewN nq) from below_drewN HB.out nq)
  have HX2 := Lib.hid (show (WX.drewN nq).heap[W.heap.size + 1]? = some (.cells #[.int .i64 0, .int .i64 0] 156 (0, 0)) from HX.out.2)
  clear x0 x1 g11 g10 HG HB HX HW w1 w2
  generalize WX.drewN nq = W2 at y0 y1 y11 HG2 HB2 HX2 ⊢
  have z0 := cell_regrown y0
  have z1 := cell_regrown y1
  have z11 := cell_regrown y11
  have hne : a ≠ -1 := by have := HP.out.p_a; omega
  have heq := fun V => run_ispl (o := o) hne V
  have wo : IntKind.i64.wrap (o - 10) = op := by rw [IntKind.wrap_i64]; have := HP.out.p_o; have := HP.out.p_op; omega
  have cN := Lib.hid (fun d os => Calls.regrown_of (never_any (grow (redrawn W2 d) os)))
  clear y0 y1 y11
  by_cases h1 : (x : Int) ≤ sh
  · have d1 : decide ((x : Int) ≤ sh) = true := decide_eq_true h1
    clear h1 ho
    refine wp_region_quiet_below (by kernel_rfl) (by kernel_rfl) ?_
    repeat (first | go_big_quiet_skip | (quiet_step (first | with_reducible exact cN.out _ _)))
    refine wpQuiet_nil ?_
    rintro _ ⟨⟨dq, osq⟩, rfl⟩
    have hbq := below_regrown W2 dq osq
    have hG3 := HG2.out.call hbq
    have hX3 := blk_below hbq HX2.out
    have HB3 := Lib.hid (HB2.out.trans (hbq.mono HB2.out.size))
    clear hbq z0 z1 z11 heq
    generalize grow (redrawn W2 dq) osq = W3 at hG3 hX3 HB3 ⊢
    have g6 := gc6 HL.out HM.out hG3
    have hrow := lcell HM.out.row HM.out.lt.1 hG3.below
    have hval := lcell (HM.out.val x hx) HM.out.lt.2.1 hG3.below
    have s0 := cell_of_row _ _ 0 _ _ _ hX3
    have s1 := cell_of_row _ _ 1 _ _ _ hX3
    have f0 := frozen_of_row _ _ 0 _ _ hX3
    have f1 := frozen_of_row _ _ 1 _ _ hX3
    have l1 := (Array.getElem?_eq_some_iff.1 hX3).1
    have i1 : (0 : Int) ≤ (k : Int) := by omega
    have i2 : (k : Int) < (n : Int) := by omega
    have i3 : (0 : Int) ≤ (x : Int) := by omega
    have i4 : (x : Int) < 6 := by omega
    clear hG3 hX3
    go_wp2_with fail
    refine bodyPost_ret (v := .tuple #[.agg #[.int .i64 (hAt k x), .int .i64 (hAt k x)], .bool true]) (by simp [results, Tryz.results80, go_sem, *]) rfl ⟨rfl, ?_⟩
    exact bset (bset HB3.out (by omega)) (by omega)
  · have d1 : decide ((x : Int) ≤ sh) = false := decide_eq_false h1
    have d2 : decide ((x : Int) ≥ op) = true := decide_eq_true (by omega)
    have d3 : decide (op ≤ (x : Int)) = true := decide_eq_true (by omega)
    refine wp_region_quiet_below (by kernel_rfl) (by kernel_rfl) ?_
    repeat (first | go_big_quiet_skip | (quiet_step (first | with_reducible exact cN.out _ _)))
    refine wpQuiet_nil ?_
    rintro _ ⟨⟨dq, osq⟩, rfl⟩
    have hbq := below_regrown W2 dq osq
    have hG3 := HG2.out.call hbq
    have hX3 := blk_below hbq HX2.out
    have HB3 := Lib.hid (HB2.out.trans (hbq.mono HB2.out.size))
    clear hbq z0 z1 z11 heq
    generalize grow (redrawn W2 dq) osq = W3 at hG3 hX3 HB3 ⊢
    have g6 := gc6 HL.out HM.out hG3
    have hrow := lcell HM.out.row HM.out.lt.1 hG3.below
    have hval := lcell (HM.out.val x hx) HM.out.lt.2.1 hG3.below
    have s0 := cell_of_row _ _ 0 _ _ _ hX3
    have s1 := cell_of_row _ _ 1 _ _ _ hX3
    have f0 := frozen_of_row _ _ 0 _ _ hX3
    have f1 := frozen_of_row _ _ 1 _ _ hX3
    have l1 := (Array.getElem?_eq_some_iff.1 hX3).1
    have i1 : (0 : Int) ≤ (k : Int) := by omega
    have i2 : (k : Int) < (n : Int) := by omega
    have i3 : (0 : Int) ≤ (x : Int) := by omega
    have i4 : (x : Int) < 6 := by omega
    clear hG3 hX3
    go_wp2_with fail
    refine bodyPost_ret (v := .tuple #[.agg #[.int .i64 (hAt k x), .int .i64 (hAt k x)], .bool true]) (by simp [results, Tryz.results80, go_sem, *]) rfl ⟨rfl, ?_⟩
    exact bset (bset HB3.out (by omega)) (by omega)

theorem GmS.set {w0 W : World} {t : TaskV} {n G M : Nat} {c : List Value} (h : GmS w0 t n G M c W) {X i : Nat} {cs : Array Value} {ty : TypeId} (hX : W.heap[X]? = some (.cells cs ty (0, 0))) (hty : ty ≠ 3) (h0 : w0.heap.size ≤ X) (hG : G ≠ X) (v : Value) :
    GmS w0 t n G M c (W.setCell ⟨X, i, none⟩ v) := by
  obtain ⟨es, m, hcm⟩ := cObj_map c
  have hM : M ≠ X := fun e => by
    have h1 := h.mp
    rw [hcm, e, hX] at h1
    cases h1
  exact ⟨bset h.below h0, h.gG, h.gM, ⟨blk_set_other hG h.game.blk⟩, (Below.heap_setCell _ _ _ _ (by exact hM)).trans h.mp, h.len, fun k u hu => (h.vol k u hu).kept (grown_setCell W X i v) (own_ne (h.vol k u hu) hX hty)⟩
theorem grown_set {w W : World} {M X i : Nat} {v : Value} (h : w.grownBy W (some M)) (hX : w.heap.size ≤ X) : w.grownBy (W.setCell ⟨X, i, none⟩ v) (some M) := by
  have h2 : Below 0 W (W.setCell ⟨X, i, none⟩ v) := bset (Below.refl _ _) (Nat.zero_le _)
  exact ⟨h2.os.trans h.os, h2.tape.trans h.tape, h2.output.trans h.output, Nat.le_trans h.size h2.size, fun k hk hr => (Below.heap_setCell _ _ _ _ (by exact fun e => by have e2 : k = X := e; omega)).trans (h.block k hk hr)⟩
theorem vols_at {k y : Nat} (hy : y < 5) : (volsV k)[y]? = some (.int .i64 (vAt k y)) := by
  match k, y, hy with
  | 0, 0, _ | 0, 1, _ | 0, 2, _ | 0, 3, _ | 0, 4, _ => rfl
  | _ + 1, 0, _ | _ + 1, 1, _ | _ + 1, 2, _ | _ + 1, 3, _ | _ + 1, 4, _ => rfl
set_option maxRecDepth 100000 in
set_option maxHeartbeats 4000000 in
theorem inside_runJ {w0 W : World} {t : TaskV} {n G M k j : Nat} {a o : Int} (hL : LawT t n) (h0 : t.Ok w0) (hk : k < n) (hg : ∃ c, (j ≤ c.length ∧ k ≤ c.length) ∧ GmS w0 t n G M c W) (hp : PlanFit a o 1 5) (x : Nat) (hx : 2 ≤ x ∧ x ≤ 4) :
    Calls Tryz.prog 80 #[.pointer (some ⟨G, 0, none⟩), .int .i64 k, plV a o, .int .i64 x] W fun e W' => e = .returned (.tuple #[.agg #[.int .i64 (sLo k (x - 1)), .int .i64 (sHi k (x - 1))], .bool true]) ∧ GmJ w0 t n G M (max j (k + 1)) W W' := by
  obtain ⟨y, hy⟩ : ∃ y, y = x - 1 := ⟨_, rfl⟩
  rw [← hy]
  have Hy := Lib.hid hy
  clear hy
  obtain ⟨c, hkc, hg⟩ := hg
  obtain ⟨hb, ho', vb, vo, vC, rb, ro, ub, uo, hm⟩ := hL.mem h0 hk
  have hlt := hg.lt
  have hsz0 := hg.below.size
  obtain ⟨WX, hWX⟩ : ∃ WX, WX = (W.alloc (.cells #[.int .i64 a, .int .i64 o] 42)).alloc (.cells #[.int .i64 0, .int .i64 0] 156) := ⟨_, rfl⟩
  have hB : Below W.heap.size W WX := by rw [hWX]; exact ((Below.refl _ _).alloc (Nat.le_refl _) _).alloc (by simp) _
  have hX0 : WX.heap[W.heap.size]? = some (.cells #[.int .i64 a, .int .i64 o] 42 (0, 0)) := by rw [hWX]; exact blk_old (blk_new rfl)
  have hX1 : WX.heap[W.heap.size + 1]? = some (.cells #[.int .i64 0, .int .i64 0] 156 (0, 0)) := by rw [hWX]; exact blk_new (by simp)
  have HG := Lib.hid (hg.call hB)
  have HL := Lib.hid hL
  have HM := Lib.hid hm
  have H0 := Lib.hid h0
  have HB := Lib.hid hB
  have HX := Lib.hid (show _ ∧ _ from ⟨hX0, hX1⟩)
  have HW := Lib.hid hWX
  have HP := Lib.hid hp
  have Hkc := Lib.hid hkc
  clear hg hL hm hB hX0 hX1 hp h0 hkc
  go_enter Tryz.func80, Tryz.ntmps80
  go_wp2_with fail
  rw [← HW.out]
  clear hWX
  have x0 : WX.cell? ⟨W.heap.size, 0, none⟩ = some (.int .i64 a) := (cell_of_row _ _ 0 _ _ _ HX.out.1).trans rfl
  have x1 : WX.cell? ⟨W.heap.size, 1, none⟩ = some (.int .i64 o) := (cell_of_row _ _ 1 _ _ _ HX.out.1).trans rfl
  have g11 := gc11 HG.out
  have g10 := gc10 HL.out HG.out
  obtain ⟨u, hu⟩ : ∃ u, u = a - 10 := ⟨_, rfl⟩
  have w1 : IntKind.i64.wrap (a - 10) = u := by rw [IntKind.wrap_i64, hu]; have := HP.out.p_a; omega
  have w2 : IntKind.i64.wrap (u + 1) = 1 := by rw [IntKind.wrap_i64, hu]; have := HP.out.p_a; have := HP.out.p_sh; omega
  clear hu
  go_quiet (fail)
  go_wp2_with fail
  have y0 : (WX.drewN nq).cell? ⟨W.heap.size, 0, none⟩ = some (.int .i64 a) := x0
  have y1 : (WX.drewN nq).cell? ⟨W.heap.size, 1, none⟩ = some (.int .i64 o) := x1
  have y11 : (WX.drewN nq).cell? ⟨G, 11, none⟩ = some (.int .i64 10) := g11
  have HG2 := Lib.hid (show GmS w0 t n G M c (WX.drewN nq) from HG.out.call (below_drewN (Below.refl _ _) nq))
  have HB2 := Lib.hid (show Below W.heap.size W (WX.drewN nq) from below_drewN HB.out nq)
  have HX2 := Lib.hid (show (WX.drewN nq).heap[W.heap.size + 1]? = some (.cells #[.int .i64 0, .int .i64 0] 156 (0, 0)) from HX.out.2)
  clear x0 x1 g11 g10 HG HB HX HW w1 w2
  generalize WX.drewN nq = W2 at y0 y1 y11 HG2 HB2 HX2 ⊢
  have z0 := cell_regrown y0
  have z1 := cell_regrown y1
  have z11 := cell_regrown y11
  have hne : a ≠ -1 := by have := HP.out.p_a; omega
  have heq := fun V => run_ispl (o := o) hne V
  have wo : IntKind.i64.wrap (o - 10) = 5 := by rw [IntKind.wrap_i64]; have := HP.out.p_o; have := HP.out.p_op; omega
  have cN := Lib.hid (fun d os => Calls.regrown_of (never_any (grow (redrawn W2 d) os)))
  have d1 : decide ((x : Int) ≤ 1) = false := decide_eq_false (by omega)
  have d2 : decide ((x : Int) ≥ 5) = false := decide_eq_false (by omega)
  have d3 : decide (5 ≤ (x : Int)) = false := decide_eq_false (by omega)
  clear y0 y1 y11
  refine wp_region_quiet_below (by kernel_rfl) (by kernel_rfl) ?_
  repeat (first | go_big_quiet_skip | (quiet_step (first | with_reducible exact cN.out _ _)))
  refine wpQuiet_nil ?_
  rintro _ ⟨⟨dq, osq⟩, rfl⟩
  have hbq := below_regrown W2 dq osq
  have HG3 := Lib.hid (HG2.out.call hbq)
  have HX3 := Lib.hid (blk_below hbq HX2.out)
  have HB3 := Lib.hid (HB2.out.trans (hbq.mono HB2.out.size))
  clear hbq z0 z1 z11 heq
  generalize grow (redrawn W2 dq) osq = W3 at HG3 HX3 HB3 ⊢
  go_wp2_with fail
  refine (run_any HL.out H0.out hk ⟨c, Hkc.out, HG3.out⟩).mono ?_
  rintro e W4 ⟨v, rfl, hown, hgj⟩
  obtain ⟨g, cap, rfl, hbg, hlg⟩ := hown.form (by omega)
  have hy := Hy.out
  have hcy := (hown.cellAt y (by omega)).trans (vols_at (by omega))
  have wx : IntKind.i64.wrap ((x : Int) - 1) = (y : Int) := by rw [IntKind.wrap_i64]; omega
  have wy : IntKind.i64.wrap (y : Int) = (y : Int) := by rw [IntKind.wrap_i64]; omega
  have d4 : decide ((y : Int) ≥ 5) = false := decide_eq_false (by omega)
  have d5 : decide (5 ≤ (y : Int)) = false := decide_eq_false (by omega)
  have i1 : (0 : Int) ≤ (y : Int) := by omega
  have i2 : (y : Int) < 5 := by omega
  obtain ⟨⟨c4, hc4, hg4⟩, hgr4⟩ := hgj
  have hX4 : W4.heap[W.heap.size + 1]? = some (.cells #[.int .i64 0, .int .i64 0] 156 (0, 0)) := (hgr4.block _ (Array.getElem?_eq_some_iff.1 HX3.out).1 (fun e => by injection e with e; omega)).trans HX3.out
  have HG4 := Lib.hid hg4
  have HX4 := Lib.hid hX4
  have HGR := Lib.hid (grown_trans (grown_of_below (row := some M) HB3.out) hgr4)
  have Hcy := Lib.hid hcy
  clear hown hg4 hX4 hgr4 hy hcy HG2 HX2 HB2
  go_wp2_with fail
  go_cut [13] from 74 (fun p wx => ∃ N, p = .pointer (some ⟨N, 0, none⟩) ∧ Below W4.heap.size W4 wx ∧ wx.heap[N]? = some (.cells #[.int .i64 (sLo k y), .int .i64 (sHi k y)] 156 (0, 0)))
  case first =>
    have f0 : ∀ V, TgS W4 V → V.cell? ⟨G, 0, none⟩ = some (.slice (some ⟨rb, ro, none⟩) 3 t.bas.rC) := fun V h => gc0 HL.out HM.out (HG4.out.call h.below)
    have f1 : ∀ V, TgS W4 V → V.cell? ⟨G, 1, none⟩ = some (.int .i64 100) := fun V h => gc1 HL.out (HG4.out.call h.below)
    have f2 : ∀ V, TgS W4 V → V.cell? ⟨G, 2, none⟩ = some (.int .i64 3000) := fun V h => gc2 HL.out (HG4.out.call h.below)
    have f3 : ∀ V, TgS W4 V → V.cell? ⟨G, 3, none⟩ = some (.int .i64 500) := fun V h => gc3 HL.out (HG4.out.call h.below)
    have f4 : ∀ V, TgS W4 V → V.cell? ⟨G, 4, none⟩ = some (.slice t.bas.pA 0 t.bas.pC) := fun V h => gc4 HL.out (HG4.out.call h.below)
    have fg : ∀ V, TgS W4 V → V.cell? ⟨g, y, none⟩ = some (.int .i64 (vAt k y)) := fun V h => (h.below.cell (p := ⟨g, y, none⟩) hlg).trans Hcy.out
    have HV := Lib.hid (fun V (h : TgS W4 V) => law_Level (V := V) HL.out HM.out (H0.out.below (HG4.out.call h.below).below (Nat.le_refl _)) (j := y) (by have := Hy.out; omega))
    have T0 := TgS.new W4
    go_region_held3 (fun w' => TgS W4 w')
      (first
        | with_reducible assumption
        | with_reducible exact TgS.drew T0
        | ((repeat (first | with_reducible exact T0 | with_reducible refine TgS.drew ?_ | with_reducible assumption | with_reducible refine TgS.alloc ?_ _ | with_reducible refine TgS.set ?_ (by omega) _)); done))
      (first | (go_at_call 87; (with_reducible refine (HV.out _ (by assumption)).mono ?_); rintro e w' ⟨rfl, hbB⟩; have tB := TgS.call (by assumption) hbB; have ssB := tB.below.size; have szB := hbB.size; have hcB := below_cellR hbB; have hfB := below_frozenR hbB; have hlB := below_ltR hbB; (try simp only [World.size_alloc, drew_size] at szB hcB hfB hlB)))
    all_goals
      have htop : Below W4.heap.size W4 _ := TgS.below (by assumption)
      have Htop := Lib.hid htop
      clear htop
      go_wp2_with fail
      go_meet
      refine ⟨_, rfl, Htop.out, ?_⟩
    all_goals
      repeat (first | ((with_reducible refine blk_new ?_); simp; done) | (with_reducible refine blk_drew ?_) | (with_reducible refine blk_set_other (by first | omega | (simp; omega)) ?_) | (with_reducible refine blk_pair (x0 := .int .i64 0) (x1 := .int .i64 0) ?_) | (with_reducible refine blk_old ?_) | (with_reducible refine blk_below hbB ?_))
  case rest =>
    obtain ⟨N, rfl, hbc, hN⟩ := hcut
    have c0 : wc.cell? ⟨N, 0, none⟩ = some (.int .i64 (sLo k y)) := (cell_of_row _ _ 0 _ _ _ hN).trans rfl
    have c1 : wc.cell? ⟨N, 1, none⟩ = some (.int .i64 (sHi k y)) := (cell_of_row _ _ 1 _ _ _ hN).trans rfl
    have hX5 := blk_below hbc HX4.out
    have hG5 := HG4.out.call hbc
    have hG6 := (hG5.set (i := 0) hX5 (by decide) (by omega) (by omega) (.int .i64 (sLo k y)))
    have hX6 : (wc.setCell ⟨W.heap.size + 1, 0, none⟩ (.int .i64 (sLo k y))).heap[W.heap.size + 1]? = some (.cells #[.int .i64 (sLo k y), .int .i64 0] 156 (0, 0)) := heap_setCell_same _ _ 0 _ _ _ hX5
    have HG7 := Lib.hid (hG6.set (i := 1) hX6 (by decide) (by omega) (by omega) (.int .i64 (sHi k y)))
    have HGR7 := Lib.hid (grown_set (i := 1) (v := .int .i64 (sHi k y)) (grown_set (i := 0) (v := .int .i64 (sLo k y)) (grown_trans HGR.out (grown_of_below hbc)) (show W.heap.size ≤ W.heap.size + 1 by omega)) (show W.heap.size ≤ W.heap.size + 1 by omega))
    have s0 := cell_of_row _ _ 0 _ _ _ hX5
    have s1 := cell_of_row _ _ 1 _ _ _ hX5
    have q0 := frozen_of_row _ _ 0 _ _ hX5
    have q1 := frozen_of_row _ _ 1 _ _ hX5
    have l1 := (Array.getElem?_eq_some_iff.1 hX5).1
    clear hX5 hG5 hG6 hX6 hbc hN
    go_wp2_with fail
    refine bodyPost_ret (v := .tuple #[.agg #[.int .i64 (sLo k y), .int .i64 (sHi k y)], .bool true]) (by simp [results, Tryz.results80, go_sem, *]) rfl ⟨rfl, ⟨c4, hc4, HG7.out⟩, HGR7.out⟩
theorem inside_run {w0 W : World} {t : TaskV} {n G M k : Nat} {a o : Int} (hL : LawT t n) (h0 : t.Ok w0) (hk : k < n) (hg : ∃ c, k ≤ c.length ∧ GmS w0 t n G M c W) (hp : PlanFit a o 1 5) (x : Nat) (hx : 2 ≤ x ∧ x ≤ 4) :
    Calls Tryz.prog 80 #[.pointer (some ⟨G, 0, none⟩), .int .i64 k, plV a o, .int .i64 x] W fun e W' => e = .returned (.tuple #[.agg #[.int .i64 (sLo k (x - 1)), .int .i64 (sHi k (x - 1))], .bool true]) ∧ GmJ w0 t n G M (k + 1) W W' := by
  obtain ⟨c, hc, hgs⟩ := hg
  have h := inside_runJ (j := 0) hL h0 hk ⟨c, ⟨Nat.zero_le _, hc⟩, hgs⟩ hp x hx
  rw [show max 0 (k + 1) = k + 1 by omega] at h
  exact h
end Go.Proofs.YtgfdindlihfidaaGreat

/-
  closure.above, fails on a game of the closed task.
-/
namespace Go.Proofs.YtgfdindlihfidaaGreat
open Go.RowKit Go.Shelf Go.Sort
set_option linter.unusedSimpArgs false
set_option linter.unusedVariables false
attribute [local go_sem high] run_min_z run_max_z
attribute [local go_sem ↓] run_min_z run_max_z

set_option maxRecDepth 100000 in
set_option maxHeartbeats 4000000 in
theorem above_of {w0 W : World} {t : TaskV} {n G M k j x : Nat} {a o lo hi : Int} (hL : LawT t n) (hG : ∃ c, GmS w0 t n G M c W)
    (hI : ∀ V, Below W.heap.size W V → Calls Tryz.prog 80 #[.pointer (some ⟨G, 0, none⟩), .int .i64 k, plV a o, .int .i64 x] V fun e W' => e = .returned (.tuple #[.agg #[.int .i64 lo, .int .i64 hi], .bool true]) ∧ GmJ w0 t n G M j W W') :
    Calls Tryz.prog 69 #[.pointer (some ⟨G, 0, none⟩), .int .i64 k, plV a o, .int .i64 x] W fun e W' => e = .returned (.bool (decide (800 < hi))) ∧ GmJ w0 t n G M j W W' := by
  obtain ⟨c, hg⟩ := hG
  have hlt := hg.lt
  have hB := (Below.refl W.heap.size W).alloc (Nat.le_refl _) (.cells #[.int .i64 a, .int .i64 o] 42)
  have HI := Lib.hid (hI _ hB)
  have HL := Lib.hid hL
  clear hI hL hg
  go_enter Tryz.func69, Tryz.ntmps69
  go_wp2_with fail
  refine HI.out.mono ?_
  rintro e W1 ⟨rfl, hgj⟩
  obtain ⟨⟨c1, hc1, hg1⟩, hgr1⟩ := hgj
  have hb2 := (Below.refl W1.heap.size W1).alloc (Nat.le_refl _) (.cells #[.int .i64 lo, .int .i64 hi] 156)
  have hg2 := hg1.call hb2
  have g9 := gc9 HL.out hg2
  have lG := hg2.lt
  have HG2 := Lib.hid hg2
  have HGR := Lib.hid (grown_trans hgr1 (grown_of_below (row := some M) hb2))
  clear hg1 hgr1 hg2 hb2
  go_wp2_with fail
  go_quiet (fail)
  go_wp2_with fail
  go_ret
  exact ⟨ret_bool (by first | rfl | simp), ⟨c1, hc1, HG2.out.call (below_drewN (Below.refl _ _) nq)⟩, grown_trans HGR.out (grown_of_below (below_drewN (Below.refl _ _) nq))⟩

theorem failsx_of {W : World} {G k x s s1 s2 : Nat} {a o r : Int} {b : Bool} {J : World → Prop}
    (h0 : W.heap[s]? = some (.cells #[.pointer (some ⟨G, 0, none⟩)] 76 (0, 0))) (h1 : W.heap[s1]? = some (.cells #[.int .i64 (k : Int)] 3 (0, 0))) (h2 : W.heap[s2]? = some (.cells #[.int .i64 a, .int .i64 o] 42 (0, 0)))
    (hA : Calls Tryz.prog 69 #[.pointer (some ⟨G, 0, none⟩), .int .i64 k, plV a o, .int .i64 x] W fun e W' => e = .returned (.bool b) ∧ J W') :
    Calls Tryz.prog 68 #[.int .i64 x, .int .i64 r, .pointer (some ⟨s, 0, none⟩), .pointer (some ⟨s1, 0, none⟩), .pointer (some ⟨s2, 0, none⟩)] W fun e W' => e = .returned (.bool b) ∧ J W' := by
  have c0 : W.cell? ⟨s, 0, none⟩ = some (.pointer (some ⟨G, 0, none⟩)) := (cell_of_row _ _ 0 _ _ _ h0).trans rfl
  have c1 : W.cell? ⟨s1, 0, none⟩ = some (.int .i64 (k : Int)) := (cell_of_row _ _ 0 _ _ _ h1).trans rfl
  have c2 : W.cell? ⟨s2, 0, none⟩ = some (.int .i64 a) := (cell_of_row _ _ 0 _ _ _ h2).trans rfl
  have c3 : W.cell? ⟨s2, 1, none⟩ = some (.int .i64 o) := (cell_of_row _ _ 1 _ _ _ h2).trans rfl
  have HA := Lib.hid hA
  clear hA h0 h1 h2
  go_enter Tryz.func68, Tryz.ntmps68
  go_wp2_with fail
  refine HA.out.mono ?_
  rintro e W1 ⟨rfl, hj⟩
  have HJ := Lib.hid hj
  clear hj
  go_wp2_with fail
  go_ret
  exact ⟨rfl, HJ.out⟩

set_option maxRecDepth 100000 in
set_option maxHeartbeats 4000000 in
theorem fails_of {w0 W : World} {t : TaskV} {n G M k : Nat} {a o : Int} (hL : LawT t n) (h0 : t.Ok w0) (hk : k < n) (p : Nat → Bool) (Jn : Nat → Nat) (hG : ∃ c, Jn 0 ≤ c.length ∧ GmS w0 t n G M c W)
    (hA : ∀ x, x < 6 → (∀ j, j < x → p j = false) → ∀ V, GmJ w0 t n G M (Jn x) W V → Calls Tryz.prog 69 #[.pointer (some ⟨G, 0, none⟩), .int .i64 k, plV a o, .int .i64 x] V fun e V' => e = .returned (.bool (p x)) ∧ GmJ w0 t n G M (Jn (x + 1)) V V') :
    Calls Tryz.prog 34 #[.pointer (some ⟨G, 0, none⟩), .int .i64 k, plV a o] W fun e W' => e = .returned (.int .i64 (whereZ p 6 0)) ∧ ∃ m, GmJ w0 t n G M (Jn m) W W' ∧ (m = 6 ∨ ∃ x, m = x + 1 ∧ x < 6 ∧ p x = true) := by
  obtain ⟨c, hc, hg⟩ := hG
  obtain ⟨hb, ho', vb, vo, vC, rb, ro, ub, uo, hm⟩ := hL.mem h0 hk
  have hlt := hg.lt
  have hsz0 := hg.below.size
  obtain ⟨WX, hWX⟩ : ∃ WX, WX = ((W.alloc (.cells #[.pointer (some ⟨G, 0, none⟩)] 76)).alloc (.cells #[.int .i64 (k : Int)] 3)).alloc (.cells #[.int .i64 a, .int .i64 o] 42) := ⟨_, rfl⟩
  have hB : Below W.heap.size W WX := by rw [hWX]; exact (((Below.refl _ _).alloc (Nat.le_refl _) _).alloc (by simp) _).alloc (by simp; omega) _
  have hX0 : WX.heap[W.heap.size]? = some (.cells #[.pointer (some ⟨G, 0, none⟩)] 76 (0, 0)) := by rw [hWX]; exact blk_old (blk_old (blk_new rfl))
  have hX1 : WX.heap[W.heap.size + 1]? = some (.cells #[.int .i64 (k : Int)] 3 (0, 0)) := by rw [hWX]; exact blk_old (blk_new (by simp))
  have hX2 : WX.heap[W.heap.size + 1 + 1]? = some (.cells #[.int .i64 a, .int .i64 o] 42 (0, 0)) := by rw [hWX]; exact blk_new (by simp)
  have hsX : W.heap.size + 1 + 1 < WX.heap.size := (Array.getElem?_eq_some_iff.1 hX2).1
  have hgX := hg.call hB
  have hkeep : ∀ V, WX.grownBy V (some M) → V.heap[W.heap.size]? = some (.cells #[.pointer (some ⟨G, 0, none⟩)] 76 (0, 0)) ∧ V.heap[W.heap.size + 1]? = some (.cells #[.int .i64 (k : Int)] 3 (0, 0)) ∧ V.heap[W.heap.size + 1 + 1]? = some (.cells #[.int .i64 a, .int .i64 o] 42 (0, 0)) := fun V hV =>
    ⟨(hV.block _ (by omega) (fun e => by injection e with e; omega)).trans hX0, (hV.block _ (by omega) (fun e => by injection e with e; omega)).trans hX1, (hV.block _ (by omega) (fun e => by injection e with e; omega)).trans hX2⟩
  have hints : ∀ V, Below w0.heap.size w0 V → IntsAt V (some ⟨ub, uo, none⟩) [60000, 60000, 60000, 60000, 60000, 60000] := fun V hV => by
    have e := h0.river.below hV (Nat.le_refl _)
    rw [hm.uA, hL.river] at e
    exact e
  have HWH := Lib.hid (show Calls Tryz.prog 67 #[.slice (some ⟨ub, uo, none⟩) 6 t.rC, .func (.func 68) #[] #[.pointer (some ⟨W.heap.size, 0, none⟩), .pointer (some ⟨W.heap.size + 1, 0, none⟩), .pointer (some ⟨W.heap.size + 1 + 1, 0, none⟩)]] WX fun e w' => e = .returned (.int .i64 (whereZ p 6 0)) ∧ ∃ m, GmJ w0 t n G M (Jn m) WX w' ∧ (m = 6 ∨ ∃ x, m = x + 1 ∧ x < 6 ∧ p x = true) from
    where_first 68 _ (enters_of Tryz.func68 (by kernel_rfl) rfl) (some ⟨ub, uo, none⟩) [60000, 60000, 60000, 60000, 60000, 60000] t.rC p (fun x V => GmJ w0 t n G M (Jn x) WX V)
      (fun x V hV => let ⟨⟨c', _, hg'⟩, _⟩ := hV; hints V hg'.below)
      (fun x hx hj V hV => by
        obtain ⟨q0, q1, q2⟩ := hkeep V hV.grown
        exact failsx_of q0 q1 q2 ((hA x hx hj V ⟨hV.st, grown_trans (grown_of_below hB) hV.grown⟩).mono fun e V' h => ⟨h.1, h.2.st, grown_trans hV.grown h.2.grown⟩))
      WX ⟨⟨c, hc, hgX⟩, grown_of_below (Below.refl _ _)⟩)
  have g7 := gc7 hL hm hgX
  have cs : WX.cell? ⟨W.heap.size, 0, none⟩ = some (.pointer (some ⟨G, 0, none⟩)) := (cell_of_row _ _ 0 _ _ _ hX0).trans rfl
  have HB := Lib.hid (grown_of_below (row := some M) hB)
  have HW := Lib.hid hWX
  clear hg hL hm hB hX0 hX1 hX2 hgX hkeep hints hA h0 hWX
  go_enter Tryz.func34, Tryz.ntmps34
  go_upto_region 1 with fail
  rw [← HW.out]
  go_wp2_with fail
  refine HWH.out.mono ?_
  rintro e W1 ⟨rfl, m, hgj, hm⟩
  have HGJ := Lib.hid hgj
  have HMM := Lib.hid hm
  clear hgj hm cs g7
  go_wp2_with fail
  go_ret
  exact ⟨rfl, m, ⟨HGJ.out.st, grown_trans HB.out HGJ.out.grown⟩, HMM.out⟩

theorem above_out {w0 W : World} {t : TaskV} {n G M k j : Nat} {a o sh op : Int} (hL : LawT t n) (h0 : t.Ok w0) (hk : k < n) (hG : ∃ c, j ≤ c.length ∧ GmS w0 t n G M c W) (hp : PlanFit a o sh op) (x : Nat) (hx : x < 6) (ho : (x : Int) ≤ sh ∨ op ≤ (x : Int)) :
    Calls Tryz.prog 69 #[.pointer (some ⟨G, 0, none⟩), .int .i64 k, plV a o, .int .i64 x] W fun e W' => e = .returned (.bool (decide (800 < hAt k x))) ∧ GmJ w0 t n G M j W W' := by
  obtain ⟨c, hc, hg⟩ := hG
  exact above_of hL ⟨c, hg⟩ (fun V hV => (inside_out hL h0 hk (hg.call hV) hp x hx ho).mono fun e W' h => ⟨h.1, ⟨c, hc, (hg.call hV).call h.2⟩, grown_trans (grown_of_below hV) (grown_of_below h.2)⟩)
theorem above_run {w0 W : World} {t : TaskV} {n G M k : Nat} {a o : Int} (hL : LawT t n) (h0 : t.Ok w0) (hk : k < n) (hG : ∃ c, k ≤ c.length ∧ GmS w0 t n G M c W) (hp : PlanFit a o 1 5) (x : Nat) (hx : 2 ≤ x ∧ x ≤ 4) :
    Calls Tryz.prog 69 #[.pointer (some ⟨G, 0, none⟩), .int .i64 k, plV a o, .int .i64 x] W fun e W' => e = .returned (.bool false) ∧ GmJ w0 t n G M (k + 1) W W' := by
  obtain ⟨c, hc, hg⟩ := hG
  have h := above_of (j := k + 1) hL ⟨c, hg⟩ (fun V hV => (inside_run hL h0 hk ⟨c, hc, hg.call hV⟩ hp x hx).mono fun e W' h => ⟨h.1, h.2.st, grown_trans (grown_of_below hV) h.2.grown⟩)
  have e : decide (800 < sHi k (x - 1)) = false := decide_eq_false (by have := sHi_le (k := k) (j := x - 1) (by omega); omega)
  rw [e] at h
  exact h
theorem low_out {k x : Nat} (hx : x ≤ 1 ∨ x = 5) : decide (800 < hAt k x) = false := by
  have h1 : ∀ k < 2, ∀ x < 6, (x ≤ 1 ∨ x = 5) → decide (800 < hAt k x) = false := by decide
  match k with
  | 0 => exact h1 0 (by decide) x (by omega) hx
  | _ + 1 => exact h1 1 (by decide) x (by omega) hx
/-- The plan from the first index holds. -/
theorem fails_holds {w0 W : World} {t : TaskV} {n G M k : Nat} (hL : LawT t n) (h0 : t.Ok w0) (hk : k < n) (hG : ∃ c, k ≤ c.length ∧ GmS w0 t n G M c W) :
    Calls Tryz.prog 34 #[.pointer (some ⟨G, 0, none⟩), .int .i64 k, plV 10 15] W fun e W' => e = .returned (.int .i64 (-1)) ∧ GmJ w0 t n G M (k + 1) W W' := by
  have hp : PlanFit 10 15 1 5 := ⟨by omega, by omega, by omega, by omega⟩
  refine (fails_of hL h0 hk (fun _ => false) (fun x => if x ≤ 2 then k else k + 1) (by simpa using hG) (fun x hx _ V hV => ?_)).mono ?_
  · by_cases hx1 : x ≤ 1 ∨ x = 5
    · have h := above_out (j := if x ≤ 2 then k else k + 1) hL h0 hk hV.st hp x hx (by omega)
      rw [low_out hx1] at h
      refine h.mono fun e V' h => ⟨h.1, ?_⟩
      have e2 : (if x + 1 ≤ 2 then k else k + 1) = (if x ≤ 2 then k else k + 1) := by
        rcases hx1 with hx1 | hx1
        · rw [if_pos (by omega), if_pos (by omega)]
        · rw [if_neg (by omega), if_neg (by omega)]
      show GmJ w0 t n G M (if x + 1 ≤ 2 then k else k + 1) V V'
      rw [e2]
      exact h.2
    · obtain ⟨c, hc, hg⟩ := hV.st
      have hkc : k ≤ c.length := by
        have e : k ≤ (if x ≤ 2 then k else k + 1) := by split <;> omega
        exact Nat.le_trans e hc
      have h := above_run hL h0 hk ⟨c, hkc, hg⟩ hp x (by omega)
      refine h.mono fun e V' h => ⟨h.1, ?_⟩
      show GmJ w0 t n G M (if x + 1 ≤ 2 then k else k + 1) V V'
      rw [if_neg (by omega)]
      exact h.2
  · rintro e W' ⟨rfl, m, hgj, hm⟩
    refine ⟨rfl, ?_⟩
    rcases hm with rfl | ⟨x, _, _, h⟩
    · exact hgj
    · cases h
/-- A later plan fails at index 2 of the first history. -/
theorem fails_two {w0 W : World} {t : TaskV} {n G M j : Nat} {a o sh op : Int} (hL : LawT t n) (h0 : t.Ok w0) (hG : ∃ c, j ≤ c.length ∧ GmS w0 t n G M c W) (hp : PlanFit a o sh op) (hs : 2 ≤ sh) :
    Calls Tryz.prog 34 #[.pointer (some ⟨G, 0, none⟩), .int .i64 (0 : Nat), plV a o] W fun e W' => e = .returned (.int .i64 2) ∧ GmJ w0 t n G M j W W' := by
  have hn : 0 < n := by rcases hL.n12 with rfl | rfl <;> omega
  refine (fails_of hL h0 hn (fun x => decide (x = 2)) (fun _ => j) hG (fun x hx hj V hV => ?_)).mono ?_
  · have hx2 : x ≤ 2 := by
      rcases Nat.lt_or_ge 2 x with h | h
      · have := hj 2 h
        cases this
      · exact h
    have h := above_out (j := j) hL h0 hn hV.st hp x hx (.inl (by omega))
    have e : decide (800 < hAt 0 x) = decide (x = 2) := by
      match x, hx2 with
      | 0, _ | 1, _ | 2, _ => decide
    rw [e] at h
    exact h
  · rintro e W' ⟨rfl, m, hgj, _⟩
    exact ⟨rfl, hgj⟩
end Go.Proofs.YtgfdindlihfidaaGreat
