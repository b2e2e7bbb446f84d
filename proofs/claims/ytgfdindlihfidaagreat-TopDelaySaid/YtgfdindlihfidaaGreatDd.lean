/-
  closure.Decide at the closed task with the rules of law 05: the plan 10, 15; two peaks; four later witnesses.
-/
import Derived.Test.YtgfdindlihfidaaGreatDc
namespace Go.Proofs.YtgfdindlihfidaaGreat
open Go.RowKit Go.Shelf Go.Sort
set_option linter.unusedSimpArgs false
set_option linter.unusedVariables false
attribute [local go_sem] Oper.semAt_some
attribute [local go_sem ↓] loadAt_task
attribute [local go_sem] run_taskLoad

theorem A.witInfo : (Tryz.prog.info? 117).map (fun i => (i.zero, i.size, i.bytes)) = some (some (.agg #[.int .i64 0, .int .i64 0]), 2, 16) := by kernel_rfl
abbrev sgD (j : Nat) : Nat := j + 69
/-- What the last round leaves. -/
structure DcX (w : World) (r : Nat) (pre : List (Fin 5)) (W : World) : Prop where
  res : ∃ a c b d k, (0 : Fin 5) ∈ pre ∧ k + 1 = pre.length ∧ W.heap[r]? = some (.cells #[.int .i64 10, .int .i64 15, .slice a 2 c, .slice b k d] 70 (0, 0))
  err : W.heap[r + 1]? = some (.cells #[.int .i64 0] 37 (0, 0))
  below : Below w.heap.size w W

theorem DcX.grown {w W W' : World} {r B : Nat} {pre : List (Fin 5)} {row : Option Nat} (h : DcX w r pre W) (hg : W.grownBy W' row) (hr : ∀ k, row = some k → B ≤ k) (hB : r + 1 < B) (hw : w.heap.size ≤ B) : DcX w r pre W' := by
  obtain ⟨⟨a, b, c, d, k, h0, h1, h2⟩, he, hb⟩ := h
  exact ⟨⟨a, b, c, d, k, h0, h1, blk_grownB h2 hg hr (by omega)⟩, blk_grownB he hg hr hB, hb.grown hg hb.size (fun k e => by have := hr k e; omega)⟩
set_option maxRecDepth 100000 in
set_option maxHeartbeats 4000000 in
theorem decide_law (t : TaskV) (w : World) (hok : t.Ok w) (hL : LawT t 2) :
    Calls Tryz.prog 15 #[t.val, rulesV] w fun e w' => (∃ a c b d, e = .returned (.tuple #[.agg #[.int .i64 10, .int .i64 15, .slice a 2 c, .slice b 4 d], .int .i64 0])) ∧ Below w.heap.size w w' := by
  obtain ⟨W0, hW0⟩ : ∃ W0, W0 = (((w.alloc (.cells t.cells 36)).alloc (.cells #[.int .i64 1, .int .i64 3] 74)).alloc (.cells #[.int .i64 0, .int .i64 0, .slice none 0 0, .slice none 0 0] 70)).alloc (.cells #[.int .i64 0] 37) := ⟨_, rfl⟩
  have hB : Below w.heap.size w W0 := by rw [hW0]; exact ((((Below.refl _ _).alloc (Nat.le_refl _) _).alloc (by simp) _).alloc (by simp; omega) _).alloc (by simp; omega) _
  have hX0 : W0.heap[w.heap.size]? = some (.cells t.cells 36 (0, 0)) := by rw [hW0]; exact blk_old (blk_old (blk_old (blk_new rfl)))
  have hX1 : W0.heap[w.heap.size + 1]? = some (.cells #[.int .i64 1, .int .i64 3] 74 (0, 0)) := by rw [hW0]; exact blk_old (blk_old (blk_new (by simp)))
  have hX2 : W0.heap[w.heap.size + 1 + 1]? = some (.cells #[.int .i64 0, .int .i64 0, .slice none 0 0, .slice none 0 0] 70 (0, 0)) := by rw [hW0]; exact blk_old (blk_new (by simp))
  have hX3 : W0.heap[w.heap.size + 1 + 1 + 1]? = some (.cells #[.int .i64 0] 37 (0, 0)) := by rw [hW0]; exact blk_new (by simp)
  have hl0 := (Array.getElem?_eq_some_iff.1 hX3).1
  have HA := Lib.hid (with_any t 2 W0 (hok.below hB (Nat.le_refl _)) hL)
  have HX := Lib.hid (show _ ∧ _ ∧ _ ∧ _ from ⟨hX0, hX1, hX2, hX3⟩)
  have HW0 := Lib.hid hW0
  have HB := Lib.hid hB
  have HL := Lib.hid hL
  clear hok hL hX0 hX1 hX2 hX3 hB hW0
  refine (callsIn_wide (n := 3)).1 (callsIn_of_wp_marks Tryz.func15 rfl trivial ?_ rfl)
  refine wpIn_wide.2 ?_
  simp only [Tryz.ntmps15, List.size_toArray, List.length_cons, List.length_nil, Nat.reduceAdd, Nat.reduceSub, Array.replicate_succ, Array.replicate_zero, List.push_toArray, List.append_toArray, List.nil_append, List.cons_append]
  go_upto_region 1 with fail
  rw [← HW0.out]
  have it0 : IsTask W0 w.heap.size := ⟨t, HX.out.1⟩
  have ir0 := rowOf_task HX.out.1
  have r0 : W0.cell? ⟨w.heap.size + 1, 0, none⟩ = some (.int .i64 1) := (cell_of_row _ _ 0 _ _ _ HX.out.2.1).trans rfl
  have r1 : W0.cell? ⟨w.heap.size + 1, 1, none⟩ = some (.int .i64 3) := (cell_of_row _ _ 1 _ _ _ HX.out.2.1).trans rfl
  go_wp2_with fail
  clear it0 ir0 r0 r1
  refine HA.out.mono ?_
  rintro e w1 ⟨w0, G, M, R, rfl, hb0, hok0, hgr, hgf⟩
  obtain ⟨W2, hW2⟩ : ∃ W2, W2 = w1.alloc (.cells #[.pointer (some ⟨R, 0, none⟩)] 107) := ⟨_, rfl⟩
  have hb2 : Below w1.heap.size w1 W2 := by rw [hW2]; exact (Below.refl _ _).alloc (Nat.le_refl _) _
  have hP2 : W2.heap[w1.heap.size]? = some (.cells #[.pointer (some ⟨R, 0, none⟩)] 107 (0, 0)) := by rw [hW2]; exact blk_new rfl
  have hl1 := hgr.gm.below.size
  have hl2 := hb0.size
  have HR2 := Lib.hid (hgr.call hb2)
  have HP2 := Lib.hid hP2
  have HW2 := Lib.hid hW2
  have HB0 := Lib.hid hb0
  have HGF := Lib.hid hgf
  have HOk := Lib.hid hok0
  have hs2 : W2.heap.size = w1.heap.size + 1 := by rw [hW2]; simp
  have hlt := hgr.lt
  have hlt2 := hgr.gm.lt
  have hgG := hgr.gm.gG
  have hgM := hgr.gm.gM
  have hgR := hgr.gR
  have hneM := hgr.neM
  have c0 : W2.cell? ⟨w1.heap.size, 0, none⟩ = some (.pointer (some ⟨R, 0, none⟩)) := (cell_of_row _ _ 0 _ _ _ hP2).trans rfl
  have HAL := Lib.hid (allowed_any HL.out HOk.out HR2.out)
  clear hgr hb2 hP2 hW2 hb0 hgf hok0
  go_upto_region 4 with fail
  rw [← HW2.out]
  go_upto_region 7 with (go_at_call 37; refine HAL.out.mono ?_; rintro e w3 ⟨rfl, hb3⟩; have HB3 := Lib.hid hb3; clear hb3)
  clear c0
  obtain ⟨W4, hW4⟩ : ∃ W4, W4 = w3.alloc (.cells #[.slice none 0 0] 68) := ⟨_, rfl⟩
  have hb4 : Below w3.heap.size w3 W4 := by rw [hW4]; exact (Below.refl _ _).alloc (Nat.le_refl _) _
  have hb24 : Below W2.heap.size W2 W4 := HB3.out.trans (hb4.mono HB3.out.size)
  have hQ4 : W4.heap[w3.heap.size]? = some (.cells #[.slice none 0 0] 68 (0, 0)) := by rw [hW4]; exact blk_new rfl
  have hs4 : W4.heap.size = w3.heap.size + 1 := by rw [hW4]; simp
  have hs3 := HB3.out.size
  have HR4 := Lib.hid (HR2.out.call hb24)
  have HP4 := Lib.hid (blk_below hb24 HP2.out)
  have HQ4 := Lib.hid hQ4
  have HW4 := Lib.hid hW4
  have c0 : W4.cell? ⟨w1.heap.size, 0, none⟩ = some (.pointer (some ⟨R, 0, none⟩)) := (cell_of_row _ _ 0 _ _ _ HP4.out).trans rfl
  have c1 : W4.cell? ⟨R, 0, none⟩ = some (.pointer (some ⟨G, 0, none⟩)) := (cell_of_row _ _ 0 _ _ _ HR4.out.blk).trans rfl
  clear hb4 hb24 hQ4 hW4
  go_upto_region 8 with fail
  rw [← HW4.out]
  go_wp2_with (go_at_call 33; refine (begins_make _ _).mono ?_; rintro e w5 ⟨rfl, rfl⟩)
  obtain ⟨WX, hWX⟩ : ∃ WX, WX = W4.alloc (.cells #[.pointer (some ⟨G, 0, none⟩)] 76) := ⟨_, rfl⟩
  have hbX : Below W4.heap.size W4 WX := by rw [hWX]; exact (Below.refl _ _).alloc (Nat.le_refl _) _
  have hPX : WX.heap[w3.heap.size + 1]? = some (.cells #[.pointer (some ⟨G, 0, none⟩)] 76 (0, 0)) := by rw [hWX]; exact blk_new hs4
  have hsX : WX.heap.size = w3.heap.size + 2 := by rw [hWX]; simp [hs4]
  have HIX := Lib.hid (show DcI w0 t G M R w1.heap.size w3.heap.size WX.heap.size 0 0 WX from ⟨⟨_, Nat.zero_le _, HR4.out.call hbX⟩, blk_below hbX HP4.out, none, 0, blk_below hbX HQ4.out, World.ownsRow_nil _ _ _ _⟩)
  rw [← hWX]
  have HWX := Lib.hid hWX
  have HPX := Lib.hid hPX
  clear hWX hbX hPX c0 c1
  have hBWX : Below w.heap.size w WX := HB.out.trans ((HB0.out.trans ((let ⟨c, _, hc⟩ := HIX.out.st; hc.gm.below).mono HB0.out.size)).mono HB.out.size)
  have HBWX := Lib.hid hBWX
  have hlw := HB.out.size
  have hmo : Tryz.prog.follows .mixedOrders = true := by kernel_rfl
  have hN5 : ((5 : Nat) : Int) = (t.river.length : Int) - t.delay := by rw [HL.out.river, HL.out.delay]; rfl
  clear hBWX
  refine wpIn_wide.1 (wpIn_rangeFunc_ownG rfl (by omega) (gf := 66) (lb := #[.pointer (some ⟨w3.heap.size + 1, 0, none⟩)]) rfl trivial (enters_of Tryz.func66 (by kernel_rfl) rfl)
    (begins_stops t 10 5 G M HGF.out 5 hN5 (3 - 1) (w3.heap.size + 1) (by omega) WX ⟨(let ⟨c, _, hc⟩ := HIX.out.st; hc.gm.game), HPX.out⟩ w.heap.size) (fun h k => h.trans k) (BxK.putObj (by have := HBWX.out.size; omega) (by omega)) (Below.refl _ _) (fun _ => rfl)
    (fun pre W => (∀ y ∈ pre, 1 ≤ y.val) ∧ DcI w0 t G M R w1.heap.size w3.heap.size WX.heap.size 0 pre.length W ∧ WX.heap.size ≤ W.heap.size)
    (fun c pre W => c = .ret ∧ DcX w (w.heap.size + 1 + 1) pre W)
    (fun s W W' row hs hg hr => ⟨hs.1, hs.2.1.grown hg hr (by omega) (by omega) (by omega) (by omega) (by omega) (by omega), Nat.le_trans hs.2.2 hg.size⟩)
    (fun c s W W' row hs hg hr => ⟨hs.1, hs.2.grown hg (fun r e => (hr r e).1) (by omega) (by have := HBWX.out.size; omega)⟩)
    ⟨fun _ h => (by cases h), HIX.out, Nat.le_refl _⟩
    (fun x => { tmps := #[t.val, rulesV, .pointer (some ⟨w.heap.size, 0, none⟩), .pointer (some ⟨w.heap.size + 1, 0, none⟩), .pointer (some ⟨w.heap.size + 1 + 1, 0, none⟩), .pointer (some ⟨w.heap.size + 1 + 1 + 1, 0, none⟩), .pointer (some ⟨w1.heap.size, 0, none⟩), .int .i64 0, .bool true, .int .i64 0, .pointer (some ⟨w3.heap.size, 0, none⟩), .int .i64 (x.val : Int), undef, undef, undef, .tuple #[.pointer (some ⟨R, 0, none⟩), .int .i64 0], t.val, .agg #[.int .i64 1, .int .i64 3], .tuple #[.pointer (some ⟨R, 0, none⟩), .int .i64 0], .pointer (some ⟨R, 0, none⟩), .int .i64 0, .int .i64 0, .bool false, undef, undef, .tuple #[.bool true, .int .i64 0], .pointer (some ⟨R, 0, none⟩), .tuple #[.bool true, .int .i64 0], .bool true, .int .i64 0, .bool true, .bool false, undef, undef, undef, undef, undef, .pointer (some ⟨R, 0, none⟩), .pointer (some ⟨R, 0, none⟩), .pointer (some ⟨R, 0, none⟩), .pointer (some ⟨G, 0, none⟩), .func (.func 66) #[] #[.pointer (some ⟨w3.heap.size + 1, 0, none⟩)], .int .i64 (x.val : Int), undef, undef, undef, undef, undef, undef, undef, undef, undef, undef, undef, undef, undef, undef, undef, undef, undef, undef, undef, undef, undef, undef, undef, undef, undef, undef, undef, undef, undef, undef, undef, undef, undef], defers := [] }) ?assign ?body ?done ?stop)
  case assign =>
    intro l x W K hK
    gi_wp2
    exact hK
  case body =>
    rintro l pre x W ⟨hp, hi, hsW⟩ hlen
    have Hp := Lib.hid hp
    have Hi := Lib.hid hi
    have hxl := x.isLt
    have cP : W.cell? ⟨w1.heap.size, 0, none⟩ = some (.pointer (some ⟨R, 0, none⟩)) := (cell_of_row _ _ 0 _ _ _ hi.ptr).trans rfl
    clear hp hi
    by_cases hx : x.val = 0
    · have hx0 : (x.val : Int) = 0 := by omega
      rw [hx0]
      have hk : pre.length ≤ 4 := by omega
      have HWI := Lib.hid (witness_zero HL.out HOk.out HGF.out Hi.out.toQ)
      have hxm : (0 : Fin 5) = x := by ext; exact hx.symm
      have HXM := Lib.hid hxm
      clear hxm hx0
      gi_wp2_with (first
        | (refine ⟨trivial, ?_⟩; gi_at_call 40; refine (CallsIn.inRound l (callsIn_wide.2 HWI.out)).mono ?_; rintro e w6 ⟨rfl, hq6⟩
           have H6 := Lib.hid (Hi.out.gq hq6)
           have G6 := Lib.hid hq6.grown
           have p6 : w6.cell? ⟨w1.heap.size, 0, none⟩ = some (.pointer (some ⟨R, 0, none⟩)) := (cell_of_row _ _ 0 _ _ _ H6.out.ptr).trans rfl
           have l6 := H6.out.lt
           clear hq6)
        | (refine ⟨trivial, ?_⟩; gi_at_call 41; refine Hid.out ?_))
      refine Lib.hid ?_
      obtain ⟨W7, hW7⟩ : ∃ W7, W7 = w6.alloc (.cells #[.int .i64 0, .int .i64 0] 117) := ⟨_, rfl⟩
      rw [← hW7]
      have hb7 : Below w6.heap.size w6 W7 := by rw [hW7]; exact (Below.refl _ _).alloc (Nat.le_refl _) _
      have H7 := Lib.hid (H6.out.call hb7)
      have HMY := Lib.hid (let ⟨c, _, hc⟩ := H7.out.st; may_zero HL.out HOk.out HGF.out hc)
      have HB7 := Lib.hid hb7
      have HW7 := Lib.hid hW7
      clear hW7 p6 hb7
      refine (CallsIn.inRound l (callsIn_wide.2 HMY.out)).mono ?_
      rintro e w8 ⟨rfl, hb8⟩
      have H8 := Lib.hid (H7.out.call hb8)
      obtain ⟨a, cap, hQ8, hO8⟩ := H8.out.ltr
      have cQ : w8.cell? ⟨w3.heap.size, 0, none⟩ = some (.slice a pre.length cap) := (cell_of_row _ _ 0 _ _ _ hQ8).trans rfl
      have HQ8 := Lib.hid hQ8
      have HO8 := Lib.hid hO8
      have HB8 := Lib.hid hb8
      have HRV := Lib.hid (reverse_any hk hO8)
      clear hQ8 hO8 hb8
      gi_wp2_with ((refine ⟨trivial, ?_⟩; gi_at_call 42; refine Hid.out ?_))
      refine Lib.hid ?_
      clear cQ
      refine (CallsIn.inRound l (callsIn_wide.2 HRV.out)).mono ?_
      rintro e w9 ⟨⟨u, rfl⟩, hO9, hg9⟩
      obtain ⟨h9, hQ9⟩ := DcI.turned H8.out HQ8.out HO8.out hO9 hg9 (by omega) (by omega) (by omega) (by omega) (by omega)
      have H9 := Lib.hid h9
      have HG9 := Lib.hid hg9
      have HQ9 := Lib.hid hQ9
      have p9 : w9.cell? ⟨w1.heap.size, 0, none⟩ = some (.pointer (some ⟨R, 0, none⟩)) := (cell_of_row _ _ 0 _ _ _ h9.ptr).trans rfl
      have r9 : w9.cell? ⟨R, 0, none⟩ = some (.pointer (some ⟨G, 0, none⟩)) := h9.toQ.ptr
      have HPL := Lib.hid (show Calls Tryz.prog 20 #[.pointer (some ⟨G, 0, none⟩), .int .i64 0] w9 fun e w'' => e = .returned (plV 10 15) ∧ Below w9.heap.size w9 w'' from (let ⟨c, _, hc⟩ := h9.st; plan_law HL.out HGF.out hc.gm 0 (by omega)))
      clear h9 hg9 hQ9 hO9
      gi_wp2_with ((refine ⟨trivial, ?_⟩; gi_at_call 20; refine Hid.out ?_))
      refine Lib.hid ?_
      clear p9 r9
      refine (CallsIn.inRound l (callsIn_wide.2 HPL.out)).mono ?_
      rintro e w10 ⟨rfl, hb10⟩
      have H10 := Lib.hid (H9.out.call hb10)
      have HQ10 := Lib.hid (blk_below hb10 HQ9.out)
      have HB10 := Lib.hid hb10
      clear hb10
      gi_wp2
      obtain ⟨W11, hW11⟩ : ∃ W11, W11 = w10.alloc (.cells #[.int .i64 10, .int .i64 15] 42) := ⟨_, rfl⟩
      rw [← hW11]
      have hb11 : Below w10.heap.size w10 W11 := by rw [hW11]; exact (Below.refl _ _).alloc (Nat.le_refl _) _
      have H11 := Lib.hid (H10.out.call hb11)
      have hP14 : W11.heap[w10.heap.size]? = some (.cells #[.int .i64 10, .int .i64 15] 42 (0, 0)) := by rw [hW11]; exact blk_new rfl
      have HP14 := Lib.hid hP14
      have HQ11 := Lib.hid (blk_below hb11 HQ10.out)
      have HB11 := Lib.hid hb11
      have hs11 : W11.heap.size = w10.heap.size + 1 := by rw [hW11]; simp
      have hs10 := HB10.out.size
      have hs9 := HG9.out.size
      have hs8 := HB8.out.size
      have hs7 := HB7.out.size
      have hs6 := G6.out.size
      clear hP14 hb11 hW11
      have HRB := Lib.hid (show ∀ V, GmQ w0 t 2 G M R 2 W11 V → V.heap[w.heap.size + 1 + 1]? = some (.cells #[.int .i64 0, .int .i64 0, .slice none 0 0, .slice none 0 0] 70 (0, 0)) ∧ V.heap[w.heap.size + 1 + 1 + 1]? = some (.cells #[.int .i64 0] 37 (0, 0)) from fun V hV => by
        obtain ⟨c, _, hc⟩ := hV.st
        have hb : Below W0.heap.size W0 V := HB0.out.trans (hc.gm.below.mono HB0.out.size)
        exact ⟨blk_below hb HX.out.2.2.1, blk_below hb HX.out.2.2.2⟩)
      refine wpIn_region_slots (n := 6) (m := 8) (by kernel_rfl) (by kernel_rfl) (by exact fun _ _ h => h) rfl (by omega) (by kernel_rfl) sgD (fun j hj => by simp [sgD]; omega) (fun i j _ _ h => by simp only [sgD] at h; omega) (DrC w0 t G M R (w.heap.size + 1 + 1) pre.length a cap W11) (DrC.new (H11.out.toQ.drew)) ?_ ?_
      · intro i o L y b v ho hS hC hLi haft
        have hi : i < 8 := (Array.getElem?_eq_some_iff.1 ho).1
        have hi2 : i = 0 ∨ i = 1 ∨ i = 2 ∨ i = 3 ∨ i = 4 ∨ i = 5 ∨ i = 6 ∨ i = 7 := by omega
        have h7 : L 7 = false := by
          rcases Nat.lt_or_ge i 7 with h | h
          · cases e : L 7 with
            | false => rfl
            | true => rw [hC.o7 e i h] at hLi; cases hLi
          · obtain rfl : i = 7 := by omega
            exact hLi
        have h6 : i < 7 → L 6 = false := fun hi7 => by
          rcases Nat.lt_or_ge i 6 with h | h
          · cases e : L 6 with
            | false => rfl
            | true => rw [hC.o6 e i h] at hLi; cases hLi
          · obtain rfl : i = 6 := by omega
            exact hLi
        have HC := Lib.hid hC
        have HS := Lib.hid hS
        have HL7 := Lib.hid h7
        have b14 : b.tmps[14]? = some (.pointer (some ⟨w10.heap.size, 0, none⟩)) := hS.out 14 (fun j hj _ => by simp only [sgD]; omega)
        have b6 : b.tmps[6]? = some (.pointer (some ⟨w1.heap.size, 0, none⟩)) := hS.out 6 (fun j hj _ => by simp only [sgD]; omega)
        have b10 : b.tmps[10]? = some (.pointer (some ⟨w3.heap.size, 0, none⟩)) := hS.out 10 (fun j hj _ => by simp only [sgD]; omega)
        have HH : i < 7 → Hid (GmQ w0 t 2 G M R 2 W11 v) ∧ Hid (L 6 = false ∧ L 7 = false) ∧ Hid (v.heap[w10.heap.size]? = some (.cells #[.int .i64 10, .int .i64 15] 42 (0, 0)) ∧ v.heap[w1.heap.size]? = some (.cells #[.pointer (some ⟨R, 0, none⟩)] 107 (0, 0)) ∧ v.heap[w3.heap.size]? = some (.cells #[.slice a pre.length cap] 68 (0, 0))) ∧ Hid (v.heap[w.heap.size + 1 + 1]? = some (.cells #[.int .i64 0, .int .i64 0, .slice none 0 0, .slice none 0 0] 70 (0, 0)) ∧ v.heap[w.heap.size + 1 + 1 + 1]? = some (.cells #[.int .i64 0] 37 (0, 0))) := fun hi7 => by
          have hq := hC.gm (h6 hi7)
          have hn := H11.out.neM
          have hl := H11.out.lt
          exact ⟨Lib.hid hq, Lib.hid ⟨h6 hi7, h7⟩, Lib.hid ⟨(hq.grown.block _ (by omega) (fun e => by injection e with e; omega)).trans HP14.out, (hq.grown.block _ (by omega) (fun e => by injection e with e; exact hn.1 e)).trans H11.out.ptr, (hq.grown.block _ (by omega) (fun e => by injection e with e; exact hn.2 e)).trans HQ11.out⟩, Lib.hid (HRB.out v hq)⟩
        clear hC hS h6 h7 hLi hi
        rcases hi2 with rfl | rfl | rfl | rfl | rfl | rfl | rfl | rfl
        iterate 7 (rotate_left)
        rotate_left
        iterate 7 (obtain ⟨HQV, H67, HV, HVR⟩ := HH (by omega); clear HH; rotate_left)
        clear HH
        rotate_left
        · obtain rfl := Option.some.inj ho
          refine ⟨rfl, .inl ⟨by omega, ?_⟩⟩
          have t0 : v.cell? ⟨w10.heap.size, 0, none⟩ = some (.int .i64 10) := (cell_of_row _ _ 0 _ _ _ HV.out.1).trans rfl
          have t1 : v.cell? ⟨w10.heap.size, 1, none⟩ = some (.int .i64 15) := (cell_of_row _ _ 1 _ _ _ HV.out.1).trans rfl
          clear ho haft
          go_simp
          exact ⟨_, rfl, HC.out.u0 rfl⟩
        · obtain rfl := Option.some.inj ho
          refine ⟨rfl, .inl ⟨by omega, ?_⟩⟩
          have t0 : v.cell? ⟨w1.heap.size, 0, none⟩ = some (.pointer (some ⟨R, 0, none⟩)) := (cell_of_row _ _ 0 _ _ _ HV.out.2.1).trans rfl
          clear ho haft
          go_simp
          exact ⟨_, rfl, HC.out.u1 rfl⟩
        · obtain rfl := Option.some.inj ho
          refine ⟨rfl, .inl ⟨by omega, ?_⟩⟩
          have t0 : v.cell? ⟨w10.heap.size, 0, none⟩ = some (.int .i64 10) := (cell_of_row _ _ 0 _ _ _ HV.out.1).trans rfl
          have t1 : v.cell? ⟨w10.heap.size, 1, none⟩ = some (.int .i64 15) := (cell_of_row _ _ 1 _ _ _ HV.out.1).trans rfl
          clear ho haft
          go_simp
          exact ⟨_, rfl, HC.out.u2 rfl⟩
        · obtain rfl := Option.some.inj ho
          refine ⟨rfl, .inl ⟨by omega, ?_⟩⟩
          have b70 : b.tmps[70]? = some (.pointer (some ⟨R, 0, none⟩)) := by rw [← HC.out.x1 (haft ⟨1, .data⟩ (by simp) (by decide))]; exact HS.out.at_ 1 (by omega) (haft ⟨1, .data⟩ (by simp) (by decide))
          have b71 : b.tmps[71]? = some (plV 10 15) := by rw [← HC.out.x2 (haft ⟨2, .data⟩ (by simp) (by decide))]; exact HS.out.at_ 2 (by omega) (haft ⟨2, .data⟩ (by simp) (by decide))
          have HPK := Lib.hid (peaks_any HL.out HOk.out HGF.out ⟨HQV.out.st, grown_of_below (Below.refl v.heap.size v)⟩)
          clear ho haft
          go_simp
          refine HPK.out.mono ?_
          rintro e v' ⟨⟨b1, c1, rfl⟩, hq⟩
          exact ⟨_, rfl, (HC.out.call H67.out.1 H67.out.2 (HQV.out.then hq)).u3 ⟨b1, c1, rfl⟩⟩
        · obtain rfl := Option.some.inj ho
          refine ⟨rfl, .inl ⟨by omega, ?_⟩⟩
          have t0 : v.cell? ⟨w3.heap.size, 0, none⟩ = some (.slice a pre.length cap) := (cell_of_row _ _ 0 _ _ _ HV.out.2.2).trans rfl
          clear ho haft
          go_simp
          exact ⟨_, rfl, HC.out.u4 rfl⟩
        · obtain rfl := Option.some.inj ho
          refine ⟨rfl, .inl ⟨by omega, ?_⟩⟩
          have b69 : b.tmps[69]? = some (plV 10 15) := by rw [← HC.out.x0 (haft ⟨0, .data⟩ (by simp) (by decide))]; exact HS.out.at_ 0 (by omega) (haft ⟨0, .data⟩ (by simp) (by decide))
          obtain ⟨b1, c1, e1⟩ := HC.out.x3 (haft ⟨3, .data⟩ (by simp) (by decide))
          have b72 : b.tmps[72]? = some (.slice b1 2 c1) := by rw [← e1]; exact HS.out.at_ 3 (by omega) (haft ⟨3, .data⟩ (by simp) (by decide))
          have b73 : b.tmps[73]? = some (.slice a pre.length cap) := by rw [← HC.out.x4 (haft ⟨4, .data⟩ (by simp) (by decide))]; exact HS.out.at_ 4 (by omega) (haft ⟨4, .data⟩ (by simp) (by decide))
          clear ho haft e1
          go_simp
          exact ⟨_, rfl, HC.out.u5 ⟨b1, c1, rfl⟩⟩
        · obtain rfl := Option.some.inj ho
          refine ⟨rfl, .inr ⟨by omega, ?_⟩⟩
          obtain ⟨b1, c1, e1⟩ := HC.out.x5 (haft ⟨5, .data⟩ (by simp) (by decide))
          have b74 : b.tmps[74]? = some (.agg #[.int .i64 10, .int .i64 15, .slice b1 2 c1, .slice a pre.length cap]) := by rw [← e1]; exact HS.out.at_ 5 (by omega) (haft ⟨5, .data⟩ (by simp) (by decide))
          have b4 : b.tmps[4]? = some (.pointer (some ⟨w.heap.size + 1 + 1, 0, none⟩)) := HS.out.out 4 (fun j hj _ => by simp only [sgD]; omega)
          have t0 : v.cell? ⟨w.heap.size + 1 + 1, 0, none⟩ = some (.int .i64 0) := (cell_of_row _ _ 0 _ _ _ HVR.out.1).trans rfl
          have t1 : v.cell? ⟨w.heap.size + 1 + 1, 1, none⟩ = some (.int .i64 0) := (cell_of_row _ _ 1 _ _ _ HVR.out.1).trans rfl
          have t2 : v.cell? ⟨w.heap.size + 1 + 1, 2, none⟩ = some (.slice none 0 0) := (cell_of_row _ _ 2 _ _ _ HVR.out.1).trans rfl
          have t3 : v.cell? ⟨w.heap.size + 1 + 1, 3, none⟩ = some (.slice none 0 0) := (cell_of_row _ _ 3 _ _ _ HVR.out.1).trans rfl
          have q0 := frozen_of_row _ _ 0 _ _ HVR.out.1
          have q1 := frozen_of_row _ _ 1 _ _ HVR.out.1
          have q2 := frozen_of_row _ _ 2 _ _ HVR.out.1
          have q3 := frozen_of_row _ _ 3 _ _ HVR.out.1
          have lr := (Array.getElem?_eq_some_iff.1 HVR.out.1).1
          have HO := Lib.hid (show ∀ j, j < 6 → L j = true from fun j hj => haft ⟨j, .phase⟩ (by
            have h : j = 0 ∨ j = 1 ∨ j = 2 ∨ j = 3 ∨ j = 4 ∨ j = 5 := by omega
            rcases h with rfl | rfl | rfl | rfl | rfl | rfl <;> simp) rfl)
          clear ho haft e1
          go_simp
          exact HC.out.u6 H67.out.1 H67.out.2 HO.out
        · obtain rfl := Option.some.inj ho
          refine ⟨rfl, .inr ⟨by omega, ?_⟩⟩
          have b5 : b.tmps[5]? = some (.pointer (some ⟨w.heap.size + 1 + 1 + 1, 0, none⟩)) := HS.out.out 5 (fun j hj _ => by simp only [sgD]; omega)
          have h6 := haft ⟨6, .phase⟩ (by simp) rfl
          have hv7 : v.heap[w.heap.size + 1 + 1 + 1]? = some (.cells #[.int .i64 0] 37 (0, 0)) := by
            obtain ⟨V0, b1, c1, hg, rfl⟩ := HC.out.s6 h6 HL7.out
            exact blk_set_other (by omega) (blk_set_other (by omega) (blk_set_other (by omega) (blk_set_other (by omega) (HRB.out V0 hg).2)))
          have t0 : v.cell? ⟨w.heap.size + 1 + 1 + 1, 0, none⟩ = some (.int .i64 0) := (cell_of_row _ _ 0 _ _ _ hv7).trans rfl
          have q0 := frozen_of_row _ _ 0 _ _ hv7
          have lr := (Array.getElem?_eq_some_iff.1 hv7).1
          have H6 := Lib.hid h6
          clear ho haft hv7 h6
          go_simp
          exact HC.out.u7 H6.out HL7.out
      · intro y V hC
        obtain ⟨V0, b1, c1, hq, hV⟩ := hC.s7 rfl
        have HV := Lib.hid hV
        have HQ := Lib.hid hq
        clear hC hq
        gi_wp2
        have hl := HIX.out.lt
        have hn := H11.out.neM
        have hr := HRB.out V0 HQ.out
        have hlB := HBWX.out.size
        have s1 : DcT w.heap.size WX.heap.size (w3.heap.size + 1) W w6 := DcT.grownM G6.out (by omega) (by omega) (by omega) (by omega) (by omega)
        have s2 : DcT w.heap.size WX.heap.size (w3.heap.size + 1) w6 W7 := DcT.below HB7.out (by omega) (by omega)
        have s3 : DcT w.heap.size WX.heap.size (w3.heap.size + 1) W7 w8 := DcT.below HB8.out (by omega) (by omega)
        have s4 : DcT w.heap.size WX.heap.size (w3.heap.size + 1) w8 w9 := DcT.row HG9.out HO8.out (by omega) (by omega) (by omega) (by omega)
        have s5 : DcT w.heap.size WX.heap.size (w3.heap.size + 1) w9 w10 := DcT.below HB10.out (by omega) (by omega)
        have s6 : DcT w.heap.size WX.heap.size (w3.heap.size + 1) w10 W11 := DcT.below HB11.out (by omega) (by omega)
        have s7 : DcT w.heap.size WX.heap.size (w3.heap.size + 1) W11 V0 := DcT.grownM HQ.out.grown (by omega) (by omega) (by omega) (by omega) (by omega)
        have s8 : DcT w.heap.size WX.heap.size (w3.heap.size + 1) W V0 := (((((s1.trans s2).trans s3).trans s4).trans s5).trans s6).trans s7
        have hbV0 : Below w.heap.size w V0 := let ⟨c, _, hc⟩ := HQ.out.st; HB.out.trans ((HB0.out.trans (hc.gm.below.mono HB0.out.size)).mono HB.out.size)
        have S8 := Lib.hid s8
        have HBV := Lib.hid hbV0
        clear s1 s2 s3 s4 s5 s6 s7 s8 hbV0
        have k1 := heap_setCell_same V0 _ 0 _ _ (.int .i64 10) hr.1
        simp only [List.setIfInBounds_toArray, List.set_cons_zero, List.set_cons_succ] at k1
        have k2 := heap_setCell_same _ _ 1 _ _ (.int .i64 15) k1
        simp only [List.setIfInBounds_toArray, List.set_cons_zero, List.set_cons_succ] at k2
        have k3 := heap_setCell_same _ _ 2 _ _ (.slice b1 2 c1) k2
        simp only [List.setIfInBounds_toArray, List.set_cons_zero, List.set_cons_succ] at k3
        have k4 := heap_setCell_same _ _ 3 _ _ (.slice a pre.length cap) k3
        simp only [List.setIfInBounds_toArray, List.set_cons_zero, List.set_cons_succ] at k4
        have k5 : V.heap[w.heap.size + 1 + 1]? = some (.cells #[.int .i64 10, .int .i64 15, .slice b1 2 c1, .slice a pre.length cap] 70 (0, 0)) := by rw [HV.out]; exact blk_set_other (by omega) k4
        have e1 := heap_setCell_same _ _ 0 _ _ (.int .i64 0) (blk_set_other (P := w.heap.size + 1 + 1) (i := 3) (v := .slice a pre.length cap) (by omega) (blk_set_other (P := w.heap.size + 1 + 1) (i := 2) (v := .slice b1 2 c1) (by omega) (blk_set_other (P := w.heap.size + 1 + 1) (i := 1) (v := .int .i64 15) (by omega) (blk_set_other (P := w.heap.size + 1 + 1) (i := 0) (v := .int .i64 10) (by omega) hr.2))))
        simp only [List.setIfInBounds_toArray, List.set_cons_zero, List.set_cons_succ] at e1
        have e2 : V.heap[w.heap.size + 1 + 1 + 1]? = some (.cells #[.int .i64 0] 37 (0, 0)) := by rw [HV.out]; exact e1
        have hbV : Below w.heap.size w V := by rw [HV.out]; exact bset (bset (bset (bset (bset HBV.out (by omega)) (by omega)) (by omega)) (by omega)) (by omega)
        have hkV : KeepsFrom WX.heap.size W V := by
          rw [HV.out]
          exact ((((S8.out.kf.trans ((KeepsOthers.setCell _ _ _).from _)).trans ((KeepsOthers.setCell _ _ _).from _)).trans ((KeepsOthers.setCell _ _ _).from _)).trans ((KeepsOthers.setCell _ _ _).from _)).trans ((KeepsOthers.setCell _ _ _).from _)
        exact ⟨hkV, rfl, ⟨b1, c1, a, cap, pre.length, by rw [HXM.out]; simp, by simp, k5⟩, e2, hbV⟩
    · have hx1 : 1 ≤ x.val := by omega
      have HWI := Lib.hid (witness_late HL.out HOk.out HGF.out Hi.out.toQ x.val ⟨hx1, by omega⟩)
      obtain ⟨i1, hi1, hz1, hsz1, hb1⟩ := info_parts A.witInfo
      gi_wp2_with (first
        | (refine ⟨trivial, ?_⟩; gi_at_call 40; refine (CallsIn.inRound l (callsIn_wide.2 HWI.out)).mono ?_; rintro e w6 ⟨rfl, hq6⟩
           have H6 := Lib.hid (Hi.out.gq hq6)
           have G6 := Lib.hid hq6.grown
           obtain ⟨a, cap, hQ6, hO6⟩ := H6.out.ltr
           have cQ : w6.cell? ⟨w3.heap.size, 0, none⟩ = some (.slice a pre.length cap) := (cell_of_row _ _ 0 _ _ _ hQ6).trans rfl
           have lQ : w3.heap.size < w6.heap.size := (Array.getElem?_eq_some_iff.1 hQ6).1
           have HQ6 := Lib.hid hQ6
           have HO6 := Lib.hid hO6
           clear hq6 hQ6 hO6)
        | (gi_at_builtin; refine Hid.out ?_))
      refine Lib.hid ?_
      clear cQ lQ cP
      refine wpListIn_append_own _ rfl (.tmp 51) (.tmp 53) 68 rfl WX.heap.size 117 i1 _ 2 16 Tryz.underlying68 hi1 hz1 hsz1 hb1 rfl (by decide) (.slice a pre.length cap) pre.length (wl pre.length) rfl ?own ⟨_, 0, none⟩ 1 1 [.int .i64 0, .int .i64 12] rfl rfl (World.news_of_block (cs := #[.int .i64 0, .int .i64 12]) (t := 117) (fr := (0, 0)) (blk_new (by simp))) (fun u hu => by simp at hu; rcases hu with rfl | rfl <;> rfl) (by unfold maxLen; omega) (by omega) ?base ?_
      case own => exact World.ownsRow.alloc (World.ownsRow.alloc HO6.out _) _
      case base => have := G6.out.size; simp; omega
      intro vX wX ownX grX iffX
      have hG6s := G6.out.size
      have hlt6 := HIX.out.lt
      have hbA : Below w6.heap.size w6 (w6.alloc (.cells #[.int .i64 0, .int .i64 12] 117)) := (Below.refl _ _).alloc (Nat.le_refl _) _
      obtain ⟨g, cp, rfl⟩ := ownsRow_succ ownX
      obtain ⟨hQX, hDX⟩ := DcI.append (H6.out.call hbA) (blk_below hbA HQ6.out) (World.ownsRow.alloc HO6.out _) (show wX.ownsRow WX.heap.size 117 2 (.slice (some ⟨g, 0, none⟩) (pre.length + 1) cp) (pre.length + 1) (wl (pre.length + 1)) from ownX) grX (by omega) (by omega) (by omega) (by omega) (by omega) (by omega) (by omega) (by omega) (by omega) (by omega)
      have s1 : DcT w.heap.size WX.heap.size (w3.heap.size + 1) W w6 := DcT.grownM G6.out (by omega) (by omega) (by omega) (by have := HBWX.out.size; omega) (by omega)
      have s2 : DcT w.heap.size WX.heap.size (w3.heap.size + 1) w6 (w6.alloc (.cells #[.int .i64 0, .int .i64 12] 117)) := DcT.below hbA (by have := HBWX.out.size; omega) (by omega)
      have s3 : DcT w.heap.size WX.heap.size (w3.heap.size + 1) (w6.alloc (.cells #[.int .i64 0, .int .i64 12] 117)) ((w6.alloc (.cells #[.int .i64 0, .int .i64 12] 117)).alloc (.cells #[.int .i64 0, .int .i64 12] 117)) := DcT.below ((Below.refl _ _).alloc (Nat.le_refl _) _) (by simp; have := HBWX.out.size; omega) (by simp; omega)
      have s4 := DcT.row (n₀ := w.heap.size) (X := w3.heap.size + 1) grX (World.ownsRow.alloc (World.ownsRow.alloc HO6.out _) _) (by have := HBWX.out.size; omega) (by omega) (by simp; have := HBWX.out.size; omega) (by simp; omega)
      have s5 := DcT.set (n₀ := w.heap.size) (B := WX.heap.size) (X := w3.heap.size + 1) wX (Y := w3.heap.size) (i := 0) (.slice (some ⟨g, 0, none⟩) (pre.length + 1) cp) (by omega) (by omega)
      have hszX : w6.heap.size ≤ wX.heap.size := by have := grX.size; simp at this; omega
      have HT := Lib.hid (((((s1.trans s2).trans s3).trans s4).trans s5))
      have HD := Lib.hid hDX
      have cX : wX.cell? ⟨w3.heap.size, 0, none⟩ = some (.slice a pre.length cap) := (cell_of_row _ _ 0 _ _ _ hQX).trans rfl
      have fX := frozen_of_row _ _ 0 _ _ hQX
      have lX := (Array.getElem?_eq_some_iff.1 hQX).1
      clear s1 s2 s3 s4 s5 hDX hQX ownX grX iffX hbA hi1 hz1 hsz1 hb1 hlt6
      gi_wp2
      refine ⟨HT.out.kf, HT.out.bx, fun y hy => ?_, ?_, ?_⟩
      · rcases List.mem_append.1 hy with h | h
        · exact Hp.out y h
        · rw [List.mem_singleton] at h; rw [h]; exact hx1
      · have e : (pre ++ [x]).length = pre.length + 1 := by simp
        rw [e]
        exact HD.out
      · have : (wX.setCell ⟨w3.heap.size, 0, none⟩ (.slice (some ⟨g, 0, none⟩) (pre.length + 1) cp)).heap.size = wX.heap.size := by simp [World.setCell]
        omega
  case done =>
    rintro D xs W hD rfl ⟨hp, hi, _⟩ hK
    have h5 : (0 : Fin 5) ∈ seen 5 5 := by decide
    exact absurd (hp _ h5) (by decide)
  case stop =>
    rintro D c pre W hD hpre ⟨rfl, hx⟩ hK
    have H := Lib.hid (And.intro hx hK)
    obtain ⟨a, cc, b, d, k, h0, hkl, hres⟩ := hx.res
    have hk4 : k = 4 := by
      obtain ⟨m, hm, rfl⟩ := hpre
      rw [seen_length hm] at hkl
      have : m = 5 := by
        have hm5 : m = 0 ∨ m = 1 ∨ m = 2 ∨ m = 3 ∨ m = 4 ∨ m = 5 := by omega
        rcases hm5 with rfl | rfl | rfl | rfl | rfl | rfl
        · exact absurd h0 (by decide)
        · exact absurd h0 (by decide)
        · exact absurd h0 (by decide)
        · exact absurd h0 (by decide)
        · exact absurd h0 (by decide)
        · rfl
      omega
    subst hk4
    have HRes := Lib.hid hres
    clear hx hK h0 hkl hres hpre
    refine wpIn_wide.2 ?_
    go_wp2
    have hnd : [D].Nodup := by simp
    refine leaves_marks (fun V => V.heap[w.heap.size + 1 + 1]? = some (.cells #[.int .i64 10, .int .i64 15, .slice a 2 cc, .slice b 4 d] 70 (0, 0)) ∧ V.heap[w.heap.size + 1 + 1 + 1]? = some (.cells #[.int .i64 0] 37 (0, 0)) ∧ Below w.heap.size w V) (by simp) [D] W hnd (fun X hX => by rw [List.mem_singleton] at hX; rw [hX]; exact H.out.2) ⟨HRes.out, H.out.1.err, H.out.1.below⟩ (fun V X hX hV hk => ?_) (fun V hk => ?_)
    · rw [List.mem_singleton] at hX
      subst hX
      exact ⟨blk_putB hk.1 hV (fun _ e => by cases e), blk_putB hk.2.1 hV (fun _ e => by cases e), hk.2.2.trans ((Below.refl _ V).grown (grownBy_putObj' V X _) hk.2.2.size (fun k e => by cases e; have := HBWX.out.size; omega))⟩
    · have r0 : V.cell? ⟨w.heap.size + 1 + 1, 0, none⟩ = some (.int .i64 10) := (cell_of_row _ _ 0 _ _ _ hk.1).trans rfl
      have r1 : V.cell? ⟨w.heap.size + 1 + 1, 1, none⟩ = some (.int .i64 15) := (cell_of_row _ _ 1 _ _ _ hk.1).trans rfl
      have r2 : V.cell? ⟨w.heap.size + 1 + 1, 2, none⟩ = some (.slice a 2 cc) := (cell_of_row _ _ 2 _ _ _ hk.1).trans rfl
      have r3 : V.cell? ⟨w.heap.size + 1 + 1, 3, none⟩ = some (.slice b 4 d) := (cell_of_row _ _ 3 _ _ _ hk.1).trans rfl
      have r4 : V.cell? ⟨w.heap.size + 1 + 1 + 1, 0, none⟩ = some (.int .i64 0) := (cell_of_row _ _ 0 _ _ _ hk.2.1).trans rfl
      exact ⟨.tuple #[.agg #[.int .i64 10, .int .i64 15, .slice a 2 cc, .slice b 4 d], .int .i64 0], by simp [results, Tryz.results15, go_sem, r0, r1, r2, r3, r4], ⟨_, _, _, _, rfl⟩, hk.2.2⟩
end Go.Proofs.YtgfdindlihfidaaGreat
