/-
  closure.Last at the closed task: of its first history the tick 10; of a history that it has not the error 4.
-/
import Derived.Test.YtgfdindlihfidaaGreatZl
import Derived.RangeFuncWrites
namespace Go.Proofs.YtgfdindlihfidaaGreat
open Go.RowKit Go.Shelf Go.Sort
set_option linter.unusedSimpArgs false
set_option linter.unusedVariables false
attribute [local go_sem] Oper.semAt_some
attribute [local go_sem ↓] loadAt_task
attribute [local go_sem] run_taskLoad

/-- A drawn region in a round, whose operations yield one value in every world of a class and leave a world of it. -/
theorem quiet_round_C {n l : Nat} {P : Program} {id : Nat} {a : Act} {w : World} {os : List Oper} {Q : Exit → Act → World → Prop} {C : World → Prop} (hd : os.toArray.all plainB = true) (hm : P.follows .mixedOrders = true) (hB : Region.lexB .any os.toArray = true) (hlo : ∀ a w, ¬ Q .outgrown a w)
    (hC : C w.drew) (h : wpQuiet P os.toArray C (fun a' => ∀ w', C w' → Q .normal a' w') os a) : (Code.region id os.toArray true).wpIn (Fence.wide.inRound l) n P Q a w := by
  have hB' := hB
  rw [Region.lexB, Bool.and_eq_true] at hB'
  have h1 := wpAnyQ_lex hB'.1 os 0 (Array.replicate os.toArray.size false) a (fun j => by simp) (by simpa using hB'.2) h
  refine wpIn_region_round hm hd hlo ?_
  have h2 := wpAny_of_quiet (fun a1 w1 hw1 hq => hq w1 hw1) os.length _ a { w with drawn := w.drawn + 1 } hC h1
  simpa using h2

theorem game_start {t : TaskV} {n : Nat} {w0 w : World} {e : Ending} (hL : LawT t n) (h : GameOut t w0 e w) : ∃ G M : Nat, e = .returned (.tuple #[.pointer (some ⟨G, 0, none⟩), .int .i64 0]) ∧ GmS w0 t n G M [] w ∧ G ≠ M ∧ GameFit t 10 5 := by
  obtain ⟨hb, G, M, f, rfl, hf, hfit, hG, hM, hne, hga, hmp⟩ := h
  have h0 : 0 < t.hists.length := by have := hfit.hist; omega
  have hf2 : f = 10 := by rw [hf h0]; exact (hL.hist 0 h0).1
  have hq := hL.quiet
  have hgf := GameFit.of hfit hf
  subst hf2
  rw [hq] at hga hgf
  exact ⟨G, M, rfl, ⟨hb, hG, hM, hga, hmp, Nat.zero_le _, fun k v hv => by simp at hv⟩, hne, hgf⟩

set_option maxRecDepth 100000 in
set_option maxHeartbeats 4000000 in
theorem last_two (t : TaskV) (w : World) (hok : t.Ok w) (hL : LawT t 2) :
    Calls Tryz.prog 13 #[t.val, .int .i64 2] w fun e w' => e = .returned (.tuple #[.int .i64 0, .int .i64 4]) ∧ Below w.heap.size w w' := by
  obtain ⟨W0, hW0⟩ : ∃ W0, W0 = ((w.alloc (.cells t.cells 36)).alloc (.cells #[.int .i64 0] 3)).alloc (.cells #[.int .i64 0] 37) := ⟨_, rfl⟩
  have hB : Below w.heap.size w W0 := by rw [hW0]; exact (((Below.refl _ _).alloc (Nat.le_refl _) _).alloc (by simp) _).alloc (by simp; omega) _
  have hX0 : W0.heap[w.heap.size]? = some (.cells t.cells 36 (0, 0)) := by rw [hW0]; exact blk_old (blk_old (blk_new rfl))
  have hX1 : W0.heap[w.heap.size + 1]? = some (.cells #[.int .i64 0] 3 (0, 0)) := by rw [hW0]; exact blk_old (blk_new (by simp))
  have hX2 : W0.heap[w.heap.size + 1 + 1]? = some (.cells #[.int .i64 0] 37 (0, 0)) := by rw [hW0]; exact blk_new (by simp)
  have HA := Lib.hid (alone_bad t 2 W0 (hok.below hB (Nat.le_refl _)) hL.good (by rw [hL.len]; omega))
  have HX := Lib.hid (show _ ∧ _ ∧ _ from ⟨hX0, hX1, hX2⟩)
  have HW0 := Lib.hid hW0
  have HB := Lib.hid hB
  clear hok hL hX0 hX1 hX2 hB hW0
  refine (callsIn_wide (n := 3)).1 (callsIn_of_wp_marks Tryz.func13 rfl trivial ?_ rfl)
  refine wpIn_wide.2 ?_
  simp only [Tryz.ntmps13, List.size_toArray, List.length_cons, List.length_nil, Nat.reduceAdd, Nat.reduceSub, Array.replicate_succ, Array.replicate_zero, List.push_toArray, List.append_toArray, List.nil_append, List.cons_append]
  go_upto_region 1 with fail
  rw [← HW0.out]
  have it0 : IsTask W0 w.heap.size := ⟨t, HX.out.1⟩
  have ir0 := rowOf_task HX.out.1
  go_wp2_with fail
  clear it0 ir0
  refine HA.out.mono ?_
  rintro e w1 ⟨rfl, hb1⟩
  have hY1 := blk_below hb1 HX.out.2.1
  have hY2 := blk_below hb1 HX.out.2.2
  have c1 : w1.cell? ⟨w.heap.size + 1, 0, none⟩ = some (.int .i64 0) := (cell_of_row _ _ 0 _ _ _ hY1).trans rfl
  have c2 : w1.cell? ⟨w.heap.size + 1 + 1, 0, none⟩ = some (.int .i64 0) := (cell_of_row _ _ 0 _ _ _ hY2).trans rfl
  have f1 := frozen_of_row _ _ 0 _ _ hY1
  have f2 := frozen_of_row _ _ 0 _ _ hY2
  have l2 := (Array.getElem?_eq_some_iff.1 hY2).1
  have l1 : w.heap.size + 1 < w1.heap.size := by omega
  have HB1 := Lib.hid (HB.out.trans (hb1.mono HB.out.size))
  clear hY1 hY2 hb1
  go_wp2_with fail
  refine ⟨.tuple #[.int .i64 0, .int .i64 4], by simp [results, Tryz.results13, go_sem, *], rfl, ?_⟩
  exact (bset (bset HB1.out (by omega)) (by omega)).alloc (by simp; omega) _

/-- What the rounds of Last keep: a game that knows some runs; the results' variables; the game's variable. -/
structure LaI (w1 : World) (t : TaskV) (G M P : Nat) (W : World) : Prop where
  st : ∃ c, GmS w1 t 1 G M c W
  ptr : W.heap[P]? = some (.cells #[.pointer (some ⟨G, 0, none⟩)] 76 (0, 0))
theorem LaI.call {w1 W W' : World} {t : TaskV} {G M P : Nat} (h : LaI w1 t G M P W) (hb : Below W.heap.size W W') : LaI w1 t G M P W' := ⟨let ⟨c, hc⟩ := h.st; ⟨c, hc.call hb⟩, blk_below hb h.ptr⟩
theorem LaI.grown {w1 W W' : World} {t : TaskV} {G M P B : Nat} {row : Option Nat} (h : LaI w1 t G M P W) (hg : W.grownBy W' row) (hr : ∀ r, row = some r → B ≤ r ∧ ∃ o : Obj, W.heap[r]? = some o ∧ o.isCells = false) (hB : w1.heap.size ≤ B) (hG : G < B) (hM : M < B) (hP : P < B) : LaI w1 t G M P W' := by
  obtain ⟨c, hc⟩ := h.st
  refine ⟨⟨c, hc.below.grown hg hc.below.size (fun k e => by have := (hr k e).1; omega), hc.gG, hc.gM, ⟨blk_grownB hc.game.blk hg (fun r e => (hr r e).1) hG⟩, blk_grownB hc.mp hg (fun r e => (hr r e).1) hM, hc.len, fun k v hv => (hc.vol k v hv).kept hg ?_⟩, blk_grownB h.ptr hg (fun r e => (hr r e).1) hP⟩
  obtain ⟨g, cur, e, _, hcell⟩ := row_block (hc.vol k v hv) (by omega)
  refine .inr (fun e2 => ?_)
  rw [e] at e2
  obtain ⟨_, o, ho, hoc⟩ := hr g e2.symm
  rw [hcell] at ho
  injection ho with ho
  subst ho
  cases hoc
theorem LaI.gmj {w1 W W' : World} {t : TaskV} {G M P j : Nat} (h : LaI w1 t G M P W) (hg : GmJ w1 t 1 G M j W W') (hP : P ≠ M) : LaI w1 t G M P W' :=
  ⟨let ⟨c, _, hc⟩ := hg.st; ⟨c, hc⟩, (hg.grown.block P (Array.getElem?_eq_some_iff.1 h.ptr).1 (fun e => by injection e with e; exact hP e)).trans h.ptr⟩
set_option maxRecDepth 100000 in
set_option maxHeartbeats 4000000 in
theorem last_zero (t : TaskV) (w : World) (hok : t.Ok w) (hL : LawT t 2) (hcap : t.hists.length ≤ t.hC ∧ t.hC ≤ 1000) :
    Calls Tryz.prog 13 #[t.val, .int .i64 0] w fun e w' => e = .returned (.tuple #[.int .i64 10, .int .i64 0]) ∧ Below w.heap.size w w' := by
  obtain ⟨W0, hW0⟩ : ∃ W0, W0 = ((w.alloc (.cells t.cells 36)).alloc (.cells #[.int .i64 0] 3)).alloc (.cells #[.int .i64 0] 37) := ⟨_, rfl⟩
  have hB : Below w.heap.size w W0 := by rw [hW0]; exact (((Below.refl _ _).alloc (Nat.le_refl _) _).alloc (by simp) _).alloc (by simp; omega) _
  have hX0 : W0.heap[w.heap.size]? = some (.cells t.cells 36 (0, 0)) := by rw [hW0]; exact blk_old (blk_old (blk_new rfl))
  have hX1 : W0.heap[w.heap.size + 1]? = some (.cells #[.int .i64 0] 3 (0, 0)) := by rw [hW0]; exact blk_old (blk_new (by simp))
  have hX2 : W0.heap[w.heap.size + 1 + 1]? = some (.cells #[.int .i64 0] 37 (0, 0)) := by rw [hW0]; exact blk_new (by simp)
  have hl0 := (Array.getElem?_eq_some_iff.1 hX2).1
  have HOk := Lib.hid (hok.below hB (Nat.le_refl _)).one
  have HA := Lib.hid (alone_zero t W0 (hok.below hB (Nat.le_refl _)) hL.good hL.one.good hcap)
  have HX := Lib.hid (show _ ∧ _ ∧ _ from ⟨hX0, hX1, hX2⟩)
  have HW0 := Lib.hid hW0
  have HB := Lib.hid hB
  have HL := Lib.hid hL.one
  clear hok hL hX0 hX1 hX2 hB hW0
  refine (callsIn_wide (n := 3)).1 (callsIn_of_wp_marks Tryz.func13 rfl trivial ?_ rfl)
  refine wpIn_wide.2 ?_
  simp only [Tryz.ntmps13, List.size_toArray, List.length_cons, List.length_nil, Nat.reduceAdd, Nat.reduceSub, Array.replicate_succ, Array.replicate_zero, List.push_toArray, List.append_toArray, List.nil_append, List.cons_append]
  go_upto_region 1 with fail
  rw [← HW0.out]
  have it0 : IsTask W0 w.heap.size := ⟨t, HX.out.1⟩
  have ir0 := rowOf_task HX.out.1
  go_wp2_with fail
  clear it0 ir0
  refine HA.out.mono ?_
  rintro e w1 hgo
  obtain ⟨G, M, rfl, hgs, hne, hgf⟩ := game_start HL.out hgo
  have hlt := hgs.lt
  obtain ⟨W2, hW2⟩ : ∃ W2, W2 = w1.alloc (.cells #[.pointer (some ⟨G, 0, none⟩)] 76) := ⟨_, rfl⟩
  have hb2 : Below w1.heap.size w1 W2 := by rw [hW2]; exact (Below.refl _ _).alloc (Nat.le_refl _) _
  have hP2 : W2.heap[w1.heap.size]? = some (.cells #[.pointer (some ⟨G, 0, none⟩)] 76 (0, 0)) := by rw [hW2]; exact blk_new rfl
  have HI2 := Lib.hid (show LaI W0 t.one G M w1.heap.size W2 from ⟨⟨_, hgs.call hb2⟩, hP2⟩)
  have HW2 := Lib.hid hW2
  have hl1 := hgs.below.size
  have hs2 : W2.heap.size = w1.heap.size + 1 := by rw [hW2]; simp
  have c0 : W2.cell? ⟨w1.heap.size, 0, none⟩ = some (.pointer (some ⟨G, 0, none⟩)) := (cell_of_row _ _ 0 _ _ _ hP2).trans rfl
  have HGF := Lib.hid hgf
  have HGG := Lib.hid (show W0.heap.size ≤ G ∧ W0.heap.size ≤ M from ⟨hgs.gG, hgs.gM⟩)
  clear hgo hgs hb2 hP2 hW2 hgf
  go_upto_region 4 with fail
  rw [← HW2.out]
  go_wp2_with (go_at_call 33; refine (begins_make _ _).mono ?_; rintro e w3 ⟨rfl, rfl⟩)
  obtain ⟨WX, hWX⟩ : ∃ WX, WX = W2.alloc (.cells #[.pointer (some ⟨G, 0, none⟩)] 76) := ⟨_, rfl⟩
  have hbX : Below W2.heap.size W2 WX := by rw [hWX]; exact (Below.refl _ _).alloc (Nat.le_refl _) _
  have hPX : WX.heap[w1.heap.size + 1]? = some (.cells #[.pointer (some ⟨G, 0, none⟩)] 76 (0, 0)) := by rw [hWX]; exact blk_new hs2
  have hsX : WX.heap.size = w1.heap.size + 2 := by rw [hWX]; simp [hs2]
  have HIX := Lib.hid (HI2.out.call hbX)
  rw [← hWX]
  have HWX := Lib.hid hWX
  have HPX := Lib.hid hPX
  clear hWX hbX hPX c0
  have hBWX : Below w.heap.size w WX := HB.out.trans ((let ⟨c, hc⟩ := HIX.out.st; hc.below).mono HB.out.size)
  have HBWX := Lib.hid hBWX
  have hmo : Tryz.prog.follows .mixedOrders = true := by kernel_rfl
  have hN5 : ((5 : Nat) : Int) = (t.one.river.length : Int) - t.one.delay := by rw [HL.out.river, HL.out.delay]; rfl
  clear hBWX
  refine wpIn_wide.1 (wpIn_rangeFunc_ownG rfl (by omega) (gf := 66) (lb := #[.pointer (some ⟨w1.heap.size + 1, 0, none⟩)]) rfl trivial (enters_of Tryz.func66 (by kernel_rfl) rfl)
    (begins_stops t.one 10 5 G M HGF.out 5 hN5 (3 - 1) (w1.heap.size + 1) (by omega) WX ⟨(let ⟨c, hc⟩ := HIX.out.st; hc.game), HPX.out⟩ w.heap.size) (fun h k => h.trans k) (BxK.putObj (by have := HBWX.out.size; omega) (by omega)) (Below.refl _ _) (fun _ => rfl)
    (fun pre W => (∀ y ∈ pre, 1 ≤ y.val) ∧ LaI W0 t.one G M w1.heap.size W ∧ WX.heap.size ≤ W.heap.size)
    (fun c pre W => c = .ret ∧ W.heap[w.heap.size + 1]? = some (.cells #[.int .i64 10] 3 (0, 0)) ∧ W.heap[w.heap.size + 1 + 1]? = some (.cells #[.int .i64 0] 37 (0, 0)) ∧ Below w.heap.size w W)
    (fun s W W' row hs hg hr => ⟨hs.1, hs.2.1.grown hg hr (by omega) (by omega) (by omega) (by omega), Nat.le_trans hs.2.2 hg.size⟩)
    (fun c s W W' row hs hg hr => ⟨hs.1, blk_grownB hs.2.1 hg (fun r e => (hr r e).1) (by omega), blk_grownB hs.2.2.1 hg (fun r e => (hr r e).1) (by omega), hs.2.2.2.grown hg hs.2.2.2.size (fun r e => by have := (hr r e).1; have := HBWX.out.size; omega)⟩)
    ⟨fun _ h => (by cases h), HIX.out, Nat.le_refl _⟩
    (fun x => { tmps := #[t.val, .int .i64 0, .pointer (some ⟨w.heap.size, 0, none⟩), undef, .pointer (some ⟨w.heap.size + 1, 0, none⟩), .pointer (some ⟨w.heap.size + 1 + 1, 0, none⟩), .pointer (some ⟨w1.heap.size, 0, none⟩), .int .i64 0, .int .i64 (x.val : Int), .tuple #[.pointer (some ⟨G, 0, none⟩), .int .i64 0], t.val, .int .i64 0, .tuple #[.pointer (some ⟨G, 0, none⟩), .int .i64 0], .pointer (some ⟨G, 0, none⟩), .int .i64 0, .int .i64 0, .bool false, undef, .pointer (some ⟨G, 0, none⟩), .func (.func 66) #[] #[.pointer (some ⟨w1.heap.size + 1, 0, none⟩)], .int .i64 (x.val : Int), undef, undef, undef, undef, undef, undef, undef, undef, undef, undef, undef, undef], defers := [] }) ?assign ?body ?done ?stop)
  case assign =>
    intro l x W K hK
    gi_wp2
    exact hK
  case body =>
    rintro l pre x W ⟨hp, hi, hsW⟩ hlen
    have Hp := Lib.hid hp
    have Hi := Lib.hid hi
    clear hp hi
    have hxl := x.isLt
    have HCC := Lib.hid (fun V (hV : LaI W0 t.one G M w1.heap.size V ∧ W.grownBy V (some M)) V' (hb : Below V.heap.size V V') => (show LaI W0 t.one G M w1.heap.size V' ∧ W.grownBy V' (some M) from ⟨hV.1.call hb, grown_trans hV.2 (grown_of_below hb)⟩))
    have HCG := Lib.hid (fun V (hV : LaI W0 t.one G M w1.heap.size V ∧ W.grownBy V (some M)) j V' (hb : GmJ W0 t.one 1 G M j V V') => (show LaI W0 t.one G M w1.heap.size V' ∧ W.grownBy V' (some M) from ⟨hV.1.gmj hb (by omega), grown_trans hV.2 hb.grown⟩))
    by_cases hx : x.val = 0
    · have HPL := Lib.hid (fun V (hV : LaI W0 t.one G M w1.heap.size V ∧ W.grownBy V (some M)) => (show Calls Tryz.prog 20 #[.pointer (some ⟨G, 0, none⟩), .int .i64 0] V fun e w'' => e = .returned (plV 10 15) ∧ (LaI W0 t.one G M w1.heap.size w'' ∧ W.grownBy w'' (some M)) from by
        have h := plan_any (let ⟨c, hc⟩ := hV.1.st; hc.game) HGF.out 0 (by omega)
        rw [HL.out.delay] at h
        exact h.mono fun e w' q => ⟨q.1, HCC.out V hV w' q.2⟩))
      have HFA := Lib.hid (fun V (hV : LaI W0 t.one G M w1.heap.size V ∧ W.grownBy V (some M)) => (show Calls Tryz.prog 34 #[.pointer (some ⟨G, 0, none⟩), .int .i64 0, plV 10 15] V fun e w'' => e = .returned (.int .i64 (-1)) ∧ (LaI W0 t.one G M w1.heap.size w'' ∧ W.grownBy w'' (some M)) from
        (fails_holds (k := 0) HL.out HOk.out (by omega) (let ⟨c, hc⟩ := hV.1.st; ⟨c, Nat.zero_le _, hc⟩)).mono fun e w' q => ⟨q.1, HCG.out V hV _ w' q.2⟩))
      gi_wp2
      refine quiet_round_C (C := fun V => LaI W0 t.one G M w1.heap.size V ∧ W.grownBy V (some M)) (by kernel_rfl) (by kernel_rfl) (by kernel_rfl) (by exact fun _ _ h => h) ⟨Hi.out.call (Below.refl _ _).drew, grown_of_below (Below.refl _ _).drew⟩ ?_
      refine wpQuiet_step (fun K hK => ?_)
      rw [if_pos (by rfl)]
      refine ⟨.pointer (some ⟨G, 0, none⟩), fun V hV => ?_, hK _ ?_⟩
      · clear hK
        have c0 : V.cell? ⟨w1.heap.size, 0, none⟩ = some (.pointer (some ⟨G, 0, none⟩)) := (cell_of_row _ _ 0 _ _ _ hV.1.ptr).trans rfl
        go_simp
      clear hK K
      simp only [Act.put, List.setIfInBounds_toArray, List.set_cons_zero, List.set_cons_succ]
      refine wpQuiet_step (fun K hK => ?_)
      rw [if_pos (by rfl)]
      refine ⟨.pointer (some ⟨G, 0, none⟩), fun V hV => ?_, hK _ ?_⟩
      · clear hK
        have c0 : V.cell? ⟨w1.heap.size, 0, none⟩ = some (.pointer (some ⟨G, 0, none⟩)) := (cell_of_row _ _ 0 _ _ _ hV.1.ptr).trans rfl
        go_simp
      clear hK K
      simp only [Act.put, List.setIfInBounds_toArray, List.set_cons_zero, List.set_cons_succ]
      refine wpQuiet_step (fun K hK => ?_)
      rw [if_pos (by rfl)]
      refine ⟨.int .i64 0, fun V hV => ?_, hK _ ?_⟩
      · clear hK
        go_simp
      clear hK K
      simp only [Act.put, List.setIfInBounds_toArray, List.set_cons_zero, List.set_cons_succ]
      refine wpQuiet_step (fun K hK => ?_)
      rw [if_pos (by rfl)]
      refine ⟨plV 10 15, fun V hV => ?_, hK _ ?_⟩
      · clear hK
        have hc := Lib.hid (HPL.out V hV)
        go_simp
        exact hc.out
      clear hK K
      simp only [Act.put, List.setIfInBounds_toArray, List.set_cons_zero, List.set_cons_succ]
      refine wpQuiet_step (fun K hK => ?_)
      rw [if_pos (by rfl)]
      refine ⟨.int .i64 (-1), fun V hV => ?_, hK _ ?_⟩
      · clear hK
        have hc := Lib.hid (HFA.out V hV)
        go_simp
        exact hc.out
      clear hK K
      simp only [Act.put, List.setIfInBounds_toArray, List.set_cons_zero, List.set_cons_succ]
      refine wpQuiet_step (fun K hK => ?_)
      rw [if_pos (by rfl)]
      refine ⟨.bool true, fun V hV => ?_, hK _ ?_⟩
      · clear hK
        go_simp
      clear hK K
      simp only [Act.put, List.setIfInBounds_toArray, List.set_cons_zero, List.set_cons_succ]
      refine wpQuiet_nil ?_
      intro V hV
      obtain ⟨hV1, hV2⟩ := hV
      have hY : Below W0.heap.size W0 V := let ⟨c, hc⟩ := hV1.st; hc.below
      have hY1 := below_heap hY (show w.heap.size + 1 < W0.heap.size by omega) HX.out.2.1
      have hY2 := below_heap hY hl0 HX.out.2.2
      have c0 : V.cell? ⟨w1.heap.size, 0, none⟩ = some (.pointer (some ⟨G, 0, none⟩)) := (cell_of_row _ _ 0 _ _ _ hV1.ptr).trans rfl
      have c11 : V.cell? ⟨G, 11, none⟩ = some (.int .i64 10) := let ⟨c, hc⟩ := hV1.st; gc11 hc
      have d1 : V.cell? ⟨w.heap.size + 1, 0, none⟩ = some (.int .i64 0) := (cell_of_row _ _ 0 _ _ _ hY1).trans rfl
      have d2 : V.cell? ⟨w.heap.size + 1 + 1, 0, none⟩ = some (.int .i64 0) := (cell_of_row _ _ 0 _ _ _ hY2).trans rfl
      have e1 := frozen_of_row _ _ 0 _ _ hY1
      have e2 := frozen_of_row _ _ 0 _ _ hY2
      have l2 := (Array.getElem?_eq_some_iff.1 hY2).1
      have l1 : w.heap.size + 1 < V.heap.size := by omega
      have HV2 := Lib.hid hV2
      have HYY := Lib.hid (show _ ∧ _ ∧ _ from ⟨hY1, hY2, hY⟩)
      clear hV1 hV2 hY1 hY2 hY
      gi_wp2
      refine ⟨(KeepsFrom.of_grownBy HV2.out (fun j e => by injection e with e; omega)).trans (((KeepsOthers.setCell _ _ _).from _).trans ((KeepsOthers.setCell _ _ _).from _)), rfl, ?_, ?_, ?_⟩
      · exact blk_set_other (by omega) ((heap_setCell_same _ _ 0 _ _ _ HYY.out.1).trans rfl)
      · exact (heap_setCell_same _ _ 0 _ _ _ (blk_set_other (by omega) HYY.out.2.1)).trans rfl
      · exact bset (bset (HB.out.trans (HYY.out.2.2.mono HB.out.size)) (by omega)) (by omega)
    · have hx1 : 1 ≤ x.val := by omega
      have hpf : PlanFit (10 + (x.val : Int)) (10 + max 5 ((x.val : Int) + 1 + 1)) ((x.val : Int) + 1) (max 5 ((x.val : Int) + 1 + 1)) := ⟨by omega, by omega, by omega, by omega⟩
      have HPL := Lib.hid (fun V (hV : LaI W0 t.one G M w1.heap.size V ∧ W.grownBy V (some M)) => (show Calls Tryz.prog 20 #[.pointer (some ⟨G, 0, none⟩), .int .i64 (x.val : Int)] V fun e w'' => e = .returned (plV (10 + (x.val : Int)) (10 + max 5 ((x.val : Int) + 1 + 1))) ∧ (LaI W0 t.one G M w1.heap.size w'' ∧ W.grownBy w'' (some M)) from by
        have h := plan_any (let ⟨c, hc⟩ := hV.1.st; hc.game) HGF.out (x.val : Int) (by omega)
        rw [HL.out.delay] at h
        exact h.mono fun e w' q => ⟨q.1, HCC.out V hV w' q.2⟩))
      have HFA := Lib.hid (fun V (hV : LaI W0 t.one G M w1.heap.size V ∧ W.grownBy V (some M)) => (show Calls Tryz.prog 34 #[.pointer (some ⟨G, 0, none⟩), .int .i64 0, plV (10 + (x.val : Int)) (10 + max 5 ((x.val : Int) + 1 + 1))] V fun e w'' => e = .returned (.int .i64 2) ∧ (LaI W0 t.one G M w1.heap.size w'' ∧ W.grownBy w'' (some M)) from
        (fails_two (j := 0) HL.out HOk.out (let ⟨c, hc⟩ := hV.1.st; ⟨c, Nat.zero_le _, hc⟩) hpf (by omega)).mono fun e w' q => ⟨q.1, HCG.out V hV _ w' q.2⟩))
      obtain ⟨aa, haa⟩ : ∃ aa, aa = 10 + (x.val : Int) := ⟨_, rfl⟩
      obtain ⟨oo, hoo⟩ : ∃ oo, oo = 10 + max 5 ((x.val : Int) + 1 + 1) := ⟨_, rfl⟩
      rw [← haa, ← hoo] at HPL HFA
      clear hpf haa hoo
      gi_wp2
      refine quiet_round_C (C := fun V => LaI W0 t.one G M w1.heap.size V ∧ W.grownBy V (some M)) (by kernel_rfl) (by kernel_rfl) (by kernel_rfl) (by exact fun _ _ h => h) ⟨Hi.out.call (Below.refl _ _).drew, grown_of_below (Below.refl _ _).drew⟩ ?_
      refine wpQuiet_step (fun K hK => ?_)
      rw [if_pos (by rfl)]
      refine ⟨.pointer (some ⟨G, 0, none⟩), fun V hV => ?_, hK _ ?_⟩
      · clear hK
        have c0 : V.cell? ⟨w1.heap.size, 0, none⟩ = some (.pointer (some ⟨G, 0, none⟩)) := (cell_of_row _ _ 0 _ _ _ hV.1.ptr).trans rfl
        go_simp
      clear hK K
      simp only [Act.put, List.setIfInBounds_toArray, List.set_cons_zero, List.set_cons_succ]
      refine wpQuiet_step (fun K hK => ?_)
      rw [if_pos (by rfl)]
      refine ⟨.pointer (some ⟨G, 0, none⟩), fun V hV => ?_, hK _ ?_⟩
      · clear hK
        have c0 : V.cell? ⟨w1.heap.size, 0, none⟩ = some (.pointer (some ⟨G, 0, none⟩)) := (cell_of_row _ _ 0 _ _ _ hV.1.ptr).trans rfl
        go_simp
      clear hK K
      simp only [Act.put, List.setIfInBounds_toArray, List.set_cons_zero, List.set_cons_succ]
      refine wpQuiet_step (fun K hK => ?_)
      rw [if_pos (by rfl)]
      refine ⟨.int .i64 (x.val : Int), fun V hV => ?_, hK _ ?_⟩
      · clear hK
        go_simp
      clear hK K
      simp only [Act.put, List.setIfInBounds_toArray, List.set_cons_zero, List.set_cons_succ]
      refine wpQuiet_step (fun K hK => ?_)
      rw [if_pos (by rfl)]
      refine ⟨plV aa oo, fun V hV => ?_, hK _ ?_⟩
      · clear hK
        have hc := Lib.hid (HPL.out V hV)
        go_simp
        exact hc.out
      clear hK K
      simp only [Act.put, List.setIfInBounds_toArray, List.set_cons_zero, List.set_cons_succ]
      refine wpQuiet_step (fun K hK => ?_)
      rw [if_pos (by rfl)]
      refine ⟨.int .i64 2, fun V hV => ?_, hK _ ?_⟩
      · clear hK
        have hc := Lib.hid (HFA.out V hV)
        go_simp
        exact hc.out
      clear hK K
      simp only [Act.put, List.setIfInBounds_toArray, List.set_cons_zero, List.set_cons_succ]
      refine wpQuiet_step (fun K hK => ?_)
      rw [if_pos (by rfl)]
      refine ⟨.bool false, fun V hV => ?_, hK _ ?_⟩
      · clear hK
        go_simp
      clear hK K
      simp only [Act.put, List.setIfInBounds_toArray, List.set_cons_zero, List.set_cons_succ]
      refine wpQuiet_nil ?_
      intro V hV
      have HV := Lib.hid hV
      clear hV
      gi_wp2
      refine ⟨KeepsFrom.of_grownBy HV.out.2 (fun j e => by injection e with e; omega), ⟨?_, HV.out.2.block _ (by omega) (fun e => by injection e with e; omega)⟩, fun y hy => ?_, HV.out.1, Nat.le_trans hsW HV.out.2.size⟩
      · exact below_of_grown (Below.refl _ _) HV.out.2 (by have := HGG.out.2; omega) (by have := HBWX.out.size; omega)
      · rcases List.mem_append.1 hy with h | h
        · exact Hp.out y h
        · rw [List.mem_singleton] at h; rw [h]; exact hx1
  case done =>
    rintro D xs W hD rfl ⟨hp, hi, _⟩ hK
    have h5 : (0 : Fin 5) ∈ seen 5 5 := by decide
    exact absurd (hp _ h5) (by decide)
  case stop =>
    rintro D c pre W hD _ ⟨rfl, h1, h2, h3⟩ hK
    have H := Lib.hid (show _ ∧ _ ∧ _ ∧ _ from ⟨h1, h2, h3, hK⟩)
    clear h1 h2 h3 hK
    refine wpIn_wide.2 ?_
    go_wp2
    have hnd : [D].Nodup := by simp
    refine leaves_marks (fun V => V.heap[w.heap.size + 1]? = some (.cells #[.int .i64 10] 3 (0, 0)) ∧ V.heap[w.heap.size + 1 + 1]? = some (.cells #[.int .i64 0] 37 (0, 0)) ∧ Below w.heap.size w V) (by simp) [D] W hnd (fun X hX => by rw [List.mem_singleton] at hX; rw [hX]; exact H.out.2.2.2) ⟨H.out.1, H.out.2.1, H.out.2.2.1⟩ (fun V X hX hV hk => ?_) (fun V hk => ?_)
    · rw [List.mem_singleton] at hX
      subst hX
      exact ⟨blk_putB hk.1 hV (fun _ e => by cases e), blk_putB hk.2.1 hV (fun _ e => by cases e), hk.2.2.trans ((Below.refl _ V).grown (grownBy_putObj' V X _) hk.2.2.size (fun k e => by cases e; have := HBWX.out.size; omega))⟩
    · have r1 : V.cell? ⟨w.heap.size + 1, 0, none⟩ = some (.int .i64 10) := (cell_of_row _ _ 0 _ _ _ hk.1).trans rfl
      have r2 : V.cell? ⟨w.heap.size + 1 + 1, 0, none⟩ = some (.int .i64 0) := (cell_of_row _ _ 0 _ _ _ hk.2.1).trans rfl
      exact ⟨.tuple #[.int .i64 10, .int .i64 0], by simp [results, Tryz.results13, go_sem, r1, r2], rfl, hk.2.2⟩
end Go.Proofs.YtgfdindlihfidaaGreat
