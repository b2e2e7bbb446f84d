/-
  closure.with, highs, allowed, may at the closed task and the rules of law 05.
-/
import Derived.Test.YtgfdindlihfidaaGreatLb
namespace Go.Proofs.YtgfdindlihfidaaGreat
open Go.RowKit Go.Shelf Go.Sort
set_option linter.unusedSimpArgs false
set_option linter.unusedVariables false
attribute [local go_sem ↓] loadAt_task
attribute [local go_sem] run_taskLoad
attribute [local go_sem high] run_min_z run_max_z
attribute [local go_sem ↓] run_min_z run_max_z

abbrev rulesV : Value := .agg #[.int .i64 1, .int .i64 3]
/-- A game with the rules of law 05, in block R. -/
structure GmR (w0 : World) (t : TaskV) (n G M R : Nat) (c : List Value) (W : World) : Prop where
  gm : GmS w0 t n G M c W
  blk : W.heap[R]? = some (.cells #[.pointer (some ⟨G, 0, none⟩), .int .i64 1, .int .i64 3] 115 (0, 0))
  gR : w0.heap.size ≤ R
theorem GmR.call {w0 W W' : World} {t : TaskV} {n G M R : Nat} {c : List Value} (h : GmR w0 t n G M R c W) (hb : Below W.heap.size W W') : GmR w0 t n G M R c W' := ⟨h.gm.call hb, blk_below hb h.blk, h.gR⟩
theorem GmR.lt {w0 W : World} {t : TaskV} {n G M R : Nat} {c : List Value} (h : GmR w0 t n G M R c W) : R < W.heap.size := (Array.getElem?_eq_some_iff.1 h.blk).1
theorem GmR.neM {w0 W : World} {t : TaskV} {n G M R : Nat} {c : List Value} (h : GmR w0 t n G M R c W) : R ≠ M := fun e => by
  obtain ⟨es, m, hcm⟩ := cObj_map c
  have h1 := h.gm.mp
  rw [hcm, ← e, h.blk] at h1
  cases h1
theorem GmR.gmj {w0 W W' : World} {t : TaskV} {n G M R j : Nat} {c : List Value} (h : GmR w0 t n G M R c W) (hg : GmJ w0 t n G M j W W') : ∃ c', j ≤ c'.length ∧ GmR w0 t n G M R c' W' :=
  let ⟨c', hj, hc⟩ := hg.st
  ⟨c', hj, hc, (hg.grown.block R h.lt (fun e => by injection e with e; exact h.neM e)).trans h.blk, h.gR⟩

set_option maxRecDepth 100000 in
set_option maxHeartbeats 4000000 in
theorem with_any (t : TaskV) (n : Nat) (w : World) (hok : t.Ok w) (hL : LawT t n) :
    Calls Tryz.prog 36 #[t.val, rulesV] w fun e w' => ∃ w0 G M R, e = .returned (.tuple #[.pointer (some ⟨R, 0, none⟩), .int .i64 0]) ∧ Below w.heap.size w w0 ∧ t.Ok w0 ∧ GmR w0 t n G M R [] w' ∧ GameFit t 10 5 := by
  obtain ⟨W0, hW0⟩ : ∃ W0, W0 = (w.alloc (.cells t.cells 36)).alloc (.cells #[.int .i64 1, .int .i64 3] 74) := ⟨_, rfl⟩
  have hB : Below w.heap.size w W0 := by rw [hW0]; exact ((Below.refl _ _).alloc (Nat.le_refl _) _).alloc (by simp) _
  have hX0 : W0.heap[w.heap.size]? = some (.cells t.cells 36 (0, 0)) := by rw [hW0]; exact blk_old (blk_new rfl)
  have hX1 : W0.heap[w.heap.size + 1]? = some (.cells #[.int .i64 1, .int .i64 3] 74 (0, 0)) := by rw [hW0]; exact blk_new (by simp)
  have HOk := Lib.hid (hok.below hB (Nat.le_refl _))
  have HA := Lib.hid (begin_good t W0 HOk.out hL.good)
  have HX := Lib.hid (show _ ∧ _ from ⟨hX0, hX1⟩)
  have HW0 := Lib.hid hW0
  have HB := Lib.hid hB
  have HL := Lib.hid hL
  clear hok hL hX0 hX1 hB hW0
  go_enter Tryz.func36, Tryz.ntmps36
  go_upto_region 1 with fail
  rw [← HW0.out]
  have it0 : IsTask W0 w.heap.size := ⟨t, HX.out.1⟩
  have ir0 := rowOf_task HX.out.1
  go_wp2_with fail
  clear it0 ir0
  refine HA.out.mono ?_
  rintro e w1 hgo
  obtain ⟨G, M, rfl, hgs, hne, hgf⟩ := game_start HL.out hgo
  have hb := hgo.1
  have hY := blk_below hb HX.out.2
  have c0 : w1.cell? ⟨w.heap.size + 1, 0, none⟩ = some (.int .i64 1) := (cell_of_row _ _ 0 _ _ _ hY).trans rfl
  have c1 : w1.cell? ⟨w.heap.size + 1, 1, none⟩ = some (.int .i64 3) := (cell_of_row _ _ 1 _ _ _ hY).trans rfl
  have o1 : outB 1 1 8 = false := by decide
  have o2 : outB 3 0 60 = false := by decide
  have HG := Lib.hid hgs
  have HGF := Lib.hid hgf
  clear hgs hgf hgo hb hY
  go_wp2_with (first | (go_at_call 18; (with_reducible refine (cout_eq o1 _).mono ?_); rintro e w' ⟨rfl, rfl⟩) | (go_at_call 18; (with_reducible refine (cout_eq o2 _).mono ?_); rintro e w' ⟨rfl, rfl⟩))
  go_ret2
  have hb3 := (Below.refl w1.heap.size w1).alloc (Nat.le_refl _) (.cells #[.pointer (some ⟨G, 0, none⟩), .int .i64 1, .int .i64 3] 115)
  exact ⟨W0, G, M, w1.heap.size, rfl, HB.out, HOk.out, ⟨HG.out.call hb3, blk_new rfl, HG.out.below.size⟩, HGF.out⟩

theorem highsx_any {w0 W : World} {t : TaskV} {n G M R s : Nat} {c : List Value} (hL : LawT t n) (hg : GmR w0 t n G M R c W) (hs : W.heap[s]? = some (.cells #[.pointer (some ⟨R, 0, none⟩)] 107 (0, 0))) (x v : Int) :
    Calls Tryz.prog 81 #[.int .i64 x, .int .i64 v, .pointer (some ⟨s, 0, none⟩)] W fun e W' => e = .returned (.bool (decide (800 < v))) ∧ W' = W := by
  have c0 : W.cell? ⟨s, 0, none⟩ = some (.pointer (some ⟨R, 0, none⟩)) := (cell_of_row _ _ 0 _ _ _ hs).trans rfl
  have c1 : W.cell? ⟨R, 0, none⟩ = some (.pointer (some ⟨G, 0, none⟩)) := (cell_of_row _ _ 0 _ _ _ hg.blk).trans rfl
  have c2 := gc9 hL hg.gm
  clear hg hs hL
  go_enter Tryz.func81, Tryz.ntmps81
  go_wp2
  go_ret
  exact ⟨ret_bool (by first | rfl | simp), rfl⟩
theorem LawT.serAt {w0 : World} {t : TaskV} {n : Nat} (h : LawT t n) (h0 : t.Ok w0) {k : Nat} (hk : k < n) : ∃ hb ho vA vC, t.hA = some ⟨hb, ho, none⟩ ∧ hb < w0.heap.size ∧ w0.cell? ⟨hb, ho + k * 2, none⟩ = some (.int .i64 10) ∧ w0.cell? ⟨hb, ho + k * 2 + 1, none⟩ = some (.slice vA 6 vC) ∧ IntsAt w0 vA (hvals k) := by
  have hkl : k < t.hists.length := by rw [h.len]; exact hk
  obtain ⟨hb, ho, hA, hlt, hrow⟩ := h0.hists.row hkl
  obtain ⟨e1, e2⟩ := h.hist k hkl
  obtain ⟨r0, r1⟩ := hrow k hkl
  have hi := h0.hists.2.1 _ (List.getElem_mem hkl)
  rw [e2] at hi r1
  rw [hvals_len] at r1
  rw [e1] at r0
  exact ⟨hb, ho, _, _, hA, hlt, r0, r1, hi⟩
set_option maxRecDepth 100000 in
set_option maxHeartbeats 4000000 in
theorem highs_any {w0 W : World} {t : TaskV} {G M R : Nat} {c : List Value} (hL : LawT t 2) (h0 : t.Ok w0) (hg : GmR w0 t 2 G M R c W) :
    Calls Tryz.prog 70 #[.pointer (some ⟨R, 0, none⟩)] W fun e W' => ∃ a cap, e = .returned (.tuple #[.slice a 1 cap, .int .i64 2]) ∧ Below W.heap.size W W' := by
  obtain ⟨WX, hWX⟩ : ∃ WX, WX = W.alloc (.cells #[.pointer (some ⟨R, 0, none⟩)] 107) := ⟨_, rfl⟩
  have hB : Below W.heap.size W WX := by rw [hWX]; exact (Below.refl _ _).alloc (Nat.le_refl _) _
  have hX : WX.heap[W.heap.size]? = some (.cells #[.pointer (some ⟨R, 0, none⟩)] 107 (0, 0)) := by rw [hWX]; exact blk_new rfl
  have hgX := hg.call hB
  have HB := Lib.hid hB
  have HX := Lib.hid hX
  have HG := Lib.hid hgX
  have HL := Lib.hid hL
  have H0 := Lib.hid h0
  have HW := Lib.hid hWX
  have hlR := hgX.lt
  have hlG := hgX.gm.lt
  clear hg hgX hB hX hL h0 hWX
  go_enter Tryz.func70, Tryz.ntmps70
  go_upto_region 1 with fail
  rw [← HW.out]
  have c0 : WX.cell? ⟨W.heap.size, 0, none⟩ = some (.pointer (some ⟨R, 0, none⟩)) := (cell_of_row _ _ 0 _ _ _ HX.out).trans rfl
  have c1 : WX.cell? ⟨R, 0, none⟩ = some (.pointer (some ⟨G, 0, none⟩)) := (cell_of_row _ _ 0 _ _ _ HG.out.blk).trans rfl
  have g12 := gc12 HL.out HG.out.gm
  obtain ⟨hb, ho, vA0, vC0, hA, hlt, r00, r01, hv0⟩ := HL.out.serAt H0.out (k := 0) (by omega)
  obtain ⟨hb', ho', vA1, vC1, hA', _, r10, r11, hv1⟩ := HL.out.serAt H0.out (k := 1) (by omega)
  have g6 : WX.cell? ⟨G, 6, none⟩ = some (.slice (some ⟨hb, ho, none⟩) 2 t.hC) := by
    rw [(HG.out.gm.game.cell 6 _ rfl : WX.cell? ⟨G, 6, none⟩ = some (.slice t.hA t.hists.length t.hC)), hA, HL.out.len]
  rw [hA] at hA'
  injection hA' with hA'
  injection hA' with e1 e2 _
  subst e1 e2
  have HR := Lib.hid (show _ ∧ _ ∧ _ ∧ _ ∧ _ ∧ _ from ⟨r00, r01, r10, r11, hv0, hv1⟩)
  clear r00 r01 r10 r11 hv0 hv1 hA
  go_wp2_with fail
  clear c0 c1 g12 g6
  have HWH := Lib.hid (fun (k : Nat) (hk : k ≤ 1) (vA : Option Addr) (vC : Nat) V (hV : Below WX.heap.size WX V) (hi : IntsAt V vA (hvals k)) =>
    (show Calls Tryz.prog 67 #[.slice vA 6 vC, .func (.func 81) #[] #[.pointer (some ⟨W.heap.size, 0, none⟩)]] V fun e w' => e = .returned (.int .i64 (if k = 0 then 2 else -1)) ∧ w' = V from by
      have hl6 := hvals_len k
      have h := where_any 81 #[.pointer (some ⟨W.heap.size, 0, none⟩)] (enters_of Tryz.func81 (by kernel_rfl) rfl) vA (hvals k) vC (fun x => decide (800 < hAt k x)) (fun V' => V' = V) (fun V' e => e ▸ hi)
        (fun x hx V' e => by
          subst e
          have e2 : decide (800 < (hvals k)[x]) = decide (800 < hAt k x) := by rw [hAt, List.getElem?_eq_getElem hx]; rfl
          show Calls Tryz.prog _ _ _ fun e W' => e = .returned (.bool (decide (800 < hAt k x))) ∧ W' = _
          rw [← e2]
          exact highsx_any HL.out (HG.out.call hV) (blk_below hV HX.out) x _) V rfl
      rw [hl6] at h
      have e3 : whereZ (fun x => decide (800 < hAt k x)) 6 0 = if k = 0 then 2 else -1 := by
        match k, hk with
        | 0, _ => decide
        | 1, _ => decide
      rw [e3] at h
      exact h))
  go_loopw [2, 3, 23] (fun l f i wr => Below WX.heap.size WX wr ∧ ((i = .int .i64 0 ∧ l = .slice none 0 0 ∧ f = .int .i64 6) ∨ (i = .int .i64 1 ∧ (∃ a cap, l = .slice a 1 cap) ∧ f = .int .i64 2) ∨ (i = .int .i64 2 ∧ (∃ a cap, l = .slice a 1 cap) ∧ f = .int .i64 2))) (fun _ _ i _ => (2 - intOf i).toNat)
  case atStart => exact ⟨Below.refl _ _, .inl ⟨rfl, rfl, rfl⟩⟩
  case round =>
    obtain ⟨hbr, hc⟩ := hrel
    have Hbr := Lib.hid hbr
    have hW0 : Below w0.heap.size w0 wr := HG.out.gm.below.trans (hbr.mono HG.out.gm.below.size)
    have q00 := lcell HR.out.1 hlt hW0
    have q01 := lcell HR.out.2.1 hlt hW0
    have q10 := lcell HR.out.2.2.1 hlt hW0
    have q11 := lcell HR.out.2.2.2.1 hlt hW0
    have hltw : hb < wr.heap.size := Nat.lt_of_lt_of_le hlt hW0.size
    have HV0 := Lib.hid (HR.out.2.2.2.2.1.below hW0 (Nat.le_refl _))
    have HV1 := Lib.hid (HR.out.2.2.2.2.2.below hW0 (Nat.le_refl _))
    simp only [Nat.zero_mul, Nat.one_mul, Nat.add_zero] at q00 q01 q10 q11
    clear hbr hW0
    rcases hc with ⟨rfl, rfl, rfl⟩ | ⟨rfl, ⟨a, cap, rfl⟩, rfl⟩ | ⟨rfl, ⟨a, cap, rfl⟩, rfl⟩
    · obtain ⟨W5, hW5⟩ : ∃ W5, W5 = wr.alloc (.cells #[.int .i64 10, .slice vA0 6 vC0] 106) := ⟨_, rfl⟩
      have hb5 : Below wr.heap.size wr W5 := by rw [hW5]; exact (Below.refl _ _).alloc (Nat.le_refl _) _
      have HW5 := Lib.hid hW5
      have HB5 := Lib.hid hb5
      clear hb5 hW5
      have HC := Lib.hid (HWH.out 0 (by omega) vA0 vC0 W5 (Hbr.out.trans (HB5.out.mono Hbr.out.size)) (HV0.out.below HB5.out (Nat.le_refl _)) : Calls Tryz.prog 67 #[.slice vA0 6 vC0, .func (.func 81) #[] #[.pointer (some ⟨W.heap.size, 0, none⟩)]] W5 fun e w' => e = .returned (.int .i64 2) ∧ w' = W5)
      go_wp2_with fail
      rw [← HW5.out]
      refine HC.out.mono ?_
      rintro e w5 ⟨rfl, hw⟩
      obtain rfl := hw.symm
      obtain ⟨i1, hi1, hz1, hs1, hb1⟩ := info_parts A.intInfo
      have hl5 := HB5.out.size
      go_wp2_with (at_builtin; refine wpList_append_lies _ rfl (.tmp 34) (.tmp 36) 33 rfl w0.heap.size 3 i1 _ 1 8 Tryz.underlying33 hi1 hz1 hs1 hb1 rfl (by decide) (.slice none 0 0) 0 [] rfl (World.ownsRow_nil _ _ _ _) ⟨_, 0, none⟩ 1 1 [.int .i64 0] rfl rfl (World.news_of_block (cs := #[.int .i64 0]) (t := 3) (fr := (0, 0)) (blk_new rfl)) (fun u hu => by rw [List.mem_singleton] at hu; rw [hu]; rfl) (by decide) (by unfold maxLen; omega) (by omega) (by simp; have := HG.out.gm.below.size; have := Hbr.out.size; omega) _ rfl ?_; intro gX cX wX ownX grX atX ltX; have HoX := Lib.hid ownX; have HgX := Lib.hid grX; clear ownX grX atX ltX)
      have hbA : Below WX.heap.size WX (W5.alloc (.cells #[.int .i64 0] 3)) := (Hbr.out.trans (HB5.out.mono Hbr.out.size)).alloc (by have := Hbr.out.size; omega) _
      exact ⟨⟨hbA.grown HgX.out hbA.size (fun b hb => by cases hb), .inr (.inl ⟨rfl, ⟨_, _, rfl⟩, by rfl⟩)⟩, by simp [intOf]⟩
    · obtain ⟨W5, hW5⟩ : ∃ W5, W5 = wr.alloc (.cells #[.int .i64 10, .slice vA1 6 vC1] 106) := ⟨_, rfl⟩
      have hb5 : Below wr.heap.size wr W5 := by rw [hW5]; exact (Below.refl _ _).alloc (Nat.le_refl _) _
      have HW5 := Lib.hid hW5
      have HB5 := Lib.hid hb5
      clear hb5 hW5
      have HC := Lib.hid (HWH.out 1 (by omega) vA1 vC1 W5 (Hbr.out.trans (HB5.out.mono Hbr.out.size)) (HV1.out.below HB5.out (Nat.le_refl _)) : Calls Tryz.prog 67 #[.slice vA1 6 vC1, .func (.func 81) #[] #[.pointer (some ⟨W.heap.size, 0, none⟩)]] W5 fun e w' => e = .returned (.int .i64 (-1)) ∧ w' = W5)
      go_wp2_with fail
      rw [← HW5.out]
      refine HC.out.mono ?_
      rintro e w5 ⟨rfl, hw⟩
      obtain rfl := hw.symm
      go_wp2_with fail
      exact ⟨⟨Hbr.out.trans (HB5.out.mono Hbr.out.size), .inr (.inr ⟨rfl, ⟨_, _, rfl⟩, rfl⟩)⟩, by simp [intOf]⟩
    · go_wp2_with fail
      go_ret2
      exact ⟨a, cap, rfl, HB.out.trans (Hbr.out.mono HB.out.size)⟩

set_option maxRecDepth 100000 in
set_option maxHeartbeats 4000000 in
theorem allowed_any {w0 W : World} {t : TaskV} {G M R : Nat} {c : List Value} (hL : LawT t 2) (h0 : t.Ok w0) (hg : GmR w0 t 2 G M R c W) :
    Calls Tryz.prog 37 #[.pointer (some ⟨R, 0, none⟩)] W fun e W' => e = .returned (.tuple #[.bool true, .int .i64 0]) ∧ Below W.heap.size W W' := by
  have HH := Lib.hid (highs_any hL h0 hg)
  have HG := Lib.hid hg
  have lR := hg.lt
  clear hg hL h0
  go_enter Tryz.func37, Tryz.ntmps37
  go_wp2_with fail
  refine HH.out.mono ?_
  rintro e w1 ⟨a, cap, rfl, hb1⟩
  have hb := blk_below hb1 HG.out.blk
  have c1 : w1.cell? ⟨R, 1, none⟩ = some (.int .i64 1) := (cell_of_row _ _ 1 _ _ _ hb).trans rfl
  have c2 : w1.cell? ⟨R, 2, none⟩ = some (.int .i64 3) := (cell_of_row _ _ 2 _ _ _ hb).trans rfl
  have wm : IntKind.i64.wrap (2 - 3) = -1 := by decide
  have wm2 : IntKind.i64.wrap (-1) = -1 := by decide
  have HB1 := Lib.hid hb1
  clear hb hb1
  go_wp2_with fail
  go_quiet (fail)
  go_wp2_with fail
  go_ret2
  exact ⟨by rfl, HB1.out.trans (below_drewN (Below.refl _ _) nq |>.mono HB1.out.size)⟩

set_option maxRecDepth 100000 in
set_option maxHeartbeats 4000000 in
theorem may_zero {w0 W : World} {t : TaskV} {G M R : Nat} {c : List Value} (hL : LawT t 2) (h0 : t.Ok w0) (hgf : GameFit t 10 5) (hg : GmR w0 t 2 G M R c W) :
    Calls Tryz.prog 41 #[.pointer (some ⟨R, 0, none⟩), .int .i64 0] W fun e W' => e = .returned (.bool true) ∧ Below W.heap.size W W' := by
  have HH := Lib.hid (allowed_any hL h0 hg)
  have HG := Lib.hid hg
  have lR := hg.lt
  have HGF := Lib.hid hgf
  have HL := Lib.hid hL
  clear hg hL h0 hgf
  go_enter Tryz.func41, Tryz.ntmps41
  go_wp2_with fail
  refine HH.out.mono ?_
  rintro e w1 ⟨rfl, hb1⟩
  have hg1 := HG.out.call hb1
  have c1 : w1.cell? ⟨R, 0, none⟩ = some (.pointer (some ⟨G, 0, none⟩)) := (cell_of_row _ _ 0 _ _ _ hg1.blk).trans rfl
  have o1 : outB 0 0 4 = false := by decide
  have HLA := Lib.hid (by
    have h := last_any hg1.gm.game HGF.out
    have e : (t.river.length : Int) - 1 - t.delay = 4 := by rw [HL.out.river, HL.out.delay]; rfl
    rw [e] at h
    exact h : Calls Tryz.prog 19 #[.pointer (some ⟨G, 0, none⟩)] w1 fun e W' => e = .returned (.int .i64 4) ∧ Below w1.heap.size w1 W')
  have HB1 := Lib.hid hb1
  clear hg1 hb1
  go_wp2_with (first | (go_at_call 19; (with_reducible refine HLA.out.mono ?_); rintro e w2 ⟨rfl, hb2⟩; have HB2 := Lib.hid hb2; clear hb2) | (go_at_call 18; (with_reducible refine (cout_eq o1 _).mono ?_); rintro e w' ⟨rfl, rfl⟩))
  go_ret
  exact ⟨rfl, HB1.out.trans (HB2.out.mono HB1.out.size)⟩
end Go.Proofs.YtgfdindlihfidaaGreat

/-
  closure.witness at the closed task.
-/
namespace Go.Proofs.YtgfdindlihfidaaGreat
open Go.RowKit Go.Shelf Go.Sort
set_option linter.unusedSimpArgs false
set_option linter.unusedVariables false
attribute [local go_sem high] run_min_z run_max_z
attribute [local go_sem ↓] run_min_z run_max_z

/-- A game with rules that knows j runs at least, behind some world. -/
structure GmQ (w0 : World) (t : TaskV) (n G M R j : Nat) (w W : World) : Prop where
  st : ∃ c, j ≤ c.length ∧ GmR w0 t n G M R c W
  grown : w.grownBy W (some M)
theorem GmQ.call {w0 w W W' : World} {t : TaskV} {n G M R j : Nat} (h : GmQ w0 t n G M R j w W) (hb : Below W.heap.size W W') : GmQ w0 t n G M R j w W' := let ⟨⟨c, hc, hg⟩, hr⟩ := h; ⟨⟨c, hc, hg.call hb⟩, grown_trans hr (grown_of_below hb)⟩
theorem GmQ.drew {w0 w W : World} {t : TaskV} {n G M R j : Nat} (h : GmQ w0 t n G M R j w W) : GmQ w0 t n G M R j w W.drew := h.call (Below.refl _ _).drew
theorem GmQ.gmj {w0 w W W' : World} {t : TaskV} {n G M R j i : Nat} (h : GmQ w0 t n G M R j w W) (hg : GmJ w0 t n G M i W W') : GmQ w0 t n G M R i w W' := let ⟨⟨c, hc, hr⟩, hw⟩ := h; ⟨hr.gmj hg, grown_trans hw hg.grown⟩
theorem GmQ.le {w0 w W : World} {t : TaskV} {n G M R j i : Nat} (h : GmQ w0 t n G M R j w W) (hi : i ≤ j) : GmQ w0 t n G M R i w W := let ⟨⟨c, hc, hr⟩, hw⟩ := h; ⟨⟨c, by omega, hr⟩, hw⟩
theorem GmQ.then {w0 w W W' : World} {t : TaskV} {n G M R j i : Nat} (h : GmQ w0 t n G M R j w W) (g : GmQ w0 t n G M R i W W') : GmQ w0 t n G M R i w W' := ⟨g.st, grown_trans h.grown g.grown⟩
theorem GmQ.gst {w0 w W : World} {t : TaskV} {n G M R j : Nat} (h : GmQ w0 t n G M R j w W) : ∃ c, j ≤ c.length ∧ GmS w0 t n G M c W := let ⟨⟨c, hc, hr⟩, _⟩ := h; ⟨c, hc, hr.gm⟩
theorem GmQ.ptr {w0 w W : World} {t : TaskV} {n G M R j : Nat} (h : GmQ w0 t n G M R j w W) : W.cell? ⟨R, 0, none⟩ = some (.pointer (some ⟨G, 0, none⟩)) := let ⟨⟨c, hc, hr⟩, _⟩ := h; (cell_of_row _ _ 0 _ _ _ hr.blk).trans rfl
theorem GmQ.len {w0 w W : World} {t : TaskV} {G M R j : Nat} (hL : LawT t 2) (h : GmQ w0 t 2 G M R j w W) : ∃ a, W.cell? ⟨G, 6, none⟩ = some (.slice a 2 t.hC) := by
  obtain ⟨⟨c, hc, hr⟩, _⟩ := h
  refine ⟨t.hA, ?_⟩
  rw [(hr.gm.game.cell 6 _ rfl : W.cell? ⟨G, 6, none⟩ = some (.slice t.hA t.hists.length t.hC)), hL.len]
theorem GmQ.lt {w0 w W : World} {t : TaskV} {n G M R j : Nat} (h : GmQ w0 t n G M R j w W) : R < W.heap.size ∧ G < W.heap.size ∧ M < W.heap.size := let ⟨⟨c, hc, hr⟩, _⟩ := h; ⟨hr.lt, hr.gm.lt⟩
theorem GmQ.set {w0 w W : World} {t : TaskV} {n G M R j : Nat} (h : GmQ w0 t n G M R j w W) {X i : Nat} {cs : Array Value} {ty : TypeId} (hX : W.heap[X]? = some (.cells cs ty (0, 0))) (hty : ty ≠ 3) (h0 : w0.heap.size ≤ X) (hG : G ≠ X) (hR : R ≠ X) (v : Value) : ∃ c, j ≤ c.length ∧ GmR w0 t n G M R c (W.setCell ⟨X, i, none⟩ v) :=
  let ⟨⟨c, hc, hr⟩, _⟩ := h
  ⟨c, hc, hr.gm.set hX hty h0 hG v, blk_set_other hR hr.blk, hr.gR⟩
theorem plan_law {w0 V : World} {t : TaskV} {n G M : Nat} {c : List Value} (hL : LawT t n) (hgf : GameFit t 10 5) (hg : GmS w0 t n G M c V) (x : Int) (hx : -1000 ≤ x ∧ x ≤ 1000) :
    Calls Tryz.prog 20 #[.pointer (some ⟨G, 0, none⟩), .int .i64 x] V fun e w'' => e = .returned (plV (10 + x) (10 + max 5 (x + 1 + 1))) ∧ Below V.heap.size V w'' := by
  have h := plan_any hg.game hgf x hx
  rw [hL.delay] at h
  exact h

set_option maxRecDepth 100000 in
set_option maxHeartbeats 4000000 in
theorem witness_late {w0 W : World} {t : TaskV} {G M R : Nat} (hL : LawT t 2) (h0 : t.Ok w0) (hgf : GameFit t 10 5) (hg : GmQ w0 t 2 G M R 0 W W) (x : Nat) (hx : 1 ≤ x ∧ x ≤ 4) :
    Calls Tryz.prog 40 #[.pointer (some ⟨R, 0, none⟩), .int .i64 x] W fun e W' => e = .returned (.tuple #[.agg #[.int .i64 0, .int .i64 12], .bool true]) ∧ GmQ w0 t 2 G M R 0 W W' := by
  have hlt := hg.lt
  have hw0 : w0.heap.size ≤ W.heap.size := let ⟨c, _, hc⟩ := hg.gst; hc.below.size
  obtain ⟨WX, hWX⟩ : ∃ WX, WX = W.alloc (.cells #[.int .i64 0, .int .i64 0] 117) := ⟨_, rfl⟩
  have hB : Below W.heap.size W WX := by rw [hWX]; exact (Below.refl _ _).alloc (Nat.le_refl _) _
  have hX : WX.heap[W.heap.size]? = some (.cells #[.int .i64 0, .int .i64 0] 117 (0, 0)) := by rw [hWX]; exact blk_new rfl
  have HG := Lib.hid (show GmQ w0 t 2 G M R 0 WX WX from ⟨(hg.call hB).st, grown_of_below (Below.refl _ _)⟩)
  have HX := Lib.hid hX
  have HW := Lib.hid hWX
  have HB := Lib.hid hB
  have HL := Lib.hid hL
  have hlX := (Array.getElem?_eq_some_iff.1 hX).1
  have hpf : PlanFit (10 + (x : Int)) (10 + max 5 ((x : Int) + 1 + 1)) ((x : Int) + 1) (max 5 ((x : Int) + 1 + 1)) := ⟨by omega, by omega, by omega, by omega⟩
  have HPL := Lib.hid (fun V (hV : GmQ w0 t 2 G M R 0 WX V) => (let ⟨c, _, hc⟩ := hV.gst; plan_law hL hgf hc (x : Int) (by omega)))
  have HFA := Lib.hid (fun V (hV : GmQ w0 t 2 G M R 0 WX V) => (show Calls Tryz.prog 34 #[.pointer (some ⟨G, 0, none⟩), .int .i64 0, plV (10 + (x : Int)) (10 + max 5 ((x : Int) + 1 + 1))] V fun e w'' => e = .returned (.int .i64 2) ∧ GmJ w0 t 2 G M 0 V w'' from fails_two (j := 0) hL h0 hV.gst hpf (by omega)))
  obtain ⟨aa, haa⟩ : ∃ aa, aa = 10 + (x : Int) := ⟨_, rfl⟩
  obtain ⟨oo, hoo⟩ : ∃ oo, oo = 10 + max 5 ((x : Int) + 1 + 1) := ⟨_, rfl⟩
  rw [← haa, ← hoo] at HPL HFA
  clear hpf haa hoo hg hB hX hWX hL h0
  go_enter Tryz.func40, Tryz.ntmps40
  go_upto_region 1 with fail
  rw [← HW.out]
  have r0 := HG.out.ptr
  obtain ⟨ha, g6⟩ := HG.out.len HL.out
  go_wp2_with fail
  clear r0 g6
  go_loopw [17] (fun i wr => i = .int .i64 0 ∧ GmQ w0 t 2 G M R 0 WX wr) (fun _ _ => 0)
  case atStart => exact ⟨rfl, HG.out⟩
  case round =>
    obtain ⟨rfl, hq⟩ := hrel
    have S0 := hq
    have fr : ∀ V, GmQ w0 t 2 G M R 0 WX V → V.cell? ⟨R, 0, none⟩ = some (.pointer (some ⟨G, 0, none⟩)) := fun V h => h.ptr
    go_wp2_with fail
    go_region_held3 (fun V => GmQ w0 t 2 G M R 0 WX V)
      (first
        | with_reducible assumption
        | with_reducible exact GmQ.drew S0)
      (first
        | (go_at_call 20; (with_reducible refine (HPL.out _ (by assumption)).mono ?_); rintro e w' ⟨rfl, hbB⟩; have tB := GmQ.call (by assumption) hbB)
        | (go_at_call 34; (with_reducible refine (HFA.out _ (by assumption)).mono ?_); rintro e w2 ⟨rfl, hgj⟩; have tC := GmQ.gmj (by assumption) hgj))
    all_goals
      have hY := (tC.grown.block _ hlX (fun e => by injection e with e; omega)).trans HX.out
      have r0 := tC.ptr
      have g11 : w2.cell? ⟨G, 11, none⟩ = some (.int .i64 10) := let ⟨c, _, hc⟩ := tC.gst; gc11 hc
      have s0 : w2.cell? ⟨W.heap.size, 0, none⟩ = some (.int .i64 0) := (cell_of_row _ _ 0 _ _ _ hY).trans rfl
      have s1 : w2.cell? ⟨W.heap.size, 1, none⟩ = some (.int .i64 0) := (cell_of_row _ _ 1 _ _ _ hY).trans rfl
      have q0 := frozen_of_row _ _ 0 _ _ hY
      have q1 := frozen_of_row _ _ 1 _ _ hY
      have l1 := (Array.getElem?_eq_some_iff.1 hY).1
      have HT := Lib.hid tC
      have HY := Lib.hid hY
      clear tC hY hgj tB hbB
      go_wp2_with fail
      refine bodyPost_ret (v := .tuple #[.agg #[.int .i64 0, .int .i64 12], .bool true]) (by simp [results, Tryz.results40, go_sem, *]) rfl ⟨rfl, ?_⟩
      have hq1 : ∃ c, 0 ≤ c.length ∧ GmR w0 t 2 G M R c (w2.setCell ⟨W.heap.size, 0, none⟩ (.int .i64 0)) := HT.out.set (i := 0) HY.out (by decide) (by omega) (by omega) (by omega) (.int .i64 0)
      have hY1 : (w2.setCell ⟨W.heap.size, 0, none⟩ (.int .i64 0)).heap[W.heap.size]? = some (.cells #[.int .i64 0, .int .i64 0] 117 (0, 0)) := heap_setCell_same _ _ 0 _ _ _ HY.out
      have hq2 : ∃ c, 0 ≤ c.length ∧ GmR w0 t 2 G M R c ((w2.setCell ⟨W.heap.size, 0, none⟩ (.int .i64 0)).setCell ⟨W.heap.size, 1, none⟩ (.int .i64 12)) := (GmQ.mk hq1 (grown_of_below (Below.refl _ _)) : GmQ w0 t 2 G M R 0 (w2.setCell ⟨W.heap.size, 0, none⟩ (.int .i64 0)) _).set (i := 1) hY1 (by decide) (by omega) (by omega) (by omega) (.int .i64 12)
      exact ⟨hq2, grown_set (grown_set (grown_trans (grown_of_below HB.out) HT.out.grown) (by omega)) (by omega)⟩

set_option maxRecDepth 100000 in
set_option maxHeartbeats 4000000 in
theorem witness_zero {w0 W : World} {t : TaskV} {G M R : Nat} (hL : LawT t 2) (h0 : t.Ok w0) (hgf : GameFit t 10 5) (hg : GmQ w0 t 2 G M R 0 W W) :
    Calls Tryz.prog 40 #[.pointer (some ⟨R, 0, none⟩), .int .i64 0] W fun e W' => e = .returned (.tuple #[.agg #[.int .i64 0, .int .i64 0], .bool false]) ∧ GmQ w0 t 2 G M R 2 W W' := by
  have hlt := hg.lt
  have hw0 : w0.heap.size ≤ W.heap.size := let ⟨c, _, hc⟩ := hg.gst; hc.below.size
  obtain ⟨WX, hWX⟩ : ∃ WX, WX = W.alloc (.cells #[.int .i64 0, .int .i64 0] 117) := ⟨_, rfl⟩
  have hB : Below W.heap.size W WX := by rw [hWX]; exact (Below.refl _ _).alloc (Nat.le_refl _) _
  have hX : WX.heap[W.heap.size]? = some (.cells #[.int .i64 0, .int .i64 0] 117 (0, 0)) := by rw [hWX]; exact blk_new rfl
  have HG := Lib.hid (show GmQ w0 t 2 G M R 0 WX WX from ⟨(hg.call hB).st, grown_of_below (Below.refl _ _)⟩)
  have HX := Lib.hid hX
  have HW := Lib.hid hWX
  have HB := Lib.hid hB
  have HL := Lib.hid hL
  have hlX := (Array.getElem?_eq_some_iff.1 hX).1
  have HPL := Lib.hid (fun k V (hV : GmQ w0 t 2 G M R k WX V) => (show Calls Tryz.prog 20 #[.pointer (some ⟨G, 0, none⟩), .int .i64 0] V fun e w'' => e = .returned (plV 10 15) ∧ Below V.heap.size V w'' from (let ⟨c, _, hc⟩ := hV.gst; plan_law hL hgf hc 0 (by omega))))
  have HFA := Lib.hid (fun k (hk : k < 2) V (hV : GmQ w0 t 2 G M R k WX V) => fails_holds (k := k) hL h0 hk hV.gst)
  clear hg hB hX hWX hL h0
  go_enter Tryz.func40, Tryz.ntmps40
  go_upto_region 1 with fail
  rw [← HW.out]
  have r0 := HG.out.ptr
  obtain ⟨ha, g6⟩ := HG.out.len HL.out
  go_wp2_with fail
  clear r0 g6
  go_loopw [17] (fun i wr => ∃ k : Nat, k ≤ 2 ∧ i = .int .i64 (k : Int) ∧ GmQ w0 t 2 G M R k WX wr) (fun i _ => (2 - intOf i).toNat)
  case atStart => exact ⟨0, by omega, rfl, HG.out⟩
  case round =>
    obtain ⟨k, hk, rfl, hq⟩ := hrel
    by_cases hlt2 : k < 2
    · have S0 := hq
      have fr : ∀ V, GmQ w0 t 2 G M R k WX V → V.cell? ⟨R, 0, none⟩ = some (.pointer (some ⟨G, 0, none⟩)) := fun V h => h.ptr
      have hd : decide ((k : Int) < 2) = true := by simp; omega
      go_wp2_with fail
      go_region_held3 (fun V => GmQ w0 t 2 G M R k WX V)
        (first
          | with_reducible assumption
          | with_reducible exact GmQ.drew S0
          | exact GmQ.le tC (by omega))
        (first
          | (go_at_call 20; (with_reducible refine (HPL.out _ _ (by assumption)).mono ?_); rintro e w' ⟨rfl, hbB⟩; have tB := GmQ.call (by assumption) hbB)
          | (go_at_call 34; (with_reducible refine (HFA.out k hlt2 _ (by assumption)).mono ?_); rintro e w2 ⟨rfl, hgj⟩; have tC := GmQ.gmj (by assumption) hgj))
      all_goals
        have HT := Lib.hid tC
        clear tC hgj tB hbB hq S0 fr
        go_wp2_with fail
        go_roundw
        case rel => first | exact ⟨k + 1, by omega, by go_num, HT.out⟩ | ((repeat apply Exists.intro); exact ⟨⟨k + 1, by omega, by go_num, HT.out⟩, rfl⟩)
        case measure => simp [intOf]; omega
    · obtain rfl : k = 2 := by omega
      have hY := (hq.grown.block _ hlX (fun e => by injection e with e; omega)).trans HX.out
      have s0 : wr.cell? ⟨W.heap.size, 0, none⟩ = some (.int .i64 0) := (cell_of_row _ _ 0 _ _ _ hY).trans rfl
      have s1 : wr.cell? ⟨W.heap.size, 1, none⟩ = some (.int .i64 0) := (cell_of_row _ _ 1 _ _ _ hY).trans rfl
      have q0 := frozen_of_row _ _ 0 _ _ hY
      have q1 := frozen_of_row _ _ 1 _ _ hY
      have l1 := (Array.getElem?_eq_some_iff.1 hY).1
      have HT := Lib.hid hq
      have HY := Lib.hid hY
      clear hq hY
      go_wp2_with fail
      refine bodyPost_ret (v := .tuple #[.agg #[.int .i64 0, .int .i64 0], .bool false]) (by simp [results, Tryz.results40, go_sem, *]) rfl ⟨rfl, ?_⟩
      have hq1 : ∃ c, 2 ≤ c.length ∧ GmR w0 t 2 G M R c (wr.setCell ⟨W.heap.size, 0, none⟩ (.int .i64 0)) := HT.out.set (i := 0) HY.out (by decide) (by omega) (by omega) (by omega) (.int .i64 0)
      have hY1 : (wr.setCell ⟨W.heap.size, 0, none⟩ (.int .i64 0)).heap[W.heap.size]? = some (.cells #[.int .i64 0, .int .i64 0] 117 (0, 0)) := heap_setCell_same _ _ 0 _ _ _ HY.out
      have hq2 : ∃ c, 2 ≤ c.length ∧ GmR w0 t 2 G M R c ((wr.setCell ⟨W.heap.size, 0, none⟩ (.int .i64 0)).setCell ⟨W.heap.size, 1, none⟩ (.int .i64 0)) := (GmQ.mk hq1 (grown_of_below (Below.refl _ _)) : GmQ w0 t 2 G M R 2 (wr.setCell ⟨W.heap.size, 0, none⟩ (.int .i64 0)) _).set (i := 1) hY1 (by decide) (by omega) (by omega) (by omega) (.int .i64 0)
      exact ⟨hq2, grown_set (grown_set (grown_trans (grown_of_below HB.out) HT.out.grown) (by omega)) (by omega)⟩
end Go.Proofs.YtgfdindlihfidaaGreat

/-
  closure.peak, peaks at the closed task, with the plan that holds.
-/
namespace Go.Proofs.YtgfdindlihfidaaGreat
open Go.RowKit Go.Shelf Go.Sort
set_option linter.unusedSimpArgs false
set_option linter.unusedVariables false
attribute [local go_sem high] run_min_z run_max_z
attribute [local go_sem ↓] run_min_z run_max_z

/-- What inside hands back at the plan that holds. -/
theorem inside_peak {w0 W : World} {t : TaskV} {G M k : Nat} (hL : LawT t 2) (h0 : t.Ok w0) (hk : k < 2) (hg : ∃ c, 2 ≤ c.length ∧ GmS w0 t 2 G M c W) (x : Nat) (hx : x < 6) :
    ∃ lo hi : Int, Calls Tryz.prog 80 #[.pointer (some ⟨G, 0, none⟩), .int .i64 k, plV 10 15, .int .i64 x] W fun e W' => e = .returned (.tuple #[.agg #[.int .i64 lo, .int .i64 hi], .bool true]) ∧ GmJ w0 t 2 G M 2 W W' := by
  obtain ⟨c, hc, hgs⟩ := hg
  have hp : PlanFit 10 15 1 5 := ⟨by omega, by omega, by omega, by omega⟩
  by_cases hx1 : x ≤ 1 ∨ x = 5
  · exact ⟨_, _, (inside_out hL h0 hk hgs hp x hx (by omega)).mono fun e W' h => ⟨h.1, ⟨c, hc, hgs.call h.2⟩, grown_of_below h.2⟩⟩
  · have h := inside_runJ (j := 2) hL h0 hk ⟨c, ⟨hc, by omega⟩, hgs⟩ hp x (by omega)
    rw [show max 2 (k + 1) = 2 by omega] at h
    exact ⟨_, _, h⟩
theorem run_peak {w0 W : World} {t : TaskV} {G M k : Nat} (hL : LawT t 2) (h0 : t.Ok w0) (hk : k < 2) (hg : ∃ c, 2 ≤ c.length ∧ GmS w0 t 2 G M c W) :
    Calls Tryz.prog 83 #[.pointer (some ⟨G, 0, none⟩), keyV k 1] W fun e W' => ∃ v, e = .returned v ∧ W'.ownsRow w0.heap.size 3 1 v 5 (volsV k) ∧ GmJ w0 t 2 G M 2 W W' := by
  obtain ⟨c, hc, hgs⟩ := hg
  have h := run_any (j := 2) hL h0 hk ⟨c, ⟨hc, by omega⟩, hgs⟩
  rw [show max 2 (k + 1) = 2 by omega] at h
  exact h
/-- Whether the gates are open at an index. -/
def openB (x : Nat) : Bool := decide (x ≤ 1 ∨ 5 ≤ x)
set_option maxRecDepth 100000 in
set_option maxHeartbeats 4000000 in
theorem openx_any {w0 w W : World} {t : TaskV} {n G M R j p0 p1 p2 : Nat} (hq : GmQ w0 t n G M R j w W) (h0 : W.heap[p0]? = some (.cells #[.int .i64 10, .int .i64 15] 42 (0, 0))) (h1 : W.heap[p1]? = some (.cells #[.int .i64 1] 3 (0, 0))) (h2 : W.heap[p2]? = some (.cells #[.pointer (some ⟨R, 0, none⟩)] 107 (0, 0))) (x : Nat) :
    Calls Tryz.prog 82 #[.int .i64 x, .pointer (some ⟨p0, 0, none⟩), .pointer (some ⟨p1, 0, none⟩), .pointer (some ⟨p2, 0, none⟩)] W fun e W' => e = .returned (.bool (openB x)) ∧ Below W.heap.size W W' := by
  have c0 : W.cell? ⟨p0, 0, none⟩ = some (.int .i64 10) := (cell_of_row _ _ 0 _ _ _ h0).trans rfl
  have c1 : W.cell? ⟨p0, 1, none⟩ = some (.int .i64 15) := (cell_of_row _ _ 1 _ _ _ h0).trans rfl
  have c2 : W.cell? ⟨p1, 0, none⟩ = some (.int .i64 1) := (cell_of_row _ _ 0 _ _ _ h1).trans rfl
  have c3 : W.cell? ⟨p2, 0, none⟩ = some (.pointer (some ⟨R, 0, none⟩)) := (cell_of_row _ _ 0 _ _ _ h2).trans rfl
  have c4 := hq.ptr
  have c5 : W.cell? ⟨G, 11, none⟩ = some (.int .i64 10) := let ⟨c, _, hc⟩ := hq.gst; gc11 hc
  have z0 := cell_regrown c0
  have z1 := cell_regrown c1
  have z2 := cell_regrown c2
  have z3 := cell_regrown c3
  have z4 := cell_regrown c4
  have z5 := cell_regrown c5
  have heq := fun V => run_ispl (a := 10) (o := 15) (by omega) V
  have cN := Lib.hid (fun d os => Calls.regrown_of (never_any (grow (redrawn W d) os)))
  have wo : IntKind.i64.wrap (15 - 10) = 5 := by decide
  have wo2 : IntKind.i64.wrap 5 = 5 := by decide
  unfold openB
  clear c0 c1 c2 c3 c4 c5 h0 h1 h2 hq
  by_cases h1 : x ≤ 1
  · have d1 : decide ((x : Int) ≤ 1) = true := decide_eq_true (by omega)
    have hb : decide (x ≤ 1 ∨ 5 ≤ x) = true := decide_eq_true (by omega)
    rw [hb]
    clear h1 hb
    go_enter Tryz.func82, Tryz.ntmps82
    go_wp2_with fail
    refine wp_region_quiet_below (by kernel_rfl) (by kernel_rfl) ?_
    repeat (first | go_big_quiet_skip | (quiet_step (first | with_reducible exact cN.out _ _)))
    refine wpQuiet_nil ?_
    rintro _ ⟨⟨dq, osq⟩, rfl⟩
    go_wp2_with fail
    go_ret
    exact ⟨rfl, below_regrown W dq osq⟩
  · have d1 : decide ((x : Int) ≤ 1) = false := decide_eq_false (by omega)
    have d2 : decide ((x : Int) ≥ 5) = decide (x ≤ 1 ∨ 5 ≤ x) := by by_cases h5 : 5 ≤ x <;> simp [h1, h5] <;> omega
    have d3 : decide (5 ≤ (x : Int)) = decide (x ≤ 1 ∨ 5 ≤ x) := d2
    obtain ⟨ob, hob⟩ : ∃ ob, ob = decide (x ≤ 1 ∨ 5 ≤ x) := ⟨_, rfl⟩
    rw [← hob] at d2 d3 ⊢
    clear h1 hob
    cases ob with
    | true =>
      go_enter Tryz.func82, Tryz.ntmps82
      go_wp2_with fail
      refine wp_region_quiet_below (by kernel_rfl) (by kernel_rfl) ?_
      repeat (first | go_big_quiet_skip | (quiet_step (first | with_reducible exact cN.out _ _)))
      refine wpQuiet_nil ?_
      rintro _ ⟨⟨dq, osq⟩, rfl⟩
      go_wp2_with fail
      go_ret
      exact ⟨rfl, below_regrown W dq osq⟩
    | false =>
      go_enter Tryz.func82, Tryz.ntmps82
      go_wp2_with fail
      refine wp_region_quiet_below (by kernel_rfl) (by kernel_rfl) ?_
      repeat (first | go_big_quiet_skip | (quiet_step (first | with_reducible exact cN.out _ _)))
      refine wpQuiet_nil ?_
      rintro _ ⟨⟨dq, osq⟩, rfl⟩
      go_wp2_with fail
      go_ret
      exact ⟨rfl, below_regrown W dq osq⟩
end Go.Proofs.YtgfdindlihfidaaGreat
