/-
  closure.run on a game of the closed task, the gates shutting at index 1: where the run is not in the cache.
-/
import Derived.Test.YtgfdindlihfidaaGreatCn
import Derived.Test.YtgfdindlihfidaaGreatZk
import Derived.Test.YtgfdindlihfidaaGreatAp
namespace Go.Proofs.YtgfdindlihfidaaGreat
open Go.RowKit Go.Shelf Go.Sort
set_option linter.unusedSimpArgs false
set_option linter.unusedVariables false
attribute [local go_sem high] run_min_z run_max_z
attribute [local go_sem ↓] run_min_z run_max_z

theorem blk_pair {W : World} {P : Nat} {x0 x1 a0 a1 : Value} {t : TypeId} (hP : W.heap[P]? = some (.cells #[x0, x1] t (0, 0))) : ((W.setCell ⟨P, 0, none⟩ a0).setCell ⟨P, 1, none⟩ a1).heap[P]? = some (.cells #[a0, a1] t (0, 0)) := by
  have h1 : (W.setCell ⟨P, 0, none⟩ a0).heap[P]? = some (.cells #[a0, x1] t (0, 0)) := heap_setCell_same _ P 0 _ _ _ hP
  exact heap_setCell_same _ P 1 _ _ _ h1
theorem own_other {W W' : World} {B n : Nat} {v : Value} {xs : List Value} (h : W.ownsRow B 3 1 v n xs) (hg : W.grownBy W' v.ownBlock) {X : Nat} {cs : Array Value} {ty : TypeId} (hX : W.heap[X]? = some (.cells cs ty (0, 0))) (hty : ty ≠ 3) : W'.heap[X]? = some (.cells cs ty (0, 0)) := by
  refine (hg.block X (Array.getElem?_eq_some_iff.1 hX).1 (fun e => ?_)).trans hX
  rcases h.2 with ⟨rfl, _⟩ | ⟨g, cap, cur, rfl, _, hc, _⟩
  · cases e
  · have e2 : X = g := by simpa [Value.ownBlock] using e
    subst e2
    rw [hX] at hc
    injection hc with hc
    injection hc with _ hc
    exact hty hc
theorem below_own {W W' w : World} {B n : Nat} {v : Value} {xs : List Value} (hb : Below B w W) (hB : B ≤ W.heap.size) (h : W.ownsRow B 3 1 v n xs) (hg : W.grownBy W' v.ownBlock) : Below B w W' :=
  hb.trans ⟨hg.os, hg.tape, hg.output, hg.size, fun k hk => hg.block k (by omega) (fun e => by have := (h.lt k e.symm).1; omega)⟩
theorem own_ne {W : World} {B n : Nat} {v : Value} {xs : List Value} (h : W.ownsRow B 3 1 v n xs) {X : Nat} {cs : Array Value} {ty : TypeId} (hX : W.heap[X]? = some (.cells cs ty (0, 0))) (hty : ty ≠ 3) : v.ownBlock = none ∨ v.ownBlock ≠ some X := by
  rcases h.2 with ⟨rfl, _⟩ | ⟨g, cap, cur, rfl, _, hc, _⟩
  · exact .inl rfl
  · refine .inr (fun e => ?_)
    have e2 : g = X := by simpa [Value.ownBlock] using e
    subst e2
    rw [hX] at hc
    injection hc with hc
    injection hc with _ hc
    exact hty hc
theorem grown_setCell (W : World) (b o : Nat) (v : Value) : W.grownBy (W.setCell ⟨b, o, none⟩ v) (some b) := by
  have h : Below 0 W (W.setCell ⟨b, o, none⟩ v) := bset (Below.refl _ _) (Nat.zero_le _)
  exact ⟨h.os, h.tape, h.output, h.size, fun k _ hk => Below.heap_setCell _ _ _ _ (by exact fun e => hk (by rw [e]))⟩
theorem vols_take {k m : Nat} (hm : m < 5) : (volsV k).take (m + 1) = (volsV k).take m ++ [.int .i64 (vAt k m)] := by
  match k, m, hm with
  | 0, 0, _ | 0, 1, _ | 0, 2, _ | 0, 3, _ | 0, 4, _ => rfl
  | _ + 1, 0, _ | _ + 1, 1, _ | _ + 1, 2, _ | _ + 1, 3, _ | _ + 1, 4, _ => rfl
/-- The loop of run, behind j steps: P the size of memory ahead of it; the state's variable at P + 1; the list of volumes l. -/
structure RnW (w4 : World) (P k j : Nat) (l : Value) (W : World) : Prop where
  below : Below P w4 W
  st : W.heap[P + 1]? = some (.cells #[.int .i64 (vAt k j), .slice none 0 0] 168 (0, 0))
  own : W.ownsRow P 3 1 l (j + 1) ((volsV k).take (j + 1))
theorem RnW.new {w4 : World} {P k : Nat} (h : P = w4.heap.size) : RnW w4 P k 0 (.slice (some ⟨P, 0, none⟩) 1 1) ((w4.alloc (.cells #[.int .i64 (vAt k 0)] 3)).alloc (.cells #[.int .i64 (vAt k 0), .slice none 0 0] 168)) := by
  subst h
  refine ⟨((Below.refl _ _).alloc (Nat.le_refl _) _).alloc (by simp) _, blk_new (by simp), ?_⟩
  have e : (volsV k).take (0 + 1) = [.int .i64 (vAt k 0)] := by
    match k with
    | 0 => rfl
    | _ + 1 => rfl
  rw [e]
  refine World.ownsRow.alloc ⟨rfl, .inr ⟨w4.heap.size, 1, #[.int .i64 (vAt k 0)], rfl, Nat.le_refl _, blk_new rfl, Nat.le_refl _, by unfold maxLen; omega, rfl, rfl⟩⟩ _
theorem RnW.lt {w4 W : World} {P k j : Nat} {l : Value} (h : RnW w4 P k j l W) : P + 1 < W.heap.size := (Array.getElem?_eq_some_iff.1 h.st).1

set_option maxRecDepth 100000 in
set_option maxHeartbeats 4000000 in
theorem run_miss {w0 W : World} {t : TaskV} {n G M : Nat} {c : List Value} (hL : LawT t n) (h0 : t.Ok w0) (hg : GmS w0 t n G M c W) (hn : n ≤ 2) (hc : c.length < n) :
    Calls Tryz.prog 83 #[.pointer (some ⟨G, 0, none⟩), keyV c.length 1] W fun e W' => ∃ v, e = .returned v ∧ GmS w0 t n G M (c ++ [v]) W' ∧ W.grownBy W' (some M) := by
  obtain ⟨k, hk⟩ : ∃ k, k = c.length := ⟨_, rfl⟩
  obtain ⟨hb, ho, vb, vo, vC, rb, ro, ub, uo, hm⟩ := hL.mem h0 (k := k) (by omega)
  have hlt := hg.lt
  have hsz := hg.below.size
  have hB := (Below.refl W.heap.size W).alloc (Nat.le_refl _) (.cells #[.int .i64 (k : Int), .int .i64 1] 161)
  have hg1 := hg.call hB
  have c14 : (W.alloc (.cells #[.int .i64 (k : Int), .int .i64 1] 161)).cell? ⟨G, 14, none⟩ = some (.map (some M)) := gc14 hg1
  have hlk : ∀ m, (Instr.lookup 80 (.map (some M)) (keyV k 1) true).run Tryz.prog ((W.alloc (.cells #[.int .i64 (k : Int), .int .i64 1] 161)).drewN m) = .ok (.tuple #[.slice none 0 0, .bool false]) ((W.alloc (.cells #[.int .i64 (k : Int), .int .i64 1] 161)).drewN m) := fun m => by
    have h := run_look (W := ((W.alloc (.cells #[.int .i64 (k : Int), .int .i64 1] 161)).drewN m)) (M := M) (c := c) hg1.mp k (by omega) (by omega) (by omega)
    rw [h, List.getElem?_eq_none (by omega)]
    simp [hk]
  have HX := Lib.hid (show (W.alloc (.cells #[.int .i64 (k : Int), .int .i64 1] 161)).heap[W.heap.size]? = some (.cells #[.int .i64 (k : Int), .int .i64 1] 161 (0, 0)) from blk_new rfl)
  have HB := Lib.hid hB
  have HG1 := Lib.hid hg1
  have HL := Lib.hid hL
  have HM := Lib.hid hm
  have H0 := Lib.hid h0
  have Hk := Lib.hid hk
  rw [← hk]
  clear hg hg1 hB hL hm h0 hk
  go_enter Tryz.func83, Tryz.ntmps83
  go_wp2_with fail
  go_quiet (fail)
  clear hlk c14
  have hb2 : Below W.heap.size W ((W.alloc (.cells #[.int .i64 (k : Int), .int .i64 1] 161)).drewN nq) := below_drewN HB.out nq
  have hX2 : ((W.alloc (.cells #[.int .i64 (k : Int), .int .i64 1] 161)).drewN nq).heap[W.heap.size]? = some (.cells #[.int .i64 (k : Int), .int .i64 1] 161 (0, 0)) := HX.out
  have hg2 : GmS w0 t n G M c ((W.alloc (.cells #[.int .i64 (k : Int), .int .i64 1] 161)).drewN nq) := HG1.out.call (below_drewN (Below.refl _ _) nq)
  clear HB HG1 HX
  go_upto_region 4 with fail
  generalize (W.alloc (.cells #[.int .i64 (k : Int), .int .i64 1] 161)).drewN nq = W2 at hb2 hX2 hg2 ⊢
  have x0 : W2.cell? ⟨W.heap.size, 0, none⟩ = some (.int .i64 (k : Int)) := (cell_of_row _ _ 0 _ _ _ hX2).trans rfl
  have x1 : W2.cell? ⟨W.heap.size, 1, none⟩ = some (.int .i64 1) := (cell_of_row _ _ 1 _ _ _ hX2).trans rfl
  have g6 := gc6 HL.out HM.out hg2
  have hrow := lcell HM.out.row HM.out.lt.1 hg2.below
  have i1 : (0 : Int) ≤ (k : Int) := by omega
  have i2 : (k : Int) < (n : Int) := by have := Hk.out; omega
  have HB2 := Lib.hid hb2
  have HX2 := Lib.hid hX2
  have HG2 := Lib.hid hg2
  clear hb2 hX2 hg2
  go_wp2_with fail
  go_quiet (fail)
  have HB3 := Lib.hid (below_drewN HB2.out nq)
  have HX3 := Lib.hid (show (W2.drewN nq).heap[W.heap.size]? = some (.cells #[.int .i64 (k : Int), .int .i64 1] 161 (0, 0)) from HX2.out)
  have HG3 := Lib.hid (HG2.out.call (below_drewN (Below.refl _ _) nq))
  clear HB2 HX2 HG2 g6 hrow x0 x1
  generalize W2.drewN nq = W3 at HB3 HX3 HG3 ⊢
  go_wp2_with fail
  go_cut [8] from 37 (fun p wx => p = .int .i64 (vAt k 0) ∧ Below W3.heap.size W3 wx)
  case first =>
    have f0 : ∀ V, TgS W3 V → V.cell? ⟨G, 0, none⟩ = some (.slice (some ⟨rb, ro, none⟩) 3 t.bas.rC) := fun V h => gc0 HL.out HM.out (HG3.out.call h.below)
    have f1 : ∀ V, TgS W3 V → V.cell? ⟨G, 1, none⟩ = some (.int .i64 100) := fun V h => gc1 HL.out (HG3.out.call h.below)
    have f2 : ∀ V, TgS W3 V → V.cell? ⟨G, 2, none⟩ = some (.int .i64 3000) := fun V h => gc2 HL.out (HG3.out.call h.below)
    have f3 : ∀ V, TgS W3 V → V.cell? ⟨G, 3, none⟩ = some (.int .i64 500) := fun V h => gc3 HL.out (HG3.out.call h.below)
    have f4 : ∀ V, TgS W3 V → V.cell? ⟨G, 4, none⟩ = some (.slice t.bas.pA 0 t.bas.pC) := fun V h => gc4 HL.out (HG3.out.call h.below)
    have fv : ∀ V, TgS W3 V → V.cell? ⟨vb, vo + 1, none⟩ = some (.int .i64 (hAt k 1)) := fun V h => lcell (HM.out.val 1 (by omega)) HM.out.lt.2.1 (HG3.out.call h.below).below
    have fr : ∀ V, TgS W3 V → V.cell? ⟨rb, ro, none⟩ = some (.int .i64 (-1000)) := fun V h => lcell HM.out.low HM.out.lt.2.2.1 (HG3.out.call h.below).below
    have fx : ∀ V, TgS W3 V → V.cell? ⟨W.heap.size, 1, none⟩ = some (.int .i64 1) := fun V h => (cell_of_row _ _ 1 _ _ _ (blk_below h.below HX3.out)).trans rfl
    have hmax : max (hAt k 1) (-1000) = hAt k 1 := by
      match k with
      | 0 => decide
      | _ + 1 => exact (by decide : max (hAt 1 1) (-1000) = hAt 1 1)
    have HV := Lib.hid (fun V (h : TgS W3 V) => law_volume (V := V) HL.out HM.out (H0.out.below (HG3.out.call h.below).below (Nat.le_refl _)))
    have T0 := TgS.new W3
    go_region_held3 (fun w' => TgS W3 w')
      (first
        | with_reducible assumption
        | with_reducible exact TgS.drew T0
        | ((repeat (first | with_reducible exact T0 | with_reducible refine TgS.drew ?_ | with_reducible assumption | with_reducible refine TgS.alloc ?_ _)); done))
      (first | (go_at_call 88; (with_reducible refine (HV.out _ (by assumption)).mono ?_); rintro e w' ⟨rfl, hbB⟩; have tB := TgS.call (by assumption) hbB))
    all_goals
      go_wp2_with fail
      go_meet
      exact ⟨rfl, tB.below⟩
  case rest =>
    obtain ⟨w4, hw4⟩ : ∃ w4, w4 = wc := ⟨_, rfl⟩
    subst hw4
    obtain ⟨rfl, hb4⟩ := hcut
    have HB4 := Lib.hid (HB3.out.trans (hb4.mono HB3.out.size))
    have HX4 := Lib.hid (blk_below hb4 HX3.out)
    have hg4 := HG3.out.call hb4
    have g5 := gc5 HL.out hg4
    have x1 : w4.cell? ⟨W.heap.size, 1, none⟩ = some (.int .i64 1) := (cell_of_row _ _ 1 _ _ _ HX4.out).trans rfl
    have lt4 : W.heap.size < w4.heap.size := (Array.getElem?_eq_some_iff.1 HX4.out).1
    have lG := hg4.lt
    have HG4 := Lib.hid hg4
    clear HB3 HX3 HG3 hb4 hg4
    go_wp2_with fail
    obtain ⟨P, hP⟩ : ∃ P, P = w4.heap.size := ⟨_, rfl⟩
    have hP0 : P < P + 1 := by omega
    have HW4 := Lib.hid (show RnW w4 P k 0 (.slice (some ⟨P, 0, none⟩) 1 1) ((w4.alloc (.cells #[.int .i64 (vAt k 0)] 3)).alloc (.cells #[.int .i64 (vAt k 0), .slice none 0 0] 168)) from RnW.new hP)
    rw [← hP]
    have HP := Lib.hid hP
    clear hP g5 x1
    generalize (w4.alloc (.cells #[.int .i64 (vAt k 0)] 3)).alloc (.cells #[.int .i64 (vAt k 0), .slice none 0 0] 168) = W5 at HW4 ⊢
    go_loopw [11, 12] (fun l i wr => ∃ m : Nat, 1 ≤ m ∧ m ≤ 5 ∧ i = .int .i64 (m : Int) ∧ RnW w4 P k (m - 1) l wr) (fun _ i _ => (6 - intOf i).toNat)
    case atStart => exact ⟨1, by omega, by omega, by go_num, HW4.out⟩
    case round =>
      obtain ⟨m, hm1, hm5, rfl, hrn⟩ := hrel
      have Hrn := Lib.hid hrn
      clear hrn HW4
      have HGr := Lib.hid (HG4.out.call (HP.out ▸ Hrn.out.below))
      have g12 := gc12 HL.out HGr.out
      have wj : IntKind.i64.wrap ((m : Int) + 1) = (m : Int) + 1 := by rw [IntKind.wrap_i64]; omega
      by_cases hlt : m < 5
      · have hd : decide ((m : Int) + 1 < 6) = true := by simp; omega
        have lGr := HGr.out.lt
        have lPr := Hrn.out.lt
        go_wp2_with fail
        clear g12
        go_cut [13, 15] from 81 to 109 (fun p z wx => ∃ N, p = .pointer (some ⟨N, 0, none⟩) ∧ z = .int .i64 0 ∧ wr.heap.size ≤ N ∧ Below wr.heap.size wr wx ∧ wx.heap[N]? = some (.cells #[.int .i64 (vAt k m), .slice none 0 0] 168 (0, 0)))
        case first =>
          have f0 : ∀ V, TgS wr V → V.cell? ⟨G, 0, none⟩ = some (.slice (some ⟨rb, ro, none⟩) 3 t.bas.rC) := fun V h => gc0 HL.out HM.out (HGr.out.call h.below)
          have f1 : ∀ V, TgS wr V → V.cell? ⟨G, 1, none⟩ = some (.int .i64 100) := fun V h => gc1 HL.out (HGr.out.call h.below)
          have f2 : ∀ V, TgS wr V → V.cell? ⟨G, 2, none⟩ = some (.int .i64 3000) := fun V h => gc2 HL.out (HGr.out.call h.below)
          have f3 : ∀ V, TgS wr V → V.cell? ⟨G, 3, none⟩ = some (.int .i64 500) := fun V h => gc3 HL.out (HGr.out.call h.below)
          have f4 : ∀ V, TgS wr V → V.cell? ⟨G, 4, none⟩ = some (.slice t.bas.pA 0 t.bas.pC) := fun V h => gc4 HL.out (HGr.out.call h.below)
          have f7 : ∀ V, TgS wr V → V.cell? ⟨G, 7, none⟩ = some (.slice (some ⟨ub, uo, none⟩) 6 t.rC) := fun V h => gc7 HL.out HM.out (HGr.out.call h.below)
          have f8 : ∀ V, TgS wr V → V.cell? ⟨G, 8, none⟩ = some (.int .i64 0) := fun V h => gc8 HL.out (HGr.out.call h.below)
          have fv : ∀ V, TgS wr V → V.cell? ⟨vb, vo + m, none⟩ = some (.int .i64 (hAt k m)) := fun V h => lcell (HM.out.val m (by omega)) HM.out.lt.2.1 (HGr.out.call h.below).below
          have fu : ∀ V, TgS wr V → V.cell? ⟨ub, uo + m, none⟩ = some (.int .i64 60000) := fun V h => lcell (HM.out.riv m (by omega)) HM.out.lt.2.2.2 (HGr.out.call h.below).below
          have fs0 : ∀ V, TgS wr V → V.cell? ⟨P + 1, 0, none⟩ = some (.int .i64 (vAt k (m - 1))) := fun V h => (cell_of_row _ _ 0 _ _ _ (blk_below h.below Hrn.out.st)).trans rfl
          have fs1 : ∀ V, TgS wr V → V.cell? ⟨P + 1, 1, none⟩ = some (.slice none 0 0) := fun V h => (cell_of_row _ _ 1 _ _ _ (blk_below h.below Hrn.out.st)).trans rfl
          have i1 : (0 : Int) ≤ (m : Int) := by omega
          have i2 : (m : Int) < 6 := by omega
          have HS := Lib.hid (fun V (h : TgS wr V) => (by
            have e := law_Step (V := V) HL.out HM.out (H0.out.below (HGr.out.call h.below).below (Nat.le_refl _)) (j := m - 1) (by omega)
            rw [Nat.sub_add_cancel hm1] at e
            exact e : ∃ q, Calls Tryz.prog 89 #[lawBas t rb ro, stateV (vAt k (m - 1)), tickV (hAt k m) 60000] V fun e w' => e = .returned (.tuple #[stateV (vAt k m), flowsV 60000 q, .int .i64 0]) ∧ Below V.heap.size V w'))
          have T0 := TgS.new wr
          go_region_held3 (fun w' => TgS wr w')
            (first
              | with_reducible assumption
              | with_reducible exact TgS.drew T0
              | ((repeat (first | with_reducible exact T0 | with_reducible refine TgS.drew ?_ | with_reducible assumption | with_reducible refine TgS.alloc ?_ _ | with_reducible refine TgS.set ?_ (by omega) _)); done))
            (first | (go_at_call 89; obtain ⟨q, hq⟩ := HS.out _ (by assumption); (with_reducible refine hq.mono ?_); clear hq; rintro e w' ⟨rfl, hbB⟩; have tB := TgS.call (by assumption) hbB; have ssB := tB.below.size; have szB := hbB.size; have hcB := below_cellR hbB; have hfB := below_frozenR hbB; have hlB := below_ltR hbB; (try simp only [World.size_alloc, drew_size] at szB hcB hfB hlB)))
          all_goals
            have htop : Below wr.heap.size wr _ := TgS.below (by assumption)
            have Htop := Lib.hid htop
            clear htop
            go_wp2_with fail
            go_meet
            refine ⟨_, rfl, rfl, ?_, Htop.out, ?_⟩
          all_goals first
            | omega
            | (simp; done)
            | (simp; omega)
            | (repeat (first | ((with_reducible refine blk_new ?_); simp; done) | (with_reducible refine blk_drew ?_) | (with_reducible refine blk_set_other (by first | omega | (simp; omega)) ?_) | (with_reducible refine blk_pair (x0 := .int .i64 0) (x1 := .slice none 0 0) ?_) | (with_reducible refine blk_old ?_) | (with_reducible refine blk_below hbB ?_)))
        case rest =>
          obtain ⟨N, rfl, rfl, hN, hbc, hNb⟩ := hcut
          have hst := blk_below hbc Hrn.out.st
          have b0 := cell_of_row _ _ 0 _ _ _ hst
          have b1 := cell_of_row _ _ 1 _ _ _ hst
          have g0 := frozen_of_row _ _ 0 _ _ hst
          have g1 := frozen_of_row _ _ 1 _ _ hst
          have lPc := (Array.getElem?_eq_some_iff.1 hst).1
          have lNc := (Array.getElem?_eq_some_iff.1 hNb).1
          have hown : wc.ownsRow P 3 1 u11 m ((volsV k).take m) := by
            have e := Hrn.out.own.kept (grown_of_below (row := none) hbc) (by
              obtain ⟨g, _, e, _⟩ := row_block Hrn.out.own (by omega)
              exact .inr (by rw [e]; intro h; cases h))
            rw [Nat.sub_add_cancel hm1] at e
            exact e
          have HN := Lib.hid hN
          have hNP : N ≠ P + 1 := by omega
          have hBc : Below P w4 wc := Hrn.out.below.trans (hbc.mono (by omega))
          have Hown := Lib.hid (World.ownsRow.drew (World.ownsRow.alloc (o := .cells #[.int .i64 (vAt k m)] 3) hown))
          have HstA := Lib.hid (show (wc.alloc (.cells #[.int .i64 (vAt k m)] 3)).drew.heap[P + 1]? = _ from blk_drew (blk_old hst))
          have HNA := Lib.hid (show (wc.alloc (.cells #[.int .i64 (vAt k m)] 3)).drew.heap[N]? = _ from blk_drew (blk_old hNb))
          have HBA := Lib.hid (show Below P w4 (wc.alloc (.cells #[.int .i64 (vAt k m)] 3)).drew from (hBc.alloc (by omega) _).drew)
          have hDD : (wc.alloc (.cells #[.int .i64 (vAt k m)] 3)).drew.cell? ⟨wc.heap.size, 0, none⟩ = some (.int .i64 (vAt k m)) := (cell_of_row _ _ 0 _ _ _ (blk_drew (blk_new rfl))).trans rfl
          have HDD := Lib.hid hDD
          have f0 : ∀ V : World, V.heap[N]? = some (.cells #[.int .i64 (vAt k m), .slice none 0 0] 168 (0, 0)) → V.cell? ⟨N, 0, none⟩ = some (.int .i64 (vAt k m)) := fun V h => (cell_of_row _ _ 0 _ _ _ h).trans rfl
          have f1 : ∀ V : World, V.heap[N]? = some (.cells #[.int .i64 (vAt k m), .slice none 0 0] 168 (0, 0)) → V.cell? ⟨N, 1, none⟩ = some (.slice none 0 0) := fun V h => (cell_of_row _ _ 1 _ _ _ h).trans rfl
          clear hst hown hBc hDD hbc b0 b1 g0 g1
          go_wp2_with fail
          go_region_held3 (fun V => V.heap[N]? = some (.cells #[.int .i64 (vAt k m), .slice none 0 0] 168 (0, 0)))
            (first
              | with_reducible assumption
              | (with_reducible exact hNb)
              | (with_reducible exact blk_drew hNb)
              | (with_reducible exact blk_drew (blk_old hNb))
              | (exact blk_set_other hNP (blk_set_other hNP (by assumption))))
            (first | (with_reducible refine step_app_int rfl (.tmp 113) (.tmp 116) rfl P m u11 _ rfl Hown.out wc.heap.size (.int .i64 (vAt k m)) rfl HDD.out rfl (by omega) (by simp; omega) ?_; intro v' w' hv' hgw; have hst' := own_other Hown.out hgw HstA.out (by decide); have hN' := own_other Hown.out hgw HNA.out (by decide); have hb' := below_own HBA.out (by simp; omega) Hown.out hgw; have b0 := cell_of_row _ _ 0 _ _ _ hst'; have b1 := cell_of_row _ _ 1 _ _ _ hst'; have g0 := frozen_of_row _ _ 0 _ _ hst'; have g1 := frozen_of_row _ _ 1 _ _ hst'; have l1 := (Array.getElem?_eq_some_iff.1 hst').1))
          all_goals
            have HR2 := Lib.hid (show RnW w4 P k (m + 1 - 1) v' ((w'.setCell ⟨P + 1, 0, none⟩ (.int .i64 (vAt k m))).setCell ⟨P + 1, 1, none⟩ (.slice none 0 0)) from
              ⟨bset (bset hb' (by omega)) (by omega), blk_pair hst', by
                have e := (hv'.kept (grown_setCell w' (P + 1) 0 (.int .i64 (vAt k m))) (own_ne hv' hst' (by decide))).kept (grown_setCell _ (P + 1) 1 (.slice none 0 0)) (own_ne hv' hst' (by decide))
                rw [← vols_take (by omega)] at e
                exact e⟩)
            clear hv' hgw hst' hN' hb' b0 b1 g0 g1 l1 f0 f1
            go_wp2_with fail
            go_roundw
            case rel => first | exact ⟨m + 1, by omega, by omega, by go_num, HR2.out⟩ | ((repeat apply Exists.intro); exact ⟨⟨m + 1, by omega, by omega, by go_num, HR2.out⟩, rfl⟩)
            case measure => simp [intOf]; omega
      · obtain rfl : m = 5 := by omega
        have hX5 := below_heap Hrn.out.below (show W.heap.size < P by rw [HP.out]; exact lt4) HX4.out
        have x0 : wr.cell? ⟨W.heap.size, 0, none⟩ = some (.int .i64 (k : Int)) := (cell_of_row _ _ 0 _ _ _ hX5).trans rfl
        have x1 : wr.cell? ⟨W.heap.size, 1, none⟩ = some (.int .i64 1) := (cell_of_row _ _ 1 _ _ _ hX5).trans rfl
        have g14 := gc14 HGr.out
        have hown : wr.ownsRow w0.heap.size 3 1 u11 5 (volsV c.length) := by
          have e := Hrn.out.own.mono (base' := w0.heap.size) (by rw [HP.out]; omega)
          rw [← Hk.out]
          have e2 : (volsV k).take (5 - 1 + 1) = volsV k := List.take_of_length_le (by rw [volsV_len]; omega)
          rw [e2] at e
          exact e
        have HKP := Lib.hid (GmS.keep (W := wr.drew) (HGr.out.call (Below.refl _ _).drew) hc hown)
        have hkeep : (Instr.mapUpdate 80 (.map (some M)) (.agg #[.int .i64 (k : Int), .int .i64 1]) u11).run Tryz.prog wr.drew = .ok () (wr.drew.putObj M (cObj (c ++ [u11]))) := by
          have e := run_keep (W := wr.drew) (M := M) (c := c) HGr.out.mp (by omega) u11
          rw [← Hk.out] at e
          exact e
        have HGW := Lib.hid (show W.grownBy wr (some M) from grown_of_below (HB4.out.trans (Hrn.out.below.mono (by rw [HP.out]; omega))))
        have lGr := HGr.out.lt
        clear hX5 hown Hrn
        go_wp2_with fail
        go_still_tail 6, (by kernel_rfl)
        change wpList _ _ _ _ _ (World.drew wr)
        go_wp2_with fail
        go_ret
        exact ⟨u11, rfl, HKP.out.1, grown_trans HGW.out (grown_trans (grown_of_below (Below.refl _ _).drew) HKP.out.2)⟩
end Go.Proofs.YtgfdindlihfidaaGreat
