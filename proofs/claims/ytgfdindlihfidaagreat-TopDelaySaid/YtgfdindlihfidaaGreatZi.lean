/-
  basin: water: leak, the exact level of the volume being told by a contract.
-/
import Derived.Test.YtgfdindlihfidaaGreatZh
namespace Go.Proofs.YtgfdindlihfidaaGreat
open Go.RowKit Go.Shelf Go.Sort
set_option linter.unusedSimpArgs false
set_option linter.unusedVariables false
attribute [local go_sem high] run_min_z run_max_z
attribute [local go_sem ↓] run_min_z run_max_z

theorem WatAt.call {W W' : World} {B : Nat} {z : WatV} (h : WatAt W B z) (hb : Below W.heap.size W W') : WatAt W' B z := ⟨blk_below hb h.blk⟩
/-- What leak reads, whatever it has stored. -/
structure LkS (W1 : World) (B : Nat) (z : WatV) (V : World) : Prop where
  below : Below B W1 V
  at_ : ∃ f : Int, WatAt V B { z with fL := f }
theorem LkS.new {W : World} {B : Nat} {z : WatV} (h : WatAt W B z) : LkS W B z W := ⟨Below.refl _ _, z.fL, h⟩
theorem LkS.lt {W V : World} {B : Nat} {z : WatV} (h : LkS W B z V) : B < V.heap.size := let ⟨_, a⟩ := h.at_; a.lt
theorem LkS.drew {W V : World} {B : Nat} {z : WatV} (h : LkS W B z V) : LkS W B z V.drew := ⟨h.below.drew, let ⟨f, a⟩ := h.at_; ⟨f, a.drew⟩⟩
theorem LkS.call {W V V' : World} {B : Nat} {z : WatV} (h : LkS W B z V) (hb : Below V.heap.size V V') : LkS W B z V' := ⟨h.below.trans (hb.mono (Nat.le_of_lt h.lt)), let ⟨f, a⟩ := h.at_; ⟨f, a.call hb⟩⟩
theorem LkS.set {W V : World} {B : Nat} {z : WatV} (h : LkS W B z V) (x : Int) : LkS W B z (V.setCell ⟨B, 12, none⟩ (.int .i64 x)) :=
  ⟨bset h.below (Nat.le_refl _), let ⟨f, a⟩ := h.at_; ⟨x, a.set 12 _ rfl⟩⟩
theorem LkS.cell {W V : World} {B : Nat} {z : WatV} (h : LkS W B z V) (k : Nat) (hk : 12 ≠ k) (v : Value) (hv : z.cells[k]? = some v) : V.cell? ⟨B, k, none⟩ = some v := by
  obtain ⟨f, a⟩ := h.at_
  refine a.cell k v ?_
  have e : ({ z with fL := f } : WatV).cells = z.cells.setIfInBounds 12 (.int .i64 f) := rfl
  rw [e, Array.getElem?_setIfInBounds, if_neg hk, hv]
theorem LkS.frozen {W V : World} {B : Nat} {z : WatV} (h : LkS W B z V) (k : Nat) : V.frozen? ⟨B, k, none⟩ = false := let ⟨_, a⟩ := h.at_; a.frozen k
def flV (B : Nat) (V : World) : Value := (V.cell? ⟨B, 12, none⟩).getD undef
theorem LkS.fl {W V : World} {B : Nat} {z : WatV} (h : LkS W B z V) : V.cell? ⟨B, 12, none⟩ = some (flV B V) := by
  obtain ⟨f, a⟩ := h.at_
  have e := a.cell 12 _ rfl
  rw [flV, e]; rfl
theorem LkS.stored {W V : World} {B : Nat} {z : WatV} (h : LkS W B z V) (x : Int) : WatAt (V.setCell ⟨B, 12, none⟩ (.int .i64 x)) B { z with fL := x } := by
  obtain ⟨f, a⟩ := h.at_
  exact a.set 12 _ rfl

theorem run_ahead (k : Nat) (n d : Int) (w : World) : (nilAhead (k + 1) 177 (ratV n d) "barrage/basin.over").run Tryz.prog w = .ok (some false) w := by kernel_rfl
theorem run_over (k : Nat) (n d : Int) (w : World) : (method (k + 1) 177 (ratV n d) "barrage/basin.over").run Tryz.prog w = .ok (123, ratV n d) w := by kernel_rfl
attribute [local go_sem] run_ahead run_over

set_option maxRecDepth 100000 in
set_option maxHeartbeats 4000000 in
theorem wleak_any {W : World} {B : Nat} {z : WatV} {r : RowV} {l : List RowV} {n d q : Int} (h : WatAt W B z) (hr : z.bas.rows = r :: l) (hl : ∀ V, Below B W V → RowsAt V z.bas.rA z.bas.rows)
    (hE : ∀ V, Below B W V → Calls Tryz.prog 91 #[z.bas.val, .int .i64 z.vol] V fun e w' => e = .returned (ratV n d) ∧ Below V.heap.size V w')
    (hn : -100000000000 ≤ n ∧ n ≤ 100000000000) (hd : 1 ≤ d ∧ d ≤ 10000000) (ho : -20000 ≤ z.outer ∧ z.outer ≤ 20000) (hk : 0 ≤ z.bas.leak ∧ z.bas.leak ≤ 10000)
    (hv : 0 ≤ z.vol ∧ z.vol ≤ 1000000000) (hrv : 0 ≤ r.vol ∧ r.vol ≤ 1000000000) (hq : max (z.bas.leak * (-n - -z.outer * d) / d) (r.vol - z.vol) = q) (hs : 0 ≤ z.vol + q ∧ z.vol + q ≤ 1000000000) :
    Calls Tryz.prog 100 #[.pointer (some ⟨B, 0, none⟩)] W fun e W' => e = .returned (.bool true) ∧ WatAt W' B { z with fL := q, vol := z.vol + q } ∧ Below B W W' := by
  have lt := h.lt
  have c0 : W.cell? ⟨B, 0, none⟩ = some (.slice z.bas.rA z.bas.rows.length z.bas.rC) := h.cell 0 _ rfl
  have c1 : W.cell? ⟨B, 1, none⟩ = some (.int .i64 z.bas.leak) := h.cell 1 _ rfl
  have c2 : W.cell? ⟨B, 2, none⟩ = some (.int .i64 z.bas.crest) := h.cell 2 _ rfl
  have c3 : W.cell? ⟨B, 3, none⟩ = some (.int .i64 z.bas.over) := h.cell 3 _ rfl
  have c4 : W.cell? ⟨B, 4, none⟩ = some (.slice z.bas.pA z.bas.pols.length z.bas.pC) := h.cell 4 _ rfl
  have c5 : W.cell? ⟨B, 5, none⟩ = some (.int .i64 z.vol) := h.cell 5 _ rfl
  have k0 := cell_regrown c0
  have k1 := cell_regrown c1
  have k2 := cell_regrown c2
  have k3 := cell_regrown c3
  have k4 := cell_regrown c4
  have k5 := cell_regrown c5
  have H := Lib.hid h
  have Hl := Lib.hid hl
  have cE := Lib.hid (fun d' os => Calls.regrown_of (hE (grow (redrawn W d') os) ((below_regrown W d' os).mono (Nat.le_of_lt lt))))
  have cM := Lib.hid (fun d' os => Calls.regrown_of (minus_any n d (by omega) (grow (redrawn W d') os)))
  have Hq := Lib.hid hq
  have HO := Lib.hid (fun V => over_any (-n) d (-z.outer) z.bas.leak (by omega) hd (by omega) hk V)
  have wo : IntKind.i64.wrap (-z.outer) = -z.outer := by rw [IntKind.wrap_i64]; omega
  have wr : IntKind.i64.wrap (r.vol - z.vol) = r.vol - z.vol := by rw [IntKind.wrap_i64]; omega
  have wq : IntKind.i64.wrap (z.vol + q) = z.vol + q := by rw [IntKind.wrap_i64]; omega
  have Hr := Lib.hid hr
  clear h hl hE hq hr c0 c1 c2 c3 c4 c5
  go_enter Tryz.func100, Tryz.ntmps100
  go_wp2_with fail
  refine wp_region_quiet_below (by kernel_rfl) (by kernel_rfl) ?_
  repeat (quiet_step (first | with_reducible exact cE.out _ _ | with_reducible exact cM.out _ _))
  refine wpQuiet_nil ?_
  rintro _ ⟨⟨dq, osq⟩, rfl⟩
  have hbq := below_regrown W dq osq
  have h1 := H.out.call hbq
  have hb1 : Below B W (grow (redrawn W dq) osq) := hbq.mono (Nat.le_of_lt lt)
  clear k0 k1 k2 k3 k4 k5 hbq
  generalize grow (redrawn W dq) osq = W1 at h1 hb1 ⊢
  have S0 := LkS.new h1
  have HL := Lib.hid (fun V (hV : LkS W1 B z V) => let ⟨f, a⟩ := hV.at_; least_any a Hr.out (Hl.out V (hb1.trans hV.below)))
  have f7 : ∀ V, LkS W1 B z V → V.cell? ⟨B, 7, none⟩ = some (.int .i64 z.outer) := fun V h => h.cell 7 (by omega) _ rfl
  have f1 : ∀ V, LkS W1 B z V → V.cell? ⟨B, 1, none⟩ = some (.int .i64 z.bas.leak) := fun V h => h.cell 1 (by omega) _ rfl
  have f5 : ∀ V, LkS W1 B z V → V.cell? ⟨B, 5, none⟩ = some (.int .i64 z.vol) := fun V h => h.cell 5 (by omega) _ rfl
  have f12 : ∀ V, LkS W1 B z V → V.cell? ⟨B, 12, none⟩ = some (flV B V) := fun V h => h.fl
  have ff : ∀ V, LkS W1 B z V → V.frozen? ⟨B, 12, none⟩ = false := fun V h => h.frozen 12
  have H1 := Lib.hid h1
  have Hb1 := Lib.hid hb1
  clear h1 hb1
  go_wp2_with fail
  go_cut [3] from 16 (fun p wx => WatAt wx B { z with fL := q } ∧ Below B W wx)
  case first =>
    go_region_held3 (fun w' => LkS W1 B z w')
      (first
        | with_reducible assumption
        | with_reducible exact LkS.drew S0
        | ((repeat (first | with_reducible assumption | with_reducible refine LkS.drew ?_ | with_reducible refine LkS.set ?_ _)); done))
      (first
        | (go_at_call 123; refine (HO.out _).mono ?_; rintro e w' ⟨rfl, hbB⟩; have tB := LkS.call (by assumption) hbB)
        | (go_at_call 106; refine (HL.out _ (by assumption)).mono ?_; rintro e w' ⟨rfl, rfl⟩))
    all_goals
      go_wp2_with fail
      go_meet
      rw [Hq.out]
      exact ⟨tB.stored q, Hb1.out.trans (tB.set q).below⟩
  case rest =>
    obtain ⟨h2, hb2⟩ := hcut
    have lt := h2.lt
    have c5 : wc.cell? ⟨B, 5, none⟩ = some (.int .i64 z.vol) := h2.cell 5 _ rfl
    have c12 : wc.cell? ⟨B, 12, none⟩ = some (.int .i64 q) := h2.cell 12 _ rfl
    have cf := h2.frozen 5
    have h3a : WatAt (wc.setCell ⟨B, 5, none⟩ (.int .i64 (z.vol + q))) B { z with fL := q, vol := z.vol + q } := h2.set 5 _ rfl
    have h3 := h3a.drew
    have hb3 : Below B W (wc.setCell ⟨B, 5, none⟩ (.int .i64 (z.vol + q))).drew := (bset hb2 (Nat.le_refl _)).drew
    clear h3a h2 hb2 f7 f1 f5 f12 ff
    go_wp2_with fail
    go_still_tail 14, (by kernel_rfl)
    change wpList _ _ _ _ _ (World.drew wc)
    go_wp2_with fail
    generalize (wc.setCell ⟨B, 5, none⟩ (.int .i64 (z.vol + q))).drew = W2 at h3 hb3 ⊢
    refine (spill_any h3 (b := false) (by simp; omega)).mono ?_
    rintro e w' ⟨rfl, rfl⟩
    go_wp2
    go_ret
    exact ⟨rfl, h3, hb3⟩
end Go.Proofs.YtgfdindlihfidaaGreat

/-
  basin: valid, Volume, Level, slices.Clone of nil: what they return of a basin of three rows, without polders, that is as stated.
-/
namespace Go.Proofs.YtgfdindlihfidaaGreat
open Go.RowKit Go.Shelf Go.Sort
set_option linter.unusedSimpArgs false
set_option linter.unusedVariables false
attribute [local go_sem high] run_min_z run_max_z
attribute [local go_sem ↓] run_min_z run_max_z

theorem run_nileq (w : World) : (binOp .eql 33 (.slice none 0 0) (.slice none 0 0)).run Tryz.prog w = .ok (.bool true) w := by kernel_rfl
set_option maxRecDepth 100000 in
theorem clone_nil (w : World) : Calls Tryz.prog 97 #[.slice none 0 0] w fun e w' => e = .returned (.slice none 0 0) ∧ w' = w := by
  go_enter Tryz.func97, Tryz.ntmps97
  have hn := run_nileq
  go_wp2
  go_ret
  exact ⟨rfl, rfl⟩

theorem bout_eq {n lo hi : Int} {r : Bool} (h : outB n lo hi = r) (w : World) : Calls Tryz.prog 84 #[.int .i64 n, .int .i64 lo, .int .i64 hi] w fun e w' => e = .returned (.bool r) ∧ w = w' := h ▸ bout_any n lo hi w
set_option maxRecDepth 100000 in
theorem bvalid_good (x : BasV) (w : World) (hok : x.Ok w) (hg : x.Good) :
    Calls Tryz.prog 90 #[x.val] w fun e w' => e = .returned (.int .i64 0) ∧ Below w.heap.size w w' := by
  have hB := (Below.refl w.heap.size w).alloc (Nat.le_refl _) (.cells x.cells 32)
  have Hok := Lib.hid (hok.below hB (Nat.le_refl _))
  have Hg := Lib.hid hg
  clear hok hg
  go_enter Tryz.func90, Tryz.ntmps90
  go_wp2_with (go_at_call 72; refine (bcheck_any x _ Hok.out).mono ?_; rintro e w1 ⟨p, a, er, rfl, _, hG, hb⟩; obtain ⟨rfl, rfl, rfl⟩ := hG Hg.out; clear hG)
  go_ret
  exact ⟨rfl, hB.trans (hb.mono hB.size)⟩

/-- What stays of a basin's variable. -/
theorem bas_cell {x : BasV} {W : World} {B : Nat} (h : W.heap[B]? = some (.cells x.cells 32 (0, 0))) (k : Nat) (v : Value) (hv : x.cells[k]? = some v) : W.cell? ⟨B, k, none⟩ = some v := by
  rw [cell_of_row W _ k _ _ _ h, hv]

set_option maxRecDepth 100000 in
set_option maxHeartbeats 4000000 in
theorem bvolume_any (x : BasV) (r0 r1 r2 : RowV) (level v : Int) (w : World) (hok : x.Ok w) (hg : x.Good) (hx : x.rows = [r0, r1, r2]) (h0 : r0.level ≤ level) (h1 : r1.level ≤ level) (h2 : level ≤ 20000)
    (b1 : -20000 ≤ r1.level ∧ r1.level ≤ 20000) (b2 : -20000 ≤ r2.level ∧ r2.level ≤ 20000) (b3 : 0 ≤ r1.vol ∧ r2.vol ≤ 1000000000) (b4 : r1.level < r2.level ∧ r1.vol < r2.vol)
    (hv : ((level - r1.level) * (r2.vol - r1.vol)).tdiv (r2.level - r1.level) = v - r1.vol) (hv2 : 0 ≤ v ∧ v ≤ 1000000000) :
    Calls Tryz.prog 88 #[x.val, .int .i64 level] w fun e w' => e = .returned (.tuple #[.int .i64 v, .int .i64 0]) ∧ Below w.heap.size w w' := by
  obtain ⟨b, o, hA, hb, hrow⟩ := hok.rows.row (k := 0) (by rw [hx]; simp)
  have hlen : x.rows.length = 3 := by rw [hx]; rfl
  obtain ⟨s0, s1⟩ := hrow 0 (by omega)
  obtain ⟨a0, a1⟩ := hrow 1 (by omega)
  obtain ⟨c0, c1⟩ := hrow 2 (by omega)
  simp only [hx, List.getElem_cons_succ, List.getElem_cons_zero, Nat.zero_mul, Nat.add_zero] at s0 s1 a0 a1 c0 c1
  have A := Lib.hid (show w.cell? ⟨b, o, none⟩ = some (.int .i64 r0.level) ∧ w.cell? ⟨b, o + 1 * 2, none⟩ = some (.int .i64 r1.level) ∧ w.cell? ⟨b, o + 1 * 2 + 1, none⟩ = some (.int .i64 r1.vol) ∧ w.cell? ⟨b, o + 2 * 2, none⟩ = some (.int .i64 r2.level) ∧ w.cell? ⟨b, o + 2 * 2 + 1, none⟩ = some (.int .i64 r2.vol) from ⟨s0, a0, a1, c0, c1⟩)
  clear s0 s1 a0 a1 c0 c1 hrow
  have hB := (Below.refl w.heap.size w).alloc (Nat.le_refl _) (.cells x.cells 32)
  have hX : (w.alloc (.cells x.cells 32)).heap[w.heap.size]? = some (.cells x.cells 32 (0, 0)) := blk_new rfl
  have HV := Lib.hid (bvalid_good x _ (hok.below hB (Nat.le_refl _)) hg)
  have HB := Lib.hid hB
  have HX := Lib.hid hX
  have Hlen := Lib.hid hlen
  have HA := Lib.hid hA
  clear hok hg hB hX hx hlen hA
  go_enter Tryz.func88, Tryz.ntmps88
  go_wp2_with fail
  refine HV.out.mono ?_
  rintro e w1 ⟨rfl, hb1⟩
  have hb2 := HB.out.trans (hb1.mono HB.out.size)
  have hX1 := blk_below hb1 HX.out
  have x0 : w1.cell? ⟨w.heap.size, 0, none⟩ = some (.slice (some ⟨b, o, none⟩) 3 x.rC) := by rw [← HA.out, ← Hlen.out]; exact bas_cell hX1 0 _ rfl
  have k9 := (hb2.cell (p := ⟨b, o, none⟩) hb).trans A.out.1
  have k0 := (hb2.cell (p := ⟨b, o + 1 * 2, none⟩) hb).trans A.out.2.1
  have k1 := (hb2.cell (p := ⟨b, o + 1 * 2 + 1, none⟩) hb).trans A.out.2.2.1
  have k2 := (hb2.cell (p := ⟨b, o + 2 * 2, none⟩) hb).trans A.out.2.2.2.1
  have k3 := (hb2.cell (p := ⟨b, o + 2 * 2 + 1, none⟩) hb).trans A.out.2.2.2.2
  simp only [Nat.one_mul, Nat.reduceMul] at k0 k1 k2 k3
  have ltx : w.heap.size < w1.heap.size := (Array.getElem?_eq_some_iff.1 hX1).1
  have ltb : b < w1.heap.size := Nat.lt_of_lt_of_le hb hb2.size
  have Hb2 := Lib.hid hb2
  have HX1 := Lib.hid hX1
  have ho : outB level r0.level 20000 = false := by rw [outB]; simp; omega
  clear hb1 hb2 hX1 HV HX
  have i9 : decide (level < r1.level) = false := by simp; omega
  go_wp2_with (go_at_call 84; refine (bout_any _ _ _ _).mono ?_; rintro e w' ⟨rfl, rfl⟩)
  obtain ⟨w2, hw2⟩ : ∃ w2, w2 = w1 := ⟨_, rfl⟩
  subst hw2
  go_loopw [7] (fun i wr => i = .int .i64 1 ∧ w2 = wr) (fun _ _ => 0)
  case atStart => exact ⟨by first | rfl | go_num, rfl⟩
  case round =>
    obtain ⟨rfl, rfl⟩ := hrel
    have wi1 : IntKind.i64.wrap (1 + 1) = 2 := by decide
    have wi2 : IntKind.i64.wrap 2 = 2 := by decide
    go_wp2_with fail
    go_cut [8, 9] from 38 (fun p q wx => ∃ P Q : Nat, p = .pointer (some ⟨P, 0, none⟩) ∧ q = .pointer (some ⟨Q, 0, none⟩) ∧ Below w2.heap.size w2 wx ∧ wx.heap[P]? = some (.cells r1.cells 144 (0, 0)) ∧ wx.heap[Q]? = some (.cells r2.cells 144 (0, 0)))
    case first =>
      have hk0 : ∀ W, TgS w2 W → W.cell? ⟨b, o + 2, none⟩ = some (.int .i64 r1.level) := fun W h => (h.below.cell (p := ⟨b, o + 2, none⟩) ltb).trans k0
      have hk1 : ∀ W, TgS w2 W → W.cell? ⟨b, o + 2 + 1, none⟩ = some (.int .i64 r1.vol) := fun W h => (h.below.cell (p := ⟨b, o + 2 + 1, none⟩) ltb).trans k1
      have hk2 : ∀ W, TgS w2 W → W.cell? ⟨b, o + 4, none⟩ = some (.int .i64 r2.level) := fun W h => (h.below.cell (p := ⟨b, o + 4, none⟩) ltb).trans k2
      have hk3 : ∀ W, TgS w2 W → W.cell? ⟨b, o + 4 + 1, none⟩ = some (.int .i64 r2.vol) := fun W h => (h.below.cell (p := ⟨b, o + 4 + 1, none⟩) ltb).trans k3
      have hx0 : ∀ W, TgS w2 W → W.cell? ⟨w.heap.size, 0, none⟩ = some (.slice (some ⟨b, o, none⟩) 3 x.rC) := fun W h => (h.below.cell (p := ⟨w.heap.size, 0, none⟩) ltx).trans x0
      have T0 := TgS.new w2
      clear k0 k1 k2 k3 x0 k9
      go_region_held3 (fun w' => TgS w2 w')
        (first
          | with_reducible assumption
          | with_reducible exact TgS.drew T0
          | ((repeat (first | with_reducible exact T0 | with_reducible refine TgS.drew ?_ | with_reducible assumption | with_reducible refine TgS.alloc ?_ _ | with_reducible refine TgS.set ?_ (by omega) _)); done))
        (first | fail)
      all_goals
        go_wp2_with fail
        go_meet
        first
          | exact ⟨_, _, rfl, rfl, (((Below.refl _ _).alloc (Nat.le_refl _) _).alloc (by simp) _).drew, blk_drew (blk_new (by simp)), blk_drew (blk_old (blk_new rfl))⟩
          | exact ⟨_, _, rfl, rfl, (((Below.refl _ _).alloc (Nat.le_refl _) _).alloc (by simp) _).drew, blk_drew (blk_old (blk_new rfl)), blk_drew (blk_new (by simp))⟩
    case rest =>
      obtain ⟨P, Q, rfl, rfl, hbc, hP, hQ⟩ := hcut
      have p0 : wc.cell? ⟨P, 0, none⟩ = some (.int .i64 r1.level) := (cell_of_row _ _ 0 _ _ _ hP).trans rfl
      have p1 : wc.cell? ⟨P, 1, none⟩ = some (.int .i64 r1.vol) := (cell_of_row _ _ 1 _ _ _ hP).trans rfl
      have q0 : wc.cell? ⟨Q, 0, none⟩ = some (.int .i64 r2.level) := (cell_of_row _ _ 0 _ _ _ hQ).trans rfl
      have q1 : wc.cell? ⟨Q, 1, none⟩ = some (.int .i64 r2.vol) := (cell_of_row _ _ 1 _ _ _ hQ).trans rfl
      have hb3 := Hb2.out.trans (hbc.mono Hb2.out.size)
      obtain ⟨d, hd⟩ : ∃ d, d = r2.vol - r1.vol := ⟨_, rfl⟩
      obtain ⟨u, hu⟩ : ∃ u, u = level - r1.level := ⟨_, rfl⟩
      obtain ⟨t, ht⟩ : ∃ t, t = r2.level - r1.level := ⟨_, rfl⟩
      have hm1 := mul_bd (a := u) (b := d) (A := 40000) (B := 1000000000) (by omega) (by omega) (by omega) (by omega)
      rw [← hd, ← hu, ← ht] at hv
      obtain ⟨m, hmm⟩ : ∃ m, m = u * d := ⟨_, rfl⟩
      have wa : IntKind.i64.wrap (r2.vol - r1.vol) = d := by rw [IntKind.wrap_i64, hd]; omega
      have wb : IntKind.i64.wrap (level - r1.level) = u := by rw [IntKind.wrap_i64, hu]; omega
      have wcc : IntKind.i64.wrap (r2.level - r1.level) = t := by rw [IntKind.wrap_i64, ht]; omega
      have wd : IntKind.i64.wrap (u * d) = m := by rw [IntKind.wrap_i64, hmm]; omega
      rw [← hmm] at hv
      have we : IntKind.i64.wrap (m.tdiv t) = v - r1.vol := by rw [hv, IntKind.wrap_i64]; omega
      have wf : IntKind.i64.wrap (r1.vol + (v - r1.vol)) = v := by rw [IntKind.wrap_i64]; omega
      have wf2 : IntKind.i64.wrap v = v := by rw [IntKind.wrap_i64]; omega
      have wg : min 1000000000 v = v := by omega
      have wh : ¬ t = 0 := by omega
      clear hd hu ht hmm hv hm1 hP hQ hbc k0 k1 k2 k3 x0 k9 Hb2
      go_wp2_with fail
      go_big_quiet (fail)
      go_wp2_with fail
      go_ret2
      exact ⟨rfl, below_drewN hb3 nq⟩

theorem run_span (k : Nat) (n d : Int) (w : World) : (method (k + 1) 177 (ratV n d) "barrage/basin.span").run Tryz.prog w = .ok (124, ratV n d) w := by kernel_rfl
attribute [local go_sem] run_span
set_option maxRecDepth 100000 in
set_option maxHeartbeats 4000000 in
theorem blevel_any (x : BasV) (r0 r1 r2 : RowV) (v n d : Int) (w : World) (hok : x.Ok w) (hg : x.Good) (hx : x.rows = [r0, r1, r2]) (h0 : r0.vol ≤ v) (h1 : r1.vol < v) (h2 : v < r2.vol)
    (b1 : -20000 ≤ r1.level ∧ r1.level ≤ 20000) (b2 : -20000 ≤ r2.level ∧ r2.level ≤ 20000) (b3 : 0 ≤ r1.vol ∧ r2.vol ≤ 1000000000)
    (hn : r1.level * (r2.vol - r1.vol) + (v - r1.vol) * (r2.level - r1.level) = n) (hd : r2.vol - r1.vol = d) (bn : -100000000000 ≤ n ∧ n ≤ 100000000000) (bd : 1 ≤ d ∧ d ≤ 10000000) :
    Calls Tryz.prog 87 #[x.val, .int .i64 v] w fun e w' => e = .returned (.tuple #[spanV n d, .int .i64 0]) ∧ Below w.heap.size w w' := by
  obtain ⟨b, o, hA, hb, hrow⟩ := hok.rows.row (k := 0) (by rw [hx]; simp)
  have hlen : x.rows.length = 3 := by rw [hx]; rfl
  have s1 := (hrow 0 (by omega)).2
  simp only [hx, List.getElem_cons_zero, Nat.zero_mul, Nat.add_zero] at s1
  obtain ⟨WX, hWX⟩ : ∃ WX, WX = (w.alloc (.cells x.cells 32)).alloc (.cells #[.int .i64 0, .int .i64 0] 156) := ⟨_, rfl⟩
  have hB : Below w.heap.size w WX := by rw [hWX]; exact ((Below.refl _ _).alloc (Nat.le_refl _) _).alloc (by simp) _
  have hX0 : WX.heap[w.heap.size]? = some (.cells x.cells 32 (0, 0)) := by rw [hWX]; exact blk_old (blk_new rfl)
  have hX1 : WX.heap[w.heap.size + 1]? = some (.cells #[.int .i64 0, .int .i64 0] 156 (0, 0)) := by rw [hWX]; exact blk_new (by simp)
  have HV := Lib.hid (bvalid_good x WX (hok.below hB (Nat.le_refl _)) hg)
  have HE := Lib.hid (fun V (h : Below w.heap.size w V) => exact_three x r0 r1 r2 v V hx (hok.rows.below h (Nat.le_refl _)) h1 h2 b1 b2 b3)
  have hval : x.val = .agg #[.slice (some ⟨b, o, none⟩) 3 x.rC, .int .i64 x.leak, .int .i64 x.crest, .int .i64 x.over, .slice x.pA x.pols.length x.pC] := by
    show Value.agg #[.slice x.rA x.rows.length x.rC, .int .i64 x.leak, .int .i64 x.crest, .int .i64 x.over, .slice x.pA x.pols.length x.pC] = _
    rw [hA, hlen]
  rw [hn, hd] at HE
  have HE2 := HE.out
  simp only [hval] at HE2
  have HE3 := Lib.hid HE2
  clear HE HE2 hval
  have HS := Lib.hid (fun V => span_any n d bn bd V)
  have HB := Lib.hid hB
  have HX0 := Lib.hid hX0
  have HX1 := Lib.hid hX1
  have Hlen := Lib.hid hlen
  have HA := Lib.hid hA
  have HS1 := Lib.hid s1
  have HWX := Lib.hid hWX
  have ho : outB v r0.vol 1000000000 = false := by rw [outB]; simp; omega
  have c0 : ∀ V : World, V.heap[w.heap.size]? = some (.cells x.cells 32 (0, 0)) → V.cell? ⟨w.heap.size, 0, none⟩ = some (.slice (some ⟨b, o, none⟩) 3 x.rC) := fun V h => by rw [← hA, ← hlen]; exact bas_cell h 0 _ rfl
  have HC0 := Lib.hid c0
  clear hok hg hB hX0 hX1 hx hlen hA s1 hrow hn hd hWX c0
  go_enter Tryz.func87, Tryz.ntmps87
  go_wp2_with fail
  rw [← HWX.out]
  refine HV.out.mono ?_
  rintro e w1 ⟨rfl, hb1⟩
  have hb2 := HB.out.trans (hb1.mono HB.out.size)
  have hY0 := blk_below hb1 HX0.out
  have hY1 := blk_below hb1 HX1.out
  have x0 := HC0.out _ hY0
  have k9 := (hb2.cell (p := ⟨b, o + 1, none⟩) hb).trans HS1.out
  have ltb : b < w1.heap.size := Nat.lt_of_lt_of_le hb hb2.size
  have ltx : w.heap.size < w1.heap.size := (Array.getElem?_eq_some_iff.1 hY0).1
  have HB2 := Lib.hid hb2
  have HY1 := Lib.hid hY1
  have x1 := bas_cell hY0 1 _ rfl
  have x2 := bas_cell hY0 2 _ rfl
  have x3 := bas_cell hY0 3 _ rfl
  have x4 := bas_cell hY0 4 _ rfl
  clear hb1 hb2 hY0 hY1
  go_wp2_with (go_at_call 84; refine (bout_any _ _ _ _).mono ?_; rintro e w' ⟨rfl, rfl⟩)
  refine (HE3.out _ HB2.out).mono ?_
  rintro e w2 ⟨rfl, hb2⟩
  have hY2 := blk_below hb2 HY1.out
  have hb3 := HB2.out.trans (hb2.mono HB2.out.size)
  have HB3 := Lib.hid hb3
  have HY2 := Lib.hid hY2
  clear x0 x1 x2 x3 x4 k9 ltb ltx hb2 hb3 hY2
  go_wp2_with fail
  refine (HS.out _).mono ?_
  rintro e w3 ⟨rfl, hb4⟩
  have hY3 := blk_below hb4 HY2.out
  have hb5 := HB3.out.trans (hb4.mono HB3.out.size)
  have z0 := cell_of_row _ _ 0 _ _ _ hY3
  have z1 := cell_of_row _ _ 1 _ _ _ hY3
  have zf0 := frozen_of_row _ _ 0 _ _ hY3
  have zf1 := frozen_of_row _ _ 1 _ _ hY3
  have lt : w.heap.size + 1 < w3.heap.size := (Array.getElem?_eq_some_iff.1 hY3).1
  clear hY3
  go_wp2_with fail
  refine bodyPost_ret (v := .tuple #[spanV n d, .int .i64 0]) (by simp [results, Tryz.results87, go_sem, *]) rfl ⟨rfl, ?_⟩
  exact bset (bset hb5 (by omega)) (by omega)

set_option maxRecDepth 100000 in
set_option maxHeartbeats 4000000 in
theorem bcheckst_any (x : BasV) (r0 : RowV) (l : List RowV) (v : Int) (w : World) (hok : x.Ok w) (hg : x.Good) (hx : x.rows = r0 :: l) (h0 : r0.vol ≤ v ∧ v ≤ 1000000000) :
    Calls Tryz.prog 92 #[x.val, .agg #[.int .i64 v, .slice none 0 0]] w fun e w' => e = .returned (.int .i64 0) ∧ Below w.heap.size w w' := by
  obtain ⟨b, o, hA, hb, hrow⟩ := hok.rows.row (k := 0) (by rw [hx]; simp)
  have hp : x.pols.length = 0 := by rw [hg.nopol]; rfl
  have s1 := (hrow 0 (by rw [hx]; simp)).2
  simp only [hx, List.getElem_cons_zero, Nat.zero_mul, Nat.add_zero] at s1
  obtain ⟨WX, hWX⟩ : ∃ WX, WX = (w.alloc (.cells x.cells 32)).alloc (.cells #[.int .i64 v, .slice none 0 0] 168) := ⟨_, rfl⟩
  have hB : Below w.heap.size w WX := by rw [hWX]; exact ((Below.refl _ _).alloc (Nat.le_refl _) _).alloc (by simp) _
  have hX0 : WX.heap[w.heap.size]? = some (.cells x.cells 32 (0, 0)) := by rw [hWX]; exact blk_old (blk_new rfl)
  have hX1 : WX.heap[w.heap.size + 1]? = some (.cells #[.int .i64 v, .slice none 0 0] 168 (0, 0)) := by rw [hWX]; exact blk_new (by simp)
  have HV := Lib.hid (bvalid_good x WX (hok.below hB (Nat.le_refl _)) hg)
  have HB := Lib.hid hB
  have HX0 := Lib.hid hX0
  have HX1 := Lib.hid hX1
  have HS1 := Lib.hid s1
  have HWX := Lib.hid hWX
  have hl : 0 < x.rows.length := by rw [hx]; simp
  have ho : outB v r0.vol 1000000000 = false := by rw [outB]; simp; omega
  have c0 : ∀ V : World, V.heap[w.heap.size]? = some (.cells x.cells 32 (0, 0)) → V.cell? ⟨w.heap.size, 0, none⟩ = some (.slice (some ⟨b, o, none⟩) x.rows.length x.rC) ∧ V.cell? ⟨w.heap.size, 4, none⟩ = some (.slice x.pA 0 x.pC) := fun V h => ⟨by rw [← hA]; exact bas_cell h 0 _ rfl, by have e := bas_cell h 4 _ rfl; rw [← hp]; exact e⟩
  have HC0 := Lib.hid c0
  clear hok hg hB hX0 hX1 hx hA s1 hrow hWX c0 hp
  go_enter Tryz.func92, Tryz.ntmps92
  go_wp2_with fail
  rw [← HWX.out]
  refine HV.out.mono ?_
  rintro e w1 ⟨rfl, hb1⟩
  have hb2 := HB.out.trans (hb1.mono HB.out.size)
  have hY0 := blk_below hb1 HX0.out
  have hY1 := blk_below hb1 HX1.out
  obtain ⟨x0, x4⟩ := HC0.out _ hY0
  have k9 := (hb2.cell (p := ⟨b, o + 1, none⟩) hb).trans HS1.out
  have z0 : w1.cell? ⟨w.heap.size + 1, 0, none⟩ = some (.int .i64 v) := (cell_of_row _ _ 0 _ _ _ hY1).trans rfl
  have z1 : w1.cell? ⟨w.heap.size + 1, 1, none⟩ = some (.slice none 0 0) := (cell_of_row _ _ 1 _ _ _ hY1).trans rfl
  have ltb : b < w1.heap.size := Nat.lt_of_lt_of_le hb hb2.size
  have ltx : w.heap.size < w1.heap.size := (Array.getElem?_eq_some_iff.1 hY0).1
  have i0 : (0 : Int) < (x.rows.length : Int) := by omega
  have HB2 := Lib.hid hb2
  clear hb1 hb2 hY0 hY1
  go_wp2_with fail
  go_quiet ((go_at_call 84; first | exact quiet_add_left (bout_eq ho _) | exact quiet_left (bout_eq ho _)))
  go_wp2_with fail
  go_loopw [34] (fun i wr => i = .int .i64 0 ∧ w1.drewN nq = wr) (fun _ _ => 0)
  case atStart => exact ⟨rfl, rfl⟩
  case round =>
    obtain ⟨rfl, rfl⟩ := hrel
    go_wp2_with fail
    go_ret
    exact ⟨rfl, below_drewN HB2.out nq⟩
end Go.Proofs.YtgfdindlihfidaaGreat
