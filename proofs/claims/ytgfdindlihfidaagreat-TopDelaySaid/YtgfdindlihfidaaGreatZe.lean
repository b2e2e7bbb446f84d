/-
  Delay: the closure that gives each gate the same step; the plain part; what the walk keeps.
-/
import Derived.Test.YtgfdindlihfidaaGreatZd
import Derived.Laws.MakeOwn
import Derived.Test.YtgfdindlihfidaaGreatZc
namespace Go.Proofs.YtgfdindlihfidaaGreat
open Go.RowKit
set_option linter.unusedSimpArgs false
set_option linter.unusedVariables false

set_option maxRecDepth 100000 in
theorem dl1_any (C : Nat) (t : Stp) (i : Int) (w : World) (hg : StpIn w C t) :
    Calls Tryz.prog 11 #[.int .i64 i, .pointer (some ⟨C, 0, none⟩)] w fun e w' => e = .returned t.val ∧ Below w.heap.size w w' := by
  have c0 := hg.cell 0 _ rfl
  have c1 := hg.cell 1 _ rfl
  have c2 := hg.cell 2 _ rfl
  have c3 := hg.cell 3 _ rfl
  have hlt := hg.lt
  clear hg
  go_enter Tryz.func11, Tryz.ntmps11
  go_wp2
  refine bodyPost_ret (v := t.val) (by simp [results, Tryz.results11, go_sem, *]) rfl ⟨rfl, ?_⟩
  exact (Below.refl _ _).alloc (Nat.le_refl _) _

/-- The first m gates are shut. -/
def shutUpto (gs : List GateV) (sts : List St) (m : Nat) : Bool := (List.range m).all fun j => match gs[j]?, sts[j]? with | some g, some s => decide (s.pos = g.travel) | _, _ => true
theorem shutUpto_succ {gs : List GateV} {sts : List St} {m : Nat} (h1 : m < gs.length) (h2 : m < sts.length) : shutUpto gs sts (m + 1) = (shutUpto gs sts m && decide (sts[m].pos = gs[m].travel)) := by
  unfold shutUpto
  rw [List.range_succ, List.all_append]
  simp [List.getElem?_eq_getElem h1, List.getElem?_eq_getElem h2]
/-- The first step, from the k-th on, of n, before which all gates are shut, in ticks, rounded up; ErrDown. -/
def delayFrom (gs : List GateV) (rules : List Rul) (ts : List Stp) (bs : List Bool) : Nat → List St → Int → Int × Int
  | 0, _, _ => (0, 9)
  | m + 1, sts, k => if shutUpto gs sts gs.length = true then ((k + 9) / 10, 0) else delayFrom gs rules ts bs m (stList (togAt gs rules sts ts bs) gs.length) (k + 1)
/-- What Delay returns. -/
def delayZ (s : SetV) (sts : List St) (t : Stp) : Int × Int :=
  if (setE s).2.2 ≠ 0 then (0, (setE s).2.2) else if sts.length ≠ s.gates.length then (0, 2) else if allE s.gates sts (fun _ => t) ≠ 0 then (0, allE s.gates sts (fun _ => t))
  else delayFrom s.gates s.rules (List.replicate s.gates.length t) (List.replicate s.gates.length false) 2001 sts 0

/-- Zeroed steps and bools, as make lays them. -/
def mkStp (n : Nat) : Array Value := madeCells #[.int .i64 0, .bool false, .int .i64 0, .int .i64 0] (n * 4)
def mkBool (n : Nat) : Array Value := madeCells #[.bool false] (n * 1)
theorem mkStp_size (n : Nat) : (mkStp n).size = n * 4 := size_madeCells _ _
theorem mkBool_get {n j : Nat} (h : j < n) : (mkBool n)[j]? = some (.bool false) := by
  unfold mkBool madeCells
  simp [h, Nat.mod_one]
theorem A.stpInfo : (Tryz.prog.info? 47).map (fun i => (i.zero, i.size, i.bytes)) = some (some (.agg #[.int .i64 0, .bool false, .int .i64 0, .int .i64 0]), 4, 32) := by kernel_rfl
theorem A.boolInfo : (Tryz.prog.info? 4).map (fun i => (i.zero, i.size, i.bytes)) = some (some (.bool false), 1, 1) := by kernel_rfl
theorem run_mk_stp (n : Nat) (hn : n ≤ 6) (W : World) : (Instr.makeSlice 45 (.int .i64 n) (.int .i64 n)).run Tryz.prog W = .ok (.slice (some ⟨W.heap.size, 0, none⟩) n n) (W.alloc (.cells (mkStp n) 47)) := by
  obtain ⟨i, hi, hz, hs, hb⟩ := info_parts A.stpInfo
  have h := run_make (P := Tryz.prog) W 45 47 i _ Tryz.underlying45 hi hz .i64 .i64 n n (by omega) (by omega) (by rw [hb]; omega) (by omega)
  rw [h]
  simp only [Int.toNat_natCast, hs]
  rfl
theorem run_mk_bool (n : Nat) (hn : n ≤ 6) (W : World) : (Instr.makeSlice 48 (.int .i64 n) (.int .i64 n)).run Tryz.prog W = .ok (.slice (some ⟨W.heap.size, 0, none⟩) n n) (W.alloc (.cells (mkBool n) 4)) := by
  obtain ⟨i, hi, hz, hs, hb⟩ := info_parts A.boolInfo
  have h := run_make (P := Tryz.prog) W 48 4 i _ Tryz.underlying48 hi hz .i64 .i64 n n (by omega) (by omega) (by rw [hb]; omega) (by omega)
  rw [h]
  simp only [Int.toNat_natCast, hs]
  rfl

/-- What Delay keeps behind its two calls. -/
structure DeW (w : World) (s : SetV) (t : Stp) (W : World) : Prop where
  below : Below w.heap.size w W
  set : W.heap[w.heap.size]? = some (.cells s.cells 25 (0, 0))
  stp : W.heap[w.heap.size + 1]? = some (.cells t.cells 47 (0, 0))
theorem DeW.new (w : World) (s : SetV) (t : Stp) : DeW w s t ((w.alloc (.cells s.cells 25)).alloc (.cells t.cells 47)) :=
  ⟨((Below.refl _ _).alloc (Nat.le_refl _) _).alloc (by simp) _, blk_old (blk_new rfl), blk_new (by simp)⟩
theorem DeW.lt {w W : World} {s : SetV} {t : Stp} (h : DeW w s t W) : w.heap.size + 1 < W.heap.size := (Array.getElem?_eq_some_iff.1 h.stp).1
theorem DeW.call {w W W' : World} {s : SetV} {t : Stp} (h : DeW w s t W) (hb : Below W.heap.size W W') : DeW w s t W' :=
  ⟨h.below.trans (hb.mono h.below.size), blk_below hb h.set, blk_below hb h.stp⟩
theorem DeW.alloc {w W : World} {s : SetV} {t : Stp} (h : DeW w s t W) (o : Obj) : DeW w s t (W.alloc o) := h.call ((Below.refl W.heap.size W).alloc (Nat.le_refl _) o)
theorem DeW.stpIn {w W : World} {s : SetV} {t : Stp} (h : DeW w s t W) : StpIn W (w.heap.size + 1) t := ⟨h.lt, h.stp⟩

/-- What Delay keeps from its two slices on: k steps are filled in. -/
structure DlW (w : World) (s : SetV) (t : Stp) (P Q n k : Nat) (W : World) : Prop where
  base : DeW w s t W
  lp : w.heap.size + 1 < P
  lq : w.heap.size + 1 < Q
  ne : P ≠ Q
  bools : W.heap[Q]? = some (.cells (mkBool n) 4 (0, 0))
  fill : ∃ cs, W.heap[P]? = some (.cells cs 47 (0, 0)) ∧ cs.size = n * 4 ∧ ∀ j r, j < k → r < 4 → cs[j * 4 + r]? = t.cells[r]?
theorem DlW.call {w W W' : World} {s : SetV} {t : Stp} {P Q n k : Nat} (h : DlW w s t P Q n k W) (hb : Below W.heap.size W W') : DlW w s t P Q n k W' := by
  obtain ⟨cs, h1, h2, h3⟩ := h.fill
  exact ⟨h.base.call hb, h.lp, h.lq, h.ne, blk_below hb h.bools, cs, blk_below hb h1, h2, h3⟩
theorem DlW.alloc {w W : World} {s : SetV} {t : Stp} {P Q n k : Nat} (h : DlW w s t P Q n k W) (o : Obj) : DlW w s t P Q n k (W.alloc o) := h.call ((Below.refl W.heap.size W).alloc (Nat.le_refl _) o)
theorem DlW.store {w W : World} {s : SetV} {t : Stp} {P Q n k : Nat} (h : DlW w s t P Q n k W) (hk : k < n) :
    DlW w s t P Q n (k + 1) ((((W.setCell ⟨P, k * 4, none⟩ (.int .i64 t.order)).setCell ⟨P, k * 4 + 1, none⟩ (.bool t.power)).setCell ⟨P, k * 4 + 2, none⟩ (.int .i64 t.outer)).setCell ⟨P, k * 4 + 3, none⟩ (.int .i64 t.inner)) := by
  obtain ⟨cs, h1, h2, h3⟩ := h.fill
  have l1 := h.lp
  have l2 := h.lq
  have l3 := h.ne
  have p1 := heap_setCell_same _ P (k * 4) _ _ (.int .i64 t.order) h1
  have p2 := heap_setCell_same _ P (k * 4 + 1) _ _ (.bool t.power) p1
  have p3 := heap_setCell_same _ P (k * 4 + 2) _ _ (.int .i64 t.outer) p2
  have p4 := heap_setCell_same _ P (k * 4 + 3) _ _ (.int .i64 t.inner) p3
  have o : ∀ {B : Nat} {x : Obj}, B ≠ P → W.heap[B]? = some x → ((((W.setCell ⟨P, k * 4, none⟩ (.int .i64 t.order)).setCell ⟨P, k * 4 + 1, none⟩ (.bool t.power)).setCell ⟨P, k * 4 + 2, none⟩ (.int .i64 t.outer)).setCell ⟨P, k * 4 + 3, none⟩ (.int .i64 t.inner)).heap[B]? = some x :=
    fun hne hx => blk_set_other hne (blk_set_other hne (blk_set_other hne (blk_set_other hne hx)))
  refine ⟨⟨(((h.base.below.setCell (by show w.heap.size ≤ P; omega) _).setCell (by show w.heap.size ≤ P; omega) _).setCell (by show w.heap.size ≤ P; omega) _).setCell (by show w.heap.size ≤ P; omega) _, o (by omega) h.base.set, o (by omega) h.base.stp⟩, l1, l2, l3, o (Ne.symm l3) h.bools, _, p4, by simp [h2], fun j r hj hr => ?_⟩
  by_cases e : j = k
  · subst e
    match r, hr with
    | 0, _ => simp [Array.getElem?_setIfInBounds, h2]; omega
    | 1, _ => simp [Array.getElem?_setIfInBounds, h2]; omega
    | 2, _ => simp [Array.getElem?_setIfInBounds, h2]; omega
    | 3, _ => simp [Array.getElem?_setIfInBounds, h2]; omega
  · have hh := h3 j r (by omega) hr
    simp only [Array.getElem?_setIfInBounds]
    rw [if_neg (by omega), if_neg (by omega), if_neg (by omega), if_neg (by omega)]
    exact hh
theorem DlW.stps {w W : World} {s : SetV} {t : Stp} {P Q n : Nat} (h : DlW w s t P Q n n W) (hn : n ≤ 6) : StpsAt W (some ⟨P, 0, none⟩) (List.replicate n t) := by
  obtain ⟨cs, h1, h2, h3⟩ := h.fill
  refine ⟨by simp [maxLen]; omega, .inr ⟨P, 0, rfl, (Array.getElem?_eq_some_iff.1 h1).1, fun j hj => ?_⟩⟩
  have hj' : j < n := by simpa using hj
  have c := fun r (hr : r < 4) => (cell_of_row W P (j * 4 + r) _ _ _ h1).trans (h3 j r hj' hr)
  have c0 := c 0 (by omega)
  have c1 := c 1 (by omega)
  have c2 := c 2 (by omega)
  have c3 := c 3 (by omega)
  simp only [Nat.zero_add, List.getElem_replicate]
  exact ⟨c0, c1, c2, c3⟩
theorem DlW.bls {w W : World} {s : SetV} {t : Stp} {P Q n k : Nat} (h : DlW w s t P Q n k W) (hn : n ≤ 6) : BoolsAt W (some ⟨Q, 0, none⟩) (List.replicate n false) := by
  refine ⟨by simp [maxLen]; omega, .inr ⟨Q, 0, rfl, (Array.getElem?_eq_some_iff.1 h.bools).1, fun j hj => ?_⟩⟩
  have hj' : j < n := by simpa using hj
  simp only [Nat.zero_add, List.getElem_replicate]
  exact (cell_of_row W Q j _ _ _ h.bools).trans (mkBool_get hj')
end Go.Proofs.YtgfdindlihfidaaGreat

/-
  The walk of gate.Delay.
-/
namespace Go.Proofs.YtgfdindlihfidaaGreat
open Go.RowKit
set_option linter.unusedSimpArgs false
set_option linter.unusedVariables false

theorem gscan_0 : ∀ (l pre : List GateV) (k : Int), (gscan l pre k).2 = 0 → ∀ g ∈ l, (checkZ g).2.2 = 0
  | [], _, _, _, g, hg => (nomatch hg)
  | x :: r, pre, k, h, g, hg => by
    rw [gscan] at h
    by_cases h0 : gateE pre x = 0
    · rw [if_pos h0] at h
      rcases List.mem_cons.1 hg with rfl | hg
      · unfold gateE at h0
        split at h0
        · assumption
        · assumption
      · exact gscan_0 r _ _ h g hg
    · rw [if_neg h0] at h; exact absurd h h0

theorem set_0 {s : SetV} (h : (setE s).2.2 = 0) : (1 ≤ s.gates.length ∧ s.gates.length ≤ 6) ∧ (∀ g ∈ s.gates, g.Good) ∧ RulesIn s.rules s.gates.length := by
  unfold setE at h
  split at h
  · simp at h
  · rename_i h1
    split at h
    · rename_i h2; exact absurd h h2
    · rename_i h2
      split at h
      · simp at h
      · split at h
        · rename_i h4; exact absurd h h4
        · rename_i h4
          simp only [Bool.not_eq_true] at h1
          have b := outB_len h1
          refine ⟨by omega, fun g hg => check_good (gscan_0 _ _ _ (by simpa using h2) g hg), fun r hr => ?_⟩
          have hz := scan_0 _ _ _ (by simpa using h4) r hr
          unfold ruleE at hz
          split at hz
          · simp at hz
          · rename_i h5
            simp [anyB, outB] at h5
            omega

theorem tog_ok {gs : List GateV} {rules : List Rul} {sts : List St} {ts : List Stp} {bs : List Bool} (hg : ∀ g ∈ gs, g.Good) (hs : ∀ k, (h : k < gs.length) → (h2 : k < sts.length) → sts[k].Ok gs[k]) (l1 : sts.length = gs.length) (l2 : ts.length = gs.length) (l3 : bs.length = gs.length) :
    ∀ k, (h : k < gs.length) → (h2 : k < (stList (togAt gs rules sts ts bs) gs.length).length) → (stList (togAt gs rules sts ts bs) gs.length)[k].Ok gs[k] := fun k h h2 => by
  have e : (stList (togAt gs rules sts ts bs) gs.length)[k] = (togAt gs rules sts ts bs k).1 := by simp [stList]
  rw [e, togAt_eq h (by omega) (by omega) (by omega)]
  exact doZ_ok _ (hg _ (List.getElem_mem h)) (hs k h (by omega))

set_option maxRecDepth 100000 in
set_option maxHeartbeats 4000000 in
theorem delay_any (s : SetV) (sA : Option Addr) (sC : Nat) (sts : List St) (o i : Int) (power : Bool) (w : World) (hok : s.Ok w) (hms : StsAt w sA sts) :
    Calls Tryz.prog 4 #[s.val, .slice sA sts.length sC, .int .i64 o, .int .i64 i, .bool power] w fun e w' => e = .returned (.tuple #[.int .i64 (delayZ s sts ⟨1, power, o, i⟩).1, .int .i64 (delayZ s sts ⟨1, power, o, i⟩).2]) ∧ Below w.heap.size w w' := by
  have hk := DeW.new w s ⟨1, power, o, i⟩
  have K0 := Lib.hid hk
  have Hok := Lib.hid hok
  have Hms := Lib.hid hms
  have Hok0 := Lib.hid (hok.below hk.below (Nat.le_refl _))
  have hgm := hok.gs.1
  have hsm := hms.1
  unfold maxLen at hgm hsm
  clear hok hms hk
  by_cases hc : (setE s).2.2 = 0
  · obtain ⟨⟨hn1, hn⟩, hgd, hrin⟩ := set_0 hc
    have Hgd := Lib.hid hgd
    have Hrin := Lib.hid hrin
    clear hgd hrin
    by_cases hl : sts.length = s.gates.length
    · by_cases ha : allE s.gates sts (fun _ => ⟨1, power, o, i⟩) = 0
      · have hr : delayZ s sts ⟨1, power, o, i⟩ = delayFrom s.gates s.rules (List.replicate s.gates.length ⟨1, power, o, i⟩) (List.replicate s.gates.length false) 2001 sts 0 := by
          rw [delayZ, if_neg (by simp [hc]), if_neg (by simp [hl]), if_neg (by simp [ha])]
        obtain ⟨R, hR⟩ : ∃ R, R = delayZ s sts ⟨1, power, o, i⟩ := ⟨_, rfl⟩
        rw [← hR]
        rw [hr] at hR
        have HR := Lib.hid hR
        clear hR
        have Hc := Lib.hid hc
        have Ha := Lib.hid ha
        have hst0 : ∀ k, (h : k < s.gates.length) → (h2 : k < sts.length) → sts[k].Ok s.gates[k] := fun k h h2 => by
          have h3 := nzFirst_0 ha k (by omega) (by omega)
          rw [oddAt_eq h h2] at h3
          exact (oddE_0 h3).1
        have hlv : (⟨1, power, o, i⟩ : Stp).Lv := by
          have h3 := nzFirst_0 ha 0 (by omega) (by omega)
          rw [oddAt_eq (by omega) (by omega)] at h3
          exact (oddE_0 h3).2.1
        have Hst0 := Lib.hid hst0
        have Hlv := Lib.hid hlv
        have hle : ((s.gates.length : Int) != (s.gates.length : Int)) = false := by simp
        clear hr hc ha hst0 hlv
        rw [hl]
        go_enter Tryz.func4, Tryz.ntmps4
        have hall : ∀ W, DeW w s ⟨1, power, o, i⟩ W → Calls Tryz.prog 10 #[s.val, .slice sA s.gates.length sC, .func (.func 11) #[] #[.pointer (some ⟨w.heap.size + 1, 0, none⟩)]] W fun e w' => e = .returned (.int .i64 0) ∧ Below W.heap.size W w' := fun W hW => by
          have h := all_any s sA sC sts 11 (.pointer (some ⟨w.heap.size + 1, 0, none⟩)) (fun _ => ⟨1, power, o, i⟩) W (Hok.out.below hW.below (Nat.le_refl _)) hn (Hms.out.below hW.below (Nat.le_refl _)) hl (enters_of Tryz.func11 (by kernel_rfl) rfl) (fun k hk V hV => dl1_any (w.heap.size + 1) ⟨1, power, o, i⟩ k V (hW.call hV).stpIn)
          rw [hl, Ha.out] at h
          exact h
        have Hall := Lib.hid hall
        clear hall
        have hm1 := run_mk_stp s.gates.length hn
        have hm2 := run_mk_bool s.gates.length hn
        go_wp2_with (first
          | (go_at_call 9; refine (set_any s _ Hok0.out).mono ?_; rintro e w1 ⟨rfl, hb1⟩; rw [Hc.out]; have B1 := K0.out.call hb1; have c0 := (cell_of_row _ _ 0 _ _ _ B1.set).trans rfl; have c1 := (cell_of_row _ _ 1 _ _ _ B1.set).trans rfl; have HB1 := Lib.hid B1; clear B1 hb1)
          | (go_at_call 10; refine (Hall.out _ HB1.out).mono ?_; rintro e w2 ⟨rfl, hb2⟩; have B2 := HB1.out.call hb2; have d0 := (cell_of_row _ _ 0 _ _ _ B2.set).trans rfl; have d1 := (cell_of_row _ _ 1 _ _ _ B2.set).trans rfl; have HB2 := Lib.hid B2; clear B2 hb2))
        go_region
        all_goals
          first
            | ((with_reducible show Exit.then _ _ _ _ ((((World.alloc w2 (.cells (mkStp s.gates.length) 47)).alloc (.cells (mkBool s.gates.length) 4)).drew))); (have hD : DlW w s ⟨1, power, o, i⟩ w2.heap.size (w2.heap.size + 1) s.gates.length 0 (((w2.alloc (.cells (mkStp s.gates.length) 47)).alloc (.cells (mkBool s.gates.length) 4)).drew) := ⟨((HB2.out.alloc _).alloc _).call ((Below.refl _ _).drew), HB2.out.lt, by have := HB2.out.lt; omega, by omega, blk_drew (blk_new (by simp)), mkStp _, blk_drew (blk_old (blk_new rfl)), mkStp_size _, fun j r hj => absurd hj (by omega)⟩); (have HD := Lib.hid hD); (clear hD); (generalize (((w2.alloc (.cells (mkStp s.gates.length) 47)).alloc (.cells (mkBool s.gates.length) 4)).drew) = wd at HD ⊢); (generalize w2.heap.size + 1 = Q at HD ⊢); (generalize w2.heap.size = P at HD ⊢))
            | ((with_reducible show Exit.then _ _ _ _ ((((World.alloc w2 (.cells (mkBool s.gates.length) 4)).alloc (.cells (mkStp s.gates.length) 47)).drew))); (have hD : DlW w s ⟨1, power, o, i⟩ (w2.heap.size + 1) w2.heap.size s.gates.length 0 (((w2.alloc (.cells (mkBool s.gates.length) 4)).alloc (.cells (mkStp s.gates.length) 47)).drew) := ⟨((HB2.out.alloc _).alloc _).call ((Below.refl _ _).drew), by have := HB2.out.lt; omega, HB2.out.lt, by omega, blk_drew (blk_old (blk_new rfl)), mkStp _, blk_drew (blk_new (by simp)), mkStp_size _, fun j r hj => absurd hj (by omega)⟩); (have HD := Lib.hid hD); (clear hD); (generalize (((w2.alloc (.cells (mkBool s.gates.length) 4)).alloc (.cells (mkStp s.gates.length) 47)).drew) = wd at HD ⊢); (generalize w2.heap.size + 1 = P at HD ⊢); (generalize w2.heap.size = Q at HD ⊢))
        all_goals
          clear d0 d1 c0 c1 hm1 hm2 HB2 HB1 Hall
          go_wp2
          go_loopw [60] (fun j wr => ∃ k : Nat, k ≤ s.gates.length ∧ j = .int .i64 k ∧ DlW w s ⟨1, power, o, i⟩ P Q s.gates.length k wr) (fun j _ => s.gates.length - (intOf j).toNat)
          case atStart => exact ⟨0, Nat.zero_le _, rfl, HD.out⟩
          case round =>
            obtain ⟨k, hk, rfl, hd⟩ := hrel
            have Hd := Lib.hid hd
            clear hd
            by_cases hlt : k < s.gates.length
            · obtain ⟨cs, hcs, hsz, _⟩ := Hd.out.fill
              have x : ∀ r, r < 4 → wr.cell? ⟨P, k * 4 + r, none⟩ = some (cs[k * 4 + r]?.getD undef) := fun r hr => by
                rw [cell_of_row _ _ _ _ _ _ hcs, Array.getElem?_eq_getElem (by omega)]; rfl
              have x0 := x 0 (by omega)
              have x1 := x 1 (by omega)
              have x2 := x 2 (by omega)
              have x3 := x 3 (by omega)
              simp only [Nat.add_zero] at x0
              have f0 := frozen_of_row _ _ (k * 4) _ _ hcs
              have f1 := frozen_of_row _ _ (k * 4 + 1) _ _ hcs
              have f2 := frozen_of_row _ _ (k * 4 + 2) _ _ hcs
              have f3 := frozen_of_row _ _ (k * 4 + 3) _ _ hcs
              have s0 := (cell_of_row _ _ 0 _ _ _ Hd.out.base.stp).trans rfl
              have s1 := (cell_of_row _ _ 1 _ _ _ Hd.out.base.stp).trans rfl
              have s2 := (cell_of_row _ _ 2 _ _ _ Hd.out.base.stp).trans rfl
              have s3 := (cell_of_row _ _ 3 _ _ _ Hd.out.base.stp).trans rfl
              have j1 : (0 : Int) ≤ (k : Int) := by omega
              have j2 : (k : Int) < (s.gates.length : Int) := by omega
              have HS := Lib.hid (Hd.out.store hlt)
              clear x hcs
              go_wp2
              go_roundw
              case rel => first | exact ⟨k + 1, by omega, by go_num, HS.out⟩ | ((repeat apply Exists.intro); exact ⟨⟨k + 1, by omega, by go_num, HS.out⟩, rfl⟩)
              case measure => simp [intOf]; omega
            · have hke : k = s.gates.length := by omega
              subst hke
              have Hst := Lib.hid (Hd.out.stps hn)
              have Hbl := Lib.hid (Hd.out.bls hn)
              go_wp2
              go_loopw [1, 68] (fun st j wv => ∃ (k : Nat) (sk : List St) (aS : Option Addr) (cS : Nat), k ≤ 2001 ∧ st = .slice aS s.gates.length cS ∧ sk.length = s.gates.length ∧ j = .int .i64 k ∧ StsAt wv aS sk ∧ (∀ k, (h : k < s.gates.length) → (h2 : k < sk.length) → sk[k].Ok s.gates[k]) ∧ DlW w s ⟨1, power, o, i⟩ P Q s.gates.length s.gates.length wv ∧ delayFrom s.gates s.rules (List.replicate s.gates.length ⟨1, power, o, i⟩) (List.replicate s.gates.length false) (2001 - k) sk k = R) (fun _ j _ => 2001 - (intOf j).toNat)
              case atStart => exact ⟨0, sts, sA, sC, Nat.zero_le _, rfl, hl, rfl, Hms.out.below Hd.out.base.below (Nat.le_refl _), Hst0.out, Hd.out, HR.out.symm⟩
              case round =>
                clear Hst Hbl Hd Hst0
                obtain ⟨k, sk, aS, cS, hk, rfl, hskl, rfl, hska, hsko, hd, hix⟩ := hrel
                have Hd := Lib.hid hd
                have Hska := Lib.hid hska
                have Hsko := Lib.hid hsko
                have Hix := Lib.hid hix
                clear hd hska hsko hix
                by_cases hlt : k < 2001
                · have hs : delayFrom s.gates s.rules (List.replicate s.gates.length ⟨1, power, o, i⟩) (List.replicate s.gates.length false) (2001 - k) sk k = if shutUpto s.gates sk s.gates.length = true then (((k : Int) + 9) / 10, 0) else delayFrom s.gates s.rules (List.replicate s.gates.length ⟨1, power, o, i⟩) (List.replicate s.gates.length false) (2001 - (k + 1)) (stList (togAt s.gates s.rules sk (List.replicate s.gates.length ⟨1, power, o, i⟩) (List.replicate s.gates.length false)) s.gates.length) ((k : Int) + 1) := by
                    rw [show 2001 - k = (2001 - (k + 1)) + 1 from by omega, delayFrom]
                  have Hss := Lib.hid hs
                  have e0 := (cell_of_row _ _ 0 _ _ _ Hd.out.base.set).trans rfl
                  clear hs
                  go_wp2
                  have htg : ∀ W, DlW w s ⟨1, power, o, i⟩ P Q s.gates.length s.gates.length W → StsAt W aS sk → Calls Tryz.prog 12 #[s.val, .slice aS s.gates.length cS, .slice (some ⟨P, 0, none⟩) s.gates.length s.gates.length, .slice (some ⟨Q, 0, none⟩) s.gates.length s.gates.length] W fun e w' =>
                      ∃ aN cN vM, e = .returned (.tuple #[.slice aN s.gates.length cN, vM]) ∧ StsAt w' aN (stList (togAt s.gates s.rules sk (List.replicate s.gates.length ⟨1, power, o, i⟩) (List.replicate s.gates.length false)) s.gates.length) ∧ Below W.heap.size W w' := fun W hW hS => by
                    have h := tog_any s aS (some ⟨P, 0, none⟩) (some ⟨Q, 0, none⟩) cS s.gates.length s.gates.length sk (List.replicate s.gates.length ⟨1, power, o, i⟩) (List.replicate s.gates.length false) W ⟨Hok.out.below hW.base.below (Nat.le_refl _), hS, hW.stps hn, hW.bls hn, hn, hskl, by simp, by simp, hskl ▸ Hrin.out, Hgd.out, Hsko.out, fun t ht => by rw [List.eq_of_mem_replicate ht]; exact Hlv.out⟩
                    rw [hskl, List.length_replicate, List.length_replicate] at h
                    refine h.mono ?_
                    rintro e w' ⟨vS, vM, rfl, hO, _, _, hb⟩
                    obtain ⟨aN, cN, rfl, hs⟩ := sts_of_row (by unfold maxLen; omega) hO
                    exact ⟨aN, cN, vM, rfl, hs, hb⟩
                  have Htg := Lib.hid htg
                  have Hnk := Lib.hid (tog_ok (rules := s.rules) (ts := List.replicate s.gates.length ⟨1, power, o, i⟩) (bs := List.replicate s.gates.length false) Hgd.out Hsko.out hskl (by simp) (by simp))
                  have Hnl := Lib.hid (stList_len (togAt s.gates s.rules sk (List.replicate s.gates.length ⟨1, power, o, i⟩) (List.replicate s.gates.length false)) s.gates.length)
                  clear htg
                  revert Htg Hnk Hss Hnl
                  generalize stList (togAt s.gates s.rules sk (List.replicate s.gates.length ⟨1, power, o, i⟩) (List.replicate s.gates.length false)) s.gates.length = sn
                  intro Hss Htg Hnk Hnl
                  have hdk : decide ((k : Int) < 2001) = true := by simp; omega
                  rw [hdk]
                  go_loopw [21, 74] (fun b j wx => ∃ m : Nat, m ≤ s.gates.length ∧ b = .bool (shutUpto s.gates sk m) ∧ j = .int .i64 m ∧ DlW w s ⟨1, power, o, i⟩ P Q s.gates.length s.gates.length wx ∧ StsAt wx aS sk) (fun _ j _ => s.gates.length - (intOf j).toNat)
                  case atStart => exact ⟨0, Nat.zero_le _, rfl, rfl, Hd.out, Hska.out⟩
                  case round =>
                    clear e0 Hd Hska
                    obtain ⟨m, hm, rfl, rfl, hd2, hsa2⟩ := hrel
                    have Hd2 := Lib.hid hd2
                    have Hsa2 := Lib.hid hsa2
                    clear hd2 hsa2
                    by_cases hmt : m < s.gates.length
                    · obtain ⟨_, hgo, hgat⟩ := Hok.out.gs.below Hd2.out.base.below (Nat.le_refl _)
                      rcases hgat with hl' | ⟨b, off, ha', hb, hgl⟩
                      · rw [hl'] at hmt; exact absurd hmt (by simp)
                      · rw [ha']
                        have hms' : m < sk.length := by omega
                        obtain ⟨sb, so, hsa, hsb, hsl⟩ : ∃ b off, aS = some ⟨b, off, none⟩ ∧ _ := by
                          rcases Hsa2.out.2 with h | h
                          · exact absurd hms' (by rw [h]; simp)
                          · exact h
                        subst hsa
                        have Hrg := Lib.hid (hgl m hmt)
                        have hpos := (hsl m hms').1
                        have hsh := shutUpto_succ hmt hms'
                        clear hgl hsl hgo ha'
                        revert Hrg hpos hsh
                        generalize s.gates[m] = g
                        generalize sk[m] = x
                        intro Hrg hpos hsh
                        have HA := Lib.hid (Hd2.out.alloc (.cells g.cells 60))
                        have HS := Lib.hid (Hsa2.out.below ((Below.refl wr.heap.size wr).alloc (Nat.le_refl _) (.cells g.cells 60)) (Nat.le_refl _))
                        have j1 : (0 : Int) ≤ (m : Int) := by omega
                        have j2 : (m : Int) < (s.gates.length : Int) := by omega
                        cases hb2 : shutUpto s.gates sk m with
                        | false =>
                          rw [hb2] at hsh
                          have hsh2 : shutUpto s.gates sk (m + 1) = false := by rw [hsh]; rfl
                          have Hsh := Lib.hid hsh2
                          clear hsh2
                          clear hsh hb2
                          go_wp2_with (first
                            | (with_reducible show wpList _ _ _ (({ dst := _, op := .load 60 (.tmp 77), type := _, pos := _, after := _, guard := none } : Oper) :: _) _ _; refine wpList_load_gate_mid Hrg.out rfl (.tmp 77) rfl rfl ?_)
                            | (with_reducible show wpList _ _ _ (({ dst := _, op := .store 60 (.tmp 23) (.tmp 78), type := _, pos := _, after := _, guard := none } : Oper) :: _) _ _; refine wpList_store_gate_new rfl (.tmp 23) (.tmp 78) rfl rfl rfl rfl ?_))
                          go_quiet (fail)
                          go_wp2
                          go_roundw
                          case rel => first | exact ⟨m + 1, by omega, congrArg Value.bool Hsh.out.symm, by go_num, HA.out.call (below_drewN (Below.refl _ _) _), HS.out.below (below_drewN (Below.refl _ _) _) (Nat.le_refl _)⟩ | ((repeat apply Exists.intro); exact ⟨⟨m + 1, by omega, congrArg Value.bool Hsh.out.symm, by go_num, HA.out.call (below_drewN (Below.refl _ _) _), HS.out.below (below_drewN (Below.refl _ _) _) (Nat.le_refl _)⟩, rfl⟩)
                          case measure => simp [intOf]; omega
                        | true =>
                          have hq : (x.pos == g.travel) = decide (x.pos = g.travel) := by rw [Bool.eq_iff_iff]; simp
                          rw [hb2] at hsh
                          have hsh2 : shutUpto s.gates sk (m + 1) = decide (x.pos = g.travel) := by rw [hsh]; rfl
                          have Hsh := Lib.hid hsh2
                          clear hsh2
                          clear hsh hb2
                          go_wp2_with (first
                            | (with_reducible show wpList _ _ _ (({ dst := _, op := .load 60 (.tmp 77), type := _, pos := _, after := _, guard := none } : Oper) :: _) _ _; refine wpList_load_gate_mid Hrg.out rfl (.tmp 77) rfl rfl ?_)
                            | (with_reducible show wpList _ _ _ (({ dst := _, op := .store 60 (.tmp 23) (.tmp 78), type := _, pos := _, after := _, guard := none } : Oper) :: _) _ _; refine wpList_store_gate_new rfl (.tmp 23) (.tmp 78) rfl rfl rfl rfl ?_))
                          go_quiet (fail)
                          go_wp2
                          go_roundw
                          case rel => first | exact ⟨m + 1, by omega, congrArg Value.bool Hsh.out.symm, by go_num, HA.out.call (below_drewN (Below.refl _ _) _), HS.out.below (below_drewN (Below.refl _ _) _) (Nat.le_refl _)⟩ | ((repeat apply Exists.intro); exact ⟨⟨m + 1, by omega, congrArg Value.bool Hsh.out.symm, by go_num, HA.out.call (below_drewN (Below.refl _ _) _), HS.out.below (below_drewN (Below.refl _ _) _) (Nat.le_refl _)⟩, rfl⟩)
                          case measure => simp [intOf]; omega
                    · have hme : m = s.gates.length := by omega
                      subst hme
                      cases hb2 : shutUpto s.gates sk s.gates.length with
                      | true =>
                        have hr2 := Hss.out
                        rw [if_pos hb2, Hix.out] at hr2
                        have Hr2 := Lib.hid hr2
                        clear hr2 hb2
                        go_wp2
                        go_ret2
                        exact ⟨ret2 (by rw [Hr2.out, show (k : Int) + 10 - 1 = (k : Int) + 9 from by omega]), Hd2.out.base.below⟩
                      | false =>
                        have hr2 := Hss.out
                        rw [if_neg (by simp [hb2]), Hix.out] at hr2
                        have Hr2 := Lib.hid hr2
                        have e0 := (cell_of_row _ _ 0 _ _ _ Hd2.out.base.set).trans rfl
                        have e1 := (cell_of_row _ _ 1 _ _ _ Hd2.out.base.set).trans rfl
                        clear hr2 hb2
                        go_wp2_with ((go_at_call 12; refine (Htg.out _ Hd2.out Hsa2.out).mono ?_; rintro e w' ⟨aN, cN, vM, rfl, hsN, hbN⟩; have HdN := Lib.hid (Hd2.out.call hbN); have HsN := Lib.hid hsN; clear hsN hbN))
                        go_roundw
                        case rel => first | exact ⟨k + 1, sn, aN, cN, by omega, rfl, Hnl.out, by go_num, HsN.out, Hnk.out, HdN.out, Hr2.out.symm⟩ | ((repeat apply Exists.intro); exact ⟨⟨k + 1, sn, aN, cN, by omega, rfl, Hnl.out, by go_num, HsN.out, Hnk.out, HdN.out, Hr2.out.symm⟩, rfl⟩)
                        case measure => simp [intOf]; omega
                · have hs : delayFrom s.gates s.rules (List.replicate s.gates.length ⟨1, power, o, i⟩) (List.replicate s.gates.length false) (2001 - k) sk k = (0, 9) := by
                    rw [show 2001 - k = 0 from by omega, delayFrom]
                  have Hss := Lib.hid hs
                  clear hs
                  go_wp2
                  go_ret2
                  exact ⟨ret2 (by rw [← Hix.out, Hss.out]), Hd.out.base.below⟩
      · have hr : delayZ s sts ⟨1, power, o, i⟩ = (0, allE s.gates sts (fun _ => ⟨1, power, o, i⟩)) := by
          rw [delayZ, if_neg (by simp [hc]), if_neg (by simp [hl]), if_pos ha]
        rw [hr]
        have Hc := Lib.hid hc
        have hle : ((s.gates.length : Int) != (s.gates.length : Int)) = false := by simp
        have hall : ∀ W, DeW w s ⟨1, power, o, i⟩ W → Calls Tryz.prog 10 #[s.val, .slice sA s.gates.length sC, .func (.func 11) #[] #[.pointer (some ⟨w.heap.size + 1, 0, none⟩)]] W fun e w' => e = .returned (.int .i64 (allE s.gates sts (fun _ => ⟨1, power, o, i⟩))) ∧ Below W.heap.size W w' := fun W hW => by
          have h := all_any s sA sC sts 11 (.pointer (some ⟨w.heap.size + 1, 0, none⟩)) (fun _ => ⟨1, power, o, i⟩) W (Hok.out.below hW.below (Nat.le_refl _)) hn (Hms.out.below hW.below (Nat.le_refl _)) hl (enters_of Tryz.func11 (by kernel_rfl) rfl) (fun k hk V hV => dl1_any (w.heap.size + 1) ⟨1, power, o, i⟩ k V (hW.call hV).stpIn)
          rw [hl] at h
          exact h
        have Hall := Lib.hid hall
        clear hall hr hc
        revert Hall ha
        generalize allE s.gates sts (fun _ => ⟨1, power, o, i⟩) = E
        intro ha Hall
        have hE : (E != 0) = true := by simp [ha]
        clear ha
        rw [hl]
        go_enter Tryz.func4, Tryz.ntmps4
        go_wp2_with (first
          | (go_at_call 9; refine (set_any s _ Hok0.out).mono ?_; rintro e w1 ⟨rfl, hb1⟩; rw [Hc.out]; have B1 := K0.out.call hb1; have c0 := (cell_of_row _ _ 0 _ _ _ B1.set).trans rfl; have c1 := (cell_of_row _ _ 1 _ _ _ B1.set).trans rfl; have HB1 := Lib.hid B1; clear B1 hb1)
          | (go_at_call 10; refine (Hall.out _ HB1.out).mono ?_; rintro e w2 ⟨rfl, hb2⟩; have HB2 := Lib.hid (HB1.out.call hb2); clear hb2))
        go_ret2
        exact ⟨rfl, HB2.out.below⟩
    · have hr : delayZ s sts ⟨1, power, o, i⟩ = (0, 2) := by
        rw [delayZ, if_neg (by simp [hc]), if_pos hl]
      rw [hr]
      have Hc := Lib.hid hc
      have hle : ((sts.length : Int) != (s.gates.length : Int)) = true := by
        have : ¬ ((sts.length : Int) = (s.gates.length : Int)) := by omega
        simp [this]
      clear hr hc hl
      go_enter Tryz.func4, Tryz.ntmps4
      go_wp2_with (go_at_call 9; refine (set_any s _ Hok0.out).mono ?_; rintro e w1 ⟨rfl, hb1⟩; rw [Hc.out]; have B1 := K0.out.call hb1; have c0 := (cell_of_row _ _ 0 _ _ _ B1.set).trans rfl; have c1 := (cell_of_row _ _ 1 _ _ _ B1.set).trans rfl; have HB1 := Lib.hid B1; clear B1 hb1)
      go_ret2
      exact ⟨rfl, HB1.out.below⟩
  · have hr : delayZ s sts ⟨1, power, o, i⟩ = (0, (setE s).2.2) := by
      rw [delayZ, if_pos hc]
    rw [hr]
    have h1 : ((setE s).2.2 != 0) = true := by simp [hc]
    have h2 : ((setE s).2.2 == 0) = false := by simp [hc]
    clear hr hc
    go_enter Tryz.func4, Tryz.ntmps4
    go_wp2_with ((go_at_call 9; refine (set_any s _ Hok0.out).mono ?_; rintro e w1 ⟨rfl, hb1⟩;  have B1 := K0.out.call hb1; have c0 := (cell_of_row _ _ 0 _ _ _ B1.set).trans rfl; have c1 := (cell_of_row _ _ 1 _ _ _ B1.set).trans rfl; have HB1 := Lib.hid B1; clear B1 hb1))
    go_ret2
    exact ⟨rfl, HB1.out.below⟩
end Go.Proofs.YtgfdindlihfidaaGreat
