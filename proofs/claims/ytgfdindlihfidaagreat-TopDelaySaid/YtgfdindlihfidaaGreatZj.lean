/-
  basin.step: what it returns of a basin of three rows without polders that is as stated, where the river's water stays between the second and the third row.
-/
import Derived.Test.YtgfdindlihfidaaGreatZi
import Derived.Test.YtgfdindlihfidaaGreatPn
namespace Go.Proofs.YtgfdindlihfidaaGreat
open Go.RowKit Go.Shelf Go.Sort
set_option linter.unusedSimpArgs false
set_option linter.unusedVariables false
attribute [local go_sem high] run_min_z run_max_z
attribute [local go_sem ↓] run_min_z run_max_z

theorem bhigh_eq {n : Int} {r : Bool} (h : outB n (-20000) 20000 = r) (w : World) : Calls Tryz.prog 85 #[.int .i64 n] w fun e w' => e = .returned (.bool r) ∧ w = w' := h ▸ bhigh_any n w
theorem WatAt.other {W : World} {B : Nat} {z : WatV} (h : WatAt W B z) {b k : Nat} (hb : B ≠ b) (v : Value) : WatAt (W.setCell ⟨b, k, none⟩ v) B z := ⟨blk_set_other hb h.blk⟩
/-- What goes with the water of a basin in a tick: the numbers of its steps. -/
structure StepFit (x : BasV) (r0 r1 r2 : RowV) (v o rv q : Int) : Prop where
  s_good : x.Good
  s_rows : x.rows = [r0, r1, r2]
  s_lev : (-20000 ≤ r1.level ∧ r1.level ≤ 20000) ∧ (-20000 ≤ r2.level ∧ r2.level ≤ 20000)
  s_vol : 0 ≤ r0.vol ∧ 0 ≤ r1.vol ∧ r2.vol ≤ 1000000000
  s_v0 : r0.vol ≤ v
  s_up : 0 ≤ rv ∧ rv ≤ 10000000
  s_above : r1.vol < v + rv
  s_under : v + rv < r2.vol
  s_d : 1 ≤ r2.vol - r1.vol ∧ r2.vol - r1.vol ≤ 10000000
  s_n : -100000000000 ≤ r1.level * (r2.vol - r1.vol) + (v + rv - r1.vol) * (r2.level - r1.level) ∧ r1.level * (r2.vol - r1.vol) + (v + rv - r1.vol) * (r2.level - r1.level) ≤ 100000000000
  s_outer : -20000 ≤ o ∧ o ≤ x.crest
  s_q : max (x.leak * (-(r1.level * (r2.vol - r1.vol) + (v + rv - r1.vol) * (r2.level - r1.level)) - -o * (r2.vol - r1.vol)) / (r2.vol - r1.vol)) (r0.vol - (v + rv)) = q
  s_s : r0.vol ≤ v + rv + q ∧ v + rv + q ≤ 1000000000
abbrev stateV (v : Int) : Value := .agg #[.int .i64 v, .slice none 0 0]
abbrev flowsV (rv q : Int) : Value := .agg #[.int .i64 rv, .int .i64 0, .int .i64 q, .int .i64 0, .slice none 0 0]
abbrev tickV (o rv : Int) : Value := .agg #[.int .i64 o, .int .i64 rv, .int .i64 0]

/-- The water's stages. -/
def stg0 (x : BasV) (v o rv : Int) : WatV := ⟨x, v, o, rv, 0, 0, 0, 0, 0⟩
def stg1 (x : BasV) (v o rv : Int) : WatV := ⟨x, v + rv, o, rv, 0, rv, 0, 0, 0⟩
def stg3 (x : BasV) (v o rv q : Int) : WatV := ⟨x, v + rv + q, o, rv, 0, rv, 0, q, 0⟩
section
variable {x : BasV} {r0 r1 r2 : RowV} {v o rv q : Int} {V : World} {B : Nat}
theorem st_river (hf : StepFit x r0 r1 r2 v o rv q) (h : WatAt V B (stg0 x v o rv)) :
    Calls Tryz.prog 98 #[.pointer (some ⟨B, 0, none⟩)] V fun e W' => e = .returned (.bool true) ∧ WatAt W' B (stg1 x v o rv) ∧ Below B V W' :=
  river_any h (by have := hf.s_v0; have := hf.s_vol; show 0 ≤ v; omega) hf.s_up (by have := hf.s_under; have := hf.s_vol; show v + rv ≤ 1000000000; omega)
theorem st_over (hf : StepFit x r0 r1 r2 v o rv q) (h : WatAt V B (stg1 x v o rv)) :
    Calls Tryz.prog 99 #[.pointer (some ⟨B, 0, none⟩)] V fun e W' => e = .returned (.bool true) ∧ WatAt W' B (stg1 x v o rv) ∧ Below B V W' :=
  wover_any h (by have := hf.s_under; have := hf.s_above; have := hf.s_vol; show 0 ≤ v + rv ∧ v + rv ≤ 1000000000; omega) (outB_ft hf.s_good.over) (outB_ft hf.s_good.crest) hf.s_outer
theorem st_leak (hf : StepFit x r0 r1 r2 v o rv q) (h : WatAt V B (stg1 x v o rv)) (hl : ∀ U, Below B V U → RowsAt U x.rA x.rows) :
    Calls Tryz.prog 100 #[.pointer (some ⟨B, 0, none⟩)] V fun e W' => e = .returned (.bool true) ∧ WatAt W' B (stg3 x v o rv q) ∧ Below B V W' := by
  obtain ⟨hg, hx, ⟨l1, l2⟩, ⟨v0, v1, v2⟩, hv0, hup, hab, hun, hd, hn, hou, hq, hs⟩ := hf
  have hcr := outB_ft hg.crest
  exact wleak_any h hx hl (fun U hU => exact_three x r0 r1 r2 (v + rv) U hx (hl U hU) hab hun l1 l2 ⟨v1, v2⟩) hn hd ⟨hou.1, show o ≤ 20000 by omega⟩ (outB_ft hg.leak) (show 0 ≤ v + rv ∧ v + rv ≤ 1000000000 by omega) (by omega) hq (show 0 ≤ v + rv + q ∧ v + rv + q ≤ 1000000000 by omega)
theorem st_off (hf : StepFit x r0 r1 r2 v o rv q) (h : WatAt V B (stg3 x v o rv q)) (hl : RowsAt V x.rA x.rows) :
    Calls Tryz.prog 101 #[.pointer (some ⟨B, 0, none⟩)] V fun e W' => e = .returned (.bool true) ∧ WatAt W' B (stg3 x v o rv q) ∧ Below B V W' := by
  obtain ⟨hg, hx, ⟨l1, l2⟩, ⟨v0, v1, v2⟩, hv0, hup, hab, hun, hd, hn, hou, hq, hs⟩ := hf
  exact woff_any h (show 0 ≤ v + rv + q ∧ v + rv + q ≤ 1000000000 by omega) hx hl rfl (show 0 ≤ r0.vol ∧ r0.vol ≤ v + rv + q by omega)
theorem st_pol (hf : StepFit x r0 r1 r2 v o rv q) (h : WatAt V B (stg3 x v o rv q)) :
    Calls Tryz.prog 102 #[.pointer (some ⟨B, 0, none⟩)] V fun e W' => e = .returned (.bool true) ∧ V = W' :=
  wpol_any h hf.s_good.nopol
theorem StepFit.outs (hf : StepFit x r0 r1 r2 v o rv q) : outB o (-20000) 20000 = false ∧ outB rv 0 10000000 = false := by
  have h1 := outB_ft hf.s_good.crest
  have h2 := hf.s_outer
  have h3 := hf.s_up
  rw [outB, outB]
  constructor <;> simp <;> omega
end

section
variable (f0 f1 f2 f3 f4 : Value) (W : World)
theorem run_arr0 : (Instr.index 190 (.agg #[f0, f1, f2, f3, f4]) (.int .i64 0)).run Tryz.prog W = .ok f0 W := by kernel_rfl
theorem run_arr1 : (Instr.index 190 (.agg #[f0, f1, f2, f3, f4]) (.int .i64 1)).run Tryz.prog W = .ok f1 W := by kernel_rfl
theorem run_arr2 : (Instr.index 190 (.agg #[f0, f1, f2, f3, f4]) (.int .i64 2)).run Tryz.prog W = .ok f2 W := by kernel_rfl
theorem run_arr3 : (Instr.index 190 (.agg #[f0, f1, f2, f3, f4]) (.int .i64 3)).run Tryz.prog W = .ok f3 W := by kernel_rfl
theorem run_arr4 : (Instr.index 190 (.agg #[f0, f1, f2, f3, f4]) (.int .i64 4)).run Tryz.prog W = .ok f4 W := by kernel_rfl
end
attribute [local go_sem] run_arr0 run_arr1 run_arr2 run_arr3 run_arr4

set_option maxRecDepth 100000 in
set_option maxHeartbeats 4000000 in
theorem bstep_any (x : BasV) (r0 r1 r2 : RowV) (v o rv q : Int) (w : World) (hok : x.Ok w) (hf : StepFit x r0 r1 r2 v o rv q) :
    Calls Tryz.prog 93 #[x.val, stateV v, tickV o rv] w fun e w' => e = .returned (.tuple #[stateV (v + rv + q), flowsV rv q, .int .i64 0]) ∧ Below w.heap.size w w' := by
  obtain ⟨ho0, ho1⟩ := hf.outs
  have Hf := Lib.hid hf
  have Hok := Lib.hid hok
  clear hf hok
  obtain ⟨s, hs0⟩ : ∃ s, s = w.heap.size := ⟨_, rfl⟩
  obtain ⟨W0, hW0⟩ : ∃ W0, W0 = ((((w.alloc (.cells x.cells 32)).alloc (.cells #[.int .i64 v, .slice none 0 0] 168)).alloc (.cells #[.int .i64 o, .int .i64 rv, .int .i64 0] 174)).alloc (.cells #[.int .i64 0, .slice none 0 0] 168)).alloc (.cells #[.int .i64 0, .int .i64 0, .int .i64 0, .int .i64 0, .slice none 0 0] 170) := ⟨_, rfl⟩
  have hsz : W0.heap.size = s + 5 := by rw [hW0, hs0]; simp
  have hB0 : Below s w W0 := by rw [hW0, hs0]; exact (((((Below.refl _ _).alloc (Nat.le_refl _) _).alloc (by simp) _).alloc (by simp; omega) _).alloc (by simp; omega) _).alloc (by simp; omega) _
  have hX0 : W0.heap[s]? = some (.cells x.cells 32 (0, 0)) := by rw [hW0]; exact blk_old (blk_old (blk_old (blk_old (blk_new hs0.symm))))
  have hX1 : W0.heap[s + 1]? = some (.cells #[.int .i64 v, .slice none 0 0] 168 (0, 0)) := by rw [hW0]; exact blk_old (blk_old (blk_old (blk_new (by simp [hs0]))))
  have hX2 : W0.heap[s + 2]? = some (.cells #[.int .i64 o, .int .i64 rv, .int .i64 0] 174 (0, 0)) := by rw [hW0]; exact blk_old (blk_old (blk_new (by simp [hs0])))
  have hX3 : W0.heap[s + 3]? = some (.cells #[.int .i64 0, .slice none 0 0] 168 (0, 0)) := by rw [hW0]; exact blk_old (blk_new (by simp [hs0]))
  have hX4 : W0.heap[s + 4]? = some (.cells #[.int .i64 0, .int .i64 0, .int .i64 0, .int .i64 0, .slice none 0 0] 170 (0, 0)) := by rw [hW0]; exact blk_new (by simp [hs0])
  have ho2 : outB 0 0 10000000 = false := by decide
  have HW0 := Lib.hid hW0
  have Hs0 := Lib.hid hs0
  have HX := Lib.hid (⟨hX0, hX1, hX2, hX3, hX4⟩ : _ ∧ _ ∧ _ ∧ _ ∧ _)
  have HB0 := Lib.hid hB0
  have Hsz := Lib.hid hsz
  clear hX0 hX1 hX2 hX3 hX4 hB0 hW0 hs0 hsz
  go_enter Tryz.func93, Tryz.ntmps93
  go_wp2_with fail
  rw [← HW0.out, show w.heap.size + 1 + 1 + 1 + 1 = s + 4 by rw [Hs0.out], show w.heap.size + 1 + 1 + 1 = s + 3 by rw [Hs0.out], show w.heap.size + 1 + 1 = s + 2 by rw [Hs0.out], show w.heap.size + 1 = s + 1 by rw [Hs0.out], ← Hs0.out]
  have hsz := Hsz.out
  have c20 : W0.cell? ⟨s + 2, 0, none⟩ = some (.int .i64 o) := (cell_of_row _ _ 0 _ _ _ HX.out.2.2.1).trans rfl
  have c21 : W0.cell? ⟨s + 2, 1, none⟩ = some (.int .i64 rv) := (cell_of_row _ _ 1 _ _ _ HX.out.2.2.1).trans rfl
  have c22 : W0.cell? ⟨s + 2, 2, none⟩ = some (.int .i64 0) := (cell_of_row _ _ 2 _ _ _ HX.out.2.2.1).trans rfl
  have c11 : W0.cell? ⟨s + 1, 1, none⟩ = some (.slice none 0 0) := (cell_of_row _ _ 1 _ _ _ HX.out.2.1).trans rfl
  have cf := frozen_of_row _ _ 1 _ _ HX.out.2.1
  go_upto_region 4 with (first | (go_at_call 85; (with_reducible refine (bhigh_eq ho0 _).mono ?_); rintro e w' ⟨rfl, rfl⟩) | (go_at_call 84; (with_reducible refine (bout_eq ho1 _).mono ?_); rintro e w' ⟨rfl, rfl⟩) | (go_at_call 84; (with_reducible refine (bout_eq ho2 _).mono ?_); rintro e w' ⟨rfl, rfl⟩) | (go_at_call 97; (with_reducible refine (clone_nil _).mono ?_); rintro e w' ⟨rfl, hw⟩; obtain rfl := hw.symm; clear hw))
  have hY1 : (W0.setCell ⟨s + 1, 1, none⟩ (.slice none 0 0)).heap[s + 1]? = some (.cells #[.int .i64 v, .slice none 0 0] 168 (0, 0)) := heap_setCell_same _ _ 1 _ _ _ HX.out.2.1
  have hY0 : (W0.setCell ⟨s + 1, 1, none⟩ (.slice none 0 0)).heap[s]? = some (.cells x.cells 32 (0, 0)) := blk_set_other (by omega) HX.out.1
  have hY2 : (W0.setCell ⟨s + 1, 1, none⟩ (.slice none 0 0)).heap[s + 2]? = some (.cells #[.int .i64 o, .int .i64 rv, .int .i64 0] 174 (0, 0)) := blk_set_other (by omega) HX.out.2.2.1
  have hY3 : (W0.setCell ⟨s + 1, 1, none⟩ (.slice none 0 0)).heap[s + 3]? = some (.cells #[.int .i64 0, .slice none 0 0] 168 (0, 0)) := blk_set_other (by omega) HX.out.2.2.2.1
  have hY4 : (W0.setCell ⟨s + 1, 1, none⟩ (.slice none 0 0)).heap[s + 4]? = some (.cells #[.int .i64 0, .int .i64 0, .int .i64 0, .int .i64 0, .slice none 0 0] 170 (0, 0)) := blk_set_other (by omega) HX.out.2.2.2.2
  have hB1 : Below s w (W0.setCell ⟨s + 1, 1, none⟩ (.slice none 0 0)) := bset HB0.out (by omega)
  have hsz1 : (W0.setCell ⟨s + 1, 1, none⟩ (.slice none 0 0)).heap.size = s + 5 := by simp [hsz]
  clear c20 c21 c22 c11 cf ho0 ho1 ho2 hsz
  generalize W0.setCell ⟨s + 1, 1, none⟩ (.slice none 0 0) = W1 at hY0 hY1 hY2 hY3 hY4 hB1 hsz1 ⊢
  have d0 := bas_cell hY0 0 _ rfl
  have d1 := bas_cell hY0 1 _ rfl
  have d2 := bas_cell hY0 2 _ rfl
  have d3 := bas_cell hY0 3 _ rfl
  have d4 := bas_cell hY0 4 _ rfl
  have e0 : W1.cell? ⟨s + 1, 0, none⟩ = some (.int .i64 v) := (cell_of_row _ _ 0 _ _ _ hY1).trans rfl
  have e1 : W1.cell? ⟨s + 1, 1, none⟩ = some (.slice none 0 0) := (cell_of_row _ _ 1 _ _ _ hY1).trans rfl
  have f0 : W1.cell? ⟨s + 2, 0, none⟩ = some (.int .i64 o) := (cell_of_row _ _ 0 _ _ _ hY2).trans rfl
  have f1 : W1.cell? ⟨s + 2, 1, none⟩ = some (.int .i64 rv) := (cell_of_row _ _ 1 _ _ _ hY2).trans rfl
  have f2 : W1.cell? ⟨s + 2, 2, none⟩ = some (.int .i64 0) := (cell_of_row _ _ 2 _ _ _ hY2).trans rfl
  have HY := Lib.hid (show _ ∧ _ from ⟨hY3, hY4⟩)
  have HB1 := Lib.hid hB1
  have Hsz1 := Lib.hid hsz1
  clear hY0 hY1 hY2 hY3 hY4 hB1
  go_wp2_with fail
  have hsz1 := Hsz1.out
  obtain ⟨W2, hW2⟩ : ∃ W2, W2 = W1.alloc (.cells (stg0 x v o rv).cells 189) := ⟨_, rfl⟩
  have hA0 : WatAt W2 (s + 5) (stg0 x v o rv) := ⟨by rw [hW2]; exact blk_new hsz1⟩
  have hB2 : Below (s + 5) W1 W2 := by rw [hW2]; exact (Below.refl _ _).alloc (by omega) _
  have HRo := Lib.hid (fun V (h : Below (s + 5) W2 V) => Hok.out.rows.below (HB1.out.trans ((hB2.trans h).mono (by omega))) (by rw [Hs0.out]; exact Nat.le_refl _))
  change Code.wp _ _ _ _ (W1.alloc (.cells (stg0 x v o rv).cells 189))
  rw [← hW2]
  have HA0 := Lib.hid hA0
  have HB2 := Lib.hid hB2
  clear hA0 hB2 hW2 d0 d1 d2 d3 d4 e0 e1 f0 f1 f2
  have HR := Lib.hid (fun V (h : WatAt V (s + 5) (stg0 x v o rv)) => st_river Hf.out h)
  have HO := Lib.hid (fun V (h : WatAt V (s + 5) (stg1 x v o rv)) => st_over Hf.out h)
  have HL := Lib.hid (fun V (hb : Below (s + 5) W2 V) (h : WatAt V (s + 5) (stg1 x v o rv)) => st_leak Hf.out h (fun U hU => HRo.out U (hb.trans hU)))
  have HF := Lib.hid (fun V (hb : Below (s + 5) W2 V) (h : WatAt V (s + 5) (stg3 x v o rv q)) => st_off Hf.out h (HRo.out V hb))
  have HP := Lib.hid (fun V (h : WatAt V (s + 5) (stg3 x v o rv q)) => st_pol Hf.out h)
  go_loopw [47] (fun i wr => Below (s + 5) W2 wr ∧ ((i = .int .i64 0 ∧ WatAt wr (s + 5) (stg0 x v o rv)) ∨ (i = .int .i64 1 ∧ WatAt wr (s + 5) (stg1 x v o rv)) ∨ (i = .int .i64 2 ∧ WatAt wr (s + 5) (stg1 x v o rv)) ∨ (i = .int .i64 3 ∧ WatAt wr (s + 5) (stg3 x v o rv q)) ∨ (i = .int .i64 4 ∧ WatAt wr (s + 5) (stg3 x v o rv q)) ∨ (i = .int .i64 5 ∧ WatAt wr (s + 5) (stg3 x v o rv q)))) (fun i _ => (5 - intOf i).toNat)
  case atStart => exact ⟨Below.refl _ _, .inl ⟨rfl, HA0.out⟩⟩
  case round =>
    obtain ⟨hb, hc⟩ := hrel
    have Hb := Lib.hid hb
    clear hb
    rcases hc with ⟨rfl, hz⟩ | ⟨rfl, hz⟩ | ⟨rfl, hz⟩ | ⟨rfl, hz⟩ | ⟨rfl, hz⟩ | ⟨rfl, hz⟩
    · have Hz := Lib.hid hz
      clear hz
      go_wp2_with ((go_at_call 98; (with_reducible refine (HR.out _ Hz.out).mono ?_); rintro e w1 ⟨rfl, h1, h2⟩; have H1 := Lib.hid h1; have H2 := Lib.hid h2; clear h1 h2))
      exact ⟨⟨Hb.out.trans H2.out, .inr (.inl ⟨rfl, H1.out⟩)⟩, by simp [intOf]⟩
    · have Hz := Lib.hid hz
      clear hz
      go_wp2_with ((go_at_call 99; (with_reducible refine (HO.out _ Hz.out).mono ?_); rintro e w1 ⟨rfl, h1, h2⟩; have H1 := Lib.hid h1; have H2 := Lib.hid h2; clear h1 h2))
      exact ⟨⟨Hb.out.trans H2.out, .inr (.inr (.inl ⟨rfl, H1.out⟩))⟩, by simp [intOf]⟩
    · have Hz := Lib.hid hz
      clear hz
      go_wp2_with ((go_at_call 100; (with_reducible refine (HL.out _ Hb.out Hz.out).mono ?_); rintro e w1 ⟨rfl, h1, h2⟩; have H1 := Lib.hid h1; have H2 := Lib.hid h2; clear h1 h2))
      exact ⟨⟨Hb.out.trans H2.out, .inr (.inr (.inr (.inl ⟨rfl, H1.out⟩)))⟩, by simp [intOf]⟩
    · have Hz := Lib.hid hz
      clear hz
      go_wp2_with ((go_at_call 101; (with_reducible refine (HF.out _ Hb.out Hz.out).mono ?_); rintro e w1 ⟨rfl, h1, h2⟩; have H1 := Lib.hid h1; have H2 := Lib.hid h2; clear h1 h2))
      exact ⟨⟨Hb.out.trans H2.out, .inr (.inr (.inr (.inr (.inl ⟨rfl, H1.out⟩))))⟩, by simp [intOf]⟩
    · have Hz := Lib.hid hz
      clear hz
      go_wp2_with ((go_at_call 102; (with_reducible refine (HP.out _ Hz.out).mono ?_); rintro e w1 ⟨rfl, rfl⟩))
      exact ⟨⟨Hb.out, .inr (.inr (.inr (.inr (.inr ⟨rfl, Hz.out⟩))))⟩, by simp [intOf]⟩
    · have hs6 : s + 5 < wr.heap.size := hz.lt
      have hY3 := below_heap (Hb.out) (show s + 3 < s + 5 by omega) ((below_heap HB2.out (show s + 3 < s + 5 by omega) HY.out.1))
      have hY4 := below_heap (Hb.out) (show s + 4 < s + 5 by omega) ((below_heap HB2.out (show s + 4 < s + 5 by omega) HY.out.2))
      have b30 := cell_of_row _ _ 0 _ _ _ hY3
      have b31 := cell_of_row _ _ 1 _ _ _ hY3
      have g30 := frozen_of_row _ _ 0 _ _ hY3
      have g31 := frozen_of_row _ _ 1 _ _ hY3
      have b40 := cell_of_row _ _ 0 _ _ _ hY4
      have b41 := cell_of_row _ _ 1 _ _ _ hY4
      have b42 := cell_of_row _ _ 2 _ _ _ hY4
      have b43 := cell_of_row _ _ 3 _ _ _ hY4
      have b44 := cell_of_row _ _ 4 _ _ _ hY4
      have g40 := frozen_of_row _ _ 0 _ _ hY4
      have g41 := frozen_of_row _ _ 1 _ _ hY4
      have g42 := frozen_of_row _ _ 2 _ _ hY4
      have g43 := frozen_of_row _ _ 3 _ _ hY4
      have g44 := frozen_of_row _ _ 4 _ _ hY4
      have a5 : ∀ V, WatAt V (s + 5) (stg3 x v o rv q) → V.cell? ⟨s + 5, 5, none⟩ = some (.int .i64 (v + rv + q)) := fun V h => h.cell 5 _ rfl
      have a6 : ∀ V, WatAt V (s + 5) (stg3 x v o rv q) → V.cell? ⟨s + 5, 6, none⟩ = some (.slice none 0 0) := fun V h => h.cell 6 _ rfl
      have a10 : ∀ V, WatAt V (s + 5) (stg3 x v o rv q) → V.cell? ⟨s + 5, 10, none⟩ = some (.int .i64 rv) := fun V h => h.cell 10 _ rfl
      have a11 : ∀ V, WatAt V (s + 5) (stg3 x v o rv q) → V.cell? ⟨s + 5, 11, none⟩ = some (.int .i64 0) := fun V h => h.cell 11 _ rfl
      have a12 : ∀ V, WatAt V (s + 5) (stg3 x v o rv q) → V.cell? ⟨s + 5, 12, none⟩ = some (.int .i64 q) := fun V h => h.cell 12 _ rfl
      have a13 : ∀ V, WatAt V (s + 5) (stg3 x v o rv q) → V.cell? ⟨s + 5, 13, none⟩ = some (.int .i64 0) := fun V h => h.cell 13 _ rfl
      have a14 : ∀ V, WatAt V (s + 5) (stg3 x v o rv q) → V.cell? ⟨s + 5, 14, none⟩ = some (.slice none 0 0) := fun V h => h.cell 14 _ rfl
      have HBB := Lib.hid (show Below s w wr from HB1.out.trans ((HB2.out.trans Hb.out).mono (by omega)))
      have hk3 : s + 5 ≠ s + 3 := by omega
      have hk4 : s + 5 ≠ s + 4 := by omega
      clear hY3 hY4 Hb
      go_wp2_with fail
      go_region_held3 (fun V => WatAt V (s + 5) (stg3 x v o rv q))
        (first
          | with_reducible assumption
          | ((repeat (first | with_reducible exact hz | with_reducible assumption | with_reducible refine WatAt.drew ?_ | with_reducible refine WatAt.other ?_ hk3 _ | with_reducible refine WatAt.other ?_ hk4 _)); done))
        (first | fail)
      all_goals
        go_wp2_with fail
        refine bodyPost_ret (v := .tuple #[stateV (v + rv + q), flowsV rv q, .int .i64 0]) (by simp [results, Tryz.results93, go_sem, *]) rfl ⟨rfl, ?_⟩
        rw [← Hs0.out]
        exact (bset (bset (bset (bset (bset (bset (bset HBB.out (by omega)) (by omega)) (by omega)) (by omega)) (by omega)) (by omega)) (by omega)).drew
end Go.Proofs.YtgfdindlihfidaaGreat

/-
  basin.Step: what it returns of a basin of three rows without polders that is as stated.
-/
namespace Go.Proofs.YtgfdindlihfidaaGreat
open Go.RowKit Go.Shelf Go.Sort
set_option linter.unusedSimpArgs false
set_option linter.unusedVariables false

set_option maxRecDepth 100000 in
set_option maxHeartbeats 4000000 in
theorem bStep_any (x : BasV) (r0 r1 r2 : RowV) (v o rv q : Int) (w : World) (hok : x.Ok w) (hf : StepFit x r0 r1 r2 v o rv q) (hv : v ≤ 1000000000) :
    Calls Tryz.prog 89 #[x.val, stateV v, tickV o rv] w fun e w' => e = .returned (.tuple #[stateV (v + rv + q), flowsV rv q, .int .i64 0]) ∧ Below w.heap.size w w' := by
  have Hf := Lib.hid hf
  have Hok := Lib.hid hok
  clear hf hok
  obtain ⟨s, hs0⟩ : ∃ s, s = w.heap.size := ⟨_, rfl⟩
  obtain ⟨W0, hW0⟩ : ∃ W0, W0 = ((((w.alloc (.cells x.cells 32)).alloc (.cells #[.int .i64 v, .slice none 0 0] 168)).alloc (.cells #[.int .i64 o, .int .i64 rv, .int .i64 0] 174)).alloc (.cells #[.int .i64 0, .slice none 0 0] 168)).alloc (.cells #[.int .i64 0, .int .i64 0, .int .i64 0, .int .i64 0, .slice none 0 0] 170) := ⟨_, rfl⟩
  have hB0 : Below s w W0 := by rw [hW0, hs0]; exact (((((Below.refl _ _).alloc (Nat.le_refl _) _).alloc (by simp) _).alloc (by simp; omega) _).alloc (by simp; omega) _).alloc (by simp; omega) _
  have hX0 : W0.heap[s]? = some (.cells x.cells 32 (0, 0)) := by rw [hW0]; exact blk_old (blk_old (blk_old (blk_old (blk_new hs0.symm))))
  have hX1 : W0.heap[s + 1]? = some (.cells #[.int .i64 v, .slice none 0 0] 168 (0, 0)) := by rw [hW0]; exact blk_old (blk_old (blk_old (blk_new (by simp [hs0]))))
  have hX2 : W0.heap[s + 2]? = some (.cells #[.int .i64 o, .int .i64 rv, .int .i64 0] 174 (0, 0)) := by rw [hW0]; exact blk_old (blk_old (blk_new (by simp [hs0])))
  have hX3 : W0.heap[s + 3]? = some (.cells #[.int .i64 0, .slice none 0 0] 168 (0, 0)) := by rw [hW0]; exact blk_old (blk_new (by simp [hs0]))
  have hX4 : W0.heap[s + 4]? = some (.cells #[.int .i64 0, .int .i64 0, .int .i64 0, .int .i64 0, .slice none 0 0] 170 (0, 0)) := by rw [hW0]; exact blk_new (by simp [hs0])
  have hlt : s + 4 < W0.heap.size := (Array.getElem?_eq_some_iff.1 hX4).1
  have HW0 := Lib.hid hW0
  have Hs0 := Lib.hid hs0
  have HX := Lib.hid (⟨hX0, hX1, hX2, hX3, hX4⟩ : _ ∧ _ ∧ _ ∧ _ ∧ _)
  have HB0 := Lib.hid hB0
  have HC := Lib.hid (bcheckst_any x r0 [r1, r2] v W0 (Hok.out.below (hs0 ▸ hB0) (Nat.le_refl _)) Hf.out.s_good Hf.out.s_rows ⟨Hf.out.s_v0, hv⟩)
  have HS := Lib.hid (fun V (h : Below s w V) => bstep_any x r0 r1 r2 v o rv q V (Hok.out.below (hs0 ▸ h) (Nat.le_refl _)) Hf.out)
  clear hX0 hX1 hX2 hX3 hX4 hB0 hW0 hs0
  go_enter Tryz.func89, Tryz.ntmps89
  go_wp2_with fail
  rw [← HW0.out, show w.heap.size + 1 + 1 + 1 + 1 = s + 4 by rw [Hs0.out], show w.heap.size + 1 + 1 + 1 = s + 3 by rw [Hs0.out], show w.heap.size + 1 + 1 = s + 2 by rw [Hs0.out], show w.heap.size + 1 = s + 1 by rw [Hs0.out], ← Hs0.out]
  refine HC.out.mono ?_
  rintro e w1 ⟨rfl, hb1⟩
  obtain ⟨hX0, hX1, hX2, hX3, hX4⟩ := HX.out
  have hY0 := blk_below hb1 hX0
  have hY1 := blk_below hb1 hX1
  have hY2 := blk_below hb1 hX2
  have HY3 := Lib.hid (blk_below hb1 hX3)
  have HY4 := Lib.hid (blk_below hb1 hX4)
  have HB1 := Lib.hid (HB0.out.trans (hb1.mono (show s ≤ W0.heap.size by omega)))
  have hlt1 := hb1.size
  clear hX0 hX1 hX2 hX3 hX4 hb1
  have d0 := bas_cell hY0 0 _ rfl
  have d1 := bas_cell hY0 1 _ rfl
  have d2 := bas_cell hY0 2 _ rfl
  have d3 := bas_cell hY0 3 _ rfl
  have d4 := bas_cell hY0 4 _ rfl
  have e0 : w1.cell? ⟨s + 1, 0, none⟩ = some (.int .i64 v) := (cell_of_row _ _ 0 _ _ _ hY1).trans rfl
  have e1 : w1.cell? ⟨s + 1, 1, none⟩ = some (.slice none 0 0) := (cell_of_row _ _ 1 _ _ _ hY1).trans rfl
  have f0 : w1.cell? ⟨s + 2, 0, none⟩ = some (.int .i64 o) := (cell_of_row _ _ 0 _ _ _ hY2).trans rfl
  have f1 : w1.cell? ⟨s + 2, 1, none⟩ = some (.int .i64 rv) := (cell_of_row _ _ 1 _ _ _ hY2).trans rfl
  have f2 : w1.cell? ⟨s + 2, 2, none⟩ = some (.int .i64 0) := (cell_of_row _ _ 2 _ _ _ hY2).trans rfl
  clear hY0 hY1 hY2
  go_wp2_with fail
  refine (HS.out _ HB1.out).mono ?_
  rintro e w2 ⟨rfl, hb2⟩
  clear d0 d1 d2 d3 d4 e0 e1 f0 f1 f2
  have hZ3 := blk_below hb2 HY3.out
  have hZ4 := blk_below hb2 HY4.out
  have HBB := Lib.hid (HB1.out.trans (hb2.mono (show s ≤ w1.heap.size by omega)))
  have b30 := cell_of_row _ _ 0 _ _ _ hZ3
  have b31 := cell_of_row _ _ 1 _ _ _ hZ3
  have g30 := frozen_of_row _ _ 0 _ _ hZ3
  have g31 := frozen_of_row _ _ 1 _ _ hZ3
  have b40 := cell_of_row _ _ 0 _ _ _ hZ4
  have b41 := cell_of_row _ _ 1 _ _ _ hZ4
  have b42 := cell_of_row _ _ 2 _ _ _ hZ4
  have b43 := cell_of_row _ _ 3 _ _ _ hZ4
  have b44 := cell_of_row _ _ 4 _ _ _ hZ4
  have g40 := frozen_of_row _ _ 0 _ _ hZ4
  have g41 := frozen_of_row _ _ 1 _ _ hZ4
  have g42 := frozen_of_row _ _ 2 _ _ hZ4
  have g43 := frozen_of_row _ _ 3 _ _ hZ4
  have g44 := frozen_of_row _ _ 4 _ _ hZ4
  have hs6 := hb2.size
  have hs7 : s + 4 < w2.heap.size := by omega
  clear hb2 hZ3 hZ4
  go_wp2_with fail
  refine bodyPost_ret (v := .tuple #[stateV (v + rv + q), flowsV rv q, .int .i64 0]) (by simp [results, Tryz.results89, go_sem, *]) rfl ⟨rfl, ?_⟩
  rw [← Hs0.out]
  exact bset (bset (bset (bset (bset (bset (bset HBB.out (by omega)) (by omega)) (by omega)) (by omega)) (by omega)) (by omega)) (by omega)
end Go.Proofs.YtgfdindlihfidaaGreat

/-
  closure: alone, begins: what they return of a task without an error; the contract of begins' iterator.
-/
namespace Go.Proofs.YtgfdindlihfidaaGreat
open Go.RowKit Go.Shelf Go.Sort
set_option linter.unusedSimpArgs false
set_option linter.unusedVariables false
attribute [local go_sem] Oper.semAt_some
attribute [local go_sem ↓] loadAt_task
attribute [local go_sem] run_taskLoad

/-- What alone and begin return of a task without an error: a game of it. -/
def GameOut (t : TaskV) (w : World) (e : Ending) (w' : World) : Prop :=
  Below w.heap.size w w' ∧ ∃ (G M : Nat) (f : Int), e = .returned (.tuple #[.pointer (some ⟨G, 0, none⟩), .int .i64 0]) ∧ (∀ h : 0 < t.hists.length, f = t.hists[0].from_) ∧ t.Fit ∧ w.heap.size ≤ G ∧ w.heap.size ≤ M ∧ G ≠ M ∧
      GameAt w' t f (quietOf t.limit t.hists) G M ∧ w'.heap[M]? = some (.map #[] 0)
theorem begin_good (t : TaskV) (w : World) (hok : t.Ok w) (hg : t.Good) : Calls Tryz.prog 17 #[t.val] w (GameOut t w) :=
  (begin_any t w hok).mono fun e w' h => by
    obtain ⟨hb, h⟩ := h
    rcases h with ⟨_, _, _, h⟩ | ⟨G, M, f, rfl, hfit, hf, hG, hM, hne, hga, hm⟩
    · exact absurd hg h
    · exact ⟨hb, G, M, f, rfl, hf, hfit, hG, hM, hne, hga, hm⟩

/-- The task with its first history alone. -/
abbrev TaskV.one (t : TaskV) : TaskV := { t with hists := t.hists.take 1 }
theorem TaskV.Ok.one {t : TaskV} {w : World} (h : t.Ok w) : t.one.Ok w := by
  refine ⟨h.bas, h.filled, ?_, h.river⟩
  obtain ⟨h1, h2, h3⟩ := h.hists
  refine ⟨by simp; omega, fun x hx => h2 x (List.mem_of_mem_take hx), ?_⟩
  rcases h3 with h3 | ⟨b, o, h3, h4, h5⟩
  · exact .inl (by show t.hists.take 1 = []; rw [h3]; rfl)
  · refine .inr ⟨b, o, h3, h4, fun k hk => ?_⟩
    have hk2 : k < t.hists.length := by
      have : k < (t.hists.take 1).length := hk
      simp at this
      omega
    have e : (t.hists.take 1)[k]'hk = t.hists[k] := List.getElem_take
    show _ = some (Value.int .i64 ((t.hists.take 1)[k]'hk).from_) ∧ _ = some (Value.slice ((t.hists.take 1)[k]'hk).vA ((t.hists.take 1)[k]'hk).vals.length ((t.hists.take 1)[k]'hk).vC)
    rw [e]
    exact h5 k hk2

set_option maxRecDepth 100000 in
set_option maxHeartbeats 4000000 in
theorem alone_zero (t : TaskV) (w : World) (hok : t.Ok w) (hg : t.Good) (hg1 : t.one.Good) (hcap : t.hists.length ≤ t.hC ∧ t.hC ≤ 1000) :
    Calls Tryz.prog 32 #[t.val, .int .i64 0] w (GameOut t.one w) := by
  have K0 := Lib.hid (TkW.new w t)
  have it0 : IsTask (w.alloc (.cells t.cells 36)) w.heap.size := ⟨t, K0.out.blk⟩
  have ir0 := rowOf_task K0.out.blk
  have Hok1 := Lib.hid (hok.below K0.out.below (Nat.le_refl _))
  have hlen := outB_len hg.hist
  have hl1 : 1 ≤ t.hists.length ∧ t.hists.length ≤ 8 := by omega
  obtain ⟨hb, ho, hha, hhb, hhw⟩ := hok.hists.row (k := 0) (by omega)
  have Hok := Lib.hid hok
  clear hok hhw
  go_enter Tryz.func32, Tryz.ntmps32
  go_wp2_with fail
  clear it0 ir0
  refine (begin_good t _ Hok1.out hg).mono ?_
  rintro e w1 ⟨hb1, G, M, f, rfl, hf, hfit, hG, hM, hne, hga, hmp⟩
  have hk1 := K0.out.call hb1
  have HK1 := Lib.hid hk1
  have c6 : w1.cell? ⟨w.heap.size, 6, none⟩ = some (.slice (some ⟨hb, ho, none⟩) t.hists.length t.hC) := by rw [← hha]; exact hk1.cell 6 _ rfl
  have cf6 := frozen_of_row _ _ 6 _ _ hk1.blk
  have hob : outB 0 0 ((t.hists.length : Int) - 1) = false := by unfold outB; simp; omega
  have lt := hk1.lt
  have hblk : (w1.setCell ⟨w.heap.size, 6, none⟩ (.slice (some ⟨hb, ho, none⟩) 1 t.hC)).heap[w.heap.size]? = some (.cells t.one.cells 36 (0, 0)) := by
    rw [heap_setCell_same _ _ 6 _ _ _ hk1.blk]
    have : t.one.hists.length = 1 := by show (t.hists.take 1).length = 1; simp; omega
    simp [TaskV.cells, this, hha]
  have it1 : IsTask (w1.setCell ⟨w.heap.size, 6, none⟩ (.slice (some ⟨hb, ho, none⟩) 1 t.hC)) w.heap.size := ⟨t.one, hblk⟩
  have ir1 := rowOf_task hblk
  have hbs : Below w.heap.size w (w1.setCell ⟨w.heap.size, 6, none⟩ (.slice (some ⟨hb, ho, none⟩) 1 t.hC)) := bset hk1.below (Nat.le_refl _)
  have Hone := Lib.hid (Hok.out.one.below hbs (Nat.le_refl _))
  clear hblk hk1 hfit hga hmp hf hb1
  go_wp2_with (first
    | (go_at_call 18; refine (cout_eq hob _).mono ?_; rintro e w' ⟨rfl, rfl⟩)
    | (go_at_call 17; refine (begin_good t.one _ Hone.out hg1).mono ?_; rintro e w2 ⟨hb2, G2, M2, f2, rfl, hf2, hfit2, hG2, hM2, hne2, hga2, hmp2⟩))
  go_ret2
  have hle := hbs.size
  exact ⟨hbs.trans (hb2.mono hle), G2, M2, f2, rfl, hf2, hfit2, by omega, by omega, hne2, hga2, hmp2⟩

set_option maxRecDepth 100000 in
set_option maxHeartbeats 4000000 in
theorem alone_bad (t : TaskV) (i : Int) (w : World) (hok : t.Ok w) (hg : t.Good) (hi : (t.hists.length : Int) ≤ i) :
    Calls Tryz.prog 32 #[t.val, .int .i64 i] w fun e w' => e = .returned (.tuple #[.pointer none, .int .i64 4]) ∧ Below w.heap.size w w' := by
  have K0 := Lib.hid (TkW.new w t)
  have it0 : IsTask (w.alloc (.cells t.cells 36)) w.heap.size := ⟨t, K0.out.blk⟩
  have ir0 := rowOf_task K0.out.blk
  have Hok1 := Lib.hid (hok.below K0.out.below (Nat.le_refl _))
  have hlen := outB_len hg.hist
  have hl1 : 1 ≤ t.hists.length ∧ t.hists.length ≤ 8 := by omega
  clear hok
  go_enter Tryz.func32, Tryz.ntmps32
  go_wp2_with fail
  clear it0 ir0
  refine (begin_good t _ Hok1.out hg).mono ?_
  rintro e w1 ⟨hb1, G, M, f, rfl, hf, hfit, hG, hM, hne, hga, hmp⟩
  have hk1 := K0.out.call hb1
  have HK1 := Lib.hid hk1
  have c6 : w1.cell? ⟨w.heap.size, 6, none⟩ = some (.slice t.hA t.hists.length t.hC) := hk1.cell 6 _ rfl
  have hob : outB i 0 ((t.hists.length : Int) - 1) = true := by unfold outB; simp; omega
  have lt := hk1.lt
  clear hk1 hfit hga hmp hf hb1
  go_wp2_with (first
    | (go_at_call 18; refine (cout_eq hob _).mono ?_; rintro e w' ⟨rfl, rfl⟩))
  go_ret2
  exact ⟨rfl, HK1.out.below⟩
end Go.Proofs.YtgfdindlihfidaaGreat

/-
  closure.begins: the contract of its iterator, for every loop body that keeps what lay below and its box.
-/
namespace Go.Proofs.YtgfdindlihfidaaGreat
open Go.RowKit Go.Shelf Go.Sort
set_option linter.unusedSimpArgs false
set_option linter.unusedVariables false
attribute [local go_sem] Oper.semAt_some

theorem begins_make (G : Nat) (w : World) :
    Calls Tryz.prog 33 #[.pointer (some ⟨G, 0, none⟩)] w fun e w' => e = .returned (.func (.func 66) #[] #[.pointer (some ⟨w.heap.size, 0, none⟩)]) ∧
      w' = w.alloc (.cells #[.pointer (some ⟨G, 0, none⟩)] 76) := by
  go_enter Tryz.func33, Tryz.ntmps33
  go_wp2
  go_ret
  exact ⟨rfl, rfl⟩

/-- What the iterator hands over. -/
abbrev beEnc (N : Nat) (x : Fin N) : Array Value := #[.int .i64 (x.val : Int)]
/-- What the iterator reads when it begins. -/
structure BeW (t : TaskV) (f q : Int) (G M B : Nat) (W : World) : Prop where
  game : GameAt W t f q G M
  blk : W.heap[B]? = some (.cells #[.pointer (some ⟨G, 0, none⟩)] 76 (0, 0))
theorem BeW.call {t : TaskV} {f q : Int} {G M B : Nat} {W W' : World} (h : BeW t f q G M B W) (hb : Below W.heap.size W W') : BeW t f q G M B W' := ⟨h.game.call hb, blk_below hb h.blk⟩

set_option maxRecDepth 100000 in
set_option maxHeartbeats 4000000 in
theorem begins_in (t : TaskV) (f q : Int) (G M : Nat) (hf : GameFit t f q) (N : Nat) (hN : (N : Int) = t.river.length - t.delay) (n l n₀ B : Nat) (hn : 1 ≤ n)
    (J Jx : List (Fin N) → World → Prop) (W : World) (hJ : AbidesFrom W.heap.size J)
    (hY : ∀ pre x W1, J pre W1 → pre.length < N → YieldAt Fence.wide (n - 1) Tryz.prog l (beEnc N x) W1 fun e W' =>
      (e = .returned (.bool true) ∧ J (pre ++ [x]) W' ∧ BxK n₀ B W1 W') ∨ (e = .returned (.bool false) ∧ Jx (pre ++ [x]) W'))
    (hW : BeW t f q G M B W) (h0 : J [] W) :
    CallsIn Fence.wide n Tryz.prog 66 #[.func (.yield l) #[] #[], .pointer (some ⟨B, 0, none⟩)] W fun e W' => (∃ v, e = .returned v) ∧
      ((∃ ys, ys = seen N N ∧ J ys W') ∨ (∃ pre, (∃ m, m ≤ N ∧ pre = seen N m) ∧ Jx pre W')) := by
  have HY := Lib.hid hY
  have HW := Lib.hid hW
  have HJ0 := Lib.hid (fun W' (hb : Below W.heap.size W W') => hJ [] W W' none h0 ⟨hb.os, hb.tape, hb.output, hb.size, fun k hk _ => hb.block k hk⟩ (fun _ h => by cases h))
  have Hf := Lib.hid hf
  have hN0 := hf.n
  have hN1 := hf.delay
  have c0 : W.cell? ⟨B, 0, none⟩ = some (.pointer (some ⟨G, 0, none⟩)) := (cell_of_row _ _ 0 _ _ _ hW.blk).trans rfl
  clear hJ hY hW h0 hf
  refine callsIn_of_wp Tryz.func66 rfl trivial ?_ rfl
  simp only [Tryz.ntmps66, List.size_toArray, List.length_cons, List.length_nil, Nat.reduceAdd, Nat.reduceSub, Array.replicate_succ, Array.replicate_zero, List.push_toArray, List.append_toArray, List.nil_append, List.cons_append]
  gi_wp2_with (refine ⟨trivial, ?_⟩; gi_at_call 19; refine (callsIn_wide.2 (last_any HW.out.game Hf.out)).mono ?_; rintro e w1 ⟨rfl, hb1⟩; have HJ1 := Lib.hid (HJ0.out _ hb1))
  clear c0
  gi_loopw [3] (fun p wr => ∃ m : Nat, m ≤ N ∧ p = .int .i64 ((N : Int) - m - 1) ∧ J (seen N m) wr) (fun p _ => (intOf p + 1).toNat)
  case atStart => exact ⟨0, Nat.zero_le _, by rw [hN]; go_num, HJ1.out⟩
  case round =>
    obtain ⟨m, hm', rfl, hj⟩ := hrel
    have Hj := Lib.hid hj
    clear hj
    by_cases hlt : m < N
    · have hj2 : (seen N m).length < N := by rw [seen_length hm']; exact hlt
      obtain ⟨x, hx⟩ : ∃ x : Fin N, x = ⟨N - 1 - m, by omega⟩ := ⟨_, rfl⟩
      have HN := Lib.hid (show seen N (m + 1) = seen N m ++ [x] by rw [seen_succ hlt, hx])
      have hY1 := HY.out _ x wr Hj.out hj2
      obtain ⟨fn, tmps, assign, body, hy, hR⟩ := hY1
      have HR := Lib.hid hR
      have hxv : (x.val : Int) = (N : Int) - m - 1 := by rw [hx]; simp only; omega
      have hxl := x.isLt
      rw [← hxv]
      have i2 : (0 : Int) ≤ ((x.val : Nat) : Int) := by omega
      have Hxv := Lib.hid hxv
      simp only [beEnc] at hy
      clear hR hj2 hx hxv
      gi_wp2
      refine HR.out.mono ?_
      rintro e W3 (⟨rfl, hJ3, hk3⟩ | ⟨rfl, hJx3⟩)
      · have HJ3 := Lib.hid hJ3
        have Hk3 := Lib.hid hk3
        clear hJ3 hk3
        gi_wp2
        go_roundw
        case rel => exact ⟨m + 1, by omega, by have := Hxv.out; go_num, by rw [HN.out]; exact HJ3.out⟩
        case measure => simp [intOf]; try omega
      · have HJx := Lib.hid hJx3
        clear hJx3
        gi_wp2
        go_end0
        exact ⟨⟨_, rfl⟩, .inr ⟨_, ⟨m + 1, by omega, HN.out.symm⟩, HJx.out⟩⟩
    · obtain rfl : m = N := by omega
      have hp : (m : Int) - m - 1 = -1 := by omega
      rw [hp]
      gi_wp2
      refine ⟨fun _ h => (by cases h), ?_⟩
      gi_wp2
      go_end0
      exact ⟨⟨_, rfl⟩, .inl ⟨_, rfl, Hj.out⟩⟩
theorem begins_stops (t : TaskV) (f q : Int) (G M : Nat) (hf : GameFit t f q) (N : Nat) (hN : (N : Int) = t.river.length - t.delay) (n B : Nat) (hn : 1 ≤ n) (w : World) (hW : BeW t f q G M B w) (n₀ : Nat) :
    SeqStopsK Fence.wide n Tryz.prog 66 #[.pointer (some ⟨B, 0, none⟩)] (beEnc N) (BxK n₀ B) (fun ys => ys = seen N N) (fun pre => ∃ m, m ≤ N ∧ pre = seen N m) N w := fun l J Jx W hb hJ _ hY h0 =>
  begins_in t f q G M hf N hN n l n₀ B hn J Jx W hJ hY (hW.call hb) h0
end Go.Proofs.YtgfdindlihfidaaGreat

/-
  The closed task of law 05 as data; the volumes of its runs; the cache of runs; what holds of a game of it.
-/
namespace Go.Proofs.YtgfdindlihfidaaGreat
open Go.RowKit Go.Shelf Go.Sort
set_option linter.unusedSimpArgs false
set_option linter.unusedVariables false

def hvals : Nat → List Int
  | 0 => [0, 500, 1500, 2500, 1500, 500]
  | _ => [0, 0, 0, 0, 0, 0]
def vols : Nat → List Int
  | 0 => [2000000, 2057000, 2211150, 2457592, 2591712]
  | _ => [1000000, 1057000, 1111150, 1162592, 1211462]
def vAt (k j : Nat) : Int := ((vols k)[j]?).getD 0
def hAt (k i : Nat) : Int := ((hvals k)[i]?).getD 0
theorem hvals_len : ∀ k, (hvals k).length = 6
  | 0 => rfl
  | _ + 1 => rfl
theorem vols_len : ∀ k, (vols k).length = 5
  | 0 => rfl
  | _ + 1 => rfl
/-- The task of law 05, with its first n histories. -/
structure LawT (t : TaskV) (n : Nat) : Prop where
  rows : t.bas.rows = [⟨-1000, 0⟩, ⟨0, 1000000⟩, ⟨2000, 5000000⟩]
  leak : t.bas.leak = 100
  crest : t.bas.crest = 3000
  over : t.bas.over = 500
  pols : t.bas.pols = []
  filled : t.filled = []
  fA : t.fA = none
  fC : t.fC = 0
  len : t.hists.length = n
  n12 : n = 1 ∨ n = 2
  hist : ∀ k, (h : k < t.hists.length) → t.hists[k].from_ = 10 ∧ t.hists[k].vals = hvals k
  river : t.river = [60000, 60000, 60000, 60000, 60000, 60000]
  out : t.out = 0
  limit : t.limit = 800
  delay : t.delay = 1
theorem LawT.one {t : TaskV} (h : LawT t 2) : LawT t.one 1 := by
  have hl : t.one.hists.length = 1 := by show (t.hists.take 1).length = 1; rw [List.length_take, h.len]; rfl
  refine ⟨h.rows, h.leak, h.crest, h.over, h.pols, h.filled, h.fA, h.fC, hl, .inl rfl, fun k hk => ?_, h.river, h.out, h.limit, h.delay⟩
  have hk2 : k < t.hists.length := by rw [h.len]; rw [hl] at hk; omega
  have e : t.one.hists[k]'hk = t.hists[k] := List.getElem_take
  rw [e]
  exact h.hist k hk2
theorem LawT.rowGood {t : TaskV} {n : Nat} (h : LawT t n) (k : Nat) : RowGood t.bas.rows k := by
  unfold RowGood
  rw [h.rows]
  intro hk
  match k, hk with
  | 0, _ => exact ⟨by simp only [List.getElem_cons_zero]; decide, by simp only [List.getElem_cons_zero]; decide, fun j e => absurd e (by omega)⟩
  | 1, _ =>
    refine ⟨by simp only [List.getElem_cons_zero, List.getElem_cons_succ]; decide, by simp only [List.getElem_cons_zero, List.getElem_cons_succ]; decide, fun j e => ?_⟩
    obtain rfl : j = 0 := by omega
    simp only [List.getElem_cons_zero, List.getElem_cons_succ]
    decide
  | 2, _ =>
    refine ⟨by simp only [List.getElem_cons_zero, List.getElem_cons_succ]; decide, by simp only [List.getElem_cons_zero, List.getElem_cons_succ]; decide, fun j e => ?_⟩
    obtain rfl : j = 1 := by omega
    simp only [List.getElem_cons_zero, List.getElem_cons_succ]
    decide
  | _ + 3, hk => exact absurd hk (by simp)
theorem LawT.bgood {t : TaskV} {n : Nat} (h : LawT t n) : t.bas.Good := by
  refine ⟨h.pols, by rw [h.rows]; decide, h.rowGood, by rw [h.leak]; decide, by rw [h.over]; decide, by rw [h.crest]; decide, ?_⟩
  rw [h.leak]
  intro k hk
  have hk2 : k < 2 := by rw [h.rows] at hk; simp at hk; omega
  match k, hk, hk2 with
  | 0, _, _ => simp only [h.rows, List.getElem_cons_zero, List.getElem_cons_succ]; decide
  | 1, _, _ => simp only [h.rows, List.getElem_cons_zero, List.getElem_cons_succ]; decide
  | _ + 2, _, hk => exact absurd hk (by omega)
theorem LawT.good {t : TaskV} {n : Nat} (h : LawT t n) : t.Good := by
  refine ⟨h.bgood, ?_, by rw [h.river]; decide, fun k hk h0 => ?_, by rw [h.river]; decide, h.filled, by rw [h.out]; decide, ?_, by rw [h.delay]; decide⟩
  · rw [h.len]
    rcases h.n12 with rfl | rfl <;> decide
  · obtain ⟨h1, h2⟩ := h.hist k hk
    obtain ⟨h3, _⟩ := h.hist 0 h0
    rw [h1, h2, h3, h.river, hvals_len]
    refine ⟨rfl, rfl, by decide, ?_⟩
    match k with
    | 0 => decide
    | _ + 1 => exact (by decide : (hvals 1).any (outB · (-20000) 20000) = false)
  · rw [h.limit]
    intro _
    simp only [h.rows, List.getElem_cons_zero]
    decide
theorem LawT.quiet {t : TaskV} {n : Nat} (h : LawT t n) : (quietOf t.limit t.hists : Nat) = 5 := by
  have q0 : ∀ x : SerV, x.vals = hvals 0 → qSer 800 x.vals = 5 := fun x e => by rw [e]; decide
  have q1 : ∀ x : SerV, x.vals = hvals 1 → qSer 800 x.vals = 0 := fun x e => by rw [e]; decide
  rw [h.limit]
  rcases h.n12 with hn | hn
  · have hl := h.len
    rw [hn] at hl
    obtain ⟨x, hx⟩ := List.length_eq_one_iff.1 hl
    have e := (h.hist 0 (by omega)).2
    simp only [hx, List.getElem_cons_zero] at e
    simp [quietOf, hx, q0 x e]
  · have hl := h.len
    rw [hn] at hl
    obtain ⟨x, y, hx⟩ : ∃ x y, t.hists = [x, y] := by
      match ht : t.hists, hl with
      | [a, b], _ => exact ⟨a, b, rfl⟩
    have e := (h.hist 0 (by omega)).2
    have e1 := (h.hist 1 (by omega)).2
    simp only [hx, List.getElem_cons_zero, List.getElem_cons_succ] at e e1
    simp [quietOf, hx, q0 x e, q1 y e1]
theorem law_step {t : TaskV} {n : Nat} (h : LawT t n) (k j : Nat) (hj : j < 4) :
    StepFit t.bas ⟨-1000, 0⟩ ⟨0, 1000000⟩ ⟨2000, 5000000⟩ (vAt k j) (hAt k (j + 1)) 60000 (vAt k (j + 1) - vAt k j - 60000) := by
  have key : ∀ k < 2, ∀ j < 4, (0 ≤ vAt k j ∧ 1000000 < vAt k j + 60000 ∧ vAt k j + 60000 < 5000000) ∧ (-100000000000 ≤ 0 * (5000000 - 1000000) + (vAt k j + 60000 - 1000000) * (2000 - 0) ∧ 0 * (5000000 - 1000000) + (vAt k j + 60000 - 1000000) * (2000 - 0) ≤ 100000000000) ∧
      (-20000 ≤ hAt k (j + 1) ∧ hAt k (j + 1) ≤ 3000) ∧ max (100 * (-(0 * (5000000 - 1000000) + (vAt k j + 60000 - 1000000) * (2000 - 0)) - -hAt k (j + 1) * (5000000 - 1000000)) / (5000000 - 1000000)) (0 - (vAt k j + 60000)) = vAt k (j + 1) - vAt k j - 60000 ∧
      (0 ≤ vAt k j + 60000 + (vAt k (j + 1) - vAt k j - 60000) ∧ vAt k j + 60000 + (vAt k (j + 1) - vAt k j - 60000) ≤ 1000000000) := by decide
  have fin : ∀ k < 2, StepFit t.bas ⟨-1000, 0⟩ ⟨0, 1000000⟩ ⟨2000, 5000000⟩ (vAt k j) (hAt k (j + 1)) 60000 (vAt k (j + 1) - vAt k j - 60000) := fun k hk => by
    obtain ⟨⟨a1, a2, a3⟩, a4, a5, a6, a7⟩ := key k hk j hj
    exact ⟨h.bgood, h.rows, by decide, by decide, a1, by decide, a2, a3, by decide, a4, by rw [h.crest]; exact a5, by rw [h.leak]; exact a6, a7⟩
  match k with
  | 0 => exact fin 0 (by decide)
  | _ + 1 => exact fin 1 (by decide)
end Go.Proofs.YtgfdindlihfidaaGreat
