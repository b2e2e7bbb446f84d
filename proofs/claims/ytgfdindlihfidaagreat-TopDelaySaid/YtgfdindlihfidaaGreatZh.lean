/-
  basin: floor, the ratio's methods, cmp.Compare: what they return.
-/
import Derived.Test.YtgfdindlihfidaaGreatPn
namespace Go.Proofs.YtgfdindlihfidaaGreat
open Go.RowKit Go.Shelf Go.Sort
set_option linter.unusedSimpArgs false
set_option linter.unusedVariables false

theorem floor_facts {a b : Int} (hb : 1 ≤ b) : (a < a.tdiv b * b → a / b = a.tdiv b - 1) ∧ (¬ a < a.tdiv b * b → a / b = a.tdiv b) ∧ a - b ≤ a.tdiv b * b ∧ a.tdiv b * b ≤ a + b := by
  have h1 := Int.tmod_add_mul_tdiv a b
  have h2 := Int.tmod_lt_of_pos a (show 0 < b by omega)
  have h3 := Int.lt_tmod_of_pos a (show 0 < b by omega)
  have e : a.tdiv b * b = b * a.tdiv b := Int.mul_comm ..
  rw [e]
  refine ⟨fun h => ?_, fun h => ?_, by omega, by omega⟩
  · refine ((Int.ediv_emod_unique (a := a) (b := b) (r := a.tmod b + b) (q := a.tdiv b - 1) (by omega)).2 ⟨?_, by omega, by omega⟩).1
    rw [Int.mul_sub]
    omega
  · exact ((Int.ediv_emod_unique (a := a) (b := b) (r := a.tmod b) (q := a.tdiv b) (by omega)).2 ⟨by omega, by omega, by omega⟩).1
theorem le_of_mul {q b B : Int} (hb : 1 ≤ b) (hB : 0 ≤ B) (h : q * b ≤ B) : q ≤ B := by
  by_cases h0 : 0 ≤ q
  · have : q * 1 ≤ q * b := Int.mul_le_mul_of_nonneg_left hb h0
    omega
  · omega
theorem floor_any (a b : Int) (hb : 1 ≤ b ∧ b ≤ 10000000000) (ha : -100000000000000000 ≤ a ∧ a ≤ 100000000000000000) (w : World) :
    Calls Tryz.prog 125 #[.int .i64 a, .int .i64 b] w fun e w' => e = .returned (.int .i64 (a / b)) ∧ w = w' := by
  have f0 : (b == 0) = false := by simp; omega
  obtain ⟨p1, p2, p3, p4⟩ := floor_facts (a := a) hb.1
  have wm : IntKind.i64.wrap (a.tdiv b * b) = a.tdiv b * b := by rw [IntKind.wrap_i64]; omega
  have hq1 : a.tdiv b ≤ 200000000000000000 := le_of_mul hb.1 (by omega) (by omega)
  have hq2 : -(a.tdiv b) ≤ 200000000000000000 := le_of_mul hb.1 (by omega) (by rw [Int.neg_mul]; omega)
  have wq : IntKind.i64.wrap (a.tdiv b) = a.tdiv b := by rw [IntKind.wrap_i64]; omega
  have ws : IntKind.i64.wrap (a.tdiv b - 1) = a.tdiv b - 1 := by rw [IntKind.wrap_i64]; omega
  by_cases h : a < a.tdiv b * b
  · have e := p1 h
    have fd : decide (a < a.tdiv b * b) = true := decide_eq_true h
    rw [e]
    clear p1 p2 p3 p4 e
    go_enter Tryz.func125, Tryz.ntmps125
    go_wp2
    go_ret
    exact ⟨rfl, rfl⟩
  · have e := p2 h
    have fd : decide (a < a.tdiv b * b) = false := decide_eq_false h
    rw [e]
    clear p1 p2 p3 p4 e
    go_enter Tryz.func125, Tryz.ntmps125
    go_wp2
    go_ret
    exact ⟨rfl, rfl⟩

abbrev ratV (n d : Int) : Value := .agg #[.int .i64 n, .int .i64 d]
theorem minus_any (n d : Int) (hn : -100000000000000000 ≤ n ∧ n ≤ 100000000000000000) (w : World) :
    Calls Tryz.prog 105 #[ratV n d] w fun e w' => e = .returned (ratV (-n) d) ∧ Below w.heap.size w w' := by
  go_enter Tryz.func105, Tryz.ntmps105
  go_wp2
  refine bodyPost_ret (v := ratV (-n) d) (by simp [results, Tryz.results105, go_sem, *]) rfl ⟨rfl, ?_⟩
  exact ((Below.refl _ _).alloc (Nat.le_refl _) _).alloc (by simp) _

theorem over_any (n d level rate : Int) (hn : -100000000000 ≤ n ∧ n ≤ 100000000000) (hd : 1 ≤ d ∧ d ≤ 10000000) (hl : -20000 ≤ level ∧ level ≤ 20000) (hr : 0 ≤ rate ∧ rate ≤ 10000) (w : World) :
    Calls Tryz.prog 123 #[ratV n d, .int .i64 level, .int .i64 rate] w fun e w' => e = .returned (.int .i64 (rate * (n - level * d) / d)) ∧ Below w.heap.size w w' := by
  have hm1 := mul_bd (a := level) (b := d) (A := 20000) (B := 10000000) (by omega) (by omega) (by omega) (by omega)
  have hm2 := mul_bd (a := rate) (b := n - level * d) (A := 10000) (B := 300000000000) (by omega) (by omega) (by omega) (by omega)
  have w1 : IntKind.i64.wrap (level * d) = level * d := by rw [IntKind.wrap_i64]; omega
  have w2 : IntKind.i64.wrap (n - level * d) = n - level * d := by rw [IntKind.wrap_i64]; omega
  have w3 : IntKind.i64.wrap (rate * (n - level * d)) = rate * (n - level * d) := by rw [IntKind.wrap_i64]; omega
  have hfl := fun W => floor_any (rate * (n - level * d)) d (by omega) (by omega) W
  have Hfl := Lib.hid hfl
  clear hfl hm1 hm2
  go_enter Tryz.func123, Tryz.ntmps123
  go_wp2_with (go_at_call 125; refine (Hfl.out _).mono ?_; rintro e w' ⟨rfl, rfl⟩)
  go_ret
  exact ⟨rfl, (Below.refl _ _).alloc (Nat.le_refl _) _⟩
end Go.Proofs.YtgfdindlihfidaaGreat

/-
  basin: span, the comparison and the search of exact, at three rows.
-/
namespace Go.Proofs.YtgfdindlihfidaaGreat
open Go.RowKit Go.Shelf Go.Sort
set_option linter.unusedSimpArgs false
set_option linter.unusedVariables false

theorem floor_st (a b : Int) (hb : 1 ≤ b ∧ b ≤ 10000000000) (ha : -100000000000000000 ≤ a ∧ a ≤ 100000000000000000) (w : World) :
    Calls Tryz.prog 125 #[.int .i64 a, .int .i64 b] w fun e w' => e = .returned (.int .i64 (a / b)) ∧ w' = w := (floor_any a b hb ha w).mono fun _ _ h => ⟨h.1, h.2.symm⟩
abbrev spanV (n d : Int) : Value := .agg #[.int .i64 (n / d), .int .i64 (-(-n / d))]
set_option maxRecDepth 100000 in
set_option maxHeartbeats 4000000 in
theorem span_any (n d : Int) (hn : -100000000000 ≤ n ∧ n ≤ 100000000000) (hd : 1 ≤ d ∧ d ≤ 10000000) (w : World) :
    Calls Tryz.prog 124 #[ratV n d] w fun e w' => e = .returned (spanV n d) ∧ Below w.heap.size w w' := by
  obtain ⟨WY, hWY⟩ : ∃ WY, WY = (w.alloc (.cells #[.int .i64 n, .int .i64 d] 177)).alloc (.cells #[.int .i64 0, .int .i64 0] 156) := ⟨_, rfl⟩
  have hYb : Below w.heap.size w WY := by rw [hWY]; exact ((Below.refl _ _).alloc (Nat.le_refl _) _).alloc (by simp) _
  have hY0 : WY.heap[w.heap.size]? = some (.cells #[.int .i64 n, .int .i64 d] 177 (0, 0)) := by rw [hWY]; exact blk_old (blk_new rfl)
  have hY1 : WY.heap[w.heap.size + 1]? = some (.cells #[.int .i64 0, .int .i64 0] 156 (0, 0)) := by rw [hWY]; exact blk_new (by simp)
  have y0 : WY.cell? ⟨w.heap.size, 0, none⟩ = some (.int .i64 n) := (cell_of_row _ _ 0 _ _ _ hY0).trans rfl
  have y1 : WY.cell? ⟨w.heap.size, 1, none⟩ = some (.int .i64 d) := (cell_of_row _ _ 1 _ _ _ hY0).trans rfl
  have z0 := cell_of_row _ _ 0 _ _ _ hY1
  have z1 := cell_of_row _ _ 1 _ _ _ hY1
  have zf0 := frozen_of_row _ _ 0 _ _ hY1
  have zf1 := frozen_of_row _ _ 1 _ _ hY1
  have lt : w.heap.size + 1 < WY.heap.size := (Array.getElem?_eq_some_iff.1 hY1).1
  have F1 := Lib.hid (fun W => floor_st n d (by omega) (by omega) W)
  have F2 := Lib.hid (fun W => floor_st (-n) d (by omega) (by omega) W)
  obtain ⟨q1, hq1⟩ : ∃ q, q = n / d := ⟨_, rfl⟩
  obtain ⟨q2, hq2⟩ : ∃ q, q = -n / d := ⟨_, rfl⟩
  have b2 : -100000000000 ≤ q2 ∧ q2 ≤ 100000000000 := by
    have h1 := Int.emod_add_mul_ediv (-n) d
    have h2 := Int.emod_nonneg (-n) (show d ≠ 0 by omega)
    have h3 := Int.emod_lt_of_pos (-n) (show 0 < d by omega)
    rw [← hq2] at h1
    have e : d * q2 = q2 * d := Int.mul_comm ..
    have e2 : d * q2 = q2 * d := Int.mul_comm ..
    refine ⟨?_, ?_⟩
    · by_cases h : q2 < -100000000000
      · have : q2 * d ≤ (-100000000000 - 1) * d := Int.mul_le_mul_of_nonneg_right (by omega) (by omega)
        have e3 : (-100000000000 - 1) * d = -100000000000 * d - d := by rw [Int.sub_mul]; omega
        have : -100000000000 * d ≤ -100000000000 := by omega
        omega
      · omega
    · by_cases h : 100000000000 < q2
      · have : (100000000000 + 1) * d ≤ q2 * d := Int.mul_le_mul_of_nonneg_right (by omega) (by omega)
        omega
      · omega
  rw [← hq1] at F1
  rw [← hq2] at F2
  show Calls _ _ _ _ fun e w' => e = .returned (.agg #[.int .i64 (n / d), .int .i64 (-(-n / d))]) ∧ _
  rw [← hq1, ← hq2]
  have wn : IntKind.i64.wrap (-n) = -n := by rw [IntKind.wrap_i64]; omega
  have wq : IntKind.i64.wrap (-q2) = -q2 := by rw [IntKind.wrap_i64]; omega
  clear hY0 hY1 hq1 hq2
  go_enter Tryz.func124, Tryz.ntmps124
  go_wp2
  rw [← hWY]
  clear hWY
  refine wp_region_still_tail 13 (by kernel_rfl) (by kernel_rfl) ?_
  change wpStill _ _ (World.drew WY) _ _ _
  simp only [List.take_succ_cons, List.take_zero, List.drop_succ_cons, List.drop_zero]
  iterate 4 still_step
  still_call (F1.out _)
  iterate 5 still_step
  still_call (F2.out _)
  iterate 2 still_step
  refine wpStill_nil ?_
  change wpList _ _ _ _ _ (World.drew WY)
  go_wp2
  refine bodyPost_ret (v := .agg #[.int .i64 q1, .int .i64 (-q2)]) (by simp [results, Tryz.results124, go_sem, *]) rfl ⟨rfl, ?_⟩
  exact bset (bset hYb.drew (by omega)) (by omega)

theorem nan_any (a : Int) (w : World) : Calls Tryz.prog 103 #[.int .i64 a] w fun e w' => e = .returned (.bool false) ∧ w = w' := by
  go_enter Tryz.func103, Tryz.ntmps103
  go_wp2
  go_ret
  exact ⟨by simp, rfl⟩
def cmpZ (a b : Int) : Int := if a < b then -1 else if b < a then 1 else 0
theorem cmp_any (a b : Int) (w : World) : Calls Tryz.prog 96 #[.int .i64 a, .int .i64 b] w fun e w' => e = .returned (.int .i64 (cmpZ a b)) ∧ w = w' := by
  unfold cmpZ
  by_cases h : a < b
  · rw [if_pos h]
    go_enter Tryz.func96, Tryz.ntmps96
    go_wp2_with (go_at_call 103; refine (nan_any _ _).mono ?_; rintro e w' ⟨rfl, rfl⟩)
    go_ret
    exact ⟨rfl, rfl⟩
  · rw [if_neg h]
    by_cases h2 : b < a
    · rw [if_pos h2]
      go_enter Tryz.func96, Tryz.ntmps96
      go_wp2_with (go_at_call 103; refine (nan_any _ _).mono ?_; rintro e w' ⟨rfl, rfl⟩)
      go_ret
      exact ⟨rfl, rfl⟩
    · rw [if_neg h2]
      go_enter Tryz.func96, Tryz.ntmps96
      go_wp2_with (go_at_call 103; refine (nan_any _ _).mono ?_; rintro e w' ⟨rfl, rfl⟩)
      go_ret
      exact ⟨rfl, rfl⟩
theorem excmp_any (x : RowV) (v : Int) (w : World) : Calls Tryz.prog 95 #[x.val, .int .i64 v] w fun e w' => e = .returned (.int .i64 (cmpZ x.vol v)) ∧ Below w.heap.size w w' := by
  go_enter Tryz.func95, Tryz.ntmps95
  go_wp2_with (go_at_call 96; refine (cmp_any _ _ _).mono ?_; rintro e w' ⟨rfl, rfl⟩)
  go_ret
  exact ⟨rfl, (Below.refl _ _).alloc (Nat.le_refl _) _⟩
end Go.Proofs.YtgfdindlihfidaaGreat

/-
  basin: the search of exact, at three rows with a volume between the second's and the third's.
-/
namespace Go.Proofs.YtgfdindlihfidaaGreat
open Go.RowKit Go.Shelf Go.Sort
set_option linter.unusedSimpArgs false
set_option linter.unusedVariables false
attribute [local go_sem high] run_min_z run_max_z
attribute [local go_sem ↓] run_min_z run_max_z

set_option maxRecDepth 100000 in
set_option maxHeartbeats 4000000 in
theorem search_three (a : Option Addr) (C : Nat) (r0 r1 r2 : RowV) (v : Int) (w : World) (hl : RowsAt w a [r0, r1, r2]) (h1 : r1.vol < v) (h2 : v < r2.vol) :
    Calls Tryz.prog 94 #[.slice a 3 C, .int .i64 v, .func (.func 95) #[] #[]] w fun e w' => e = .returned (.tuple #[.int .i64 2, .bool false]) ∧ Below w.heap.size w w' := by
  obtain ⟨b, o, rfl, hb, hrow⟩ := hl.row (k := 0) (by simp)
  obtain ⟨a0, a1⟩ := hrow 1 (by simp)
  obtain ⟨c0, c1⟩ := hrow 2 (by simp)
  simp only [List.getElem_cons_succ, List.getElem_cons_zero] at a0 a1 c0 c1
  have e1 : cmpZ r1.vol v = -1 := by rw [cmpZ, if_pos h1]
  have e2 : cmpZ r2.vol v = 1 := by rw [cmpZ, if_neg (by omega), if_pos h2]
  have X1 := Lib.hid (fun W => e1 ▸ excmp_any r1 v W)
  have X2 := Lib.hid (fun W => e2 ▸ excmp_any r2 v W)
  have A := Lib.hid (show w.cell? ⟨b, o + 1 * 2, none⟩ = some (.int .i64 r1.level) ∧ w.cell? ⟨b, o + 1 * 2 + 1, none⟩ = some (.int .i64 r1.vol) ∧ w.cell? ⟨b, o + 2 * 2, none⟩ = some (.int .i64 r2.level) ∧ w.cell? ⟨b, o + 2 * 2 + 1, none⟩ = some (.int .i64 r2.vol) from ⟨a0, a1, c0, c1⟩)
  clear a0 a1 c0 c1 hl hrow e1 e2
  go_enter Tryz.func94, Tryz.ntmps94
  go_wp2
  go_loopw [9, 10] (fun i j wr => ((i = .int .i64 0 ∧ j = .int .i64 3) ∨ (i = .int .i64 2 ∧ j = .int .i64 3) ∨ (i = .int .i64 2 ∧ j = .int .i64 2)) ∧ Below w.heap.size w wr) (fun i j _ => (intOf j - intOf i).toNat)
  case atStart => exact ⟨.inl ⟨rfl, rfl⟩, Below.refl _ _⟩
  case round =>
    obtain ⟨hc, hbl⟩ := hrel
    have lt : b < wr.heap.size := Nat.lt_of_lt_of_le hb hbl.size
    have k0 := (hbl.cell (p := ⟨b, o + 1 * 2, none⟩) hb).trans A.out.1
    have k1 := (hbl.cell (p := ⟨b, o + 1 * 2 + 1, none⟩) hb).trans A.out.2.1
    have k2 := (hbl.cell (p := ⟨b, o + 2 * 2, none⟩) hb).trans A.out.2.2.1
    have k3 := (hbl.cell (p := ⟨b, o + 2 * 2 + 1, none⟩) hb).trans A.out.2.2.2
    simp only [Nat.one_mul, Nat.reduceMul] at k0 k1 k2 k3
    have Hbl := Lib.hid hbl
    clear hbl
    rcases hc with ⟨rfl, rfl⟩ | ⟨rfl, rfl⟩ | ⟨rfl, rfl⟩
    · go_wp2_with (first | (go_at_call 95; refine (X1.out _).mono ?_; rintro e w1 ⟨rfl, hb1⟩))
      exact ⟨⟨.inr (.inl ⟨rfl, rfl⟩), Hbl.out.trans (hb1.mono Hbl.out.size)⟩, by simp [intOf]⟩
    · go_wp2_with (first | (go_at_call 95; refine (X2.out _).mono ?_; rintro e w1 ⟨rfl, hb1⟩))
      exact ⟨⟨.inr (.inr ⟨rfl, rfl⟩), Hbl.out.trans (hb1.mono Hbl.out.size)⟩, by simp [intOf]⟩
    · go_wp2_with (first | (go_at_call 95; refine (X2.out _).mono ?_; rintro e w1 ⟨rfl, hb1⟩))
      go_ret2
      exact ⟨rfl, Hbl.out.trans (hb1.mono Hbl.out.size)⟩
def basLoad (v : Value) : Sem Value := Instr.loadAt 32 v
theorem loadAt_bas (v : Value) : Instr.loadAt 32 v = basLoad v := rfl
set_option maxRecDepth 100000 in
set_option maxHeartbeats 4000000 in
theorem exact_three (x : BasV) (r0 r1 r2 : RowV) (v : Int) (w : World) (hx : x.rows = [r0, r1, r2]) (hl : RowsAt w x.rA x.rows) (h1 : r1.vol < v) (h2 : v < r2.vol)
    (b1 : -20000 ≤ r1.level ∧ r1.level ≤ 20000) (b2 : -20000 ≤ r2.level ∧ r2.level ≤ 20000) (b3 : 0 ≤ r1.vol ∧ r2.vol ≤ 1000000000) :
    Calls Tryz.prog 91 #[x.val, .int .i64 v] w fun e w' => e = .returned (ratV (r1.level * (r2.vol - r1.vol) + (v - r1.vol) * (r2.level - r1.level)) (r2.vol - r1.vol)) ∧ Below w.heap.size w w' := by
  obtain ⟨b, o, hA, hb, hrow⟩ := hl.row (k := 0) (by rw [hx]; simp)
  have hlen : x.rows.length = 3 := by rw [hx]; rfl
  obtain ⟨a0, a1⟩ := hrow 1 (by omega)
  obtain ⟨c0, c1⟩ := hrow 2 (by omega)
  simp only [hx, List.getElem_cons_succ, List.getElem_cons_zero] at a0 a1 c0 c1
  obtain ⟨WY, hWY⟩ : ∃ WY, WY = (w.alloc (.cells x.cells 32)).alloc (.cells #[.int .i64 0, .int .i64 0] 177) := ⟨_, rfl⟩
  have hYb : Below w.heap.size w WY := by rw [hWY]; exact ((Below.refl _ _).alloc (Nat.le_refl _) _).alloc (by simp) _
  have HlY := Lib.hid (hx ▸ hl.below hYb (Nat.le_refl _) : RowsAt WY x.rA [r0, r1, r2])
  have hY0 : WY.heap[w.heap.size]? = some (.cells x.cells 32 (0, 0)) := by rw [hWY]; exact blk_old (blk_new rfl)
  have hY1 : WY.heap[w.heap.size + 1]? = some (.cells #[.int .i64 0, .int .i64 0] 177 (0, 0)) := by rw [hWY]; exact blk_new (by simp)
  have y0 : WY.cell? ⟨w.heap.size, 0, none⟩ = some (.slice (some ⟨b, o, none⟩) 3 x.rC) := by rw [← hA, ← hlen]; exact (cell_of_row _ _ 0 _ _ _ hY0).trans rfl
  have A := Lib.hid (show w.cell? ⟨b, o + 1 * 2, none⟩ = some (.int .i64 r1.level) ∧ w.cell? ⟨b, o + 1 * 2 + 1, none⟩ = some (.int .i64 r1.vol) ∧ w.cell? ⟨b, o + 2 * 2, none⟩ = some (.int .i64 r2.level) ∧ w.cell? ⟨b, o + 2 * 2 + 1, none⟩ = some (.int .i64 r2.vol) from ⟨a0, a1, c0, c1⟩)
  clear a0 a1 c0 c1 hl hrow
  have hm1 := mul_bd (a := r1.level) (b := r2.vol - r1.vol) (A := 20000) (B := 1000000000) (by omega) (by omega) (by omega) (by omega)
  have hm2 := mul_bd (a := v - r1.vol) (b := r2.level - r1.level) (A := 1000000000) (B := 40000) (by omega) (by omega) (by omega) (by omega)
  subst hWY
  rw [hA] at HlY
  go_enter Tryz.func91, Tryz.ntmps91
  go_wp2_with fail
  refine (search_three _ _ r0 r1 r2 v _ HlY.out h1 h2).mono ?_
  rintro e w1 ⟨rfl, hb1⟩
  have hb2 := hYb.trans (hb1.mono hYb.size)
  have hX0 := blk_below hb1 hY0
  have hX1 := blk_below hb1 hY1
  have x0 : w1.cell? ⟨w.heap.size, 0, none⟩ = some (.slice (some ⟨b, o, none⟩) 3 x.rC) := by rw [← hA, ← hlen]; exact (cell_of_row _ _ 0 _ _ _ hX0).trans rfl
  have k0 := (hb2.cell (p := ⟨b, o + 1 * 2, none⟩) hb).trans A.out.1
  have k1 := (hb2.cell (p := ⟨b, o + 1 * 2 + 1, none⟩) hb).trans A.out.2.1
  have k2 := (hb2.cell (p := ⟨b, o + 2 * 2, none⟩) hb).trans A.out.2.2.1
  have k3 := (hb2.cell (p := ⟨b, o + 2 * 2 + 1, none⟩) hb).trans A.out.2.2.2
  simp only [Nat.one_mul, Nat.reduceMul] at k0 k1 k2 k3
  have lt := hb2.size
  have lt1 : w.heap.size + 1 < w1.heap.size := (Array.getElem?_eq_some_iff.1 hX1).1
  have lt2 : b < w1.heap.size := by omega
  clear hY0 hY1 y0 hYb HlY hb1
  have wi2 : IntKind.i64.wrap 2 = 2 := by decide
  go_wp2_with fail
  go_cut [7, 8] from 27 (fun p q wx => ∃ P Q : Nat, p = .pointer (some ⟨P, 0, none⟩) ∧ q = .pointer (some ⟨Q, 0, none⟩) ∧ Below w1.heap.size w1 wx ∧ wx.heap[P]? = some (.cells r1.cells 144 (0, 0)) ∧ wx.heap[Q]? = some (.cells r2.cells 144 (0, 0)))
  case first =>
    have hk0 : ∀ W, TgS w1 W → W.cell? ⟨b, o + 2, none⟩ = some (.int .i64 r1.level) := fun W h => (h.below.cell (p := ⟨b, o + 2, none⟩) lt2).trans k0
    have hk1 : ∀ W, TgS w1 W → W.cell? ⟨b, o + 2 + 1, none⟩ = some (.int .i64 r1.vol) := fun W h => (h.below.cell (p := ⟨b, o + 2 + 1, none⟩) lt2).trans k1
    have hk2 : ∀ W, TgS w1 W → W.cell? ⟨b, o + 4, none⟩ = some (.int .i64 r2.level) := fun W h => (h.below.cell (p := ⟨b, o + 4, none⟩) lt2).trans k2
    have hk3 : ∀ W, TgS w1 W → W.cell? ⟨b, o + 4 + 1, none⟩ = some (.int .i64 r2.vol) := fun W h => (h.below.cell (p := ⟨b, o + 4 + 1, none⟩) lt2).trans k3
    have hx0 : ∀ W, TgS w1 W → W.cell? ⟨w.heap.size, 0, none⟩ = some (.slice (some ⟨b, o, none⟩) 3 x.rC) := fun W h => (h.below.cell (p := ⟨w.heap.size, 0, none⟩) (by show w.heap.size < _; omega)).trans x0
    have T0 := TgS.new w1
    clear k0 k1 k2 k3 x0
    go_region_held3 (fun w' => TgS w1 w')
      (first
        | with_reducible assumption
        | with_reducible exact TgS.drew T0
        | ((repeat (first | with_reducible exact T0 | with_reducible refine TgS.drew ?_ | with_reducible assumption | with_reducible refine TgS.alloc ?_ _ | with_reducible refine TgS.set ?_ (by omega) _)); done))
      (first | fail)
    all_goals
      go_wp2_with fail
      go_meet
      first
        | exact ⟨_, _, rfl, rfl, (((Below.refl _ _).alloc (Nat.le_refl _) _).alloc (by simp) _).drew, blk_drew (blk_new (by simp)), blk_drew (blk_old (blk_new rfl))⟩
        | exact ⟨_, _, rfl, rfl, (((Below.refl _ _).alloc (Nat.le_refl _) _).alloc (by simp) _).drew, blk_drew (blk_old (blk_new rfl)), blk_drew (blk_new (by simp))⟩
  case rest =>
    obtain ⟨P, Q, rfl, rfl, hbc, hP, hQ⟩ := hcut
    have p0 : wc.cell? ⟨P, 0, none⟩ = some (.int .i64 r1.level) := (cell_of_row _ _ 0 _ _ _ hP).trans rfl
    have p1 : wc.cell? ⟨P, 1, none⟩ = some (.int .i64 r1.vol) := (cell_of_row _ _ 1 _ _ _ hP).trans rfl
    have q0 : wc.cell? ⟨Q, 0, none⟩ = some (.int .i64 r2.level) := (cell_of_row _ _ 0 _ _ _ hQ).trans rfl
    have q1 : wc.cell? ⟨Q, 1, none⟩ = some (.int .i64 r2.vol) := (cell_of_row _ _ 1 _ _ _ hQ).trans rfl
    have hX2 := blk_below hbc hX1
    have z0 := cell_of_row _ _ 0 _ _ _ hX2
    have z1 := cell_of_row _ _ 1 _ _ _ hX2
    have zf0 := frozen_of_row _ _ 0 _ _ hX2
    have zf1 := frozen_of_row _ _ 1 _ _ hX2
    have hb3 := hb2.trans (hbc.mono hb2.size)
    have hc3 := hbc.size
    have lp := (Array.getElem?_eq_some_iff.1 hP).1
    have lq := (Array.getElem?_eq_some_iff.1 hQ).1
    obtain ⟨d, hd⟩ : ∃ d, d = r2.vol - r1.vol := ⟨_, rfl⟩
    obtain ⟨m, hmm⟩ : ∃ m, m = r1.level * d := ⟨_, rfl⟩
    obtain ⟨m2, hmm2⟩ : ∃ m, m = (v - r1.vol) * (r2.level - r1.level) := ⟨_, rfl⟩
    have wa : IntKind.i64.wrap (r2.vol - r1.vol) = d := by rw [IntKind.wrap_i64, hd]; omega
    have wb : IntKind.i64.wrap (r1.level * d) = m := by rw [IntKind.wrap_i64, hmm]; rw [hd]; omega
    have wcc : IntKind.i64.wrap (v - r1.vol) = v - r1.vol := by rw [IntKind.wrap_i64]; omega
    have wd : IntKind.i64.wrap (r2.level - r1.level) = r2.level - r1.level := by rw [IntKind.wrap_i64]; omega
    have we : IntKind.i64.wrap ((v - r1.vol) * (r2.level - r1.level)) = m2 := by rw [IntKind.wrap_i64, hmm2]; omega
    have wf : IntKind.i64.wrap (m + m2) = m + m2 := by rw [IntKind.wrap_i64, hmm, hmm2, hd]; omega
    have Hv := Lib.hid (show ratV (r1.level * (r2.vol - r1.vol) + (v - r1.vol) * (r2.level - r1.level)) (r2.vol - r1.vol) = ratV (m + m2) d by rw [hmm, hmm2, hd])
    clear hm1 hm2 hd hmm hmm2 hP hQ hX0 hX1 hX2 hb2 hbc k0 k1 k2 k3 x0
    go_wp2_with fail
    refine bodyPost_ret (v := ratV (m + m2) d) (by simp [results, Tryz.results91, go_sem, *]) rfl ⟨by rw [Hv.out], ?_⟩
    exact bset (bset hb3 (by omega)) (by omega)
end Go.Proofs.YtgfdindlihfidaaGreat

/-
  basin: a basin in a tick (water), without polders: spill, least, river, over, off.
-/
namespace Go.Proofs.YtgfdindlihfidaaGreat
open Go.RowKit Go.Shelf Go.Sort
set_option linter.unusedSimpArgs false
set_option linter.unusedVariables false
attribute [local go_sem high] run_min_z run_max_z
attribute [local go_sem ↓] run_min_z run_max_z

/-- What a basin in a tick is. -/
structure WatV where
  bas : BasV
  vol : Int
  outer : Int
  river : Int
  out : Int
  fR : Int
  fO : Int
  fL : Int
  fU : Int
abbrev WatV.cells (z : WatV) : Array Value :=
  #[.slice z.bas.rA z.bas.rows.length z.bas.rC, .int .i64 z.bas.leak, .int .i64 z.bas.crest, .int .i64 z.bas.over, .slice z.bas.pA z.bas.pols.length z.bas.pC, .int .i64 z.vol, .slice none 0 0, .int .i64 z.outer, .int .i64 z.river, .int .i64 z.out, .int .i64 z.fR, .int .i64 z.fO, .int .i64 z.fL, .int .i64 z.fU, .slice none 0 0]
/-- It lies at a block. -/
structure WatAt (W : World) (B : Nat) (z : WatV) : Prop where
  blk : W.heap[B]? = some (.cells z.cells 189 (0, 0))
theorem WatAt.lt {W : World} {B : Nat} {z : WatV} (h : WatAt W B z) : B < W.heap.size := (Array.getElem?_eq_some_iff.1 h.blk).1
theorem WatAt.cell {W : World} {B : Nat} {z : WatV} (h : WatAt W B z) (k : Nat) (v : Value) (hv : z.cells[k]? = some v) : W.cell? ⟨B, k, none⟩ = some v := by
  rw [cell_of_row W _ k _ _ _ h.blk, hv]
theorem WatAt.frozen {W : World} {B : Nat} {z : WatV} (h : WatAt W B z) (k : Nat) : W.frozen? ⟨B, k, none⟩ = false := frozen_of_row _ _ k _ _ h.blk
theorem WatAt.drewN {W : World} {B : Nat} {z : WatV} (h : WatAt W B z) (n : Nat) : WatAt (W.drewN n) B z := ⟨h.blk⟩
theorem WatAt.drew {W : World} {B : Nat} {z : WatV} (h : WatAt W B z) : WatAt W.drew B z := ⟨h.blk⟩

theorem spill_any {W : World} {B : Nat} {z : WatV} {b : Bool} (h : WatAt W B z) (hb : decide (1000000000 < z.vol) = b) :
    Calls Tryz.prog 104 #[.pointer (some ⟨B, 0, none⟩)] W fun e W' => e = .returned (.bool b) ∧ W = W' := by
  have c5 : W.cell? ⟨B, 5, none⟩ = some (.int .i64 z.vol) := h.cell 5 _ rfl
  go_enter Tryz.func104, Tryz.ntmps104
  go_wp2
  go_ret
  exact ⟨by simp [← hb], rfl⟩
theorem least_any {W : World} {B : Nat} {z : WatV} {r : RowV} {l : List RowV} (h : WatAt W B z) (hr : z.bas.rows = r :: l) (hl : RowsAt W z.bas.rA z.bas.rows) :
    Calls Tryz.prog 106 #[.pointer (some ⟨B, 0, none⟩)] W fun e W' => e = .returned (.int .i64 r.vol) ∧ W = W' := by
  obtain ⟨b, o, hA, hb, hrow⟩ := hl.row (k := 0) (by rw [hr]; simp)
  have c0 : W.cell? ⟨B, 0, none⟩ = some (.slice (some ⟨b, o, none⟩) z.bas.rows.length z.bas.rC) := by rw [← hA]; exact h.cell 0 _ rfl
  have d := (hrow 0 (by rw [hr]; simp)).2
  have e : ∀ h : 0 < z.bas.rows.length, z.bas.rows[0] = r := fun h => by simp [hr]
  rw [e] at d
  simp only [Nat.zero_mul, Nat.add_zero] at d
  have i0 : (0 : Int) < (z.bas.rows.length : Int) := by rw [hr]; simp
  clear e hrow hl hA
  go_enter Tryz.func106, Tryz.ntmps106
  go_wp2
  go_ret
  exact ⟨rfl, rfl⟩
theorem WatAt.set {W : World} {B : Nat} {z z' : WatV} (h : WatAt W B z) (k : Nat) (v : Value) (hv : z.cells.setIfInBounds k v = z'.cells) : WatAt (W.setCell ⟨B, k, none⟩ v) B z' :=
  ⟨(heap_setCell_same _ _ k _ _ _ h.blk).trans (by rw [hv])⟩
set_option maxRecDepth 100000 in
set_option maxHeartbeats 4000000 in
theorem river_any {W : World} {B : Nat} {z : WatV} (h : WatAt W B z) (hv : 0 ≤ z.vol) (hr : 0 ≤ z.river ∧ z.river ≤ 10000000) (hs : z.vol + z.river ≤ 1000000000) :
    Calls Tryz.prog 98 #[.pointer (some ⟨B, 0, none⟩)] W fun e W' => e = .returned (.bool true) ∧ WatAt W' B { z with fR := z.river, vol := z.vol + z.river } ∧ Below B W W' := by
  have c8 : W.cell? ⟨B, 8, none⟩ = some (.int .i64 z.river) := h.cell 8 _ rfl
  have c10 : W.cell? ⟨B, 10, none⟩ = some (.int .i64 z.fR) := h.cell 10 _ rfl
  have cf := h.frozen 10
  have lt := h.lt
  have h1 : WatAt (W.setCell ⟨B, 10, none⟩ (.int .i64 z.river)) B { z with fR := z.river } := h.set 10 _ rfl
  have hb1 : Below B W (W.setCell ⟨B, 10, none⟩ (.int .i64 z.river)) := bset (Below.refl _ _) (Nat.le_refl _)
  go_enter Tryz.func98, Tryz.ntmps98
  go_wp2
  generalize W.setCell ⟨B, 10, none⟩ (.int .i64 z.river) = W1 at h1 hb1 ⊢
  clear c8 c10 cf lt
  have c5 : W1.cell? ⟨B, 5, none⟩ = some (.int .i64 z.vol) := h1.cell 5 _ rfl
  have c8 : W1.cell? ⟨B, 8, none⟩ = some (.int .i64 z.river) := h1.cell 8 _ rfl
  have cf := h1.frozen 5
  have lt := h1.lt
  have h2a : WatAt (W1.setCell ⟨B, 5, none⟩ (.int .i64 (z.vol + z.river))) B { z with fR := z.river, vol := z.vol + z.river } := h1.set 5 _ rfl
  have h2 := h2a.drew
  clear h2a
  have hb2 : Below B W (W1.setCell ⟨B, 5, none⟩ (.int .i64 (z.vol + z.river))).drew := (bset hb1 (Nat.le_refl _)).drew
  go_still_tail 14, (by kernel_rfl)
  change wpList _ _ _ _ _ (World.drew W1)
  go_wp2_with fail
  generalize (W1.setCell ⟨B, 5, none⟩ (.int .i64 (z.vol + z.river))).drew = W2 at h2 hb2 ⊢
  refine (spill_any h2 (b := false) (by simp; omega)).mono ?_
  rintro e w' ⟨rfl, rfl⟩
  go_wp2
  go_ret
  exact ⟨rfl, h2, hb2⟩
set_option maxRecDepth 100000 in
set_option maxHeartbeats 4000000 in
theorem wover_any {W : World} {B : Nat} {z : WatV} (h : WatAt W B z) (hv : 0 ≤ z.vol ∧ z.vol ≤ 1000000000) (hb : 0 ≤ z.bas.over ∧ z.bas.over ≤ 10000) (hc : -20000 ≤ z.bas.crest ∧ z.bas.crest ≤ 20000) (ho : -20000 ≤ z.outer ∧ z.outer ≤ z.bas.crest) :
    Calls Tryz.prog 99 #[.pointer (some ⟨B, 0, none⟩)] W fun e W' => e = .returned (.bool true) ∧ WatAt W' B { z with fO := 0 } ∧ Below B W W' := by
  have c3 : W.cell? ⟨B, 3, none⟩ = some (.int .i64 z.bas.over) := h.cell 3 _ rfl
  have c7 : W.cell? ⟨B, 7, none⟩ = some (.int .i64 z.outer) := h.cell 7 _ rfl
  have c2 : W.cell? ⟨B, 2, none⟩ = some (.int .i64 z.bas.crest) := h.cell 2 _ rfl
  have c11 : W.cell? ⟨B, 11, none⟩ = some (.int .i64 z.fO) := h.cell 11 _ rfl
  have cf := h.frozen 11
  have lt := h.lt
  have hm : max 0 (z.outer - z.bas.crest) = 0 := by omega
  have wz : IntKind.i64.wrap (z.bas.over * max 0 (z.outer - z.bas.crest)) = 0 := by rw [hm, Int.mul_zero]; rfl
  have wz2 : wrap64 (z.bas.over * max 0 (z.outer - z.bas.crest)) = 0 := by rw [hm, Int.mul_zero]; first | kernel_rfl | simp [wrap64] | (unfold wrap64; rfl)
  clear hm
  have h1a : WatAt (W.setCell ⟨B, 11, none⟩ (.int .i64 0)) B { z with fO := 0 } := h.set 11 _ rfl
  have h1 := h1a.drew
  have hb1 : Below B W (W.setCell ⟨B, 11, none⟩ (.int .i64 0)).drew := (bset (Below.refl _ _) (Nat.le_refl _)).drew
  clear h1a
  go_enter Tryz.func99, Tryz.ntmps99
  go_wp2
  go_still_tail 22, (by kernel_rfl)
  change wpList _ _ _ _ _ (World.drew W)
  go_wp2_with fail
  simp only [wz2]
  generalize (W.setCell ⟨B, 11, none⟩ (.int .i64 0)).drew = W1 at h1 hb1 ⊢
  clear c3 c7 c2 c11 cf lt
  have c5 : W1.cell? ⟨B, 5, none⟩ = some (.int .i64 z.vol) := h1.cell 5 _ rfl
  have c8 : W1.cell? ⟨B, 11, none⟩ = some (.int .i64 0) := h1.cell 11 _ rfl
  have cf := h1.frozen 5
  have lt := h1.lt
  have h2a : WatAt (W1.setCell ⟨B, 5, none⟩ (.int .i64 z.vol)) B { z with fO := 0 } := h1.set 5 _ rfl
  have h2 := h2a.drew
  clear h2a
  have hb2 : Below B W (W1.setCell ⟨B, 5, none⟩ (.int .i64 z.vol)).drew := (bset hb1 (Nat.le_refl _)).drew
  go_still_tail 14, (by kernel_rfl)
  change wpList _ _ _ _ _ (World.drew W1)
  go_wp2_with fail
  generalize (W1.setCell ⟨B, 5, none⟩ (.int .i64 z.vol)).drew = W2 at h2 hb2 ⊢
  refine (spill_any h2 (b := false) (by simp; omega)).mono ?_
  rintro e w' ⟨rfl, rfl⟩
  go_wp2
  go_ret
  exact ⟨rfl, h2, hb2⟩
set_option maxRecDepth 100000 in
set_option maxHeartbeats 4000000 in
theorem woff_any {W : World} {B : Nat} {z : WatV} {r : RowV} {l : List RowV} (h : WatAt W B z) (hv : 0 ≤ z.vol ∧ z.vol ≤ 1000000000) (hr : z.bas.rows = r :: l) (hl : RowsAt W z.bas.rA z.bas.rows) (hz : z.out = 0) (hlv : 0 ≤ r.vol ∧ r.vol ≤ z.vol) :
    Calls Tryz.prog 101 #[.pointer (some ⟨B, 0, none⟩)] W fun e W' => e = .returned (.bool true) ∧ WatAt W' B { z with fU := 0 } ∧ Below B W W' := by
  have c9 : W.cell? ⟨B, 9, none⟩ = some (.int .i64 0) := by rw [← hz]; exact h.cell 9 _ rfl
  have c5 : W.cell? ⟨B, 5, none⟩ = some (.int .i64 z.vol) := h.cell 5 _ rfl
  have c13 : W.cell? ⟨B, 13, none⟩ = some (.int .i64 z.fU) := h.cell 13 _ rfl
  have cf := h.frozen 13
  have lt := h.lt
  have hm : min 0 (z.vol - r.vol) = 0 := by omega
  have L := Lib.hid ((least_any h.drew hr (hl.below (Below.refl W.heap.size W).drew (Nat.le_refl _))).mono (R' := fun e w' => e = .returned (.int .i64 r.vol) ∧ w' = W.drew) fun _ _ q => ⟨q.1, q.2.symm⟩)
  have h1a : WatAt (W.setCell ⟨B, 13, none⟩ (.int .i64 0)) B { z with fU := 0 } := h.set 13 _ rfl
  have h1 := h1a.drew
  have hb1 : Below B W (W.setCell ⟨B, 13, none⟩ (.int .i64 0)).drew := (bset (Below.refl _ _) (Nat.le_refl _)).drew
  clear h1a hl
  go_enter Tryz.func101, Tryz.ntmps101
  go_wp2
  refine wp_region_still_tail 18 (by kernel_rfl) (by kernel_rfl) ?_
  change wpStill _ _ (World.drew W) _ _ _
  simp only [List.take_succ_cons, List.take_zero, List.drop_succ_cons, List.drop_zero]
  iterate 12 still_step
  still_call L.out
  iterate 5 still_step
  refine wpStill_nil ?_
  change wpList _ _ _ _ _ (World.drew W)
  go_wp2_with fail
  simp only [hm]
  generalize (W.setCell ⟨B, 13, none⟩ (.int .i64 0)).drew = W1 at h1 hb1 ⊢
  clear c9 c5 c13 cf lt hm
  have c5 : W1.cell? ⟨B, 5, none⟩ = some (.int .i64 z.vol) := h1.cell 5 _ rfl
  have c13 : W1.cell? ⟨B, 13, none⟩ = some (.int .i64 0) := h1.cell 13 _ rfl
  have cf := h1.frozen 5
  have lt := h1.lt
  have h2a : WatAt (W1.setCell ⟨B, 5, none⟩ (.int .i64 z.vol)) B { z with fU := 0 } := h1.set 5 _ rfl
  have h2 := h2a.drew
  clear h2a
  have hb2 : Below B W (W1.setCell ⟨B, 5, none⟩ (.int .i64 z.vol)).drew := (bset hb1 (Nat.le_refl _)).drew
  go_still_tail 14, (by kernel_rfl)
  change wpList _ _ _ _ _ (World.drew W1)
  go_wp2
  go_ret
  exact ⟨rfl, h2, hb2⟩
end Go.Proofs.YtgfdindlihfidaaGreat

/-
  basin: water without polders: polders.
-/
namespace Go.Proofs.YtgfdindlihfidaaGreat
open Go.RowKit Go.Shelf Go.Sort
set_option linter.unusedSimpArgs false
set_option linter.unusedVariables false

set_option maxRecDepth 100000 in
set_option maxHeartbeats 4000000 in
theorem wpol_any {W : World} {B : Nat} {z : WatV} (h : WatAt W B z) (hp : z.bas.pols = []) :
    Calls Tryz.prog 102 #[.pointer (some ⟨B, 0, none⟩)] W fun e W' => e = .returned (.bool true) ∧ W = W' := by
  have c4 : W.cell? ⟨B, 4, none⟩ = some (.slice z.bas.pA 0 z.bas.pC) := by
    have e : W.cell? ⟨B, 4, none⟩ = some (.slice z.bas.pA z.bas.pols.length z.bas.pC) := h.cell 4 _ rfl
    rw [hp] at e
    exact e
  go_enter Tryz.func102, Tryz.ntmps102
  go_wp2
  go_loopw [13] (fun i wr => i = .int .i64 0 ∧ W = wr) (fun _ _ => 0)
  case atStart => exact ⟨rfl, rfl⟩
  case round =>
    obtain ⟨rfl, rfl⟩ := hrel
    go_wp2
    go_ret
    exact ⟨rfl, rfl⟩
end Go.Proofs.YtgfdindlihfidaaGreat
