/-
  slices.Reverse of a row of at most four witnesses that are all the same. (Printed by wip/tools/mksr.py.)
-/
import Derived.Test.YtgfdindlihfidaaGreatZm
namespace Go.Proofs.YtgfdindlihfidaaGreat
open Go.RowKit Go.Shelf Go.Sort
set_option linter.unusedSimpArgs false
set_option linter.unusedVariables false

def wl : Nat → List Value
  | 0 => []
  | n + 1 => wl n ++ [.int .i64 0, .int .i64 12]
theorem wl_len : ∀ n, (wl n).length = n * 2
  | 0 => rfl
  | n + 1 => by rw [wl, List.length_append, wl_len n]; simp; omega
structure RvS (W0 : World) (base g cap n : Nat) (V : World) : Prop where
  own : V.ownsRow base 117 2 (.slice (some ⟨g, 0, none⟩) n cap) n (wl n)
  grown : W0.grownBy V (some g)
theorem RvS.drew {W0 V : World} {base g cap n : Nat} (h : RvS W0 base g cap n V) : RvS W0 base g cap n V.drew := ⟨World.ownsRow.drew h.own, ⟨h.grown.os, h.grown.tape, h.grown.output, h.grown.size, h.grown.block⟩⟩
theorem RvS.cell {W0 V : World} {base g cap n : Nat} (h : RvS W0 base g cap n V) (j : Nat) (hj : j < n * 2) (u : Value) (hu : (wl n)[j]? = some u) : V.cell? ⟨g, j, none⟩ = some u := (h.own.cellAt j (by omega)).trans hu
theorem RvS.frozen {W0 V : World} {base g cap n : Nat} (h : RvS W0 base g cap n V) (j : Nat) : V.frozen? ⟨g, j, none⟩ = false := h.own.frozenAt j
theorem RvS.set {W0 V : World} {base g cap n : Nat} (h : RvS W0 base g cap n V) (j : Nat) (u : Value) (hu : (wl n).set j u = wl n) : RvS W0 base g cap n (V.setCell ⟨g, j, none⟩ u) := by
  have h1 := h.own.stored j u
  rw [hu] at h1
  have h2 : Below 0 V (V.setCell ⟨g, j, none⟩ u) := bset (Below.refl _ _) (Nat.zero_le _)
  exact ⟨h1.1, h2.os.trans h.grown.os, h2.tape.trans h.grown.tape, h2.output.trans h.grown.output, Nat.le_trans h.grown.size h2.size, fun k hk hr => (Below.heap_setCell _ _ _ _ (by exact fun e => hr (by rw [e]))).trans (h.grown.block k hk hr)⟩
theorem RvS.lt {W0 V : World} {base g cap n : Nat} (h : RvS W0 base g cap n V) : g < V.heap.size := (h.own.lt g rfl).2
theorem RvS.self {W0 V : World} {base g cap n : Nat} (h : RvS W0 base g cap n V) : RvS W0 base g cap n V := h

theorem RvS.k2_0 {W0 V : World} {base g cap : Nat} (h : RvS W0 base g cap 2 V) : RvS W0 base g cap 2 (V.setCell ⟨g, 0, none⟩ (.int .i64 0)) := h.set 0 _ rfl
theorem RvS.k2_1 {W0 V : World} {base g cap : Nat} (h : RvS W0 base g cap 2 V) : RvS W0 base g cap 2 (V.setCell ⟨g, 1, none⟩ (.int .i64 12)) := h.set 1 _ rfl
theorem RvS.k2_2 {W0 V : World} {base g cap : Nat} (h : RvS W0 base g cap 2 V) : RvS W0 base g cap 2 (V.setCell ⟨g, 2, none⟩ (.int .i64 0)) := h.set 2 _ rfl
theorem RvS.k2_3 {W0 V : World} {base g cap : Nat} (h : RvS W0 base g cap 2 V) : RvS W0 base g cap 2 (V.setCell ⟨g, 3, none⟩ (.int .i64 12)) := h.set 3 _ rfl
theorem RvS.k3_0 {W0 V : World} {base g cap : Nat} (h : RvS W0 base g cap 3 V) : RvS W0 base g cap 3 (V.setCell ⟨g, 0, none⟩ (.int .i64 0)) := h.set 0 _ rfl
theorem RvS.k3_1 {W0 V : World} {base g cap : Nat} (h : RvS W0 base g cap 3 V) : RvS W0 base g cap 3 (V.setCell ⟨g, 1, none⟩ (.int .i64 12)) := h.set 1 _ rfl
theorem RvS.k3_2 {W0 V : World} {base g cap : Nat} (h : RvS W0 base g cap 3 V) : RvS W0 base g cap 3 (V.setCell ⟨g, 2, none⟩ (.int .i64 0)) := h.set 2 _ rfl
theorem RvS.k3_3 {W0 V : World} {base g cap : Nat} (h : RvS W0 base g cap 3 V) : RvS W0 base g cap 3 (V.setCell ⟨g, 3, none⟩ (.int .i64 12)) := h.set 3 _ rfl
theorem RvS.k3_4 {W0 V : World} {base g cap : Nat} (h : RvS W0 base g cap 3 V) : RvS W0 base g cap 3 (V.setCell ⟨g, 4, none⟩ (.int .i64 0)) := h.set 4 _ rfl
theorem RvS.k3_5 {W0 V : World} {base g cap : Nat} (h : RvS W0 base g cap 3 V) : RvS W0 base g cap 3 (V.setCell ⟨g, 5, none⟩ (.int .i64 12)) := h.set 5 _ rfl
theorem RvS.k4_0 {W0 V : World} {base g cap : Nat} (h : RvS W0 base g cap 4 V) : RvS W0 base g cap 4 (V.setCell ⟨g, 0, none⟩ (.int .i64 0)) := h.set 0 _ rfl
theorem RvS.k4_1 {W0 V : World} {base g cap : Nat} (h : RvS W0 base g cap 4 V) : RvS W0 base g cap 4 (V.setCell ⟨g, 1, none⟩ (.int .i64 12)) := h.set 1 _ rfl
theorem RvS.k4_2 {W0 V : World} {base g cap : Nat} (h : RvS W0 base g cap 4 V) : RvS W0 base g cap 4 (V.setCell ⟨g, 2, none⟩ (.int .i64 0)) := h.set 2 _ rfl
theorem RvS.k4_3 {W0 V : World} {base g cap : Nat} (h : RvS W0 base g cap 4 V) : RvS W0 base g cap 4 (V.setCell ⟨g, 3, none⟩ (.int .i64 12)) := h.set 3 _ rfl
theorem RvS.k4_4 {W0 V : World} {base g cap : Nat} (h : RvS W0 base g cap 4 V) : RvS W0 base g cap 4 (V.setCell ⟨g, 4, none⟩ (.int .i64 0)) := h.set 4 _ rfl
theorem RvS.k4_5 {W0 V : World} {base g cap : Nat} (h : RvS W0 base g cap 4 V) : RvS W0 base g cap 4 (V.setCell ⟨g, 5, none⟩ (.int .i64 12)) := h.set 5 _ rfl
theorem RvS.k4_6 {W0 V : World} {base g cap : Nat} (h : RvS W0 base g cap 4 V) : RvS W0 base g cap 4 (V.setCell ⟨g, 6, none⟩ (.int .i64 0)) := h.set 6 _ rfl
theorem RvS.k4_7 {W0 V : World} {base g cap : Nat} (h : RvS W0 base g cap 4 V) : RvS W0 base g cap 4 (V.setCell ⟨g, 7, none⟩ (.int .i64 12)) := h.set 7 _ rfl
set_option maxRecDepth 100000 in
set_option maxHeartbeats 4000000 in
theorem reverse_0 {W : World} (a : Option Addr) (cap : Nat) :
    Calls Tryz.prog 42 #[.slice a 0 cap] W fun e W' => (∃ u, e = .returned u) ∧ W' = W := by
  have w1 : IntKind.i64.wrap (-1) = -1 := by decide
  go_enter Tryz.func42, Tryz.ntmps42
  go_wp2_with fail
  go_loopw [2, 3] (fun i j wr => i = .int .i64 0 ∧ j = .int .i64 (-1) ∧ wr = W) (fun i _ _ => (3 - intOf i).toNat)
  case atStart => exact ⟨rfl, rfl, rfl⟩
  case round =>
    obtain ⟨rfl, rfl, rfl⟩ := hrel
    go_wp2_with fail
    go_end0
    exact ⟨⟨_, rfl⟩, rfl⟩
set_option maxRecDepth 100000 in
set_option maxHeartbeats 4000000 in
theorem reverse_1 {W : World} {base g cap : Nat} (h : RvS W base g cap 1 W) :
    Calls Tryz.prog 42 #[.slice (some ⟨g, 0, none⟩) 1 cap] W fun e W' => (∃ u, e = .returned u) ∧ RvS W base g cap 1 W' := by
  have H := Lib.hid h
  have f0 : ∀ V, RvS W base g cap 1 V → V.cell? ⟨g, 0, none⟩ = some (.int .i64 0) := fun V h => h.cell 0 (by omega) _ rfl
  have f1 : ∀ V, RvS W base g cap 1 V → V.cell? ⟨g, 1, none⟩ = some (.int .i64 12) := fun V h => h.cell 1 (by omega) _ rfl
  have fz : ∀ V, RvS W base g cap 1 V → ∀ j, V.frozen? ⟨g, j, none⟩ = false := fun V h j => h.frozen j
  have fl : ∀ V, RvS W base g cap 1 V → g < V.heap.size := fun V h => h.lt
  clear h
  have w11 : IntKind.i64.wrap 1 = 1 := by decide
  have w12 : IntKind.i64.wrap 2 = 2 := by decide
  have w13 : IntKind.i64.wrap 3 = 3 := by decide
  go_enter Tryz.func42, Tryz.ntmps42
  go_wp2_with fail
  go_loopw [2, 3] (fun i j wr => ((i = .int .i64 0 ∧ j = .int .i64 0)) ∧ RvS W base g cap 1 wr) (fun i _ _ => (3 - intOf i).toNat)
  case atStart => exact ⟨⟨rfl, rfl⟩, H.out⟩
  case round =>
    obtain ⟨hc, S0⟩ := hrel
    obtain ⟨rfl, rfl⟩ := hc
    · go_wp2_with fail
      go_end0
      exact ⟨⟨_, rfl⟩, S0⟩

set_option maxRecDepth 100000 in
set_option maxHeartbeats 4000000 in
theorem reverse_2 {W : World} {base g cap : Nat} (h : RvS W base g cap 2 W) :
    Calls Tryz.prog 42 #[.slice (some ⟨g, 0, none⟩) 2 cap] W fun e W' => (∃ u, e = .returned u) ∧ RvS W base g cap 2 W' := by
  have H := Lib.hid h
  have f0 : ∀ V, RvS W base g cap 2 V → V.cell? ⟨g, 0, none⟩ = some (.int .i64 0) := fun V h => h.cell 0 (by omega) _ rfl
  have f1 : ∀ V, RvS W base g cap 2 V → V.cell? ⟨g, 1, none⟩ = some (.int .i64 12) := fun V h => h.cell 1 (by omega) _ rfl
  have f2 : ∀ V, RvS W base g cap 2 V → V.cell? ⟨g, 2, none⟩ = some (.int .i64 0) := fun V h => h.cell 2 (by omega) _ rfl
  have f3 : ∀ V, RvS W base g cap 2 V → V.cell? ⟨g, 3, none⟩ = some (.int .i64 12) := fun V h => h.cell 3 (by omega) _ rfl
  have fz : ∀ V, RvS W base g cap 2 V → ∀ j, V.frozen? ⟨g, j, none⟩ = false := fun V h j => h.frozen j
  have fl : ∀ V, RvS W base g cap 2 V → g < V.heap.size := fun V h => h.lt
  clear h
  have w11 : IntKind.i64.wrap 1 = 1 := by decide
  have w12 : IntKind.i64.wrap 2 = 2 := by decide
  have w13 : IntKind.i64.wrap 3 = 3 := by decide
  go_enter Tryz.func42, Tryz.ntmps42
  go_wp2_with fail
  go_loopw [2, 3] (fun i j wr => ((i = .int .i64 0 ∧ j = .int .i64 1) ∨ (i = .int .i64 1 ∧ j = .int .i64 0)) ∧ RvS W base g cap 2 wr) (fun i _ _ => (3 - intOf i).toNat)
  case atStart => exact ⟨(.inl ⟨rfl, rfl⟩), H.out⟩
  case round =>
    obtain ⟨hc, S0⟩ := hrel
    rcases hc with ⟨rfl, rfl⟩ | ⟨rfl, rfl⟩
    · go_wp2_with fail
      go_region_held3 (fun V => RvS W base g cap 2 V)
        (first
          | with_reducible assumption
          | with_reducible exact RvS.drew S0
          | ((repeat (first | with_reducible exact S0 | with_reducible refine RvS.drew ?_ | with_reducible refine RvS.k2_0 ?_ | with_reducible refine RvS.k2_1 ?_ | with_reducible refine RvS.k2_2 ?_ | with_reducible refine RvS.k2_3 ?_)); done))
        (first | fail)
      all_goals
        have hS : RvS W base g cap 2 _ := RvS.self (by assumption)
        have HS := Lib.hid hS
        clear hS
        go_wp2_with fail
        exact ⟨⟨(.inr ⟨rfl, rfl⟩), HS.out⟩, by simp [intOf]⟩
    · go_wp2_with fail
      go_end0
      exact ⟨⟨_, rfl⟩, S0⟩

set_option maxRecDepth 100000 in
set_option maxHeartbeats 4000000 in
theorem reverse_3 {W : World} {base g cap : Nat} (h : RvS W base g cap 3 W) :
    Calls Tryz.prog 42 #[.slice (some ⟨g, 0, none⟩) 3 cap] W fun e W' => (∃ u, e = .returned u) ∧ RvS W base g cap 3 W' := by
  have H := Lib.hid h
  have f0 : ∀ V, RvS W base g cap 3 V → V.cell? ⟨g, 0, none⟩ = some (.int .i64 0) := fun V h => h.cell 0 (by omega) _ rfl
  have f1 : ∀ V, RvS W base g cap 3 V → V.cell? ⟨g, 1, none⟩ = some (.int .i64 12) := fun V h => h.cell 1 (by omega) _ rfl
  have f2 : ∀ V, RvS W base g cap 3 V → V.cell? ⟨g, 2, none⟩ = some (.int .i64 0) := fun V h => h.cell 2 (by omega) _ rfl
  have f3 : ∀ V, RvS W base g cap 3 V → V.cell? ⟨g, 3, none⟩ = some (.int .i64 12) := fun V h => h.cell 3 (by omega) _ rfl
  have f4 : ∀ V, RvS W base g cap 3 V → V.cell? ⟨g, 4, none⟩ = some (.int .i64 0) := fun V h => h.cell 4 (by omega) _ rfl
  have f5 : ∀ V, RvS W base g cap 3 V → V.cell? ⟨g, 5, none⟩ = some (.int .i64 12) := fun V h => h.cell 5 (by omega) _ rfl
  have fz : ∀ V, RvS W base g cap 3 V → ∀ j, V.frozen? ⟨g, j, none⟩ = false := fun V h j => h.frozen j
  have fl : ∀ V, RvS W base g cap 3 V → g < V.heap.size := fun V h => h.lt
  clear h
  have w11 : IntKind.i64.wrap 1 = 1 := by decide
  have w12 : IntKind.i64.wrap 2 = 2 := by decide
  have w13 : IntKind.i64.wrap 3 = 3 := by decide
  go_enter Tryz.func42, Tryz.ntmps42
  go_wp2_with fail
  go_loopw [2, 3] (fun i j wr => ((i = .int .i64 0 ∧ j = .int .i64 2) ∨ (i = .int .i64 1 ∧ j = .int .i64 1)) ∧ RvS W base g cap 3 wr) (fun i _ _ => (3 - intOf i).toNat)
  case atStart => exact ⟨(.inl ⟨rfl, rfl⟩), H.out⟩
  case round =>
    obtain ⟨hc, S0⟩ := hrel
    rcases hc with ⟨rfl, rfl⟩ | ⟨rfl, rfl⟩
    · go_wp2_with fail
      go_region_held3 (fun V => RvS W base g cap 3 V)
        (first
          | with_reducible assumption
          | with_reducible exact RvS.drew S0
          | ((repeat (first | with_reducible exact S0 | with_reducible refine RvS.drew ?_ | with_reducible refine RvS.k3_0 ?_ | with_reducible refine RvS.k3_1 ?_ | with_reducible refine RvS.k3_2 ?_ | with_reducible refine RvS.k3_3 ?_ | with_reducible refine RvS.k3_4 ?_ | with_reducible refine RvS.k3_5 ?_)); done))
        (first | fail)
      all_goals
        have hS : RvS W base g cap 3 _ := RvS.self (by assumption)
        have HS := Lib.hid hS
        clear hS
        go_wp2_with fail
        exact ⟨⟨(.inr ⟨rfl, rfl⟩), HS.out⟩, by simp [intOf]⟩
    · go_wp2_with fail
      go_end0
      exact ⟨⟨_, rfl⟩, S0⟩

set_option maxRecDepth 100000 in
set_option maxHeartbeats 4000000 in
theorem reverse_4 {W : World} {base g cap : Nat} (h : RvS W base g cap 4 W) :
    Calls Tryz.prog 42 #[.slice (some ⟨g, 0, none⟩) 4 cap] W fun e W' => (∃ u, e = .returned u) ∧ RvS W base g cap 4 W' := by
  have H := Lib.hid h
  have f0 : ∀ V, RvS W base g cap 4 V → V.cell? ⟨g, 0, none⟩ = some (.int .i64 0) := fun V h => h.cell 0 (by omega) _ rfl
  have f1 : ∀ V, RvS W base g cap 4 V → V.cell? ⟨g, 1, none⟩ = some (.int .i64 12) := fun V h => h.cell 1 (by omega) _ rfl
  have f2 : ∀ V, RvS W base g cap 4 V → V.cell? ⟨g, 2, none⟩ = some (.int .i64 0) := fun V h => h.cell 2 (by omega) _ rfl
  have f3 : ∀ V, RvS W base g cap 4 V → V.cell? ⟨g, 3, none⟩ = some (.int .i64 12) := fun V h => h.cell 3 (by omega) _ rfl
  have f4 : ∀ V, RvS W base g cap 4 V → V.cell? ⟨g, 4, none⟩ = some (.int .i64 0) := fun V h => h.cell 4 (by omega) _ rfl
  have f5 : ∀ V, RvS W base g cap 4 V → V.cell? ⟨g, 5, none⟩ = some (.int .i64 12) := fun V h => h.cell 5 (by omega) _ rfl
  have f6 : ∀ V, RvS W base g cap 4 V → V.cell? ⟨g, 6, none⟩ = some (.int .i64 0) := fun V h => h.cell 6 (by omega) _ rfl
  have f7 : ∀ V, RvS W base g cap 4 V → V.cell? ⟨g, 7, none⟩ = some (.int .i64 12) := fun V h => h.cell 7 (by omega) _ rfl
  have fz : ∀ V, RvS W base g cap 4 V → ∀ j, V.frozen? ⟨g, j, none⟩ = false := fun V h j => h.frozen j
  have fl : ∀ V, RvS W base g cap 4 V → g < V.heap.size := fun V h => h.lt
  clear h
  have w11 : IntKind.i64.wrap 1 = 1 := by decide
  have w12 : IntKind.i64.wrap 2 = 2 := by decide
  have w13 : IntKind.i64.wrap 3 = 3 := by decide
  go_enter Tryz.func42, Tryz.ntmps42
  go_wp2_with fail
  go_loopw [2, 3] (fun i j wr => ((i = .int .i64 0 ∧ j = .int .i64 3) ∨ (i = .int .i64 1 ∧ j = .int .i64 2) ∨ (i = .int .i64 2 ∧ j = .int .i64 1)) ∧ RvS W base g cap 4 wr) (fun i _ _ => (3 - intOf i).toNat)
  case atStart => exact ⟨(.inl ⟨rfl, rfl⟩), H.out⟩
  case round =>
    obtain ⟨hc, S0⟩ := hrel
    rcases hc with ⟨rfl, rfl⟩ | ⟨rfl, rfl⟩ | ⟨rfl, rfl⟩
    · go_wp2_with fail
      go_region_held3 (fun V => RvS W base g cap 4 V)
        (first
          | with_reducible assumption
          | with_reducible exact RvS.drew S0
          | ((repeat (first | with_reducible exact S0 | with_reducible refine RvS.drew ?_ | with_reducible refine RvS.k4_0 ?_ | with_reducible refine RvS.k4_1 ?_ | with_reducible refine RvS.k4_2 ?_ | with_reducible refine RvS.k4_3 ?_ | with_reducible refine RvS.k4_4 ?_ | with_reducible refine RvS.k4_5 ?_ | with_reducible refine RvS.k4_6 ?_ | with_reducible refine RvS.k4_7 ?_)); done))
        (first | fail)
      all_goals
        have hS : RvS W base g cap 4 _ := RvS.self (by assumption)
        have HS := Lib.hid hS
        clear hS
        go_wp2_with fail
        exact ⟨⟨(.inr (.inl ⟨rfl, rfl⟩)), HS.out⟩, by simp [intOf]⟩
    · go_wp2_with fail
      go_region_held3 (fun V => RvS W base g cap 4 V)
        (first
          | with_reducible assumption
          | with_reducible exact RvS.drew S0
          | ((repeat (first | with_reducible exact S0 | with_reducible refine RvS.drew ?_ | with_reducible refine RvS.k4_0 ?_ | with_reducible refine RvS.k4_1 ?_ | with_reducible refine RvS.k4_2 ?_ | with_reducible refine RvS.k4_3 ?_ | with_reducible refine RvS.k4_4 ?_ | with_reducible refine RvS.k4_5 ?_ | with_reducible refine RvS.k4_6 ?_ | with_reducible refine RvS.k4_7 ?_)); done))
        (first | fail)
      all_goals
        have hS : RvS W base g cap 4 _ := RvS.self (by assumption)
        have HS := Lib.hid hS
        clear hS
        go_wp2_with fail
        exact ⟨⟨(.inr (.inr ⟨rfl, rfl⟩)), HS.out⟩, by simp [intOf]⟩
    · go_wp2_with fail
      go_end0
      exact ⟨⟨_, rfl⟩, S0⟩

/-- A row of its own, of k witnesses, k at most four: turned round it is as it was. -/
theorem reverse_any {W : World} {base k cap : Nat} {a : Option Addr} (hk : k ≤ 4) (h : W.ownsRow base 117 2 (.slice a k cap) k (wl k)) :
    Calls Tryz.prog 42 #[.slice a k cap] W fun e W' => (∃ u, e = .returned u) ∧ W'.ownsRow base 117 2 (.slice a k cap) k (wl k) ∧ W.grownBy W' (Value.slice a k cap).ownBlock := by
  by_cases h0 : k = 0
  · subst h0
    refine (reverse_0 a cap).mono ?_
    rintro e W' ⟨hu, rfl⟩
    exact ⟨hu, h, ⟨rfl, rfl, rfl, Nat.le_refl _, fun _ _ _ => rfl⟩⟩
  · obtain ⟨g, c2, he, hb, hl⟩ := h.form (by omega)
    injection he with e1 _ _
    subst e1
    have hS : RvS W base g cap k W := ⟨h, ⟨rfl, rfl, rfl, Nat.le_refl _, fun _ _ _ => rfl⟩⟩
    match k, hk, h0, hS with
    | 1, _, _, hS => exact (reverse_1 hS).mono fun e W' q => ⟨q.1, q.2.own, q.2.grown⟩
    | 2, _, _, hS => exact (reverse_2 hS).mono fun e W' q => ⟨q.1, q.2.own, q.2.grown⟩
    | 3, _, _, hS => exact (reverse_3 hS).mono fun e W' q => ⟨q.1, q.2.own, q.2.grown⟩
    | 4, _, _, hS => exact (reverse_4 hS).mono fun e W' q => ⟨q.1, q.2.own, q.2.grown⟩
end Go.Proofs.YtgfdindlihfidaaGreat
