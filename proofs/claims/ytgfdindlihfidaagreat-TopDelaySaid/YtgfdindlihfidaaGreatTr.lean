/-
  Two rows of one's own that grow in turn: what stays of the rest, and of each other.
-/
import Derived.Test.YtgfdindlihfidaaGreatTg
namespace Go.Proofs.YtgfdindlihfidaaGreat
open Go.RowKit
set_option linter.unusedSimpArgs false
set_option linter.unusedVariables false

/-- All blocks of wx but the two rows' are as they were. -/
structure TwK (wx : World) (x y : Option Nat) (W : World) : Prop where
  os : W.os = wx.os
  tape : W.tape = wx.tape
  output : W.output = wx.output
  size : wx.heap.size ≤ W.heap.size
  block : ∀ i, i < wx.heap.size → some i ≠ x → some i ≠ y → W.heap[i]? = wx.heap[i]?
theorem TwK.new (w : World) (x y : Option Nat) : TwK w x y w := ⟨rfl, rfl, rfl, Nat.le_refl _, fun _ _ _ _ => rfl⟩
theorem TwK.drew {wx W : World} {x y : Option Nat} (h : TwK wx x y W) : TwK wx x y W.drew := ⟨h.os, h.tape, h.output, h.size, h.block⟩
theorem TwK.alloc {wx W : World} {x y : Option Nat} (h : TwK wx x y W) (o : Obj) : TwK wx x y (W.alloc o) :=
  ⟨h.os, h.tape, h.output, by have := h.size; simp; omega, fun i hi h1 h2 => (Below.heap_alloc W o i (Nat.lt_of_lt_of_le hi h.size)).trans (h.block i hi h1 h2)⟩
theorem TwK.grownX {wx W W' : World} {x y : Option Nat} (h : TwK wx x y W) (g : W.grownBy W' x) : TwK wx x y W' :=
  ⟨g.os.trans h.os, g.tape.trans h.tape, g.output.trans h.output, Nat.le_trans h.size g.size, fun i hi h1 h2 => (g.block i (Nat.lt_of_lt_of_le hi h.size) h1).trans (h.block i hi h1 h2)⟩
theorem TwK.grownY {wx W W' : World} {x y : Option Nat} (h : TwK wx x y W) (g : W.grownBy W' y) : TwK wx x y W' :=
  ⟨g.os.trans h.os, g.tape.trans h.tape, g.output.trans h.output, Nat.le_trans h.size g.size, fun i hi h1 h2 => (g.block i (Nat.lt_of_lt_of_le hi h.size) h2).trans (h.block i hi h1 h2)⟩
theorem TwK.cell {wx W : World} {x y : Option Nat} (h : TwK wx x y W) {b o : Nat} (hb : b < wx.heap.size) (h1 : some b ≠ x) (h2 : some b ≠ y) : W.cell? ⟨b, o, none⟩ = wx.cell? ⟨b, o, none⟩ :=
  World.cell?_of_block (h.block b hb h1 h2)
theorem TwK.below {wx W : World} {x y : Option Nat} {B : Nat} (h : TwK wx x y W) (hx : ∀ b, x = some b → B ≤ b) (hy : ∀ b, y = some b → B ≤ b) (hB : B ≤ wx.heap.size) : Below B wx W :=
  ⟨h.os, h.tape, h.output, h.size, fun i hi => h.block i (Nat.lt_of_lt_of_le hi hB) (fun e => by have := hx i e.symm; omega) (fun e => by have := hy i e.symm; omega)⟩

theorem row_below {w W : World} {base size n : Nat} {e : TypeId} {v : Value} {xs : List Value} (h : w.ownsRow base e size v n xs) (hb : Below w.heap.size w W) : W.ownsRow base e size v n xs :=
  h.kept (row := none) ⟨hb.os, hb.tape, hb.output, hb.size, fun k hk _ => hb.block k hk⟩ (by cases hv : v.ownBlock <;> simp)

/-- A row is not where another one has grown to. -/
theorem far_row {x y : Option Nat} {g H N : Nat} (hx : ∀ b, x = some b → b < N) (hne : x = none ∨ x ≠ y) (hat : y = some g ∨ g = H) (hH : N ≤ H) : x = none ∨ x ≠ some g := by
  rcases hne with h | h
  · exact .inl h
  · refine .inr fun e => ?_
    rcases hat with h1 | h1
    · exact h (e.trans h1.symm)
    · have := hx g e
      omega
theorem far_row2 {x y : Option Nat} {g H N : Nat} (hx : ∀ b, x = some b → b < N) (hne : x = none ∨ x ≠ y) (hat : y = some g ∨ g = H) (hH : N ≤ H) : some g = none ∨ some g ≠ x := by
  refine .inr fun e => ?_
  rcases far_row hx hne hat hH with h | h
  · rw [h] at e; cases e
  · exact h e.symm
/-- Two rows that have grown do not meet. -/
theorem far_both {x y : Option Nat} {g g2 H H2 N M : Nat} (hx : ∀ b, x = some b → b < N) (hy : ∀ b, y = some b → b < N) (hne : x = none ∨ x ≠ y) (hat : x = some g ∨ g = H) (hat2 : y = some g2 ∨ g2 = H2) (hH : N ≤ H) (hlt : g < M) (hH2 : M ≤ H2) (hNM : N ≤ M) : g ≠ g2 := by
  rintro rfl
  rcases hat with h | h <;> rcases hat2 with h2 | h2
  · rcases hne with h3 | h3
    · rw [h3] at h; cases h
    · exact h3 (h.trans h2.symm)
  · omega
  · have := hy _ h2; omega
  · omega
theorem ne_symm_row {x y : Option Nat} (h : x = none ∨ x ≠ y) : y = none ∨ y ≠ x := by
  cases y with
  | none => exact .inl rfl
  | some b =>
    refine .inr fun e => ?_
    rcases h with h | h
    · rw [← e] at h; cases h
    · exact h e.symm

theorem blk_new {W : World} {B : Nat} {cs : Array Value} {t : TypeId} (h : W.heap.size = B) : (W.alloc (.cells cs t)).heap[B]? = some (.cells cs t (0, 0)) := by
  subst h; exact heap_alloc_new W _
theorem blk_old {W : World} {B : Nat} {o : Obj} {p : Obj} (h : W.heap[B]? = some o) : (W.alloc p).heap[B]? = some o :=
  (Below.heap_alloc W p B (Array.getElem?_eq_some_iff.1 h).1).trans h
theorem blk_drew {W : World} {B : Nat} {o : Obj} (h : W.heap[B]? = some o) : W.drew.heap[B]? = some o := h
theorem blk_below {V W : World} {B : Nat} {o : Obj} (hb : Below V.heap.size V W) (h : V.heap[B]? = some o) : W.heap[B]? = some o :=
  (hb.block B (Array.getElem?_eq_some_iff.1 h).1).trans h
theorem blk_grown {V W : World} {B : Nat} {o : Obj} {row : Option Nat} (hg : V.grownBy W row) (hne : some B ≠ row) (h : V.heap[B]? = some o) : W.heap[B]? = some o :=
  (hg.block B (Array.getElem?_eq_some_iff.1 h).1 hne).trans h

/-- Three cells stored into each of two blocks. -/
theorem set33 {W : World} {P Q : Nat} {x0 x1 x2 y0 y1 y2 : Value} {t u : TypeId} (hP : W.heap[P]? = some (.cells #[x0, x1, x2] t (0, 0))) (hQ : W.heap[Q]? = some (.cells #[y0, y1, y2] u (0, 0))) (hne : P ≠ Q) (a0 a1 a2 b0 b1 b2 : Value) :
    let W' := (((((W.setCell ⟨P, 0, none⟩ a0).setCell ⟨P, 1, none⟩ a1).setCell ⟨P, 2, none⟩ a2).setCell ⟨Q, 0, none⟩ b0).setCell ⟨Q, 1, none⟩ b1).setCell ⟨Q, 2, none⟩ b2
    W'.heap[P]? = some (.cells #[a0, a1, a2] t (0, 0)) ∧ W'.heap[Q]? = some (.cells #[b0, b1, b2] u (0, 0)) := by
  intro W'
  have o : ∀ (V : World) (i : Nat) (v : Value) (k b : Nat), k ≠ b → (V.setCell ⟨b, i, none⟩ v).heap[k]? = V.heap[k]? := fun V i v k b h => heap_setCell_other V ⟨b, i, none⟩ k v h
  have p1 := heap_setCell_same _ P 0 _ _ a0 hP
  have p2 := heap_setCell_same _ P 1 _ _ a1 p1
  have p3 := heap_setCell_same _ P 2 _ _ a2 p2
  have q0 : (((W.setCell ⟨P, 0, none⟩ a0).setCell ⟨P, 1, none⟩ a1).setCell ⟨P, 2, none⟩ a2).heap[Q]? = some (.cells #[y0, y1, y2] u (0, 0)) := by
    rw [o _ _ _ _ _ (Ne.symm hne), o _ _ _ _ _ (Ne.symm hne), o _ _ _ _ _ (Ne.symm hne)]; exact hQ
  have q1 := heap_setCell_same _ Q 0 _ _ b0 q0
  have q2 := heap_setCell_same _ Q 1 _ _ b1 q1
  have q3 := heap_setCell_same _ Q 2 _ _ b2 q2
  refine ⟨?_, q3⟩
  show W'.heap[P]? = _
  rw [o _ _ _ _ _ hne, o _ _ _ _ _ hne, o _ _ _ _ _ hne]
  exact p3
theorem cells3 {W : World} {P : Nat} {a0 a1 a2 : Value} {t : TypeId} (h : W.heap[P]? = some (.cells #[a0, a1, a2] t (0, 0))) : W.cell? ⟨P, 0, none⟩ = some a0 ∧ W.cell? ⟨P, 1, none⟩ = some a1 ∧ W.cell? ⟨P, 2, none⟩ = some a2 :=
  ⟨(cell_of_row W P 0 _ _ _ h).trans rfl, (cell_of_row W P 1 _ _ _ h).trans rfl, (cell_of_row W P 2 _ _ _ h).trans rfl⟩
theorem ends1 {W : World} {P Q : Nat} {x0 x1 x2 y0 y1 y2 a0 a1 a2 b0 b1 b2 : Value} {t u : TypeId} (hP : W.heap[P]? = some (.cells #[x0, x1, x2] t (0, 0))) (hQ : W.heap[Q]? = some (.cells #[y0, y1, y2] u (0, 0))) (hne : P ≠ Q) :
    (((((((W.setCell ⟨P, 0, none⟩ a0).setCell ⟨P, 1, none⟩ a1).setCell ⟨P, 2, none⟩ a2).setCell ⟨Q, 0, none⟩ b0).setCell ⟨Q, 1, none⟩ b1).setCell ⟨Q, 2, none⟩ b2).cell? ⟨P, 0, none⟩ = some a0 ∧ ((((((W.setCell ⟨P, 0, none⟩ a0).setCell ⟨P, 1, none⟩ a1).setCell ⟨P, 2, none⟩ a2).setCell ⟨Q, 0, none⟩ b0).setCell ⟨Q, 1, none⟩ b1).setCell ⟨Q, 2, none⟩ b2).cell? ⟨P, 1, none⟩ = some a1 ∧ ((((((W.setCell ⟨P, 0, none⟩ a0).setCell ⟨P, 1, none⟩ a1).setCell ⟨P, 2, none⟩ a2).setCell ⟨Q, 0, none⟩ b0).setCell ⟨Q, 1, none⟩ b1).setCell ⟨Q, 2, none⟩ b2).cell? ⟨P, 2, none⟩ = some a2) ∧ (((((((W.setCell ⟨P, 0, none⟩ a0).setCell ⟨P, 1, none⟩ a1).setCell ⟨P, 2, none⟩ a2).setCell ⟨Q, 0, none⟩ b0).setCell ⟨Q, 1, none⟩ b1).setCell ⟨Q, 2, none⟩ b2).cell? ⟨Q, 0, none⟩ = some b0 ∧ ((((((W.setCell ⟨P, 0, none⟩ a0).setCell ⟨P, 1, none⟩ a1).setCell ⟨P, 2, none⟩ a2).setCell ⟨Q, 0, none⟩ b0).setCell ⟨Q, 1, none⟩ b1).setCell ⟨Q, 2, none⟩ b2).cell? ⟨Q, 1, none⟩ = some b1 ∧ ((((((W.setCell ⟨P, 0, none⟩ a0).setCell ⟨P, 1, none⟩ a1).setCell ⟨P, 2, none⟩ a2).setCell ⟨Q, 0, none⟩ b0).setCell ⟨Q, 1, none⟩ b1).setCell ⟨Q, 2, none⟩ b2).cell? ⟨Q, 2, none⟩ = some b2) := by
  have h := set33 hP hQ hne a0 a1 a2 b0 b1 b2
  exact ⟨cells3 h.1, cells3 h.2⟩
theorem ends2 {W : World} {P Q : Nat} {x0 x1 x2 y0 y1 y2 a0 a1 a2 b0 b1 b2 : Value} {t u : TypeId} (hP : W.heap[P]? = some (.cells #[x0, x1, x2] t (0, 0))) (hQ : W.heap[Q]? = some (.cells #[y0, y1, y2] u (0, 0))) (hne : P ≠ Q) :
    (((((((W.setCell ⟨P, 0, none⟩ a0).setCell ⟨P, 1, none⟩ a1).setCell ⟨P, 2, none⟩ a2).setCell ⟨Q, 0, none⟩ b0).setCell ⟨Q, 1, none⟩ b1).setCell ⟨Q, 2, none⟩ b2).cell? ⟨Q, 0, none⟩ = some b0 ∧ ((((((W.setCell ⟨P, 0, none⟩ a0).setCell ⟨P, 1, none⟩ a1).setCell ⟨P, 2, none⟩ a2).setCell ⟨Q, 0, none⟩ b0).setCell ⟨Q, 1, none⟩ b1).setCell ⟨Q, 2, none⟩ b2).cell? ⟨Q, 1, none⟩ = some b1 ∧ ((((((W.setCell ⟨P, 0, none⟩ a0).setCell ⟨P, 1, none⟩ a1).setCell ⟨P, 2, none⟩ a2).setCell ⟨Q, 0, none⟩ b0).setCell ⟨Q, 1, none⟩ b1).setCell ⟨Q, 2, none⟩ b2).cell? ⟨Q, 2, none⟩ = some b2) ∧ (((((((W.setCell ⟨P, 0, none⟩ a0).setCell ⟨P, 1, none⟩ a1).setCell ⟨P, 2, none⟩ a2).setCell ⟨Q, 0, none⟩ b0).setCell ⟨Q, 1, none⟩ b1).setCell ⟨Q, 2, none⟩ b2).cell? ⟨P, 0, none⟩ = some a0 ∧ ((((((W.setCell ⟨P, 0, none⟩ a0).setCell ⟨P, 1, none⟩ a1).setCell ⟨P, 2, none⟩ a2).setCell ⟨Q, 0, none⟩ b0).setCell ⟨Q, 1, none⟩ b1).setCell ⟨Q, 2, none⟩ b2).cell? ⟨P, 1, none⟩ = some a1 ∧ ((((((W.setCell ⟨P, 0, none⟩ a0).setCell ⟨P, 1, none⟩ a1).setCell ⟨P, 2, none⟩ a2).setCell ⟨Q, 0, none⟩ b0).setCell ⟨Q, 1, none⟩ b1).setCell ⟨Q, 2, none⟩ b2).cell? ⟨P, 2, none⟩ = some a2) := by
  have h := set33 hP hQ hne a0 a1 a2 b0 b1 b2
  exact ⟨cells3 h.2, cells3 h.1⟩

theorem blk_set3 {W : World} {P : Nat} {x0 x1 x2 a0 a1 a2 : Value} {t : TypeId} (hP : W.heap[P]? = some (.cells #[x0, x1, x2] t (0, 0))) : (((W.setCell ⟨P, 0, none⟩ a0).setCell ⟨P, 1, none⟩ a1).setCell ⟨P, 2, none⟩ a2).heap[P]? = some (.cells #[a0, a1, a2] t (0, 0)) := by
  have p1 := heap_setCell_same _ P 0 _ _ a0 hP
  have p2 := heap_setCell_same _ P 1 _ _ a1 p1
  exact heap_setCell_same _ P 2 _ _ a2 p2
theorem blk_set_other {W : World} {P B i : Nat} {v : Value} {o : Obj} (hne : B ≠ P) (h : W.heap[B]? = some o) : (W.setCell ⟨P, i, none⟩ v).heap[B]? = some o :=
  (heap_setCell_other W ⟨P, i, none⟩ B v hne).trans h

/-- What together keeps, behind the two appends. -/
theorem TgW.tw {w wr wx W : World} {s : SetV} {x y : Option Nat} (h : TgW w s wr) (hb : Below wr.heap.size wr wx) (hk : TwK wx x y W) (hx : ∀ b, x = some b → w.heap.size + 1 ≤ b) (hy : ∀ b, y = some b → w.heap.size + 1 ≤ b) : TgW w s W := by
  have z1 := h.lt
  have z2 := hb.size
  have z3 := hk.size
  have z4 := h.below.size
  have hb2 : Below (w.heap.size + 1) wx W := hk.below hx hy (by omega)
  refine ⟨(h.below.trans (hb.mono z4)).trans (hb2.mono (by omega)), ?_, by omega⟩
  rw [hb2.block _ (by omega), hb.block _ z1]
  exact h.blk
theorem A.stInfo : (Tryz.prog.info? 62).map (fun i => (i.zero, i.size, i.bytes)) = some (some (.agg #[.int .i64 0, .int .i64 0, .bool false]), 3, 24) := by kernel_rfl
theorem A.mvInfo : (Tryz.prog.info? 95).map (fun i => (i.zero, i.size, i.bytes)) = some (some (.agg #[.int .i64 0, .int .i64 0, .int .i64 0]), 3, 24) := by kernel_rfl
theorem one_st (x : St) : ∀ u ∈ x.cells.toList, u.oneCell' = true := fun u hu => by
  simp at hu
  rcases hu with rfl | rfl | rfl <;> rfl
theorem one_mv (x : Mvd) : ∀ u ∈ x.cells.toList, u.oneCell' = true := fun u hu => by
  simp at hu
  rcases hu with rfl | rfl | rfl <;> rfl
end Go.Proofs.YtgfdindlihfidaaGreat
