/-
  Boxes: blocks of one's own behind the heap of the call's start, and what becomes of them.
-/
import Derived.Test.YtgfdindlihfidaaGreatRo
namespace Go.Proofs.YtgfdindlihfidaaGreat
open Go.RowKit
set_option linter.unusedVariables false

/-- The blocks from w's heap on hold what is listed; below, the world is as it was. -/
structure Bk (w : World) (L : List Obj) (W : World) : Prop where
  below : Below w.heap.size w W
  blk : ∀ i o, L[i]? = some o → W.heap[w.heap.size + i]? = some o

theorem Bk.nil (w : World) : Bk w [] w := ⟨Below.refl _ _, fun i o h => by simp at h⟩
theorem Bk.push {w W : World} {L : List Obj} (h : Bk w L W) (hz : W.heap.size = w.heap.size + L.length) (o : Obj) : Bk w (L ++ [o]) (W.alloc o) := by
  refine ⟨h.below.alloc h.below.size o, fun i x hx => ?_⟩
  by_cases e : i < L.length
  · rw [List.getElem?_append_left e] at hx
    rw [Below.heap_alloc _ _ _ (by omega)]
    exact h.blk i x hx
  · rw [List.getElem?_append_right (by omega)] at hx
    have e2 : i - L.length = 0 := by
      by_cases e3 : i - L.length = 0
      · exact e3
      · rw [List.getElem?_eq_none (by simp; omega)] at hx; cases hx
    rw [e2] at hx
    simp only [List.getElem?_cons_zero, Option.some.injEq] at hx
    rw [← hx, show w.heap.size + i = W.heap.size by omega]
    exact heap_alloc_new W o
theorem Bk.new1 (w : World) (a : Obj) : Bk w [a] (w.alloc a) := (Bk.nil w).push rfl a
theorem Bk.new2 (w : World) (a b : Obj) : Bk w [a, b] ((w.alloc a).alloc b) := (Bk.new1 w a).push (by simp) b
theorem Bk.new3 (w : World) (a b c : Obj) : Bk w [a, b, c] (((w.alloc a).alloc b).alloc c) := (Bk.new2 w a b).push (by simp) c
theorem Bk.new4 (w : World) (a b c d : Obj) : Bk w [a, b, c, d] ((((w.alloc a).alloc b).alloc c).alloc d) := (Bk.new3 w a b c).push (by simp) d
theorem Bk.new5 (w : World) (a b c d e : Obj) : Bk w [a, b, c, d, e] (((((w.alloc a).alloc b).alloc c).alloc d).alloc e) := (Bk.new4 w a b c d).push (by simp) e
theorem Bk.lt {w W : World} {L : List Obj} (h : Bk w L W) (i : Nat) {o : Obj} (hi : L[i]? = some o) : w.heap.size + i < W.heap.size := (Array.getElem?_eq_some_iff.1 (h.blk i o hi)).1
theorem Bk.call {w W W' : World} {L : List Obj} (h : Bk w L W) (hb : Below W.heap.size W W') : Bk w L W' :=
  ⟨h.below.trans (hb.mono h.below.size), fun i o hi => (hb.block _ (h.lt i hi)).trans (h.blk i o hi)⟩
theorem Bk.alloc {w W : World} {L : List Obj} (h : Bk w L W) (o : Obj) : Bk w L (W.alloc o) := h.call ((Below.refl _ _).alloc (Nat.le_refl _) o)
theorem Bk.drew {w W : World} {L : List Obj} (h : Bk w L W) : Bk w L W.drew := h.call (Below.refl _ _).drew
theorem Bk.drewN {w W : World} {L : List Obj} (h : Bk w L W) (n : Nat) : Bk w L (W.drewN n) := h.call (below_drewN (Below.refl _ _) n)
theorem Bk.cell {w W : World} {L : List Obj} (h : Bk w L W) (i k : Nat) {cs : Array Value} {t : TypeId} {f : Nat × Nat} {v : Value} (hi : L[i]? = some (.cells cs t f)) (hv : cs[k]? = some v) : W.cell? ⟨w.heap.size + i, k, none⟩ = some v :=
  (cell_of_row W _ k _ _ _ (h.blk i _ hi)).trans hv
theorem Bk.froz {w W : World} {L : List Obj} (h : Bk w L W) (i k : Nat) {cs : Array Value} {t : TypeId} (hi : L[i]? = some (.cells cs t (0, 0))) : W.frozen? ⟨w.heap.size + i, k, none⟩ = false :=
  frozen_of_row W _ k _ _ (h.blk i _ hi)
theorem Bk.gate {w W : World} {L : List Obj} (h : Bk w L W) (i : Nat) {g : GateV} (hi : L[i]? = some (.cells g.cells 60 (0, 0))) : GateIn W (w.heap.size + i) g := ⟨h.lt i hi, h.blk i _ hi⟩
theorem Bk.set {w W : World} {L : List Obj} (h : Bk w L W) (i k : Nat) (v : Value) {cs : Array Value} {t : TypeId} (hi : L[i]? = some (.cells cs t (0, 0))) : Bk w (L.set i (.cells (cs.setIfInBounds k v) t (0, 0))) (W.setCell ⟨w.heap.size + i, k, none⟩ v) := by
  refine ⟨h.below.setCell (by show w.heap.size ≤ w.heap.size + i; omega) v, fun j o hj => ?_⟩
  by_cases e : j = i
  · subst e
    have hl : j < L.length := (List.getElem?_eq_some_iff.1 hi).1
    rw [List.getElem?_set_self hl, Option.some.injEq] at hj
    rw [← hj]
    exact heap_setCell_same W _ k _ _ v (h.blk j _ hi)
  · rw [List.getElem?_set_ne (fun x => e x.symm)] at hj
    exact (heap_setCell_other W ⟨w.heap.size + i, k, none⟩ (w.heap.size + j) v (by show w.heap.size + j ≠ w.heap.size + i; omega)).trans (h.blk j o hj)
theorem Bk.grown {w W W' : World} {L : List Obj} {row : Option Nat} (h : Bk w L W) (hg : W.grownBy W' row) (hr : ∀ b, row = some b → w.heap.size + L.length ≤ b) : Bk w L W' := by
  refine ⟨h.below.grown hg h.below.size (fun b hb => by have := hr b hb; omega), fun i o hi => blk_grown hg (fun e => ?_) (h.blk i o hi)⟩
  have := hr _ e.symm
  have := (List.getElem?_eq_some_iff.1 hi).1
  omega
end Go.Proofs.YtgfdindlihfidaaGreat
