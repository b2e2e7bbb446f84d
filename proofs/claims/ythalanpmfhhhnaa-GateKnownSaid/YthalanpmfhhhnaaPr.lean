/-
  The contract of Pair: the set of the examples.
-/
import Derived.Test.YthalanpmfhhhnaaEv
import Derived.Test.YthalanpmfhhhnaaTh
namespace Go.Proofs.Ythalanpmfhhhnaa
open Go.RowKit
set_option linter.unusedSimpArgs false
set_option linter.unusedVariables false

theorem TwK.call {wx W W' : World} {x y : Option Nat} (h : TwK wx x y W) (hb : Below W.heap.size W W') : TwK wx x y W' :=
  ⟨hb.os.trans h.os, hb.tape.trans h.tape, hb.output.trans h.output, Nat.le_trans h.size hb.size, fun i hi h1 h2 => (hb.block i (Nat.lt_of_lt_of_le hi h.size)).trans (h.block i hi h1 h2)⟩
theorem TwK.set {wx W : World} {b o : Nat} {y : Option Nat} (h : TwK wx (some b) y W) (v : Value) : TwK wx (some b) y (W.setCell ⟨b, o, none⟩ v) :=
  ⟨h.os, h.tape, h.output, by simpa [World.setCell] using h.size, fun i hi h1 h2 => (heap_setCell_other W ⟨b, o, none⟩ i v (fun e => h1 (by rw [e]))).trans (h.block i hi h1 h2)⟩

theorem ex_any2 (w : World) : Calls Try.prog 48 #[] w fun e w' => ∃ (g : GateV) (A B : Nat), (g = exG east (some ⟨A, 0, none⟩) (some ⟨B, 0, none⟩) ∧ w.heap.size ≤ A ∧ w.heap.size ≤ B) ∧ e = .returned g.val ∧ g.Ok w' ∧ Below w.heap.size w w' := by
  refine (ex_any w).mono ?_
  rintro e w' ⟨rfl, h⟩
  exact ⟨_, _, _, ⟨rfl, by omega, by omega⟩, rfl, h.ok (by decide), h.below⟩

theorem exOk_move {V W : World} {nm : ByteArray} {A B : Nat} (h : (exG nm (some ⟨A, 0, none⟩) (some ⟨B, 0, none⟩)).Ok V) (k : ∀ i, i = A ∨ i = B → i < V.heap.size → W.heap[i]? = V.heap[i]?) (hz : V.heap.size ≤ W.heap.size) : (exG nm (some ⟨A, 0, none⟩) (some ⟨B, 0, none⟩)).Ok W := by
  obtain ⟨⟨m1, h1⟩, ⟨m2, h2⟩, h3⟩ := h
  refine ⟨⟨m1, .inr ?_⟩, ⟨m2, .inr ?_⟩, h3⟩
  · rcases h1 with h1 | ⟨b, off, e, hb, hc⟩
    · simp [exG] at h1
    · simp [exG] at e
      obtain ⟨rfl, rfl⟩ := e
      exact ⟨A, 0, rfl, by omega, fun j hj => (World.cell?_of_block (k A (.inl rfl) hb)).trans (hc j hj)⟩
  · rcases h2 with h2 | ⟨b, off, e, hb, hc⟩
    · simp [exG] at h2
    · simp [exG] at e
      obtain ⟨rfl, rfl⟩ := e
      refine ⟨B, 0, rfl, by omega, fun j hj => ?_⟩
      obtain ⟨c0, c1, c2⟩ := hc j hj
      exact ⟨(World.cell?_of_block (k B (.inr rfl) hb)).trans c0, (World.cell?_of_block (k B (.inr rfl) hb)).trans c1, (World.cell?_of_block (k B (.inr rfl) hb)).trans c2⟩

theorem ok_tw {V W : World} {b : Nat} {nm : ByteArray} {p q : Nat} (T : TwK V (some b) none W) (h : (exG nm (some ⟨p, 0, none⟩) (some ⟨q, 0, none⟩)).Ok V) (hp : p ≠ b) (hq : q ≠ b) : (exG nm (some ⟨p, 0, none⟩) (some ⟨q, 0, none⟩)).Ok W :=
  exOk_move h (fun i hi hl => T.block i hl (by simp; omega) (by simp)) T.size
theorem ok_tw2 {V W : World} {b : Nat} {nm : ByteArray} {p q : Nat} {g : GateV} (hg : g = exG nm (some ⟨p, 0, none⟩) (some ⟨q, 0, none⟩)) (T : TwK V (some b) none W) (h : g.Ok V) (hp : p ≠ b) (hq : q ≠ b) : g.Ok W := by
  subst hg
  exact ok_tw T h hp hq
theorem blk_set2 {W : World} {P : Nat} {x0 x1 a0 a1 : Value} {t : TypeId} (hP : W.heap[P]? = some (.cells #[x0, x1] t (0, 0))) : ((W.setCell ⟨P, 0, none⟩ a0).setCell ⟨P, 1, none⟩ a1).heap[P]? = some (.cells #[a0, a1] t (0, 0)) := by
  have p1 := heap_setCell_same _ P 0 _ _ a0 hP
  exact heap_setCell_same _ P 1 _ _ a1 p1

/-- The end of Pair. -/
theorem pair_fin {w W : World} {a : Act} {g1 g2 : GateV} {p q r s PA PR : Nat} {cs : Array Value} (h0 : a.tmps.getD 0 undef = .pointer (some ⟨w.heap.size, 0, none⟩)) (hd : a.defers = [])
    (hS : W.heap[w.heap.size]? = some (.cells #[.slice (some ⟨PA, 0, none⟩) 2 2, .slice (some ⟨PR, 0, none⟩) 1 1] 25 (0, 0)))
    (hG : W.heap[PA]? = some (.cells cs 33 (0, 0))) (hcs : cs.toList = g1.cells.toList ++ g2.cells.toList)
    (hR : W.heap[PR]? = some (.cells #[.int .i64 1, .int .i64 0, .int .i64 1000, .int .i64 1000] 72 (0, 0)))
    (hg1 : g1 = exG east (some ⟨p, 0, none⟩) (some ⟨q, 0, none⟩)) (hg2 : g2 = exG west (some ⟨r, 0, none⟩) (some ⟨s, 0, none⟩)) (o1 : g1.Ok W) (o2 : g2.Ok W) (hb : Below w.heap.size w W) :
    bodyPost Try.prog Try.f49 (fun e w' => ∃ oA sA oB sB gA rA, e = .returned (pairS oA sA oB sB gA rA).val ∧ (pairS oA sA oB sB gA rA).Ok w' ∧ Below w.heap.size w w') .ret a W := by
  have hr : W.rangeAt PA 0 (g1.cells.toList ++ g2.cells.toList) := fun j v hv => by
    rw [cell_of_row W PA (0 + j) _ _ _ hG, Nat.zero_add, ← hv, ← hcs]
    simp
  have hr1 : W.rangeAt PA 0 g1.cells.toList := fun j v hv => hr j v (by rw [List.getElem?_append_left (List.getElem?_eq_some_iff.1 hv).1]; exact hv)
  have hr2 : W.rangeAt PA 21 g2.cells.toList := fun j v hv => by
    have h := hr (21 + j) v (by rw [List.getElem?_append_right (by simp), show 21 + j - g1.cells.toList.length = j from by simp]; exact hv)
    rwa [Nat.zero_add] at h
  clear hr hcs
  subst hg1 hg2
  refine bodyPost_ret (v := (pairS (some ⟨p, 0, none⟩) (some ⟨q, 0, none⟩) (some ⟨r, 0, none⟩) (some ⟨s, 0, none⟩) (some ⟨PA, 0, none⟩) (some ⟨PR, 0, none⟩)).val) (res_block (ty := 25) rfl h0 hS Try.underlying25 rfl A.setSize) hd
    ⟨some ⟨p, 0, none⟩, some ⟨q, 0, none⟩, some ⟨r, 0, none⟩, some ⟨s, 0, none⟩, some ⟨PA, 0, none⟩, some ⟨PR, 0, none⟩, rfl, ⟨⟨by simp [pairS, maxLen], fun g hg => ?_, .inr ⟨PA, 0, rfl, (Array.getElem?_eq_some_iff.1 hG).1, fun k hk => ?_⟩⟩, ⟨by simp [pairS, maxLen], .inr ⟨PR, 0, rfl, (Array.getElem?_eq_some_iff.1 hR).1, fun k hk => ?_⟩⟩⟩, hb⟩
  · simp [pairS] at hg
    rcases hg with rfl | rfl
    · exact o1
    · exact o2
  · match k, hk with
    | 0, _ => exact hr1
    | 1, _ => exact hr2
  · match k, hk with
    | 0, _ => exact ⟨(cell_of_row _ _ 0 _ _ _ hR).trans rfl, (cell_of_row _ _ 1 _ _ _ hR).trans rfl, (cell_of_row _ _ 2 _ _ _ hR).trans rfl, (cell_of_row _ _ 3 _ _ _ hR).trans rfl⟩

attribute [local go_sem ↓] loadAt_gate
attribute [local go_sem] run_gateLoad

set_option maxRecDepth 100000 in
set_option maxHeartbeats 4000000 in
theorem pair_any (w : World) :
    Calls Try.prog 49 #[] w fun e w' => ∃ oA sA oB sB gA rA, e = .returned (pairS oA sA oB sB gA rA).val ∧ (pairS oA sA oB sB gA rA).Ok w' ∧ Below w.heap.size w w' := by
  go_enter Try.func49, Try.ntmps49
  go_upto_region 3 with (first
    | (go_at_call 48; refine (ex_any _).mono ?_; rintro e w1 ⟨rfl, hE⟩; have HE := Lib.hid hE; have hz := hE.below.size; (try simp only [World.size_alloc] at hz); clear hE)
    | (with_reducible show wpList _ _ _ (({ dst := _, op := .store 33 (.tmp 1) (.tmp 2), type := _, pos := _, after := _, guard := none } : Oper) :: _) _ _; refine wpList_store_gate_new rfl (.tmp 1) (.tmp 2) rfl rfl rfl rfl ?_))
  have lE := HE.out.below.size
  obtain ⟨g2, hg2⟩ : ∃ g2, g2 = exG west (some ⟨w.heap.size + 1 + 1, 0, none⟩) (some ⟨w.heap.size + 1 + 1 + 1, 0, none⟩) := ⟨_, rfl⟩
  obtain ⟨W2, hW2⟩ : ∃ W2, W2 = w1.alloc (.cells g2.cells 33) := ⟨_, rfl⟩
  have hB0 : W2.heap[w.heap.size]? = some (.cells #[.slice none 0 0, .slice none 0 0] 25 (0, 0)) := by
    rw [hW2]; exact blk_old (blk_below HE.out.below (blk_new rfl))
  have hB2 : W2.heap[w1.heap.size]? = some (.cells g2.cells 33 (0, 0)) := by rw [hW2]; exact blk_new rfl
  have hOk2 : g2.Ok W2 := by
    rw [hW2, hg2]
    have h := HE.out.ok (nm2 := west) (by decide)
    rw [World.size_alloc] at h
    exact h.below ((Below.refl _ _).alloc (Nat.le_refl _) _) (Nat.le_refl _)
  have hBe : Below w.heap.size w W2 := by
    rw [hW2]
    exact (((Below.refl _ _).alloc (Nat.le_refl _) _).trans (HE.out.below.mono (by simp))).alloc (by omega) _
  have hz2 : W2.heap.size = w1.heap.size + 1 := by rw [hW2]; simp
  have T0 := TwK.new W2 (some w.heap.size) none
  have hgi : ∀ W, TwK W2 (some w.heap.size) none W → GateIn W w1.heap.size g2 := fun W h =>
    ⟨by have := h.size; omega, (h.block _ (by omega) (by simp; omega) (by simp)).trans hB2⟩
  have hg0 : ∀ W, TwK W2 (some w.heap.size) none W → IsGate W w1.heap.size := fun W h => ⟨g2, hgi W h⟩
  have hg1 : ∀ W, TwK W2 (some w.heap.size) none W → rowOf W w1.heap.size = g2.val := fun W h => rowOf_gate (hgi W h)
  have zl : w.heap.size < W2.heap.size := by omega
  show Code.wp Try.prog _ _ (Act.mk #[_, _, (exG east (some ⟨w.heap.size + 1 + 1, 0, none⟩) (some ⟨w.heap.size + 1 + 1 + 1, 0, none⟩)).val, _, _, _, _, _, _, _] _) (w1.alloc (.cells (exG west (some ⟨w.heap.size + 1 + 1, 0, none⟩) (some ⟨w.heap.size + 1 + 1 + 1, 0, none⟩)).cells 33))
  rw [← hg2, ← hW2]
  generalize (exG east (some ⟨w.heap.size + 1 + 1, 0, none⟩) (some ⟨w.heap.size + 1 + 1 + 1, 0, none⟩)).val = gv
  have Hg2 := Lib.hid hg2
  have HB0 := Lib.hid hB0
  have HOk2 := Lib.hid hOk2
  have HBe := Lib.hid hBe
  have Hz2 := Lib.hid hz2
  clear hg2 hW2 hOk2 hBe hB2 hgi hz2
  go_region_held3 (fun W => TwK W2 (some w.heap.size) none W)
    (first | ((repeat (first | (with_reducible exact T0) | (with_reducible assumption) | (with_reducible refine TwK.drew ?_) | (with_reducible refine TwK.alloc ?_ _) | (with_reducible refine TwK.set ?_ _))); done))
    (first
      | (go_at_call 48; refine (ex_any2 _).mono ?_; rintro e w' ⟨g1, gA, gB, hg1e, rfl, hOk1, hE2⟩; have tA := TwK.call (wx := W2) (x := some w.heap.size) (y := none) (by (repeat (first | (with_reducible exact T0) | (with_reducible assumption) | (with_reducible refine TwK.drew ?_) | (with_reducible refine TwK.alloc ?_ _) | (with_reducible refine TwK.set ?_ _)))) hE2; have sA := tA.size; have b0 : w'.heap[w.heap.size]? = some (Obj.cells #[.slice none 0 0, .slice none 0 0] 25 (0, 0)) := blk_below hE2 (by (repeat (first | (with_reducible exact hB0) | (with_reducible refine blk_drew ?_) | (with_reducible refine blk_old ?_)))); have q0 := (cell_of_row _ _ 0 _ _ _ b0).trans rfl; have q1 := (cell_of_row _ _ 1 _ _ _ b0).trans rfl; have f0 := frozen_of_row _ _ 0 _ _ b0; have f1 := frozen_of_row _ _ 1 _ _ b0; have Hg1 := Lib.hid hg1e; have HOk1 := Lib.hid hOk1; have HE2 := Lib.hid hE2; have lq := (Nat.lt_of_lt_of_le zl sA); have HBB := Lib.hid b0; clear hg1e hOk1 hE2 b0))
  all_goals
    obtain ⟨hg1e, lA, lB⟩ := Hg1.out
    rename_i hH
    have HH := Lib.hid hH
    clear hH hg0 hg1
    go_wp2_with fail
    (try simp only [World.size_alloc, drew_size] at lA lB)
    apply pair_fin (g1 := g1) (g2 := g2) (hg1 := hg1e) (hg2 := Hg2.out)
    case h0 => rfl
    case hd => rfl
    case hS => (repeat (first | (with_reducible exact HBB.out) | ((with_reducible refine blk_new ?_); simp; done) | ((with_reducible refine blk_new ?_); simp [World.setCell]; done) | (with_reducible refine blk_drew ?_) | (with_reducible refine blk_old ?_) | (with_reducible apply blk_set2) | (with_reducible refine blk_set_other (by first | omega | (simp; omega)) ?_) | (with_reducible refine blk_below HE2.out ?_)))
    case hG => (repeat (first | (with_reducible exact HBB.out) | ((with_reducible refine blk_new ?_); simp; done) | ((with_reducible refine blk_new ?_); simp [World.setCell]; done) | (with_reducible refine blk_drew ?_) | (with_reducible refine blk_old ?_) | (with_reducible apply blk_set2) | (with_reducible refine blk_set_other (by first | omega | (simp; omega)) ?_) | (with_reducible refine blk_below HE2.out ?_)))
    case hcs => rfl
    case hR => (repeat (first | (with_reducible exact HBB.out) | ((with_reducible refine blk_new ?_); simp; done) | ((with_reducible refine blk_new ?_); simp [World.setCell]; done) | (with_reducible refine blk_drew ?_) | (with_reducible refine blk_old ?_) | (with_reducible apply blk_set2) | (with_reducible refine blk_set_other (by first | omega | (simp; omega)) ?_) | (with_reducible refine blk_below HE2.out ?_)))
    case o1 => exact ok_tw2 (V := w') (b := w.heap.size) hg1e (by (repeat (first | (with_reducible exact TwK.new _ _ _) | (with_reducible refine TwK.drew ?_) | (with_reducible refine TwK.alloc ?_ _) | (with_reducible refine TwK.set ?_ _)))) HOk1.out (by omega) (by omega)
    case o2 => exact ok_tw2 Hg2.out HH.out HOk2.out (by omega) (by omega)
    case hb => exact HBe.out.trans (HH.out.below (fun b e => by cases e; exact Nat.le_refl _) (fun b e => by cases e) (by omega))
end Go.Proofs.Ythalanpmfhhhnaa
