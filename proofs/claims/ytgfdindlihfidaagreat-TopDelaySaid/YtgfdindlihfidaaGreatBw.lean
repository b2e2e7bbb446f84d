/-
  slices.Backward over ints: the contract of its iterator, for every loop body that keeps what lay below and its box.
-/
import Derived.Test.YtgfdindlihfidaaGreatZg
import Derived.Test.YtgfdindlihfidaaGreatTr
import Derived.Test.YtgfdindlihfidaaGreatZf
import Derived.RangeFuncNested
import Derived.RangeFuncBound
import Derived.RangeFuncCalls
import Derived.RangeFuncLeaves
import Derived.Shelf.Abstract
import Derived.Shelf.RegionOpen
import Derived.OwnWalkIn
import Derived.TacticsInMore
import Derived.LoopNIn
import Derived.LoopIn
namespace Go.Proofs.YtgfdindlihfidaaGreat
open Go.RowKit Go.Shelf
set_option linter.unusedSimpArgs false
set_option linter.unusedVariables false
attribute [local go_sem] Oper.semAt_some

/-- What m rounds from the last index down have handed over. -/
def seen (n : Nat) : Nat → List (Fin n)
  | 0 => []
  | m + 1 => seen n m ++ (if h : m < n then [⟨n - 1 - m, by omega⟩] else [])
theorem seen_succ {n m : Nat} (h : m < n) : seen n (m + 1) = seen n m ++ [⟨n - 1 - m, by omega⟩] := by rw [seen, dif_pos h]
theorem seen_length {n : Nat} : ∀ {m : Nat}, m ≤ n → (seen n m).length = m
  | 0, _ => rfl
  | m + 1, h => by rw [seen_succ (by omega), List.length_append, seen_length (by omega)]; rfl
theorem seen_snoc {n m : Nat} {pre : List (Fin n)} {x : Fin n} (hm : m ≤ n) (h : pre ++ [x] = seen n m) : ∃ k, k < n ∧ m = k + 1 ∧ pre = seen n k ∧ x.val = n - 1 - k := by
  cases m with
  | zero => simp [seen] at h
  | succ k =>
    rw [seen_succ (by omega)] at h
    obtain ⟨h1, h2⟩ := List.append_inj' h rfl
    refine ⟨k, by omega, rfl, h1, ?_⟩
    simp at h2
    rw [h2]

/-- What a round that goes on keeps: whatever lay below, and the box B. -/
structure BxK (n₀ B : Nat) (W W' : World) : Prop where
  below : Below n₀ W W'
  blk : W'.heap[B]? = W.heap[B]?
theorem BxK.refl (n₀ B : Nat) (W : World) : BxK n₀ B W W := ⟨Below.refl _ _, rfl⟩
theorem BxK.trans {n₀ B : Nat} {X Y Z : World} (h : BxK n₀ B X Y) (k : BxK n₀ B Y Z) : BxK n₀ B X Z := ⟨h.below.trans k.below, k.blk.trans h.blk⟩
theorem BxK.putObj {n₀ B : Nat} {w : World} (hn : n₀ ≤ w.heap.size) (hB : B < w.heap.size) (W : World) (l : Nat) (o o' : Obj) (hl : w.heap.size ≤ l) (h : W.heap[l]? = some o) (h1 : o.isCells = false) (h2 : o.isWalk = false) : BxK n₀ B W (W.putObj l o') :=
  ⟨belowK_b hn W l o o' hl h h1 h2, World.putObj_heap_other (by omega)⟩
theorem BxK.set {n₀ B : Nat} {X W : World} {P i : Nat} {v : Value} (h : BxK n₀ B X W) (hn : n₀ ≤ P) (h1 : B ≠ P) : BxK n₀ B X (W.setCell ⟨P, i, none⟩ v) :=
  ⟨h.below.setCell hn v, (Below.heap_setCell W _ v _ h1).trans h.blk⟩

/-- What the iterator reads: the box, and the ints that lay when the call began. -/
structure BwW (w0 : World) (A : Option Addr) (vals : List Int) (C B : Nat) (W : World) : Prop where
  below : Below w0.heap.size w0 W
  blk : W.heap[B]? = some (.cells #[.slice A vals.length C] 33 (0, 0))
theorem BwW.call {w0 W W' : World} {A : Option Addr} {vals : List Int} {C B : Nat} (h : BwW w0 A vals C B W) (hb : Below W.heap.size W W') : BwW w0 A vals C B W' :=
  ⟨h.below.trans (hb.mono h.below.size), blk_below hb h.blk⟩
theorem BwW.kept {w0 W W' : World} {A : Option Addr} {vals : List Int} {C B n₀ : Nat} (h : BwW w0 A vals C B W) (hn : w0.heap.size ≤ n₀) (hb : BxK n₀ B W W') : BwW w0 A vals C B W' :=
  ⟨h.below.trans (hb.below.mono hn), hb.blk.trans h.blk⟩

theorem backward_make (A : Option Addr) (n C : Nat) (w : World) :
    Calls Tryz.prog 44 #[.slice A n C] w fun e w' => e = .returned (.func (.func 76) #[] #[.pointer (some ⟨w.heap.size, 0, none⟩)]) ∧
      w' = w.alloc (.cells #[.slice A n C] 33) := by
  go_enter Tryz.func44, Tryz.ntmps44
  go_wp2
  go_ret
  exact ⟨rfl, rfl⟩

/-- What the iterator hands over at an index. -/
abbrev bwEnc (vals : List Int) (x : Fin vals.length) : Array Value := #[.int .i64 (x.val : Int), .int .i64 vals[x]]

set_option maxRecDepth 100000 in
set_option maxHeartbeats 4000000 in
theorem backward_in (A : Option Addr) (C : Nat) (vals : List Int) (n l n₀ B : Nat) (hn : 1 ≤ n) (w0 : World) (hn0 : w0.heap.size ≤ n₀) (hri : IntsAt w0 A vals)
    (J Jx : List (Fin vals.length) → World → Prop) (W : World) (hJ : AbidesFrom W.heap.size J)
    (hY : ∀ pre x W1, J pre W1 → pre.length < vals.length → YieldAt Fence.wide (n - 1) Tryz.prog l (bwEnc vals x) W1 fun e W' =>
      (e = .returned (.bool true) ∧ J (pre ++ [x]) W' ∧ BxK n₀ B W1 W') ∨ (e = .returned (.bool false) ∧ Jx (pre ++ [x]) W'))
    (hW : BwW w0 A vals C B W) (h0 : J [] W) :
    CallsIn Fence.wide n Tryz.prog 76 #[.func (.yield l) #[] #[], .pointer (some ⟨B, 0, none⟩)] W fun e W' => (∃ v, e = .returned v) ∧
      ((∃ ys, ys = seen vals.length vals.length ∧ J ys W') ∨ (∃ pre, (∃ m, m ≤ vals.length ∧ pre = seen vals.length m) ∧ Jx pre W')) := by
  have hm := hri.1
  unfold maxLen at hm
  have HY := Lib.hid hY
  have Hri := Lib.hid hri
  have HW := Lib.hid hW
  have HJ0 := Lib.hid h0
  have c0 : W.cell? ⟨B, 0, none⟩ = some (.slice A vals.length C) := (cell_of_row _ _ 0 _ _ _ hW.blk).trans rfl
  clear hJ hY hri hW h0
  refine callsIn_of_wp Tryz.func76 rfl trivial ?_ rfl
  simp only [Tryz.ntmps76, List.size_toArray, List.length_cons, List.length_nil, Nat.reduceAdd, Nat.reduceSub, Array.replicate_succ, Array.replicate_zero, List.push_toArray, List.append_toArray, List.nil_append, List.cons_append]
  gi_wp2
  clear c0
  gi_loopw [3] (fun p wr => ∃ m : Nat, m ≤ vals.length ∧ p = .int .i64 ((vals.length : Int) - m - 1) ∧ J (seen vals.length m) wr ∧ BwW w0 A vals C B wr) (fun p _ => (intOf p + 1).toNat)
  case atStart => exact ⟨0, Nat.zero_le _, by go_num, HJ0.out, HW.out⟩
  case round =>
    obtain ⟨m, hm', rfl, hj, hw⟩ := hrel
    have Hj := Lib.hid hj
    have Hw := Lib.hid hw
    have c0 : wr.cell? ⟨B, 0, none⟩ = some (.slice A vals.length C) := (cell_of_row _ _ 0 _ _ _ hw.blk).trans rfl
    clear hj hw
    by_cases hlt : m < vals.length
    · have hj2 : (seen vals.length m).length < vals.length := by rw [seen_length hm']; exact hlt
      obtain ⟨x, hx⟩ : ∃ x : Fin vals.length, x = ⟨vals.length - 1 - m, by omega⟩ := ⟨_, rfl⟩
      have HN := Lib.hid (show seen vals.length (m + 1) = seen vals.length m ++ [x] by rw [seen_succ hlt, hx])
      have hY1 := HY.out _ x wr Hj.out hj2
      obtain ⟨fn, tmps, assign, body, hy, hR⟩ := hY1
      have HR := Lib.hid hR
      obtain ⟨rb, ro, hra, hrb, hrc⟩ : ∃ b off, A = some ⟨b, off, none⟩ ∧ b < w0.heap.size ∧ _ := by
        rcases Hri.out.2 with h | h
        · exact absurd hlt (by rw [h]; simp)
        · exact h
      have hxv : (x.val : Int) = (vals.length : Int) - m - 1 := by rw [hx]; simp only; omega
      have hxl := x.isLt
      have hrm := hrc x.val hxl
      rw [List.getElem?_eq_getElem hxl, Option.getD_some] at hrm
      have zr := (Hw.out.below.cell (p := ⟨rb, ro + x.val, none⟩) hrb).trans hrm
      have hbs : rb < wr.heap.size := Nat.lt_of_lt_of_le hrb Hw.out.below.size
      rw [hra] at c0
      rw [← hxv]
      have i1 : ((x.val : Nat) : Int) < (vals.length : Int) := by omega
      have i2 : (0 : Int) ≤ ((x.val : Nat) : Int) := by omega
      have Hxv := Lib.hid hxv
      simp only [bwEnc, Fin.getElem_fin] at hy
      clear hR hj2 hrc hrm hx hra hxv
      gi_wp2
      refine HR.out.mono ?_
      rintro e W3 (⟨rfl, hJ3, hk3⟩ | ⟨rfl, hJx3⟩)
      · have HJ3 := Lib.hid hJ3
        have Hk3 := Lib.hid hk3
        clear hJ3 hk3
        gi_wp2
        go_roundw
        case rel => exact ⟨m + 1, by omega, by have := Hxv.out; go_num, by rw [HN.out]; exact HJ3.out, Hw.out.kept hn0 Hk3.out⟩
        case measure => simp [intOf]; try omega
      · have HJx := Lib.hid hJx3
        clear hJx3
        gi_wp2
        refine bodyPost_ret (results_none rfl _ _ _) rfl ?_
        exact ⟨⟨_, rfl⟩, .inr ⟨_, ⟨m + 1, by omega, HN.out.symm⟩, HJx.out⟩⟩
    · obtain rfl : m = vals.length := by omega
      gi_wp2
      go_end0
      exact ⟨⟨_, rfl⟩, .inl ⟨_, rfl, Hj.out⟩⟩

theorem backward_stops (A : Option Addr) (C : Nat) (vals : List Int) (n B : Nat) (hn : 1 ≤ n) (w0 w : World) (hri : IntsAt w0 A vals) (hW : BwW w0 A vals C B w) (n₀ : Nat) (hn0 : w0.heap.size ≤ n₀) :
    SeqStopsK Fence.wide n Tryz.prog 76 #[.pointer (some ⟨B, 0, none⟩)] (bwEnc vals) (BxK n₀ B) (fun ys => ys = seen vals.length vals.length) (fun pre => ∃ m, m ≤ vals.length ∧ pre = seen vals.length m) vals.length w := fun l J Jx W hb hJ _ hY h0 =>
  backward_in A C vals n l n₀ B hn w0 hn0 hri J Jx W hJ hY (hW.call hb) h0
end Go.Proofs.YtgfdindlihfidaaGreat
