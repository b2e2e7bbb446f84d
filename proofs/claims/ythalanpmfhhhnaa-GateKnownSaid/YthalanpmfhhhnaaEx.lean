/-
  The contract of Example: the gate of the document's examples.
-/
import Derived.Test.YthalanpmfhhhnaaCl
import Derived.Deep.MidRow
import Derived.Laws.Tables
import Derived.Great.BuildSlice
namespace Go.Proofs.Ythalanpmfhhhnaa
open Go.RowKit
set_option linter.unusedSimpArgs false
set_option linter.unusedVariables false

/-- The gate of the examples, under a name; where its lists lie. -/
def exG (nm : ByteArray) (oA sA : Option Addr) : GateV :=
  ⟨nm, 2, 1000, oA, 2, [600, 400], 8000, -2000, 9000, 40, 0, 5, 20, 900, 700, 25, 40, 100, 30, 200, 10, sA, 3, [⟨1, 0, 10⟩, ⟨1, 0, 10⟩, ⟨2, 995, 5⟩], 1⟩
def east : ByteArray := ⟨#[101, 97, 115, 116]⟩
def west : ByteArray := ⟨#[119, 101, 115, 116]⟩
theorem A.gateSz : (Try.prog.info? 33).map (·.size) = some 21 := by kernel_rfl

/-- A struct that lies in a block of its own is what a result's cell reads. -/
theorem res_block {fn : Func} {tmps : Array Value} {W : World} {B : Nat} {ty : TypeId} {cs : Array Value} {d : TypeDesc} (hf : fn.results = #[.cell 0 ty]) (h0 : tmps.getD 0 undef = .pointer (some ⟨B, 0, none⟩)) (hg : W.heap[B]? = some (.cells cs ty (0, 0)))
    (hu : Try.prog.underlying ty = some d) (hd : d.isRow = true) (hi : (Try.prog.info? ty).map (·.size) = some cs.size) :
    (results fn tmps).run Try.prog W = .ok (.agg cs) W := by
  have hr : W.rangeAt B 0 cs.toList := fun j v hv => by
    rw [cell_of_row W B (0 + j) _ _ _ hg, Nat.zero_add]
    simpa using hv
  have h1 := run_loadVar_mid (P := Try.prog) W B 0 ty cs.toList d hr hu hd (by simpa using hi)
  have h2 : tmps[0]?.getD undef = .pointer (some ⟨B, 0, none⟩) := by simpa using h0
  unfold results
  rw [hf]
  simp [h2, asAddr, Sem.run_bind, h1]

/-- The world behind Example. -/
structure ExW (w W : World) (nm : ByteArray) : Prop where
  below : Below w.heap.size w W
  blk : W.heap[w.heap.size]? = some (.cells (exG nm (some ⟨w.heap.size + 1, 0, none⟩) (some ⟨w.heap.size + 1 + 1, 0, none⟩)).cells 33 (0, 0))
  own : W.heap[w.heap.size + 1]? = some (.cells #[.int .i64 600, .int .i64 400] 3 (0, 0))
  sens : W.heap[w.heap.size + 1 + 1]? = some (.cells #[.int .i64 1, .int .i64 0, .int .i64 10, .int .i64 1, .int .i64 0, .int .i64 10, .int .i64 2, .int .i64 995, .int .i64 5] 103 (0, 0))

theorem exW_new (w : World) (z : Array Value) : ExW w ((((w.alloc (.cells z 33)).alloc (.cells #[.int .i64 600, .int .i64 400] 3)).alloc (.cells #[.int .i64 1, .int .i64 0, .int .i64 10, .int .i64 1, .int .i64 0, .int .i64 10, .int .i64 2, .int .i64 995, .int .i64 5] 103)).setRow w.heap.size (exG east (some ⟨w.heap.size + 1, 0, none⟩) (some ⟨w.heap.size + 1 + 1, 0, none⟩)).cells) east := by
  have h0 : (((w.alloc (.cells z 33)).alloc (.cells #[.int .i64 600, .int .i64 400] 3)).alloc (.cells #[.int .i64 1, .int .i64 0, .int .i64 10, .int .i64 1, .int .i64 0, .int .i64 10, .int .i64 2, .int .i64 995, .int .i64 5] 103)).heap[w.heap.size]? = some (.cells z 33 (0, 0)) :=
    (Below.heap_alloc _ _ _ (by simp; omega)).trans ((Below.heap_alloc _ _ _ (by simp)).trans (heap_alloc_new w _))
  refine ⟨?_, setRow_heap _ _ _ _ _ _ h0, ?_, ?_⟩
  · refine ⟨rfl, rfl, rfl, by simp; omega, fun k hk => ?_⟩
    rw [setRow_other _ _ _ _ (by omega), Below.heap_alloc _ _ _ (by simp; omega), Below.heap_alloc _ _ _ (by simp; omega), Below.heap_alloc _ _ _ (by omega)]
  · rw [setRow_other _ _ _ _ (by omega), Below.heap_alloc _ _ _ (by simp)]
    have := heap_alloc_new (w.alloc (.cells z 33)) (.cells #[.int .i64 600, .int .i64 400] 3)
    rwa [World.size_alloc] at this
  · rw [setRow_other _ _ _ _ (by omega)]
    have := heap_alloc_new ((w.alloc (.cells z 33)).alloc (.cells #[.int .i64 600, .int .i64 400] 3)) (.cells #[.int .i64 1, .int .i64 0, .int .i64 10, .int .i64 1, .int .i64 0, .int .i64 10, .int .i64 2, .int .i64 995, .int .i64 5] 103)
    rwa [World.size_alloc, World.size_alloc] at this

theorem ExW.ok {w W : World} {nm nm2 : ByteArray} (h : ExW w W nm) (hn : nm2.size ≤ maxLen) : (exG nm2 (some ⟨w.heap.size + 1, 0, none⟩) (some ⟨w.heap.size + 1 + 1, 0, none⟩)).Ok W := by
  have c1 := fun k => cell_of_row W (w.heap.size + 1) k _ _ _ h.own
  have c2 := fun k => cell_of_row W (w.heap.size + 1 + 1) k _ _ _ h.sens
  have l1 : w.heap.size + 1 < W.heap.size := (Array.getElem?_eq_some_iff.1 h.own).1
  have l2 : w.heap.size + 1 + 1 < W.heap.size := (Array.getElem?_eq_some_iff.1 h.sens).1
  refine ⟨⟨by simp [exG, maxLen], .inr ⟨w.heap.size + 1, 0, rfl, l1, fun k hk => ?_⟩⟩, ⟨by simp [exG, maxLen], .inr ⟨w.heap.size + 1 + 1, 0, rfl, l2, fun k hk => ?_⟩⟩, hn⟩
  · match k, hk with
    | 0, _ => exact (c1 0).trans rfl
    | 1, _ => exact (c1 1).trans rfl
  · match k, hk with
    | 0, _ => exact ⟨(c2 0).trans rfl, (c2 1).trans rfl, (c2 2).trans rfl⟩
    | 1, _ => exact ⟨(c2 3).trans rfl, (c2 4).trans rfl, (c2 5).trans rfl⟩
    | 2, _ => exact ⟨(c2 6).trans rfl, (c2 7).trans rfl, (c2 8).trans rfl⟩

theorem wpList_store_ex {ops : Array Oper} {rest : List Oper} {o : Oper} {a : Act} {w : World} {Q : Exit → Act → World → Prop} {z : Array Value} (hgd : o.guard = none) (x y : Operand)
    (ho : o.op = .store 33 x y) (hx : a.eval x = .pointer (some ⟨w.heap.size, 0, none⟩)) (hy : a.eval y = (exG east (some ⟨w.heap.size + 1, 0, none⟩) (some ⟨w.heap.size + 1 + 1, 0, none⟩)).val) (hs : z.size = 21)
    (h : ∀ W, ExW w W east → wpList Try.prog ops Q rest (a.put o.dst undef) W) :
    wpList Try.prog ops Q (o :: rest) a (((w.alloc (.cells z 33)).alloc (.cells #[.int .i64 600, .int .i64 400] 3)).alloc (.cells #[.int .i64 1, .int .i64 0, .int .i64 10, .int .i64 1, .int .i64 0, .int .i64 10, .int .i64 2, .int .i64 995, .int .i64 5] 103)) :=
  wpList_store_row hgd 33 x y ho w.heap.size _ hx hy 33 z ((Below.heap_alloc _ _ _ (by simp; omega)).trans ((Below.heap_alloc _ _ _ (by simp)).trans (heap_alloc_new w _))) A.gateSz hs (by rw [← Array.all_toList]; rfl) (h _ (exW_new w z))

set_option maxRecDepth 100000 in
set_option maxHeartbeats 1000000 in
theorem ex_any (w : World) :
    Calls Try.prog 48 #[] w fun e w' => e = .returned (exG east (some ⟨w.heap.size + 1, 0, none⟩) (some ⟨w.heap.size + 1 + 1, 0, none⟩)).val ∧ ExW w w' east := by
  go_enter Try.func48, Try.ntmps48
  go_wp2_with (first
    | (with_reducible show wpList _ _ _ (({ dst := _, op := .build 33 _, type := _, pos := _, after := _, guard := none } : Oper) :: _) _ _; refine wpList_buildTo rfl 33 _ rfl _ rfl (exG east (some ⟨w.heap.size + 1, 0, none⟩) (some ⟨w.heap.size + 1 + 1, 0, none⟩)).cells (by kernel_rfl) ?_)
    | (with_reducible show wpList _ _ _ (({ dst := _, op := .store 33 (.tmp 0) (.tmp 6), type := _, pos := _, after := _, guard := none } : Oper) :: _) _ _; refine wpList_store_ex rfl (.tmp 0) (.tmp 6) rfl rfl rfl (by kernel_rfl) ?_; intro W hE))
  exact bodyPost_ret (v := (exG east (some ⟨w.heap.size + 1, 0, none⟩) (some ⟨w.heap.size + 1 + 1, 0, none⟩)).val) (res_block (ty := 33) rfl rfl hE.blk Try.underlying33 rfl A.gateSz) rfl ⟨rfl, hE⟩
end Go.Proofs.Ythalanpmfhhhnaa
