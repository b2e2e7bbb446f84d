/-
  The basin, the rules and the task of the examples.
-/
import Derived.Test.YtgfdindlihfidaaGreatRv
import Derived.Test.YtgfdindlihfidaaGreatZj
namespace Go.Proofs.YtgfdindlihfidaaGreat
open Go.RowKit Go.Shelf
set_option linter.unusedSimpArgs false
set_option linter.unusedVariables false
set_option maxRecDepth 100000 in
set_option maxHeartbeats 4000000 in
theorem basin_any (w : World) :
    Calls Tryz.prog 35 #[] w fun e w' => ∃ A B : Nat, e = .returned (.agg #[.slice (some ⟨A, 0, none⟩) 3 3, .int .i64 100, .int .i64 3000, .int .i64 500, .slice (some ⟨B, 0, none⟩) 2 2]) ∧ Below w.heap.size w w' ∧
      w'.heap[A]? = some (.cells #[.int .i64 (-1000), .int .i64 0, .int .i64 0, .int .i64 1000000, .int .i64 2000, .int .i64 5000000] 144 (0, 0)) := by
  go_enter Tryz.func35, Tryz.ntmps35
  go_wp2_with fail
  refine bodyPost_ret (v := .agg #[.slice (some ⟨(w.heap.size + 1), 0, none⟩) 3 3, .int .i64 100, .int .i64 3000, .int .i64 500, .slice (some ⟨(w.heap.size + 1 + 1), 0, none⟩) 2 2]) (by simp [results, Tryz.results35, go_sem, *]) rfl ⟨_, _, rfl, ?_, ?_⟩
  · exact (((Below.refl _ _).alloc (Nat.le_refl _) _).alloc (by simp) _).alloc (by simp; omega) _
  · exact blk_old (blk_new (by simp))
theorem rules_any (w : World) : Calls Tryz.prog 16 #[] w fun e w' => e = .returned (.agg #[.int .i64 1, .int .i64 3]) ∧ Below w.heap.size w w' := by
  go_enter Tryz.func16, Tryz.ntmps16
  go_wp2_with fail
  refine bodyPost_ret (v := .agg #[.int .i64 1, .int .i64 3]) (by simp [results, Tryz.results16, go_sem, *]) rfl ⟨rfl, ?_⟩
  exact (Below.refl _ _).alloc (Nat.le_refl _) _
theorem run_mk6 (W : World) : (Instr.makeSlice 33 (.int .i64 6) (.int .i64 6)).run Tryz.prog W = .ok (.slice (some ⟨W.heap.size, 0, none⟩) 6 6) (W.alloc (.cells #[.int .i64 0, .int .i64 0, .int .i64 0, .int .i64 0, .int .i64 0, .int .i64 0] 3)) := by
  kernel_rfl

/-- The lists of the task in memory. -/
structure TkM (A D B0 B1 E : Nat) (V : World) : Prop where
  ro : V.heap[A]? = some (.cells #[.int .i64 (-1000), .int .i64 0, .int .i64 0, .int .i64 1000000, .int .i64 2000, .int .i64 5000000] 144 (0, 0))
  hd : V.heap[D]? = some (.cells #[.int .i64 10, .slice (some ⟨B0, 0, none⟩) 6 6, .int .i64 10, .slice (some ⟨B1, 0, none⟩) 6 6] 106 (0, 0))
  h0 : V.heap[B0]? = some (.cells #[.int .i64 0, .int .i64 500, .int .i64 1500, .int .i64 2500, .int .i64 1500, .int .i64 500] 3 (0, 0))
  h1 : V.heap[B1]? = some (.cells #[.int .i64 0, .int .i64 0, .int .i64 0, .int .i64 0, .int .i64 0, .int .i64 0] 3 (0, 0))
  rv : V.heap[E]? = some (.cells #[.int .i64 60000, .int .i64 60000, .int .i64 60000, .int .i64 60000, .int .i64 60000, .int .i64 60000] 3 (0, 0))
theorem TkM.call {A D B0 B1 E : Nat} {V V' : World} (h : TkM A D B0 B1 E V) (hb : Below V.heap.size V V') : TkM A D B0 B1 E V' := ⟨blk_below hb h.ro, blk_below hb h.hd, blk_below hb h.h0, blk_below hb h.h1, blk_below hb h.rv⟩
abbrev tkCells (A D E : Nat) : Array Value := #[.slice (some ⟨A, 0, none⟩) 3 3, .int .i64 100, .int .i64 3000, .int .i64 500, .slice none 0 0, .slice none 0 0, .slice (some ⟨D, 0, none⟩) 2 2, .slice (some ⟨E, 0, none⟩) 6 6, .int .i64 0, .int .i64 800, .int .i64 1]
/-- The region, whatever of it has been done. -/
structure TkC (W : World) (A T : Nat) (L : Nat → Bool) (x : Nat → Value) (V : World) : Prop where
  bel : L 8 = false → Below W.heap.size W V
  c0 : L 0 = true → x 0 = .agg #[.slice (some ⟨A, 0, none⟩) 3 3, .int .i64 100, .int .i64 3000, .int .i64 500, .slice none 0 0]
  c1 : L 1 = true → L 8 = false → ∃ B0, x 1 = .slice (some ⟨B0, 0, none⟩) 6 6 ∧ V.heap[B0]? = some (.cells #[.int .i64 0, .int .i64 500, .int .i64 1500, .int .i64 2500, .int .i64 1500, .int .i64 500] 3 (0, 0))
  c2 : L 2 = true → L 8 = false → ∃ B0, x 2 = .agg #[.int .i64 10, .slice (some ⟨B0, 0, none⟩) 6 6] ∧ V.heap[B0]? = some (.cells #[.int .i64 0, .int .i64 500, .int .i64 1500, .int .i64 2500, .int .i64 1500, .int .i64 500] 3 (0, 0))
  c3 : L 3 = true → L 8 = false → ∃ B1, x 3 = .slice (some ⟨B1, 0, none⟩) 6 6 ∧ V.heap[B1]? = some (.cells #[.int .i64 0, .int .i64 0, .int .i64 0, .int .i64 0, .int .i64 0, .int .i64 0] 3 (0, 0))
  c4 : L 4 = true → L 8 = false → ∃ B1, x 4 = .agg #[.int .i64 10, .slice (some ⟨B1, 0, none⟩) 6 6] ∧ V.heap[B1]? = some (.cells #[.int .i64 0, .int .i64 0, .int .i64 0, .int .i64 0, .int .i64 0, .int .i64 0] 3 (0, 0))
  c5 : L 5 = true → L 8 = false → ∃ D B0 B1, x 5 = .slice (some ⟨D, 0, none⟩) 2 2 ∧ V.heap[D]? = some (.cells #[.int .i64 10, .slice (some ⟨B0, 0, none⟩) 6 6, .int .i64 10, .slice (some ⟨B1, 0, none⟩) 6 6] 106 (0, 0)) ∧ V.heap[B0]? = some (.cells #[.int .i64 0, .int .i64 500, .int .i64 1500, .int .i64 2500, .int .i64 1500, .int .i64 500] 3 (0, 0)) ∧ V.heap[B1]? = some (.cells #[.int .i64 0, .int .i64 0, .int .i64 0, .int .i64 0, .int .i64 0, .int .i64 0] 3 (0, 0))
  c6 : L 6 = true → L 8 = false → ∃ E, x 6 = .slice (some ⟨E, 0, none⟩) 6 6 ∧ V.heap[E]? = some (.cells #[.int .i64 60000, .int .i64 60000, .int .i64 60000, .int .i64 60000, .int .i64 60000, .int .i64 60000] 3 (0, 0))
  c7 : L 7 = true → L 8 = false → ∃ D B0 B1 E, x 7 = .agg (tkCells A D E) ∧ TkM A D B0 B1 E V
  c8 : L 8 = true → ∃ D B0 B1 E, TkM A D B0 B1 E V ∧ V.heap[T]? = some (.cells (tkCells A D E) 36 (0, 0)) ∧ Below T W V
  o8 : L 8 = true → ∀ j, j < 8 → L j = true
section
variable {W V V' : World} {A T : Nat} {L : Nat → Bool} {x : Nat → Value}
theorem updF_all {n k : Nat} (h : ∀ j, j < n → L j = true) : ∀ j, j < n → updF L k true j = true := fun j hj => by
  unfold updF
  split
  · rfl
  · exact h j hj
theorem TkC.new (hb : Below W.heap.size W V) : TkC W A T (fun _ => false) (fun _ => undef) V :=
  ⟨fun _ => hb, fun h => (by cases h), fun h => (by cases h), fun h => (by cases h), fun h => (by cases h), fun h => (by cases h), fun h => (by cases h), fun h => (by cases h), fun h => (by cases h), fun h => (by cases h), fun h => (by cases h)⟩
theorem TkC.call (h : TkC W A T L x V) (h8 : L 8 = false) (hb : Below V.heap.size V V') : TkC W A T L x V' :=
  ⟨fun e => (h.bel e).trans (hb.mono (h.bel e).size), h.c0, fun e e8 => (let ⟨B, e1, e2⟩ := h.c1 e e8; ⟨B, e1, blk_below hb e2⟩), fun e e8 => (let ⟨B, e1, e2⟩ := h.c2 e e8; ⟨B, e1, blk_below hb e2⟩), fun e e8 => (let ⟨B, e1, e2⟩ := h.c3 e e8; ⟨B, e1, blk_below hb e2⟩), fun e e8 => (let ⟨B, e1, e2⟩ := h.c4 e e8; ⟨B, e1, blk_below hb e2⟩),
    fun e e8 => (let ⟨D, B, C, e1, e2, e3, e4⟩ := h.c5 e e8; ⟨D, B, C, e1, blk_below hb e2, blk_below hb e3, blk_below hb e4⟩), fun e e8 => (let ⟨B, e1, e2⟩ := h.c6 e e8; ⟨B, e1, blk_below hb e2⟩), fun e e8 => (let ⟨D, B, C, E, e1, e2⟩ := h.c7 e e8; ⟨D, B, C, E, e1, e2.call hb⟩), fun e => (by rw [h8] at e; cases e), h.o8⟩
theorem TkC.u0 {y : Value} (h : TkC W A T L x V) (hy : y = .agg #[.slice (some ⟨A, 0, none⟩) 3 3, .int .i64 100, .int .i64 3000, .int .i64 500, .slice none 0 0]) : TkC W A T (updF L 0 true) (updF x 0 y) V := ⟨h.bel, fun _ => hy, h.c1, h.c2, h.c3, h.c4, h.c5, h.c6, h.c7, h.c8, fun e => updF_all (h.o8 e)⟩
theorem TkC.u1 {y : Value} (h : TkC W A T L x V) (hy : ∃ B0, y = .slice (some ⟨B0, 0, none⟩) 6 6 ∧ V.heap[B0]? = some (.cells #[.int .i64 0, .int .i64 500, .int .i64 1500, .int .i64 2500, .int .i64 1500, .int .i64 500] 3 (0, 0))) : TkC W A T (updF L 1 true) (updF x 1 y) V := ⟨h.bel, h.c0, fun _ _ => hy, h.c2, h.c3, h.c4, h.c5, h.c6, h.c7, h.c8, fun e => updF_all (h.o8 e)⟩
theorem TkC.u2 {y : Value} (h : TkC W A T L x V) (hy : ∃ B0, y = .agg #[.int .i64 10, .slice (some ⟨B0, 0, none⟩) 6 6] ∧ V.heap[B0]? = some (.cells #[.int .i64 0, .int .i64 500, .int .i64 1500, .int .i64 2500, .int .i64 1500, .int .i64 500] 3 (0, 0))) : TkC W A T (updF L 2 true) (updF x 2 y) V := ⟨h.bel, h.c0, h.c1, fun _ _ => hy, h.c3, h.c4, h.c5, h.c6, h.c7, h.c8, fun e => updF_all (h.o8 e)⟩
theorem TkC.u3 {y : Value} (h : TkC W A T L x V) (hy : ∃ B1, y = .slice (some ⟨B1, 0, none⟩) 6 6 ∧ V.heap[B1]? = some (.cells #[.int .i64 0, .int .i64 0, .int .i64 0, .int .i64 0, .int .i64 0, .int .i64 0] 3 (0, 0))) : TkC W A T (updF L 3 true) (updF x 3 y) V := ⟨h.bel, h.c0, h.c1, h.c2, fun _ _ => hy, h.c4, h.c5, h.c6, h.c7, h.c8, fun e => updF_all (h.o8 e)⟩
theorem TkC.u4 {y : Value} (h : TkC W A T L x V) (hy : ∃ B1, y = .agg #[.int .i64 10, .slice (some ⟨B1, 0, none⟩) 6 6] ∧ V.heap[B1]? = some (.cells #[.int .i64 0, .int .i64 0, .int .i64 0, .int .i64 0, .int .i64 0, .int .i64 0] 3 (0, 0))) : TkC W A T (updF L 4 true) (updF x 4 y) V := ⟨h.bel, h.c0, h.c1, h.c2, h.c3, fun _ _ => hy, h.c5, h.c6, h.c7, h.c8, fun e => updF_all (h.o8 e)⟩
theorem TkC.u5 {y : Value} (h : TkC W A T L x V) (hy : ∃ D B0 B1, y = .slice (some ⟨D, 0, none⟩) 2 2 ∧ V.heap[D]? = some (.cells #[.int .i64 10, .slice (some ⟨B0, 0, none⟩) 6 6, .int .i64 10, .slice (some ⟨B1, 0, none⟩) 6 6] 106 (0, 0)) ∧ V.heap[B0]? = some (.cells #[.int .i64 0, .int .i64 500, .int .i64 1500, .int .i64 2500, .int .i64 1500, .int .i64 500] 3 (0, 0)) ∧ V.heap[B1]? = some (.cells #[.int .i64 0, .int .i64 0, .int .i64 0, .int .i64 0, .int .i64 0, .int .i64 0] 3 (0, 0))) : TkC W A T (updF L 5 true) (updF x 5 y) V := ⟨h.bel, h.c0, h.c1, h.c2, h.c3, h.c4, fun _ _ => hy, h.c6, h.c7, h.c8, fun e => updF_all (h.o8 e)⟩
theorem TkC.u6 {y : Value} (h : TkC W A T L x V) (hy : ∃ E, y = .slice (some ⟨E, 0, none⟩) 6 6 ∧ V.heap[E]? = some (.cells #[.int .i64 60000, .int .i64 60000, .int .i64 60000, .int .i64 60000, .int .i64 60000, .int .i64 60000] 3 (0, 0))) : TkC W A T (updF L 6 true) (updF x 6 y) V := ⟨h.bel, h.c0, h.c1, h.c2, h.c3, h.c4, h.c5, fun _ _ => hy, h.c7, h.c8, fun e => updF_all (h.o8 e)⟩
theorem TkC.u7 {y : Value} (h : TkC W A T L x V) (hy : ∃ D B0 B1 E, y = .agg (tkCells A D E) ∧ TkM A D B0 B1 E V) : TkC W A T (updF L 7 true) (updF x 7 y) V := ⟨h.bel, h.c0, h.c1, h.c2, h.c3, h.c4, h.c5, h.c6, fun _ _ => hy, h.c8, fun e => updF_all (h.o8 e)⟩
end
/-- The store of the task, cell by cell. -/
structure TkS (A D B0 B1 E T : Nat) (W : World) (cs : Array Value) (v : World) : Prop where
  m : TkM A D B0 B1 E v
  ne : D ≠ T ∧ B0 ≠ T ∧ B1 ≠ T ∧ E ≠ T ∧ A ≠ T
  blk : v.heap[T]? = some (.cells cs 36 (0, 0))
  bel : Below T W v
theorem TkS.set {A D B0 B1 E T : Nat} {W v : World} {cs : Array Value} (h : TkS A D B0 B1 E T W cs v) (i : Nat) (u : Value) : TkS A D B0 B1 E T W (cs.setIfInBounds i u) (v.setCell ⟨T, i, none⟩ u) :=
  ⟨⟨blk_set_other h.ne.2.2.2.2 h.m.ro, blk_set_other h.ne.1 h.m.hd, blk_set_other h.ne.2.1 h.m.h0, blk_set_other h.ne.2.2.1 h.m.h1, blk_set_other h.ne.2.2.2.1 h.m.rv⟩, h.ne, heap_setCell_same _ _ i _ _ _ h.blk, bset h.bel (Nat.le_refl _)⟩
/-- The task of the examples. -/
abbrev lawTask (A D B0 B1 E : Nat) : TaskV :=
  { bas := { rA := some ⟨A, 0, none⟩, rC := 3, rows := [⟨-1000, 0⟩, ⟨0, 1000000⟩, ⟨2000, 5000000⟩], leak := 100, crest := 3000, over := 500, pA := none, pC := 0, pols := [] }, fA := none, fC := 0, filled := [], hA := some ⟨D, 0, none⟩, hC := 2,
    hists := [⟨10, some ⟨B0, 0, none⟩, 6, hvals 0⟩, ⟨10, some ⟨B1, 0, none⟩, 6, hvals 1⟩], rA := some ⟨E, 0, none⟩, rC := 6, river := [60000, 60000, 60000, 60000, 60000, 60000], out := 0, limit := 800, delay := 1 }
theorem lawTask_law (A D B0 B1 E : Nat) : LawT (lawTask A D B0 B1 E) 2 :=
  ⟨rfl, rfl, rfl, rfl, rfl, rfl, rfl, rfl, rfl, .inr rfl, fun k hk => (match k, hk with
    | 0, _ => ⟨rfl, rfl⟩
    | 1, _ => ⟨rfl, rfl⟩
    | _ + 2, hk => absurd hk (by simp)), rfl, rfl, rfl, rfl⟩
theorem ints_blk {V : World} {B : Nat} {l : List Int} {ty : TypeId} (h : V.heap[B]? = some (.cells (l.map (Value.int .i64)).toArray ty (0, 0))) (hl : l.length ≤ maxLen) : IntsAt V (some ⟨B, 0, none⟩) l := by
  refine ⟨hl, .inr ⟨B, 0, rfl, (Array.getElem?_eq_some_iff.1 h).1, fun k hk => ?_⟩⟩
  rw [cell_of_row _ _ (0 + k) _ _ _ h]
  simp [hk]
theorem lawTask_ok {A D B0 B1 E : Nat} {V : World} (h : TkM A D B0 B1 E V) : (lawTask A D B0 B1 E).Ok V := by
  have c := fun k => cell_of_row V A k _ _ _ h.ro
  have d := fun k => cell_of_row V D k _ _ _ h.hd
  have i0 : IntsAt V (some ⟨B0, 0, none⟩) (hvals 0) := ints_blk (l := hvals 0) h.h0 (by decide)
  have i1 : IntsAt V (some ⟨B1, 0, none⟩) (hvals 1) := ints_blk (l := hvals 1) h.h1 (by decide)
  refine ⟨⟨⟨by simp [maxLen], .inr ⟨A, 0, rfl, (Array.getElem?_eq_some_iff.1 h.ro).1, fun k hk => ?_⟩⟩, ⟨by simp, fun p hp => (by cases hp), .inl rfl⟩, by simp⟩, ⟨by simp, .inl rfl⟩, ⟨by simp [maxLen], fun x hx => ?_, .inr ⟨D, 0, rfl, (Array.getElem?_eq_some_iff.1 h.hd).1, fun k hk => ?_⟩⟩, ints_blk (l := [60000, 60000, 60000, 60000, 60000, 60000]) h.rv (by simp [maxLen])⟩
  · match k, hk with
    | 0, _ => exact ⟨(c 0).trans rfl, (c 1).trans rfl⟩
    | 1, _ => exact ⟨(c 2).trans rfl, (c 3).trans rfl⟩
    | 2, _ => exact ⟨(c 4).trans rfl, (c 5).trans rfl⟩
    | _ + 3, hk => exact absurd hk (by simp)
  · rcases List.mem_cons.1 hx with rfl | hx
    · exact i0
    · rcases List.mem_cons.1 hx with rfl | hx
      · exact i1
      · cases hx
  · match k, hk with
    | 0, _ => exact ⟨(d 0).trans rfl, (d 1).trans rfl⟩
    | 1, _ => exact ⟨(d 2).trans rfl, (d 3).trans rfl⟩
    | _ + 2, hk => exact absurd hk (by simp)
abbrev sgT (j : Nat) : Nat := j + 4

set_option maxRecDepth 100000 in
set_option maxHeartbeats 4000000 in
theorem task_any (w : World) : Calls Tryz.prog 14 #[] w fun e w' => ∃ t : TaskV, e = .returned t.val ∧ t.Ok w' ∧ LawT t 2 ∧ (t.hists.length ≤ t.hC ∧ t.hC ≤ 1000) ∧ Below w.heap.size w w' := by
  obtain ⟨W0, hW0⟩ : ∃ W0, W0 = w.alloc (.cells #[.slice none 0 0, .int .i64 0, .int .i64 0, .int .i64 0, .slice none 0 0, .slice none 0 0, .slice none 0 0, .slice none 0 0, .int .i64 0, .int .i64 0, .int .i64 0] 36) := ⟨_, rfl⟩
  have hB : Below w.heap.size w W0 := by rw [hW0]; exact (Below.refl _ _).alloc (Nat.le_refl _) _
  have hX0 : W0.heap[w.heap.size]? = some (.cells #[.slice none 0 0, .int .i64 0, .int .i64 0, .int .i64 0, .slice none 0 0, .slice none 0 0, .slice none 0 0, .slice none 0 0, .int .i64 0, .int .i64 0, .int .i64 0] 36 (0, 0)) := by rw [hW0]; exact blk_new rfl
  have HB := Lib.hid hB
  have HX := Lib.hid hX0
  have HW := Lib.hid hW0
  clear hB hX0
  go_enter Tryz.func14, Tryz.ntmps14
  go_upto_region 1 with fail
  rw [← HW.out]
  clear hW0
  go_wp2_with (go_at_call 35; refine (basin_any _).mono ?_; rintro e w1 ⟨A, B, rfl, hb1, hA⟩; have HB1 := Lib.hid (HB.out.trans (hb1.mono HB.out.size)); have HX1 := Lib.hid (blk_below hb1 HX.out); have HA := Lib.hid hA; clear hb1 hA)
  obtain ⟨W, hW⟩ : ∃ W, W = w1.alloc (.cells #[.slice (some ⟨A, 0, none⟩) 3 3, .int .i64 100, .int .i64 3000, .int .i64 500, .slice none 0 0] 32) := ⟨_, rfl⟩
  have hb1 : Below w1.heap.size w1 W := by rw [hW]; exact (Below.refl _ _).alloc (Nat.le_refl _) _
  have HB2 := Lib.hid (HB1.out.trans (hb1.mono HB1.out.size))
  have HXW := Lib.hid (show _ ∧ _ from ⟨blk_below hb1 HX1.out, (show W.heap[w1.heap.size]? = some (.cells #[.slice (some ⟨A, 0, none⟩) 3 3, .int .i64 100, .int .i64 3000, .int .i64 500, .slice none 0 0] 32 (0, 0)) by rw [hW]; exact blk_new rfl)⟩)
  have HAW := Lib.hid (blk_below hb1 HA.out)
  rw [← hW]
  clear hb1 hW HW HB1 HX1 HA HB HX
  generalize w1.heap.size = S at HXW ⊢
  refine wp_region_slots (n := 8) (m := 9) (by kernel_rfl) rfl (by omega) (by kernel_rfl) sgT (fun j hj => by simp [sgT]; try omega) (fun i j _ _ h => by simp only [sgT] at h; omega) (TkC W A w.heap.size) (TkC.new (Below.refl _ _).drew) ?_ ?_
  · intro i o L x b v ho hS hC hL haft
    have hi : i < 9 := (Array.getElem?_eq_some_iff.1 ho).1
    have hi2 : i = 0 ∨ i = 1 ∨ i = 2 ∨ i = 3 ∨ i = 4 ∨ i = 5 ∨ i = 6 ∨ i = 7 ∨ i = 8 := by omega
    have h8 : L 8 = false := by
      rcases Nat.lt_or_ge i 8 with h | h
      · cases e : L 8 with
        | false => rfl
        | true => rw [hC.o8 e i h] at hL; cases hL
      · obtain rfl : i = 8 := by omega
        exact hL
    have HC := Lib.hid hC
    have HS := Lib.hid hS
    have HL := Lib.hid hL
    have H8 := Lib.hid h8
    have h1 : b.tmps[1]? = some (.pointer (some ⟨S, 0, none⟩)) := hS.out 1 (fun j hj _ => by simp [sgT])
    have hbv := hC.bel h8
    have HV := Lib.hid (show _ ∧ _ from ⟨blk_below hbv HXW.out.1, blk_below hbv HXW.out.2⟩)
    have HVA := Lib.hid (blk_below hbv HAW.out)
    have hal : ∀ o, Below v.heap.size v (v.alloc o) := fun o => (Below.refl _ _).alloc (Nat.le_refl _) o
    have Hal := Lib.hid hal
    clear hal hC hS hL h8 hbv hi
    rcases hi2 with rfl | rfl | rfl | rfl | rfl | rfl | rfl | rfl | rfl
    · obtain rfl := Option.some.inj ho
      refine ⟨rfl, .inl ⟨by omega, ?_⟩⟩
      have t0 := cell_of_row _ _ 0 _ _ _ HV.out.2
      have t1 := cell_of_row _ _ 1 _ _ _ HV.out.2
      have t2 := cell_of_row _ _ 2 _ _ _ HV.out.2
      have t3 := cell_of_row _ _ 3 _ _ _ HV.out.2
      have t4 := cell_of_row _ _ 4 _ _ _ HV.out.2
      simp only [List.getElem?_toArray, List.getElem?_cons_zero, List.getElem?_cons_succ] at t0 t1 t2 t3 t4
      clear ho haft
      go_simp
      exact ⟨_, rfl, HC.out.u0 rfl⟩
    · obtain rfl := Option.some.inj ho
      refine ⟨rfl, .inl ⟨by omega, ?_⟩⟩
      clear ho haft
      go_simp
      exact ⟨_, rfl, (HC.out.call H8.out (Hal.out _)).u1 ⟨v.heap.size, rfl, heap_alloc_new _ _⟩⟩
    · obtain rfl := Option.some.inj ho
      refine ⟨rfl, .inl ⟨by omega, ?_⟩⟩
      obtain ⟨B0, e1, e2⟩ := HC.out.c1 (haft ⟨1, .data⟩ (by simp) (by decide)) H8.out
      have h5 : b.tmps[5]? = some (.slice (some ⟨B0, 0, none⟩) 6 6) := by rw [← e1]; exact HS.out.at_ 1 (by omega) (haft ⟨1, .data⟩ (by simp) (by decide))
      have E2 := Lib.hid e2
      clear ho haft e1 e2
      go_simp
      exact ⟨_, rfl, HC.out.u2 ⟨B0, rfl, E2.out⟩⟩
    · obtain rfl := Option.some.inj ho
      refine ⟨rfl, .inl ⟨by omega, ?_⟩⟩
      have hmk := run_mk6
      clear ho haft
      go_simp
      exact ⟨_, rfl, (HC.out.call H8.out (Hal.out _)).u3 ⟨v.heap.size, rfl, heap_alloc_new _ _⟩⟩
    · obtain rfl := Option.some.inj ho
      refine ⟨rfl, .inl ⟨by omega, ?_⟩⟩
      obtain ⟨B1, e1, e2⟩ := HC.out.c3 (haft ⟨3, .data⟩ (by simp) (by decide)) H8.out
      have h7 : b.tmps[7]? = some (.slice (some ⟨B1, 0, none⟩) 6 6) := by rw [← e1]; exact HS.out.at_ 3 (by omega) (haft ⟨3, .data⟩ (by simp) (by decide))
      have E2 := Lib.hid e2
      clear ho haft e1 e2
      go_simp
      exact ⟨_, rfl, HC.out.u4 ⟨B1, rfl, E2.out⟩⟩
    · obtain rfl := Option.some.inj ho
      refine ⟨rfl, .inl ⟨by omega, ?_⟩⟩
      obtain ⟨B0, e1, e2⟩ := HC.out.c2 (haft ⟨2, .data⟩ (by simp) (by decide)) H8.out
      obtain ⟨B1, e3, e4⟩ := HC.out.c4 (haft ⟨4, .data⟩ (by simp) (by decide)) H8.out
      have h6 : b.tmps[6]? = some (.agg #[.int .i64 10, .slice (some ⟨B0, 0, none⟩) 6 6]) := by rw [← e1]; exact HS.out.at_ 2 (by omega) (haft ⟨2, .data⟩ (by simp) (by decide))
      have h8 : b.tmps[8]? = some (.agg #[.int .i64 10, .slice (some ⟨B1, 0, none⟩) 6 6]) := by rw [← e3]; exact HS.out.at_ 4 (by omega) (haft ⟨4, .data⟩ (by simp) (by decide))
      have E2 := Lib.hid (And.intro e2 e4)
      clear ho haft e1 e2 e3 e4
      go_simp
      exact ⟨_, rfl, (HC.out.call H8.out (Hal.out _)).u5 ⟨v.heap.size, B0, B1, rfl, heap_alloc_new _ _, blk_old E2.out.1, blk_old E2.out.2⟩⟩
    · obtain rfl := Option.some.inj ho
      refine ⟨rfl, .inl ⟨by omega, ?_⟩⟩
      clear ho haft
      go_simp
      exact ⟨_, rfl, (HC.out.call H8.out (Hal.out _)).u6 ⟨v.heap.size, rfl, heap_alloc_new _ _⟩⟩
    · obtain rfl := Option.some.inj ho
      refine ⟨rfl, .inl ⟨by omega, ?_⟩⟩
      have e0 := HC.out.c0 (haft ⟨0, .data⟩ (by simp) (by decide))
      obtain ⟨D, B0, B1, e1, e2, e3, e4⟩ := HC.out.c5 (haft ⟨5, .data⟩ (by simp) (by decide)) H8.out
      obtain ⟨E, e5, e6⟩ := HC.out.c6 (haft ⟨6, .data⟩ (by simp) (by decide)) H8.out
      have h4 : b.tmps[4]? = some (.agg #[.slice (some ⟨A, 0, none⟩) 3 3, .int .i64 100, .int .i64 3000, .int .i64 500, .slice none 0 0]) := by rw [← e0]; exact HS.out.at_ 0 (by omega) (haft ⟨0, .data⟩ (by simp) (by decide))
      have h9 : b.tmps[9]? = some (.slice (some ⟨D, 0, none⟩) 2 2) := by rw [← e1]; exact HS.out.at_ 5 (by omega) (haft ⟨5, .data⟩ (by simp) (by decide))
      have h10 : b.tmps[10]? = some (.slice (some ⟨E, 0, none⟩) 6 6) := by rw [← e5]; exact HS.out.at_ 6 (by omega) (haft ⟨6, .data⟩ (by simp) (by decide))
      have E2 := Lib.hid (show TkM A D B0 B1 E v from ⟨HVA.out, e2, e3, e4, e6⟩)
      clear ho haft e0 e1 e2 e3 e4 e5 e6
      go_simp
      exact ⟨_, rfl, HC.out.u7 ⟨D, B0, B1, E, rfl, E2.out⟩⟩
    · obtain rfl := Option.some.inj ho
      refine ⟨rfl, .inr ⟨by omega, ?_⟩⟩
      obtain ⟨D, B0, B1, E, e1, e2⟩ := HC.out.c7 (haft ⟨7, .data⟩ (by simp) (by decide)) HL.out
      have h11 : b.tmps[11]? = some (.agg (tkCells A D E)) := by rw [← e1]; exact HS.out.at_ 7 (by omega) (haft ⟨7, .data⟩ (by simp) (by decide))
      have h0 : b.tmps[0]? = some (.pointer (some ⟨w.heap.size, 0, none⟩)) := HS.out.out 0 (fun j hj _ => by simp [sgT])
      have E2 := Lib.hid e2
      have HT := Lib.hid HV.out.1
      have lT := (Array.getElem?_eq_some_iff.1 HV.out.1).1
      have t0 : v.cell? ⟨w.heap.size, 0, none⟩ = some (.slice none 0 0) := (cell_of_row _ _ 0 _ _ _ HV.out.1).trans rfl
      have q0 : v.frozen? ⟨w.heap.size, 0, none⟩ = false := frozen_of_row _ _ 0 _ _ HV.out.1
      have t1 : v.cell? ⟨w.heap.size, 1, none⟩ = some (.int .i64 0) := (cell_of_row _ _ 1 _ _ _ HV.out.1).trans rfl
      have q1 : v.frozen? ⟨w.heap.size, 1, none⟩ = false := frozen_of_row _ _ 1 _ _ HV.out.1
      have t2 : v.cell? ⟨w.heap.size, 2, none⟩ = some (.int .i64 0) := (cell_of_row _ _ 2 _ _ _ HV.out.1).trans rfl
      have q2 : v.frozen? ⟨w.heap.size, 2, none⟩ = false := frozen_of_row _ _ 2 _ _ HV.out.1
      have t3 : v.cell? ⟨w.heap.size, 3, none⟩ = some (.int .i64 0) := (cell_of_row _ _ 3 _ _ _ HV.out.1).trans rfl
      have q3 : v.frozen? ⟨w.heap.size, 3, none⟩ = false := frozen_of_row _ _ 3 _ _ HV.out.1
      have t4 : v.cell? ⟨w.heap.size, 4, none⟩ = some (.slice none 0 0) := (cell_of_row _ _ 4 _ _ _ HV.out.1).trans rfl
      have q4 : v.frozen? ⟨w.heap.size, 4, none⟩ = false := frozen_of_row _ _ 4 _ _ HV.out.1
      have t5 : v.cell? ⟨w.heap.size, 5, none⟩ = some (.slice none 0 0) := (cell_of_row _ _ 5 _ _ _ HV.out.1).trans rfl
      have q5 : v.frozen? ⟨w.heap.size, 5, none⟩ = false := frozen_of_row _ _ 5 _ _ HV.out.1
      have t6 : v.cell? ⟨w.heap.size, 6, none⟩ = some (.slice none 0 0) := (cell_of_row _ _ 6 _ _ _ HV.out.1).trans rfl
      have q6 : v.frozen? ⟨w.heap.size, 6, none⟩ = false := frozen_of_row _ _ 6 _ _ HV.out.1
      have t7 : v.cell? ⟨w.heap.size, 7, none⟩ = some (.slice none 0 0) := (cell_of_row _ _ 7 _ _ _ HV.out.1).trans rfl
      have q7 : v.frozen? ⟨w.heap.size, 7, none⟩ = false := frozen_of_row _ _ 7 _ _ HV.out.1
      have t8 : v.cell? ⟨w.heap.size, 8, none⟩ = some (.int .i64 0) := (cell_of_row _ _ 8 _ _ _ HV.out.1).trans rfl
      have q8 : v.frozen? ⟨w.heap.size, 8, none⟩ = false := frozen_of_row _ _ 8 _ _ HV.out.1
      have t9 : v.cell? ⟨w.heap.size, 9, none⟩ = some (.int .i64 0) := (cell_of_row _ _ 9 _ _ _ HV.out.1).trans rfl
      have q9 : v.frozen? ⟨w.heap.size, 9, none⟩ = false := frozen_of_row _ _ 9 _ _ HV.out.1
      have t10 : v.cell? ⟨w.heap.size, 10, none⟩ = some (.int .i64 0) := (cell_of_row _ _ 10 _ _ _ HV.out.1).trans rfl
      have q10 : v.frozen? ⟨w.heap.size, 10, none⟩ = false := frozen_of_row _ _ 10 _ _ HV.out.1
      have HB3 := Lib.hid (show Below w.heap.size W v from (HC.out.bel HL.out).mono (by have := (Array.getElem?_eq_some_iff.1 HXW.out.1).1; omega))
      have HO := Lib.hid (show ∀ j, j < 8 → L j = true from fun j hj => haft ⟨j, .phase⟩ (by
        have h : j = 0 ∨ j = 1 ∨ j = 2 ∨ j = 3 ∨ j = 4 ∨ j = 5 ∨ j = 6 ∨ j = 7 := by omega
        rcases h with rfl | rfl | rfl | rfl | rfl | rfl | rfl | rfl <;> simp) rfl)
      clear ho haft e1 e2
      go_simp
      clear t0 q0 t1 q1 t2 q2 t3 q3 t4 q4 t5 q5 t6 q6 t7 q7 t8 q8 t9 q9 t10 q10
      have hD : D ≠ w.heap.size := fun e => by have h1 := E2.out.hd; rw [e, HT.out] at h1; cases h1
      have hB0 : B0 ≠ w.heap.size := fun e => by have h1 := E2.out.h0; rw [e, HT.out] at h1; cases h1
      have hB1 : B1 ≠ w.heap.size := fun e => by have h1 := E2.out.h1; rw [e, HT.out] at h1; cases h1
      have hA : A ≠ w.heap.size := fun e => by have h1 := E2.out.ro; rw [e, HT.out] at h1; cases h1
      have hE : E ≠ w.heap.size := fun e => by have h1 := E2.out.rv; rw [e, HT.out] at h1; cases h1
      have S := (show TkS A D B0 B1 E w.heap.size W _ v from ⟨E2.out, ⟨hD, hB0, hB1, hE, hA⟩, HT.out, HB3.out⟩)
      replace S := S.set 0 (.slice (some ⟨A, 0, none⟩) 3 3)
      simp only [List.setIfInBounds_toArray, List.set_cons_zero, List.set_cons_succ] at S
      replace S := S.set 1 (.int .i64 100)
      simp only [List.setIfInBounds_toArray, List.set_cons_zero, List.set_cons_succ] at S
      replace S := S.set 2 (.int .i64 3000)
      simp only [List.setIfInBounds_toArray, List.set_cons_zero, List.set_cons_succ] at S
      replace S := S.set 3 (.int .i64 500)
      simp only [List.setIfInBounds_toArray, List.set_cons_zero, List.set_cons_succ] at S
      replace S := S.set 4 (.slice none 0 0)
      simp only [List.setIfInBounds_toArray, List.set_cons_zero, List.set_cons_succ] at S
      replace S := S.set 5 (.slice none 0 0)
      simp only [List.setIfInBounds_toArray, List.set_cons_zero, List.set_cons_succ] at S
      replace S := S.set 6 (.slice (some ⟨D, 0, none⟩) 2 2)
      simp only [List.setIfInBounds_toArray, List.set_cons_zero, List.set_cons_succ] at S
      replace S := S.set 7 (.slice (some ⟨E, 0, none⟩) 6 6)
      simp only [List.setIfInBounds_toArray, List.set_cons_zero, List.set_cons_succ] at S
      replace S := S.set 8 (.int .i64 0)
      simp only [List.setIfInBounds_toArray, List.set_cons_zero, List.set_cons_succ] at S
      replace S := S.set 9 (.int .i64 800)
      simp only [List.setIfInBounds_toArray, List.set_cons_zero, List.set_cons_succ] at S
      replace S := S.set 10 (.int .i64 1)
      simp only [List.setIfInBounds_toArray, List.set_cons_zero, List.set_cons_succ] at S
      have SS := Lib.hid S
      clear S
      refine ⟨fun e => (by cases e), HC.out.c0, fun _ e => (by cases e), fun _ e => (by cases e), fun _ e => (by cases e), fun _ e => (by cases e), fun _ e => (by cases e), fun _ e => (by cases e), fun _ e => (by cases e), fun _ => ⟨D, B0, B1, E, ?_, ?_, ?_⟩, fun _ j hj => updF_all HO.out j hj⟩
      · exact SS.out.m
      · exact SS.out.blk
      · exact SS.out.bel
  · intro x V hC
    obtain ⟨D, B0, B1, E, hM, hblk, hbel⟩ := hC.c8 rfl
    have HM := Lib.hid hM
    have HF := Lib.hid (show Below w.heap.size w V from HB2.out.trans hbel)
    have t0 : V.cell? ⟨w.heap.size, 0, none⟩ = some (.slice (some ⟨A, 0, none⟩) 3 3) := (cell_of_row _ _ 0 _ _ _ hblk).trans rfl
    have t1 : V.cell? ⟨w.heap.size, 1, none⟩ = some (.int .i64 100) := (cell_of_row _ _ 1 _ _ _ hblk).trans rfl
    have t2 : V.cell? ⟨w.heap.size, 2, none⟩ = some (.int .i64 3000) := (cell_of_row _ _ 2 _ _ _ hblk).trans rfl
    have t3 : V.cell? ⟨w.heap.size, 3, none⟩ = some (.int .i64 500) := (cell_of_row _ _ 3 _ _ _ hblk).trans rfl
    have t4 : V.cell? ⟨w.heap.size, 4, none⟩ = some (.slice none 0 0) := (cell_of_row _ _ 4 _ _ _ hblk).trans rfl
    have t5 : V.cell? ⟨w.heap.size, 5, none⟩ = some (.slice none 0 0) := (cell_of_row _ _ 5 _ _ _ hblk).trans rfl
    have t6 : V.cell? ⟨w.heap.size, 6, none⟩ = some (.slice (some ⟨D, 0, none⟩) 2 2) := (cell_of_row _ _ 6 _ _ _ hblk).trans rfl
    have t7 : V.cell? ⟨w.heap.size, 7, none⟩ = some (.slice (some ⟨E, 0, none⟩) 6 6) := (cell_of_row _ _ 7 _ _ _ hblk).trans rfl
    have t8 : V.cell? ⟨w.heap.size, 8, none⟩ = some (.int .i64 0) := (cell_of_row _ _ 8 _ _ _ hblk).trans rfl
    have t9 : V.cell? ⟨w.heap.size, 9, none⟩ = some (.int .i64 800) := (cell_of_row _ _ 9 _ _ _ hblk).trans rfl
    have t10 : V.cell? ⟨w.heap.size, 10, none⟩ = some (.int .i64 1) := (cell_of_row _ _ 10 _ _ _ hblk).trans rfl
    clear hC hM hblk hbel
    simp only [setAll, sgT, Nat.reduceAdd, List.setIfInBounds_toArray, List.set_cons_zero, List.set_cons_succ]
    go_wp2_with fail
    refine bodyPost_ret (v := (lawTask A D B0 B1 E).val) (by simp [results, Tryz.results14, go_sem, *]) rfl ⟨lawTask A D B0 B1 E, rfl, lawTask_ok HM.out, lawTask_law A D B0 B1 E, ⟨Nat.le_refl _, (by show 2 ≤ 1000; decide)⟩, HF.out⟩
end Go.Proofs.YtgfdindlihfidaaGreat
