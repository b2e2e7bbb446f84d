/-
  gate.Where: what it returns of any gate and readings.
-/
import Derived.Test.YthalanpmfhhhnaaAg
namespace Go.Proofs.Ythalanpmfhhhnaa
open Go.RowKit Go.Shelf
set_option linter.unusedSimpArgs false
set_option linter.unusedVariables false
attribute [local go_sem] Oper.semAt_some

/-- gate.agreed lays two boxes and hands the iterator back. -/
theorem agreed_make (g : GateV) (rA : Option Addr) (rn rC : Nat) (w : World) :
    Calls Try.prog 83 #[g.val, .slice rA rn rC] w fun e w' => e = .returned (.func (.func 102) #[] #[.pointer (some ⟨w.heap.size, 0, none⟩), .pointer (some ⟨w.heap.size + 1, 0, none⟩)]) ∧
      w' = (w.alloc (.cells g.cells 33)).alloc (.cells #[.slice rA rn rC] 30) := by
  go_enter Try.func83, Try.ntmps83
  go_wp2
  go_ret
  exact ⟨rfl, rfl⟩

theorem agreed_stops (g : GateV) (rA : Option Addr) (rC : Nat) (rs : List Int) (n B : Nat) (hn : 1 ≤ n) (w0 w : World) (hc : (checkZ g).2.2 = 0) (hlen : rs.length = g.sens.length) (hok : g.Ok w0) (hri : IntsAt w0 rA rs) (hW : AgW w0 g rA rs.length rC B w) (n₀ : Nat) (hn0 : w0.heap.size ≤ n₀) :
    SeqStopsK Fence.wide n Try.prog 102 #[.pointer (some ⟨B, 0, none⟩), .pointer (some ⟨B + 1, 0, none⟩)] (fun x : Int => #[Value.int .i64 x]) (AgK n₀ B) (fun ys => ys = whereL g rs) (fun pre => pre <+: whereL g rs) (whereL g rs).length w := fun l J Jx W hb hJ _ hY h0 =>
  agreed_in g rA rC rs n l n₀ B hn w0 hn0 hc hlen hok hri J Jx W hJ hY (hW.call hb) h0

theorem GateIn.set {W : World} {B P i : Nat} {g : GateV} {v : Value} (h : GateIn W B g) (hne : B ≠ P) : GateIn (W.setCell ⟨P, i, none⟩ v) B g := ⟨by simpa using h.lt, blk_set_other hne h.blk⟩
theorem ownFrom_blk {B P : Nat} {t : TypeId} (f : List Int → Array Value) (hP : P < B) : OwnFrom B (fun (pre : List Int) (W : World) => W.heap[P]? = some (.cells (f pre) t (0, 0))) := fun s W W' row hs hg hr => by
  have := hg.block P (Array.getElem?_eq_some_iff.1 hs).1 (fun e => by have := (hr P e.symm).1; omega)
  exact this.trans hs

theorem AgK.set {n₀ B : Nat} {X W : World} {P i : Nat} {v : Value} (h : AgK n₀ B X W) (hn : n₀ ≤ P) (h1 : B ≠ P) (h2 : B + 1 ≠ P) : AgK n₀ B X (W.setCell ⟨P, i, none⟩ v) :=
  ⟨h.below.setCell hn v, (Below.heap_setCell W _ v _ h1).trans h.fst, (Below.heap_setCell W _ v _ h2).trans h.snd⟩
theorem dq_set {W : World} {D : Nat} {x : Option (List Deferred)} {a : Addr} {v : Value} (h : W.heap[D]? = some (.deferred x)) : (W.setCell a v).heap[D]? = some (.deferred x) := (KeepsOthers.setCell W a v).same D _ h rfl
theorem dq_drew {W : World} {D : Nat} {x : Option (List Deferred)} (h : W.heap[D]? = some (.deferred x)) : W.drew.heap[D]? = some (.deferred x) := h
theorem leaves_gen {F : Fence} {n : Nat} {P : Program} {fn : Func} {tmps : Array Value} {R : Ending → World → Prop} {ds : List Deferred} {u : FrameMode} {W : World} (h : ∀ V, V = W → LeavesInM F n P fn tmps R ds u V) : LeavesInM F n P fn tmps R ds u W := h W rfl
theorem blk_cell {W : World} {P : Nat} {cs : Array Value} {t : TypeId} (h : W.heap[P]? = some (.cells cs t (0, 0))) (i : Nat) (v : Value) (hv : cs[i]? = some v) : W.cell? ⟨P, i, none⟩ = some v := by
  rw [cell_of_row W P i _ _ _ h, hv]
theorem blk_setin {W : World} {P i : Nat} {cs : Array Value} {t : TypeId} {v : Value} (h : W.heap[P]? = some (.cells cs t (0, 0))) : (W.setCell ⟨P, i, none⟩ v).heap[P]? = some (.cells (cs.setIfInBounds i v) t (0, 0)) := heap_setCell_same _ P i _ _ _ h

set_option maxRecDepth 100000 in
set_option maxHeartbeats 4000000 in
theorem where_good (g : GateV) (rA : Option Addr) (rC : Nat) (rs : List Int) (w : World) (hok : g.Ok w) (hri : IntsAt w rA rs) (hc : (checkZ g).2.2 = 0) (hlen : rs.length = g.sens.length) :
    Calls Try.prog 29 #[g.val, .slice rA rs.length rC] w fun e w' => e = .returned (.tuple #[.agg #[.int .i64 (spanLo (whereL g rs)), .int .i64 (spanHi (whereL g rs))], .int .i64 (spanE (whereL g rs))]) ∧ Below w.heap.size w w' := by
  have h0 := WbW.new w g
  have H0 := Lib.hid h0
  have Hok := Lib.hid (fun W (h : Below w.heap.size w W) => hok.below h (Nat.le_refl _))
  have Hok0 := Lib.hid hok
  have Hri := Lib.hid hri
  have hsl := hok.sens.1
  unfold maxLen at hsl
  have Hc := Lib.hid hc
  have Hlen := Lib.hid hlen
  have hne : ((rs.length : Int) != (g.sens.length : Int)) = false := by simp [hlen]
  clear hok h0 hri hc hlen
  refine (callsIn_wide (n := 3)).1 (callsIn_of_wp_marks Try.func29 rfl trivial ?_ rfl)
  refine wpIn_wide.2 ?_
  simp only [Try.ntmps29, List.size_toArray, List.length_cons, List.length_nil, Nat.reduceAdd, Nat.reduceSub, Array.replicate_succ, Array.replicate_zero, List.push_toArray, List.append_toArray, List.nil_append, List.cons_append]
  go_wp2_with (first
    | (with_reducible show wpList _ _ _ (({ dst := _, op := .load 33 (.tmp 2), type := _, pos := _, after := _, guard := none } : Oper) :: _) _ _; refine wpList_load_gate H0.out.gate rfl (.tmp 2) rfl rfl ?_)
    | (with_reducible show wpList _ _ _ (({ dst := _, op := .load 33 (.tmp 2), type := _, pos := _, after := _, guard := none } : Oper) :: _) _ _; refine wpList_load_gate (GateIn.set (GateIn.set g0 (by omega)) (by omega)) rfl (.tmp 2) rfl rfl ?_)
    | (go_at_call 83; refine (agreed_make g rA rs.length rC _).mono ?_; rintro e w2 ⟨rfl, rfl⟩)
    | (go_at_call 22; refine (check_any g _ (Hok.out _ H0.out.below)).mono ?_; rintro e w1 ⟨rfl, hb1⟩; rw [Hc.out]; have B1 := H0.out.call hb1; have g0 := B1.gate; have HB := Lib.hid B1; have s0 := (cell_of_row _ _ 0 _ _ _ B1.sp).trans rfl; have s1 := (cell_of_row _ _ 1 _ _ _ B1.sp).trans rfl; have e0 := (cell_of_row _ _ 0 _ _ _ B1.er).trans rfl; have sf0 := frozen_of_row _ _ 0 _ _ B1.sp; have sf1 := frozen_of_row _ _ 1 _ _ B1.sp; have ef0 := frozen_of_row _ _ 0 _ _ B1.er; have g19 : w1.cell? ⟨w.heap.size, 19, none⟩ = some (.slice g.senA g.sens.length g.senC) := B1.gate.cell 19 _ rfl; have lt := B1.lt; clear B1 hb1))
  clear s0 s1 e0 sf0 sf1 ef0 g19 g0
  have hWb := HB.out.below
  have hsz := hWb.size
  obtain ⟨WX, hWX⟩ : ∃ WX, WX = (((w1.setCell ⟨w.heap.size + 1 + 1, 0, none⟩ (.int .i64 0)).setCell ⟨w.heap.size + 1 + 1, 0, none⟩ (.int .i64 9)).alloc (.cells g.cells 33)).alloc (.cells #[.slice rA rs.length rC] 30) := ⟨_, rfl⟩
  have hXs : WX.heap.size = w1.heap.size + 1 + 1 := by rw [hWX]; simp
  have hXb : Below w.heap.size w WX := by
    rw [hWX]
    exact (((hWb.setCell (p := ⟨w.heap.size + 1 + 1, 0, none⟩) (by simp; omega) _).setCell (p := ⟨w.heap.size + 1 + 1, 0, none⟩) (by simp; omega) _).alloc (by simp; omega) _).alloc (by simp; omega) _
  have hXg : GateIn WX w1.heap.size g := by
    rw [hWX]
    exact ⟨by simp; omega, blk_old (blk_new (by simp))⟩
  have hXr : WX.heap[w1.heap.size + 1]? = some (.cells #[.slice rA rs.length rC] 30 (0, 0)) := by
    rw [hWX]; exact blk_new (by simp)
  have hX1 : WX.heap[w.heap.size + 1]? = some (.cells #[.int .i64 0, .int .i64 0] 53 (0, 0)) := by
    rw [hWX]; exact blk_old (blk_old (blk_set_other (by omega) (blk_set_other (by omega) HB.out.sp)))
  have hX2 : WX.heap[w.heap.size + 1 + 1]? = some (.cells #[.int .i64 9] 26 (0, 0)) := by
    rw [hWX]; exact blk_old (blk_old (blk_setin (blk_setin HB.out.er)))
  simp only [← hWX]
  refine wpIn_wide.1 (wpIn_rangeFunc_ownF rfl (by omega) (gf := 102) (lb := #[.pointer (some ⟨w1.heap.size, 0, none⟩), .pointer (some ⟨w1.heap.size + 1, 0, none⟩)]) rfl trivial (enters_of Try.func102 (by kernel_rfl) rfl)
    (agreed_stops g rA rC rs (3 - 1) w1.heap.size (by omega) w WX Hc.out Hlen.out Hok0.out Hri.out ⟨hXb, hXg, hXr⟩ w.heap.size (Nat.le_refl _)) (fun h k => h.trans k) (AgK.putObj (by omega) (by omega)) (Below.refl _ _) (fun _ => rfl)
    (fun pre W => (W.heap[w.heap.size + 1]? = some (.cells #[.int .i64 (spanLo pre), .int .i64 (spanHi pre)] 53 (0, 0)) ∧ W.heap[w.heap.size + 1 + 1]? = some (.cells #[.int .i64 (spanE pre)] 26 (0, 0))) ∧ Below w.heap.size w W)
    (fun _ _ _ => False)
    (OwnFrom.and (OwnFrom.and (ownFrom_blk (fun pre => #[.int .i64 (spanLo pre), .int .i64 (spanHi pre)]) (by omega)) (ownFrom_blk (fun pre => #[.int .i64 (spanE pre)]) (by omega))) (ownFrom_below (Nat.le_refl _) (by omega)))
    (fun _ _ _ _ _ hs _ _ => hs)
    ⟨⟨hX1, hX2⟩, hXb⟩
    (fun x => { tmps := #[g.val, .slice rA rs.length rC, .pointer (some ⟨w.heap.size, 0, none⟩), undef, .pointer (some ⟨w.heap.size + 1, 0, none⟩), .pointer (some ⟨w.heap.size + 1 + 1, 0, none⟩), .int .i64 x, .tuple #[.int .i64 (checkZ g).1, .int .i64 (checkZ g).2.1, .int .i64 0], g.val, .tuple #[.int .i64 (checkZ g).1, .int .i64 (checkZ g).2.1, .int .i64 0], .int .i64 (checkZ g).1, .int .i64 (checkZ g).2.1, .int .i64 0, .int .i64 0, .bool false, undef, undef, .slice rA rs.length rC, .int .i64 (rs.length : Int), .pointer (some ⟨w.heap.size, 19, none⟩), .slice g.senA g.sens.length g.senC, .int .i64 (g.sens.length : Int), .bool false, undef, g.val, .slice rA rs.length rC, .func (.func 102) #[] #[.pointer (some ⟨w1.heap.size, 0, none⟩), .pointer (some ⟨w1.heap.size + 1, 0, none⟩)], .int .i64 x, undef, undef, undef, undef, undef, undef, undef, undef], defers := [] }) ?assign ?body ?done ?stop)
  case assign =>
    intro l x W K hK
    gi_wp2
    exact hK
  case body =>
    rintro l pre x W ⟨⟨hs, he⟩, hB⟩ _
    have HS := Lib.hid hs
    have HE := Lib.hid he
    have HBb := Lib.hid hB
    have e0 := blk_cell he 0 _ rfl
    have ef0 := frozen_of_row _ _ 0 _ _ he
    have s0 := blk_cell hs 0 _ rfl
    have s1 := blk_cell hs 1 _ rfl
    have sf0 := frozen_of_row _ _ 0 _ _ hs
    have sf1 := frozen_of_row _ _ 1 _ _ hs
    have hz : w.heap.size + 1 + 1 < W.heap.size := (Array.getElem?_eq_some_iff.1 he).1
    clear hs he hB
    cases pre with
    | nil =>
      have e0 : W.cell? ⟨w.heap.size + 1 + 1, 0, none⟩ = some (.int .i64 9) := e0
      gi_wp2
      exact ⟨((KeepsOthers.setCell _ _ _).trans (KeepsOthers.setCell _ _ _)).trans (KeepsOthers.setCell _ _ _), (((AgK.refl _ _ _).set (by omega) (by omega) (by omega)).set (by omega) (by omega) (by omega)).set (by omega) (by omega) (by omega), ⟨blk_setin (blk_set_other (by omega) (blk_setin HS.out)), blk_set_other (by omega) (blk_setin (blk_set_other (by omega) HE.out))⟩, bset (bset (bset HBb.out (by omega)) (by omega)) (by omega)⟩
    | cons y pre =>
      have e0 : W.cell? ⟨w.heap.size + 1 + 1, 0, none⟩ = some (.int .i64 0) := e0
      gi_wp2
      refine ⟨KeepsOthers.setCell _ _ _, (AgK.refl _ _ _).set (by omega) (by omega) (by omega), ⟨?_, ?_⟩, bset HBb.out (by omega)⟩
      · have := blk_setin (i := 1) (v := .int .i64 x) HS.out
        rw [spanLo_snoc, spanHi_snoc]
        exact this
      · rw [spanE_snoc]
        exact blk_set_other (by omega) HE.out
  case done =>
    rintro D ys W hD rfl ⟨⟨hs, he⟩, hB⟩ hK
    have HS := Lib.hid hs
    have HE := Lib.hid he
    have HBb := Lib.hid hB
    have HK := Lib.hid hK
    have e0 := blk_cell he 0 _ rfl
    have ef0 := frozen_of_row _ _ 0 _ _ he
    have s0 := blk_cell hs 0 _ rfl
    have s1 := blk_cell hs 1 _ rfl
    have sf0 := frozen_of_row _ _ 0 _ _ hs
    have sf1 := frozen_of_row _ _ 1 _ _ hs
    have hz : w.heap.size + 1 + 1 < W.heap.size := (Array.getElem?_eq_some_iff.1 he).1
    clear hs he hB hK
    go_wp2
    go_region
    all_goals
      go_wp2
      refine leaves_gen (fun V hV => ?_)
      have b1 : V.heap[w.heap.size + 1]? = some (.cells #[.int .i64 (spanLo (whereL g rs)), .int .i64 (spanHi (whereL g rs))] 53 (0, 0)) := by
        rw [hV]
        first
          | exact blk_drew (blk_set_other (by omega) (blk_setin (blk_setin HS.out)))
          | exact blk_drew (blk_setin (blk_setin (blk_set_other (by omega) HS.out)))
      have b2 : V.heap[w.heap.size + 1 + 1]? = some (.cells #[.int .i64 (spanE (whereL g rs))] 26 (0, 0)) := by
        rw [hV]
        first
          | exact blk_drew (blk_setin (blk_set_other (by omega) (blk_set_other (by omega) HE.out)))
          | exact blk_drew (blk_set_other (by omega) (blk_set_other (by omega) (blk_setin HE.out)))
      have bD : V.heap[D]? = some (.deferred (some [])) := by rw [hV]; exact dq_drew (dq_set (dq_set (dq_set HK.out)))
      have bB : Below w.heap.size w V := by rw [hV]; exact (bset (bset (bset HBb.out (by omega)) (by omega)) (by omega)).drew
      clear hV
      have hD2 : w.heap.size + 1 + 1 < D := by omega
      have c1 := (World.putObj_heap_other (r := D) (o := .deferred none) (w := V) (show w.heap.size + 1 ≠ D by omega)).trans b1
      have c2 := (World.putObj_heap_other (r := D) (o := .deferred none) (w := V) (show w.heap.size + 1 + 1 ≠ D by omega)).trans b2
      have d0 := blk_cell c1 0 _ rfl
      have d1 := blk_cell c1 1 _ rfl
      have d2 := blk_cell c2 0 _ rfl
      refine ⟨by simp, .inl ⟨_, _, rfl, run_takeDeferred bD, ?_⟩⟩
      refine ⟨.tuple #[.agg #[.int .i64 (spanLo (whereL g rs)), .int .i64 (spanHi (whereL g rs))], .int .i64 (spanE (whereL g rs))], ?_, rfl, bB.trans (belowK_b (w := WX) (by omega) V D _ _ hD bD rfl rfl)⟩
      simp [results, Try.results29, go_sem, d0, d1, d2]
  case stop =>
    rintro D c pre W _ _ h _
    exact h.elim

theorem whereE_good {g : GateV} {rs : List Int} (hc : (checkZ g).2.2 = 0) (hl : rs.length = g.sens.length) : whereE g rs = spanE (whereL g rs) := by
  rw [whereE, if_neg (by simp [hc]), if_neg (by simp [hl])]
theorem where_span {g : GateV} {rs : List Int} (hc : (checkZ g).2.2 = 0) (hl : rs.length = g.sens.length) : whereLo g rs = spanLo (whereL g rs) ∧ whereHi g rs = spanHi (whereL g rs) := by
  rw [whereLo, whereHi, whereE_good hc hl]
  cases h : whereL g rs with
  | nil => simp [spanLo, spanHi, spanE]
  | cons x l => simp [spanE]
theorem where_any (g : GateV) (rA : Option Addr) (rC : Nat) (rs : List Int) (w : World) (hok : g.Ok w) (hri : IntsAt w rA rs) :
    Calls Try.prog 29 #[g.val, .slice rA rs.length rC] w fun e w' => e = .returned (.tuple #[.agg #[.int .i64 (whereLo g rs), .int .i64 (whereHi g rs)], .int .i64 (whereE g rs)]) ∧ Below w.heap.size w w' := by
  by_cases hc : (checkZ g).2.2 = 0
  · by_cases hl : rs.length = g.sens.length
    · rw [(where_span hc hl).1, (where_span hc hl).2, whereE_good hc hl]
      exact where_good g rA rC rs w hok hri hc hl
    · have he : whereE g rs = 2 := by rw [whereE, if_neg (by simp [hc]), if_pos hl]
      rw [whereLo, whereHi, he, if_neg (by omega), if_neg (by omega), ← show whereBad g = 2 by rw [whereBad, if_neg (by simp [hc])]]
      exact where_bad g rA rs.length rC w hok hri.1 (.inr hl)
  · have he : whereE g rs = (checkZ g).2.2 := by rw [whereE, if_pos hc]
    rw [whereLo, whereHi, he, if_neg hc, if_neg hc, ← show whereBad g = (checkZ g).2.2 by rw [whereBad, if_pos hc]]
    exact where_bad g rA rs.length rC w hok hri.1 (.inl hc)

/-- What Sure returns. -/
def sureV (g : GateV) (rs : List Int) : Int := if whereE g rs ≠ 0 then 0 else if whereHi g rs ≤ g.slack then 1 else if g.travel - g.slack ≤ whereLo g rs then 2 else 0
end Go.Proofs.Ythalanpmfhhhnaa
