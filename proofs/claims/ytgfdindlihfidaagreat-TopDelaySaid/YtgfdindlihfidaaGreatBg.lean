/-
  closure.begin: what it returns of any task: an error, or a game of the task.
-/
import Derived.Test.YtgfdindlihfidaaGreatCc
import Derived.Test.YtgfdindlihfidaaGreatBw
import Derived.Test.YtgfdindlihfidaaGreatTh
import Derived.Test.YtgfdindlihfidaaGreatZf
import Derived.Deep.RegionHeld3
import Derived.Test.YtgfdindlihfidaaGreatQr
import Derived.BigRegionIn
namespace Go.Proofs.YtgfdindlihfidaaGreat
open Go.RowKit Go.Shelf
set_option linter.unusedSimpArgs false
set_option linter.unusedVariables false
attribute [local go_sem] Oper.semAt_some
attribute [local go_sem high] run_min_z run_max_z
attribute [local go_sem ↓] run_min_z run_max_z

/-- One more than the last index below k with a value above the limit; 0 if there is none. -/
def qUpto (limit : Int) (vals : List Int) : Nat → Nat
  | 0 => 0
  | k + 1 => if limit < (vals[k]?).getD 0 then k + 1 else qUpto limit vals k
def qSer (limit : Int) (vals : List Int) : Nat := qUpto limit vals vals.length
theorem qUpto_le (limit : Int) (vals : List Int) : ∀ k, qUpto limit vals k ≤ k
  | 0 => Nat.le_refl _
  | k + 1 => by
    rw [qUpto]
    split
    · exact Nat.le_refl _
    · exact Nat.le_succ_of_le (qUpto_le limit vals k)
theorem qUpto_seen {limit : Int} {vals : List Int} : ∀ {m : Nat}, m ≤ vals.length → (∀ y ∈ seen vals.length m, ¬ limit < vals[y]) → qSer limit vals = qUpto limit vals (vals.length - m)
  | 0, _, _ => rfl
  | m + 1, hm, h => by
    rw [seen_succ (by omega)] at h
    rw [qUpto_seen (m := m) (by omega) (fun y hy => h y (List.mem_append_left _ hy))]
    have hx := h ⟨vals.length - 1 - m, by omega⟩ (List.mem_append_right _ (by simp))
    rw [show vals.length - m = (vals.length - (m + 1)) + 1 by omega, qUpto, if_neg]
    have e : vals.length - 1 - m = vals.length - (m + 1) := by omega
    rw [List.getElem?_eq_getElem (by omega), Option.getD_some]
    simp only [Fin.getElem_fin, e] at hx
    exact hx
theorem qUpto_stop {limit : Int} {vals : List Int} {m : Nat} {pre : List (Fin vals.length)} {x : Fin vals.length} (hm : m ≤ vals.length) (he : pre ++ [x] = seen vals.length m) (h : ∀ y ∈ pre, ¬ limit < vals[y]) (hx : limit < vals[x]) : qSer limit vals = x.val + 1 := by
  obtain ⟨k, hk, rfl, rfl, hxv⟩ := seen_snoc hm he
  rw [qUpto_seen (m := k) (by omega) h, show vals.length - k = x.val + 1 by omega, qUpto, if_pos]
  rw [List.getElem?_eq_getElem x.isLt, Option.getD_some]
  exact hx

/-- The index from which on no history is above the limit. -/
def quietOf (limit : Int) (l : List SerV) : Nat := l.foldl (fun q h => max q (qSer limit h.vals)) 0
theorem quietOf_snoc (limit : Int) (l : List SerV) (h : SerV) : quietOf limit (l ++ [h]) = max (quietOf limit l) (qSer limit h.vals) := by
  unfold quietOf
  rw [List.foldl_append]
  rfl
theorem quietOf_take (limit : Int) (l : List SerV) {k : Nat} (h : k < l.length) : quietOf limit (l.take (k + 1)) = max (quietOf limit (l.take k)) (qSer limit l[k].vals) := by
  rw [List.take_succ_eq_append_getElem h, quietOf_snoc]

/-- The cells of a game. -/
abbrev gameCells (t : TaskV) (f n q : Int) (M : Nat) : Array Value :=
  #[.slice t.bas.rA t.bas.rows.length t.bas.rC, .int .i64 t.bas.leak, .int .i64 t.bas.crest, .int .i64 t.bas.over, .slice t.bas.pA t.bas.pols.length t.bas.pC, .slice t.fA t.filled.length t.fC, .slice t.hA t.hists.length t.hC, .slice t.rA t.river.length t.rC, .int .i64 t.out, .int .i64 t.limit, .int .i64 t.delay, .int .i64 f, .int .i64 n, .int .i64 q, .map (some M)]
/-- The game of a task lies at a block, its cache at another. -/
structure GameAt (W : World) (t : TaskV) (f q : Int) (G M : Nat) : Prop where
  blk : W.heap[G]? = some (.cells (gameCells t f t.river.length q M) 82 (0, 0))
theorem GameAt.lt {W : World} {t : TaskV} {f q : Int} {G M : Nat} (h : GameAt W t f q G M) : G < W.heap.size := (Array.getElem?_eq_some_iff.1 h.blk).1
theorem GameAt.call {W W' : World} {t : TaskV} {f q : Int} {G M : Nat} (h : GameAt W t f q G M) (hb : Below W.heap.size W W') : GameAt W' t f q G M := ⟨blk_below hb h.blk⟩
theorem GameAt.cell {W : World} {t : TaskV} {f q : Int} {G M : Nat} (h : GameAt W t f q G M) (k : Nat) (v : Value) (hv : (gameCells t f t.river.length q M)[k]? = some v) : W.cell? ⟨G, k, none⟩ = some v := by
  rw [cell_of_row W _ k _ _ _ h.blk, hv]

/-- What begin returns. -/
def BegOut (t : TaskV) (w : World) (e : Ending) (w' : World) : Prop :=
  Below w.heap.size w w' ∧ ((∃ er : Int, er ≠ 0 ∧ e = .returned (.tuple #[.pointer none, .int .i64 er]) ∧ ¬ t.Good) ∨
    (∃ (G M : Nat) (f : Int), e = .returned (.tuple #[.pointer (some ⟨G, 0, none⟩), .int .i64 0]) ∧ t.Fit ∧ (∀ h : 0 < t.hists.length, f = t.hists[0].from_) ∧ w.heap.size ≤ G ∧ w.heap.size ≤ M ∧ G ≠ M ∧
      GameAt w' t f (quietOf t.limit t.hists) G M ∧ w'.heap[M]? = some (.map #[] 0)))

/-- The state of the walk behind the game's making. -/
structure BgW (w : World) (t : TaskV) (f q : Int) (P G M : Nat) (W : World) : Prop where
  tk : TkW w t W
  ptr : W.heap[P]? = some (.cells #[.pointer (some ⟨G, 0, none⟩)] 76 (0, 0))
  game : GameAt W t f q G M
  mp : W.heap[M]? = some (.map #[] 0)
  pP : w.heap.size < P
  pG : w.heap.size < G
  pM : w.heap.size < M
  ne : P ≠ G ∧ P ≠ M ∧ G ≠ M

theorem bgw1 {w w1 : World} {t : TaskV} {f : Int} (h : TkW w t w1) : BgW w t f 0 (w1.heap.size + 1 + 1) (w1.heap.size + 1) w1.heap.size
    (((w1.alloc (.map #[] 0)).alloc (.cells (gameCells t f t.river.length 0 w1.heap.size) 82)).alloc (.cells #[.pointer (some ⟨w1.heap.size + 1, 0, none⟩)] 76)).drew := by
  have := h.lt
  exact ⟨(((h.alloc _).alloc _).alloc _).drewN 1, blk_drew (blk_new (by simp)), ⟨blk_drew (blk_old (blk_new (by simp)))⟩, blk_drew (blk_old (blk_old (World.alloc_heap_new _ _))), by omega, by omega, by omega, by omega, by omega, by omega⟩
theorem bgw2 {w w1 : World} {t : TaskV} {f : Int} (h : TkW w t w1) : BgW w t f 0 (w1.heap.size + 1) (w1.heap.size + 1 + 1) w1.heap.size
    (((w1.alloc (.map #[] 0)).alloc (.cells #[.pointer (some ⟨w1.heap.size + 1 + 1, 0, none⟩)] 76)).alloc (.cells (gameCells t f t.river.length 0 w1.heap.size) 82)).drew := by
  have := h.lt
  exact ⟨(((h.alloc _).alloc _).alloc _).drewN 1, blk_drew (blk_old (blk_new (by simp))), ⟨blk_drew (blk_new (by simp))⟩, blk_drew (blk_old (blk_old (World.alloc_heap_new _ _))), by omega, by omega, by omega, by omega, by omega, by omega⟩
theorem bgw3 {w w1 : World} {t : TaskV} {f : Int} (h : TkW w t w1) : BgW w t f 0 w1.heap.size (w1.heap.size + 1 + 1) (w1.heap.size + 1)
    (((w1.alloc (.cells #[.pointer (some ⟨w1.heap.size + 1 + 1, 0, none⟩)] 76)).alloc (.map #[] 0)).alloc (.cells (gameCells t f t.river.length 0 (w1.heap.size + 1)) 82)).drew := by
  have := h.lt
  exact ⟨(((h.alloc _).alloc _).alloc _).drewN 1, blk_drew (blk_old (blk_old (blk_new rfl))), ⟨blk_drew (blk_new (by simp))⟩, blk_drew (blk_old (by have := World.alloc_heap_new (w1.alloc (.cells #[.pointer (some ⟨w1.heap.size + 1 + 1, 0, none⟩)] 76)) (.map #[] 0); rwa [World.size_alloc] at this)), by omega, by omega, by omega, by omega, by omega, by omega⟩

/-- The marks of the loops over functions that were entered. -/
abbrev marks (ds : List Nat) : List Deferred := ds.map fun D => { target := .collected D, args := #[] }
/-- Each mark's block lies open. -/
def MarksIn (w : World) (ds : List Nat) (W : World) : Prop := ds.Nodup ∧ ∀ D ∈ ds, w.heap.size < D ∧ W.heap[D]? = some (.deferred (some []))
theorem MarksIn.nil {w W : World} : MarksIn w [] W := ⟨List.nodup_nil, fun _ h => by cases h⟩

theorem MarksIn.call {w W W' : World} {ds : List Nat} (h : MarksIn w ds W) (hb : Below W.heap.size W W') : MarksIn w ds W' := ⟨h.1, fun D hD => ⟨(h.2 D hD).1, blk_below hb (h.2 D hD).2⟩⟩
theorem BgW.call {w W W' : World} {t : TaskV} {f q : Int} {P G M : Nat} (h : BgW w t f q P G M W) (hb : Below W.heap.size W W') : BgW w t f q P G M W' :=
  ⟨h.tk.call hb, blk_below hb h.ptr, h.game.call hb, blk_below hb h.mp, h.pP, h.pG, h.pM, h.ne⟩
theorem BgW.ltP {w W : World} {t : TaskV} {f q : Int} {P G M : Nat} (h : BgW w t f q P G M W) : P < W.heap.size := (Array.getElem?_eq_some_iff.1 h.ptr).1
theorem BgW.ltG {w W : World} {t : TaskV} {f q : Int} {P G M : Nat} (h : BgW w t f q P G M W) : G < W.heap.size := h.game.lt
theorem BgW.ltM {w W : World} {t : TaskV} {f q : Int} {P G M : Nat} (h : BgW w t f q P G M W) : M < W.heap.size := (Array.getElem?_eq_some_iff.1 h.mp).1
/-- What the rounds over one history keep. -/
structure BgI (w : World) (t : TaskV) (f q : Int) (P G M : Nat) (ds : List Nat) (H : Nat) (z : SerV) (W : World) : Prop where
  bg : BgW w t f q P G M W
  mks : MarksIn w ds W
  ser : W.heap[H]? = some (.cells z.cells 106 (0, 0))
theorem blk_grownB {W W' : World} {row : Option Nat} {B X : Nat} {o : Obj} (h : W.heap[X]? = some o) (hg : W.grownBy W' row) (hr : ∀ r, row = some r → B ≤ r) (hX : X < B) : W'.heap[X]? = some o :=
  (hg.block X (Array.getElem?_eq_some_iff.1 h).1 (fun e => by have := hr X e.symm; omega)).trans h
theorem BgI.grown {w W W' : World} {t : TaskV} {f q : Int} {P G M H B : Nat} {ds : List Nat} {z : SerV} {row : Option Nat} (h : BgI w t f q P G M ds H z W) (hg : W.grownBy W' row) (hr : ∀ r, row = some r → B ≤ r)
    (h0 : w.heap.size < B) (hP : P < B) (hG : G < B) (hM : M < B) (hH : H < B) (hd : ∀ D ∈ ds, D < B) : BgI w t f q P G M ds H z W' :=
  ⟨⟨⟨h.bg.tk.below.grown hg h.bg.tk.below.size (fun k e => by have := hr k e; omega), blk_grownB h.bg.tk.blk hg hr h0⟩, blk_grownB h.bg.ptr hg hr hP, ⟨blk_grownB h.bg.game.blk hg hr hG⟩, blk_grownB h.bg.mp hg hr hM, h.bg.pP, h.bg.pG, h.bg.pM, h.bg.ne⟩,
    ⟨h.mks.1, fun D hD => ⟨(h.mks.2 D hD).1, blk_grownB (h.mks.2 D hD).2 hg hr (hd D hD)⟩⟩, blk_grownB h.ser hg hr hH⟩

theorem keeps_drewN (W : World) (n : Nat) : KeepsOthers W (W.drewN n) := ⟨Nat.le_refl _, fun _ _ h _ => h⟩
theorem BgI.call {w W W' : World} {t : TaskV} {f q : Int} {P G M H : Nat} {ds : List Nat} {z : SerV} (h : BgI w t f q P G M ds H z W) (hb : Below W.heap.size W W') : BgI w t f q P G M ds H z W' :=
  ⟨h.bg.call hb, h.mks.call hb, blk_below hb h.ser⟩
theorem MarksIn.cons {w W : World} {ds : List Nat} {D : Nat} (h : MarksIn w ds W) (hD : w.heap.size < D) (hn : D ∉ ds) (hK : W.heap[D]? = some (.deferred (some []))) : MarksIn w (D :: ds) W :=
  ⟨List.nodup_cons.2 ⟨hn, h.1⟩, fun X hX => by
    rcases List.mem_cons.1 hX with rfl | hX
    · exact ⟨hD, hK⟩
    · exact h.2 X hX⟩
theorem dq_setB {W : World} {D : Nat} {x : Option (List Deferred)} {a : Addr} {v : Value} (h : W.heap[D]? = some (.deferred x)) : (W.setCell a v).heap[D]? = some (.deferred x) := (KeepsOthers.setCell W a v).same D _ h rfl
theorem BgI.quiet {w W : World} {t : TaskV} {f q : Int} {P G M H : Nat} {ds : List Nat} {z : SerV} (h : BgI w t f q P G M ds H z W) (hH : H ≠ G) (q' : Nat) :
    BgI w t f q' P G M ds H z (W.setCell ⟨G, 13, none⟩ (.int .i64 (q' : Int))) :=
  ⟨⟨⟨h.bg.tk.below.setCell (by have := h.bg.pG; simp; omega) _, blk_set_other (by have := h.bg.pG; omega) h.bg.tk.blk⟩, blk_set_other h.bg.ne.1 h.bg.ptr,
      ⟨(heap_setCell_same _ _ 13 _ _ _ h.bg.game.blk).trans rfl⟩, (Below.heap_setCell _ _ _ _ (by exact fun e => h.bg.ne.2.2 e.symm)).trans h.bg.mp, h.bg.pP, h.bg.pG, h.bg.pM, h.bg.ne⟩,
    ⟨h.mks.1, fun D hD => ⟨(h.mks.2 D hD).1, dq_setB (h.mks.2 D hD).2⟩⟩, blk_set_other hH h.ser⟩
theorem blk_putB {W : World} {D X : Nat} {o o' : Obj} {x : Option (List Deferred)} (h : W.heap[X]? = some o) (hD : W.heap[D]? = some (.deferred x)) (ho : ∀ x, o ≠ .deferred x) : (W.putObj D o').heap[X]? = some o :=
  (World.putObj_heap_other (fun e => by rw [e, hD] at h; exact ho _ (Option.some.inj h).symm)).trans h
theorem BgW.put {w W : World} {t : TaskV} {f q : Int} {P G M D : Nat} (h : BgW w t f q P G M W) (hw : w.heap.size < D) (hD : W.heap[D]? = some (.deferred (some []))) : BgW w t f q P G M (W.putObj D (.deferred none)) :=
  ⟨⟨h.tk.below.trans ((Below.refl _ W).grown (grownBy_putObj' W D _) h.tk.below.size (fun k e => by cases e; omega)), blk_putB h.tk.blk hD (fun _ e => by cases e)⟩, blk_putB h.ptr hD (fun _ e => by cases e), ⟨blk_putB h.game.blk hD (fun _ e => by cases e)⟩, blk_putB h.mp hD (fun _ e => by cases e), h.pP, h.pG, h.pM, h.ne⟩
/-- The frame's way out past the marks. -/
theorem leaves_marks {F : Fence} {n : Nat} {P : Program} {fn : Func} {tmps : Array Value} {R : Ending → World → Prop} {u : FrameMode} (K : World → Prop) (hu : u ≠ .run) : ∀ (ds : List Nat) (W : World), ds.Nodup → (∀ D ∈ ds, W.heap[D]? = some (.deferred (some []))) → K W →
    (∀ V D, D ∈ ds → V.heap[D]? = some (.deferred (some [])) → K V → K (V.putObj D (.deferred none))) → (∀ V, K V → LeavesInM F n P fn tmps R [] u V) → LeavesInM F n P fn tmps R (marks ds) u W
  | [], W, _, _, hK, _, h => h W hK
  | D :: ds, W, hd, hm, hK, hp, h => by
    have hD := hm D (List.mem_cons_self ..)
    refine ⟨hu, .inl ⟨D, _, rfl, run_takeDeferred hD, ?_⟩⟩
    obtain ⟨h1, h2⟩ := List.nodup_cons.1 hd
    exact leaves_marks K hu ds _ h2 (fun X hX => (World.putObj_heap_other (by intro e; subst e; exact h1 hX)).trans (hm X (List.mem_cons_of_mem _ hX))) (hp W D (List.mem_cons_self ..) hD hK) (fun V X hX => hp V X (List.mem_cons_of_mem _ hX)) h

def taskLoad (v : Value) : Sem Value := Instr.loadAt 36 v
theorem loadAt_task (v : Value) : Instr.loadAt 36 v = taskLoad v := rfl
/-- A task lies in block B. -/
def IsTask (W : World) (B : Nat) : Prop := ∃ t : TaskV, W.heap[B]? = some (.cells t.cells 36 (0, 0))
theorem rowOf_task {W : World} {B : Nat} {t : TaskV} (h : W.heap[B]? = some (.cells t.cells 36 (0, 0))) : rowOf W B = t.val := by rw [rowOf, h]
theorem A.taskSize : (Tryz.prog.info? 36).map (·.size) = some 11 := by kernel_rfl
theorem run_taskLoad {W : World} {B : Nat} (h : IsTask W B) : (taskLoad (.pointer (some ⟨B, 0, none⟩))).run Tryz.prog W = .ok (rowOf W B) W := by
  obtain ⟨t, ht⟩ := h
  rw [rowOf_task ht]
  exact run_loadAt_mid W B 0 36 t.cells.toList _ (rangeAt_row ht) Tryz.underlying36 rfl A.taskSize
attribute [local go_sem ↓] loadAt_task
attribute [local go_sem] run_taskLoad

set_option maxRecDepth 100000 in
set_option maxHeartbeats 4000000 in
theorem begin_any (t : TaskV) (w : World) (hok : t.Ok w) :
    Calls Tryz.prog 17 #[t.val] w (BegOut t w) := by
  have Hok := Lib.hid hok
  have K0 := Lib.hid (TkW.new w t)
  have Hok1 := Lib.hid (hok.below K0.out.below (Nat.le_refl _))
  have hhm := hok.hists.1
  have hvm := hok.river.1
  unfold maxLen at hhm hvm
  clear hok
  refine (callsIn_wide (n := 3)).1 (callsIn_of_wp_marks Tryz.func17 rfl trivial ?_ rfl)
  refine wpIn_wide.2 ?_
  simp only [Tryz.ntmps17, List.size_toArray, List.length_cons, List.length_nil, Nat.reduceAdd, Nat.reduceSub, Array.replicate_succ, Array.replicate_zero, List.push_toArray, List.append_toArray, List.nil_append, List.cons_append]
  have it0 : IsTask (w.alloc (.cells t.cells 36)) w.heap.size := ⟨t, K0.out.blk⟩
  have ir0 := rowOf_task K0.out.blk
  go_wp2_with fail
  clear it0 ir0
  refine (ccheck_any t _ Hok1.out).mono ?_
  rintro e w1 ⟨p, a, er, rfl, hr, hg, hb1⟩
  have hk1 := K0.out.call hb1
  have HK1 := Lib.hid hk1
  have Hr := Lib.hid hr
  have Hg := Lib.hid hg
  clear hb1 hr hg Hok1 K0
  by_cases her : er = 0
  · subst her
    have hfit := Hr.out rfl
    have Hfit := Lib.hid hfit
    have hl := hfit.hist
    obtain ⟨hb, ho, hha, hhb, hhw⟩ := Hok.out.hists.row (k := 0) (by omega)
    have Hha := Lib.hid hha
    have Hhw := Lib.hid hhw
    have c2 : w1.cell? ⟨w.heap.size, 6, none⟩ = some (.slice (some ⟨hb, ho, none⟩) t.hists.length t.hC) := by rw [← hha]; exact hk1.cell 6 _ rfl
    have c3 : w1.cell? ⟨w.heap.size, 7, none⟩ = some (.slice t.rA t.river.length t.rC) := hk1.cell 7 _ rfl
    obtain ⟨x0, x1⟩ := hhw 0 (by omega)
    simp only [Nat.zero_mul, Nat.add_zero] at x0 x1
    have d0 := (hk1.below.cell (p := ⟨hb, ho, none⟩) hhb).trans x0
    obtain ⟨f, hf⟩ : ∃ f, f = t.hists[0].from_ := ⟨_, rfl⟩
    rw [← hf] at d0
    have Hf := Lib.hid hf
    have i0 : (0 : Int) < (t.hists.length : Int) := by omega
    have i0n : 0 < t.hists.length := by omega
    have i0m : ¬ t.hists.length = 0 := by omega
    have lt1 := hk1.lt
    have lt2 : hb < w1.heap.size := by omega
    clear hfit hhw x0 x1 hha hf
    have hmm := @run_makeMap Tryz.prog
    go_wp2_with fail
    go_cut [7] from 20 (fun p wx => ∃ P G M : Nat, p = .pointer (some ⟨P, 0, none⟩) ∧ BgW w t f 0 P G M wx)
    case first =>
      have hi : ∀ W, TgS w1 W → IsTask W w.heap.size := fun W h => ⟨t, blk_below h.below HK1.out.blk⟩
      have hr2 : ∀ W, TgS w1 W → rowOf W w.heap.size = t.val := fun W h => rowOf_task (blk_below h.below HK1.out.blk)
      have hc2 : ∀ W, TgS w1 W → W.cell? ⟨w.heap.size, 6, none⟩ = some (.slice (some ⟨hb, ho, none⟩) t.hists.length t.hC) := fun W h => (h.below.cell (p := ⟨w.heap.size, 6, none⟩) lt1).trans c2
      have hc3 : ∀ W, TgS w1 W → W.cell? ⟨w.heap.size, 7, none⟩ = some (.slice t.rA t.river.length t.rC) := fun W h => (h.below.cell (p := ⟨w.heap.size, 7, none⟩) lt1).trans c3
      have hd0 : ∀ W, TgS w1 W → W.cell? ⟨hb, ho, none⟩ = some (.int .i64 f) := fun W h => (h.below.cell (p := ⟨hb, ho, none⟩) lt2).trans d0
      have T0 := TgS.new w1
      clear c2 c3 d0 hk1
      go_region_held3 (fun w' => TgS w1 w')
        (first
          | with_reducible assumption
          | with_reducible exact TgS.drew T0
          | ((repeat (first | with_reducible exact T0 | with_reducible refine TgS.drew ?_ | with_reducible assumption | with_reducible refine TgS.alloc ?_ _ | with_reducible refine TgS.set ?_ (by omega) _)); done))
        (first | fail)
      all_goals
        go_wp2_with fail
        go_meet
        first
          | exact ⟨_, _, _, rfl, bgw1 HK1.out⟩
          | exact ⟨_, _, _, rfl, bgw2 HK1.out⟩
          | exact ⟨_, _, _, rfl, bgw3 HK1.out⟩
    case rest =>
      obtain ⟨P, G, M, rfl, hbg⟩ := hcut
      have Hbg := Lib.hid hbg
      have k6 : wc.cell? ⟨w.heap.size, 6, none⟩ = some (.slice (some ⟨hb, ho, none⟩) t.hists.length t.hC) := by rw [← Hha.out]; exact hbg.tk.cell 6 _ rfl
      have lt := hbg.tk.lt
      clear hbg hk1 c2 c3 d0 lt1 lt2
      go_wp2_with fail
      have hm := Hbg.out.tk.lt
      refine wp_loop (fun ac W => ∃ (k : Nat) (ds : List Nat) (s9 s35 s36 s37 s38 s39 s40 s41 s62 : Value), ac = { tmps := #[t.val, .pointer (some ⟨w.heap.size, 0, none⟩), .pointer none, .int .i64 0, .int .i64 p, .int .i64 a, .int .i64 0, .pointer (some ⟨P, 0, none⟩), undef, s9, undef, .tuple #[.int .i64 p, .int .i64 a, .int .i64 0], t.val, .tuple #[.int .i64 p, .int .i64 a, .int .i64 0], .int .i64 p, .int .i64 a, .int .i64 0, .int .i64 0, .bool false, undef, u20, u21, u22, u23, u24, u25, u26, u27, u28, u29, u30, u31, .pointer (some ⟨w.heap.size, 6, none⟩), .slice (some ⟨hb, ho, none⟩) t.hists.length t.hC, .int .i64 (t.hists.length : Int), s35, s36, s37, s38, s39, s40, s41, u42, u43, u44, u45, u46, u47, u48, u49, u50, u51, u52, u53, u54, u55, u56, u57, u58, u59, u60, u61, s62, u63], defers := marks ds } ∧ s35 = .int .i64 (k : Int) ∧ k ≤ t.hists.length ∧ BgW w t f (quietOf t.limit (t.hists.take k)) P G M W ∧ MarksIn w ds W)
        (fun ac _ => t.hists.length - (intOf (ac.tmps.getD 35 undef)).toNat) ⟨0, [], _, _, _, _, _, _, _, _, _, rfl, rfl, Nat.zero_le _, Hbg.out, MarksIn.nil⟩ ?_
      rintro a' wr ⟨k, ds, s9, s35, s36, s37, s38, s39, s40, s41, s62, rfl, rfl, hk, hbw, hmk⟩
      clear Hbg k6 hm lt
      have Hbw := Lib.hid hbw
      have Hmk := Lib.hid hmk
      clear hbw hmk
      by_cases hlt : k < t.hists.length
      · obtain ⟨x0, x1⟩ := Hhw.out k hlt
        have d0 := (Hbw.out.tk.below.cell (p := ⟨hb, ho + k * 2, none⟩) hhb).trans x0
        have d1 := (Hbw.out.tk.below.cell (p := ⟨hb, ho + k * 2 + 1, none⟩) hhb).trans x1
        have lt := Hbw.out.tk.lt
        have lt2 : hb < wr.heap.size := by omega
        have hvi : IntsAt w t.hists[k].vA t.hists[k].vals := Hok.out.hists.2.1 _ (List.getElem_mem hlt)
        have Hq := Lib.hid (quietOf_take t.limit t.hists hlt)
        have i1 : (k : Int) < (t.hists.length : Int) := by omega
        have i2 : (0 : Int) ≤ (k : Int) := by omega
        clear x0 x1
        revert d0 d1 hvi Hq
        generalize t.hists[k] = z
        intro d0 d1 hvi Hq
        have Hvi := Lib.hid hvi
        have hvm := hvi.1
        unfold maxLen at hvm
        clear hvi
        go_wp2_with (go_at_call 44; refine (backward_make _ _ _ _).mono ?_; rintro e w2 ⟨rfl, rfl⟩)
        have hbs := Hbw.out.tk.below.size
        obtain ⟨WX, hWX⟩ : ∃ WX, WX = (wr.alloc (.cells z.cells 106)).alloc (.cells #[.slice z.vA z.vals.length z.vC] 33) := ⟨_, rfl⟩
        have hXs : WX.heap.size = wr.heap.size + 2 := by rw [hWX]; simp
        have hXc : Below wr.heap.size wr WX := by rw [hWX]; exact ((Below.refl _ _).alloc (Nat.le_refl _) _).alloc (by simp) _
        have hXr : WX.heap[wr.heap.size + 1]? = some (.cells #[.slice z.vA z.vals.length z.vC] 33 (0, 0)) := by rw [hWX]; exact blk_new (by simp)
        have hXi : BgI w t f (quietOf t.limit (t.hists.take k)) P G M ds wr.heap.size z WX := ⟨Hbw.out.call hXc, Hmk.out.call hXc, by rw [hWX]; exact blk_old (blk_new rfl)⟩
        have hXb : Below w.heap.size w WX := hXi.bg.tk.below
        have HXi := Lib.hid hXi
        have hgP := Hbw.out.ltP
        have hgG := Hbw.out.ltG
        have hgM := Hbw.out.ltM
        simp only [← hWX]
        have hmd : ∀ D ∈ ds, D < WX.heap.size := fun D h => by have := (Hmk.out.2 D h).2; have := (Array.getElem?_eq_some_iff.1 this).1; omega
        clear hXi d0 d1
        refine wpIn_wide.1 (wpIn_rangeFunc_ownF rfl (by omega) (gf := 76) (lb := #[.pointer (some ⟨wr.heap.size + 1, 0, none⟩)]) rfl trivial (enters_of Tryz.func76 (by kernel_rfl) rfl)
          (backward_stops z.vA z.vC z.vals (3 - 1) (wr.heap.size + 1) (by omega) w WX Hvi.out ⟨hXb, hXr⟩ w.heap.size (Nat.le_refl _)) (fun h k => h.trans k) (BxK.putObj (by omega) (by omega)) (Below.refl _ _) (fun _ => rfl)
          (fun pre W => (∀ y ∈ pre, ¬ t.limit < z.vals[y]) ∧ BgI w t f (quietOf t.limit (t.hists.take k)) P G M ds wr.heap.size z W)
          (fun c pre W => (c = .exit 2 ∧ ∃ pre0 x, pre = pre0 ++ [x] ∧ (∀ y ∈ pre0, ¬ t.limit < z.vals[y]) ∧ t.limit < z.vals[x]) ∧ ∀ q, (∀ x : Fin z.vals.length, pre.getLast? = some x → q = max (quietOf t.limit (t.hists.take k)) (x.val + 1)) → BgI w t f q P G M ds wr.heap.size z W)
          (fun s W W' row hs hg hr => ⟨hs.1, hs.2.grown hg (fun r e => (hr r e).1) (by omega) (by omega) (by omega) (by omega) (by omega) hmd⟩)
          (fun c s W W' row hs hg hr => ⟨hs.1, fun q hq => (hs.2 q hq).grown hg (fun r e => (hr r e).1) (by omega) (by omega) (by omega) (by omega) (by omega) hmd⟩)
          ⟨fun _ h => (by cases h), HXi.out⟩
          (fun x => { tmps := #[t.val, .pointer (some ⟨w.heap.size, 0, none⟩), .pointer none, .int .i64 0, .int .i64 p, .int .i64 a, .int .i64 0, .pointer (some ⟨P, 0, none⟩), undef, .pointer (some ⟨wr.heap.size, 0, none⟩), .int .i64 (x.val : Int), .tuple #[.int .i64 p, .int .i64 a, .int .i64 0], t.val, .tuple #[.int .i64 p, .int .i64 a, .int .i64 0], .int .i64 p, .int .i64 a, .int .i64 0, .int .i64 0, .bool false, undef, u20, u21, u22, u23, u24, u25, u26, u27, u28, u29, u30, u31, .pointer (some ⟨w.heap.size, 6, none⟩), .slice (some ⟨hb, ho, none⟩) t.hists.length t.hC, .int .i64 (t.hists.length : Int), .int .i64 (k : Int), .bool true, .pointer (some ⟨hb, ho + k * 2, none⟩), .agg #[.int .i64 z.from_, .slice z.vA z.vals.length z.vC], .pointer (some ⟨wr.heap.size, 1, none⟩), .slice z.vA z.vals.length z.vC, .func (.func 76) #[] #[.pointer (some ⟨wr.heap.size + 1, 0, none⟩)], .int .i64 (x.val : Int), .int .i64 z.vals[x], u44, u45, u46, u47, u48, u49, u50, u51, u52, u53, u54, u55, u56, u57, u58, u59, u60, u61, s62, u63], defers := [] }) ?assign ?body ?done ?stop)
        case assign =>
          intro l x W K hK
          gi_wp2
          exact hK
        case body =>
          rintro l pre x W ⟨hp, hi⟩ hlen
          have Hp := Lib.hid hp
          have Hi := Lib.hid hi
          have e1 : W.cell? ⟨wr.heap.size, 1, none⟩ = some (.slice z.vA z.vals.length z.vC) := (cell_of_row _ _ 1 _ _ _ hi.ser).trans rfl
          have e2 : W.cell? ⟨w.heap.size, 9, none⟩ = some (.int .i64 t.limit) := hi.bg.tk.cell 9 _ rfl
          have e3 : W.cell? ⟨P, 0, none⟩ = some (.pointer (some ⟨G, 0, none⟩)) := (cell_of_row _ _ 0 _ _ _ hi.bg.ptr).trans rfl
          have e4 : W.cell? ⟨G, 13, none⟩ = some (.int .i64 (quietOf t.limit (t.hists.take k))) := hi.bg.game.cell 13 _ rfl
          have ef := frozen_of_row _ _ 13 _ _ hi.bg.game.blk
          obtain ⟨rb, ro, hra, hrb, hrc⟩ : ∃ b off, z.vA = some ⟨b, off, none⟩ ∧ b < w.heap.size ∧ _ := by
            rcases Hvi.out.2 with h | h
            · have h0 : z.vals.length = 0 := by rw [h]; rfl
              have := x.isLt
              omega
            · exact h
          have hxl := x.isLt
          have hrm := hrc x.val hxl
          rw [List.getElem?_eq_getElem hxl, Option.getD_some] at hrm
          have zr : W.cell? ⟨rb, ro + x.val, none⟩ = some (.int .i64 z.vals[x]) := (hi.bg.tk.below.cell (p := ⟨rb, ro + x.val, none⟩) hrb).trans hrm
          have i1 : ((x.val : Nat) : Int) < (z.vals.length : Int) := by omega
          have i2 : (0 : Int) ≤ ((x.val : Nat) : Int) := by omega
          rw [hra] at e1
          have g1 := hi.bg.tk.lt
          have g2 := hi.bg.ltP
          have g3 := hi.bg.ltG
          have g4 : rb < W.heap.size := by omega
          have g5 : wr.heap.size < W.heap.size := (Array.getElem?_eq_some_iff.1 hi.ser).1
          clear hp hi hrc hrm
          have hmo : Tryz.prog.follows .mixedOrders = true := by kernel_rfl
          generalize hv : z.vals[x] = v at zr ⊢
          have Hv := Lib.hid hv
          have Hra := Lib.hid hra
          clear hv hra
          by_cases hx : t.limit < v
          · have f1 : decide (t.limit < v) = true := decide_eq_true hx
            gi_wp2
            refine quiet_round (by kernel_rfl) (by kernel_rfl) (by kernel_rfl) (by exact fun _ _ h => h) ?_
            repeat (go_big_quiet_step (fail))
            refine wpQuiet_nil ?_
            rintro _ ⟨nq, rfl⟩
            gi_wp2
            refine tail_round 10 (by kernel_rfl) (by kernel_rfl) (by kernel_rfl) (by exact fun _ _ h => h) ?_
            simp only [List.take_succ_cons, List.take_zero, List.drop_succ_cons, List.drop_zero]
            repeat still_step
            try refine wpStill_nil ?_
            go_wp2
            gi_wp2
            have hb2 : Below W.heap.size W ((W.drewN nq).drew) := (below_drewN (Below.refl _ _) nq).drew
            have hi2 := Hi.out.call hb2
            have hxl2 : t.limit < z.vals[x] := by rw [Hv.out]; exact hx
            refine ⟨(keeps_drewN W nq).trans ((KeepsOthers.drew _).trans (KeepsOthers.setCell _ _ _)), ⟨rfl, pre, x, rfl, Hp.out, hxl2⟩, fun q hq => ?_⟩
            have hq2 := hq x (by simp)
            have e : (Value.int .i64 (max ((quietOf t.limit (t.hists.take k) : Nat) : Int) ((x.val : Int) + 1))) = .int .i64 ((q : Nat) : Int) := by rw [hq2]; congr 1; omega
            rw [e]
            exact hi2.quiet (by omega) q
          · have f1 : decide (t.limit < v) = false := decide_eq_false hx
            gi_wp2
            refine quiet_round (by kernel_rfl) (by kernel_rfl) (by kernel_rfl) (by exact fun _ _ h => h) ?_
            repeat (go_big_quiet_step (fail))
            refine wpQuiet_nil ?_
            rintro _ ⟨nq, rfl⟩
            gi_wp2
            have hxl2 : ¬ t.limit < z.vals[x] := by rw [Hv.out]; omega
            have hb2 : Below W.heap.size W (W.drewN nq) := below_drewN (Below.refl _ _) nq
            refine ⟨keeps_drewN W nq, ⟨below_drewN (Below.refl _ _) nq, rfl⟩, fun y hy => ?_, Hi.out.call hb2⟩
            rcases List.mem_append.1 hy with h | h
            · exact Hp.out y h
            · rw [List.mem_singleton] at h; rw [h]; exact Int.not_lt.1 hxl2
        case done =>
          rintro D xs W hD rfl ⟨hp, hi⟩ hK
          have hq0 : qSer t.limit z.vals = 0 := by rw [qUpto_seen (Nat.le_refl _) hp, Nat.sub_self]; rfl
          have e : (quietOf t.limit (t.hists.take (k + 1)) : Nat) = quietOf t.limit (t.hists.take k) := by rw [Hq.out, hq0]; exact Nat.max_zero _
          have Hi := Lib.hid hi
          have HK := Lib.hid hK
          clear hp hi hK
          go_wp2
          refine ⟨⟨k + 1, D :: ds, _, _, _, _, _, _, _, _, _, rfl, by go_num, by omega, by rw [e]; exact Hi.out.bg, Hi.out.mks.cons (by omega) (fun h => by have := hmd D h; omega) HK.out⟩, ?_⟩
          simp [intOf]
          omega
        case stop =>
          rintro D c pre W hD ⟨m, hm, hpre⟩ ⟨⟨rfl, pre0, x, rfl, hp, hx⟩, hi⟩ hK
          have hqs := qUpto_stop hm hpre hp hx
          have e : (quietOf t.limit (t.hists.take (k + 1)) : Nat) = max (quietOf t.limit (t.hists.take k)) (x.val + 1) := by rw [Hq.out, hqs]
          have Hi := Lib.hid (hi _ (fun y hy => by have hy2 : x = y := (by simpa using hy); subst hy2; exact e))
          have HK := Lib.hid hK
          clear hp hi hK hpre hx
          refine wpIn_wide.2 ?_
          go_wp2
          refine ⟨⟨k + 1, D :: ds, _, _, _, _, _, _, _, _, _, rfl, by go_num, by omega, Hi.out.bg, Hi.out.mks.cons (by omega) (fun h => by have := hmd D h; omega) HK.out⟩, ?_⟩
          simp [intOf]
          omega
      · obtain rfl : k = t.hists.length := by omega
        have hp0 : wr.cell? ⟨P, 0, none⟩ = some (.pointer (some ⟨G, 0, none⟩)) := (cell_of_row _ _ 0 _ _ _ Hbw.out.ptr).trans rfl
        go_wp2_with fail
        rw [List.take_length] at Hbw
        refine leaves_marks (fun V => BgW w t f (quietOf t.limit t.hists) P G M V) (by simp) ds wr Hmk.out.1 (fun D hD => (Hmk.out.2 D hD).2) Hbw.out (fun V D hD hV hb => hb.put (Hmk.out.2 D hD).1 hV) (fun V hb => ?_)
        refine ⟨.tuple #[.pointer (some ⟨G, 0, none⟩), .int .i64 0], ?_, hb.tk.below, .inr ⟨G, M, f, rfl, Hfit.out, fun h => Hf.out, by have := hb.pG; omega, by have := hb.pM; omega, hb.ne.2.2, hb.game, hb.mp⟩⟩
        simp [results, Tryz.results17, go_sem]
  · have hng := Lib.hid (show ¬ t.Good from fun h => her (Hg.out h).2.2)
    have f1 : (er != 0) = true := by simp [her]
    clear hk1
    go_wp2_with fail
    refine ⟨.tuple #[.pointer none, .int .i64 er], ?_, HK1.out.below, .inl ⟨er, her, rfl, hng.out⟩⟩
    simp [results, Tryz.results17, go_sem]
end Go.Proofs.YtgfdindlihfidaaGreat
