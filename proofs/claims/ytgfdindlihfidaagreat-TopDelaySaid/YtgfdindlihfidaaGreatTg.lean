/-
  The contract of gate.together: a step of all gates.
-/
import Derived.Test.YtgfdindlihfidaaGreatRf
import Derived.Deep.RegionHeld3
import Derived.Deep.AppendLies
namespace Go.Proofs.YtgfdindlihfidaaGreat
open Go.RowKit
set_option linter.unusedSimpArgs false
set_option linter.unusedVariables false

/-- Steps lie in memory. -/
def StpsAt (w : World) (a : Option Addr) (l : List Stp) : Prop :=
  l.length ≤ maxLen ∧ (l = [] ∨ ∃ b off, a = some ⟨b, off, none⟩ ∧ b < w.heap.size ∧ ∀ k, (h : k < l.length) →
    w.cell? ⟨b, off + k * 4, none⟩ = some (.int .i64 l[k].order) ∧ w.cell? ⟨b, off + k * 4 + 1, none⟩ = some (.bool l[k].power) ∧ w.cell? ⟨b, off + k * 4 + 2, none⟩ = some (.int .i64 l[k].outer) ∧ w.cell? ⟨b, off + k * 4 + 3, none⟩ = some (.int .i64 l[k].inner))
/-- Bools lie in memory. -/
def BoolsAt (w : World) (a : Option Addr) (l : List Bool) : Prop :=
  l.length ≤ maxLen ∧ (l = [] ∨ ∃ b off, a = some ⟨b, off, none⟩ ∧ b < w.heap.size ∧ ∀ k, (h : k < l.length) → w.cell? ⟨b, off + k, none⟩ = some (.bool l[k]))

theorem StpsAt.below {w w' : World} {a : Option Addr} {l : List Stp} {B : Nat} (h : StpsAt w a l) (hb : Below B w w') (hB : w.heap.size ≤ B) : StpsAt w' a l := by
  obtain ⟨hm, h⟩ := h
  refine ⟨hm, ?_⟩
  rcases h with h | ⟨b, off, h1, h2, h3⟩
  · exact .inl h
  · refine .inr ⟨b, off, h1, Nat.lt_of_lt_of_le h2 hb.size, fun k hk => ?_⟩
    have hlt := Nat.lt_of_lt_of_le h2 hB
    obtain ⟨c0, c1, c2, c3⟩ := h3 k hk
    exact ⟨(hb.cell (p := ⟨b, off + k * 4, none⟩) hlt).trans c0, (hb.cell (p := ⟨b, off + k * 4 + 1, none⟩) hlt).trans c1, (hb.cell (p := ⟨b, off + k * 4 + 2, none⟩) hlt).trans c2, (hb.cell (p := ⟨b, off + k * 4 + 3, none⟩) hlt).trans c3⟩
theorem BoolsAt.below {w w' : World} {a : Option Addr} {l : List Bool} {B : Nat} (h : BoolsAt w a l) (hb : Below B w w') (hB : w.heap.size ≤ B) : BoolsAt w' a l := by
  obtain ⟨hm, h⟩ := h
  refine ⟨hm, ?_⟩
  rcases h with h | ⟨b, off, h1, h2, h3⟩
  · exact .inl h
  · exact .inr ⟨b, off, h1, Nat.lt_of_lt_of_le h2 hb.size, fun k hk => (hb.cell (p := ⟨b, off + k, none⟩) (Nat.lt_of_lt_of_le h2 hB)).trans (h3 k hk)⟩

/-- What comes of gate k of a set in one step of all. -/
def togAt (gs : List GateV) (rules : List Rul) (sts : List St) (ts : List Stp) (bs : List Bool) (k : Nat) : St × Mvd :=
  match gs[k]?, sts[k]?, ts[k]?, bs[k]? with
  | some g, some s, some t, some b => doZ g s t (refE rules sts k s t b)
  | _, _, _, _ => (⟨0, 0, false⟩, ⟨0, 0, 0⟩)
theorem togAt_eq {gs : List GateV} {rules : List Rul} {sts : List St} {ts : List Stp} {bs : List Bool} {k : Nat} (h1 : k < gs.length) (h2 : k < sts.length) (h3 : k < ts.length) (h4 : k < bs.length) :
    togAt gs rules sts ts bs k = doZ gs[k] sts[k] ts[k] (refE rules sts k sts[k] ts[k] bs[k]) := by
  unfold togAt
  rw [List.getElem?_eq_getElem h1, List.getElem?_eq_getElem h2, List.getElem?_eq_getElem h3, List.getElem?_eq_getElem h4]

/-- The cells of the states behind k gates' steps. -/
def stRow (f : Nat → St × Mvd) (k : Nat) : List Value := (List.range k).flatMap fun i => (f i).1.cells.toList
def mvRow (f : Nat → St × Mvd) (k : Nat) : List Value := (List.range k).flatMap fun i => (f i).2.cells.toList
theorem stRow_succ (f : Nat → St × Mvd) (k : Nat) : stRow f (k + 1) = stRow f k ++ (f k).1.cells.toList := by
  simp [stRow, List.range_succ, List.flatMap_append]
theorem mvRow_succ (f : Nat → St × Mvd) (k : Nat) : mvRow f (k + 1) = mvRow f k ++ (f k).2.cells.toList := by
  simp [mvRow, List.range_succ, List.flatMap_append]

/-- What together asks of its arguments. -/
structure TogIn (w : World) (s : SetV) (sA : Option Addr) (sts : List St) (tA : Option Addr) (ts : List Stp) (bA : Option Addr) (bs : List Bool) : Prop where
  set : s.Ok w
  ms : StsAt w sA sts
  mt : StpsAt w tA ts
  mb : BoolsAt w bA bs
  ln : s.gates.length ≤ 6
  l1 : sts.length = s.gates.length
  l2 : ts.length = s.gates.length
  l3 : bs.length = s.gates.length
  rin : RulesIn s.rules sts.length
  good : ∀ g ∈ s.gates, g.Good
  stok : ∀ k, (h : k < s.gates.length) → (h2 : k < sts.length) → sts[k].Ok s.gates[k]
  lv : ∀ t ∈ ts, t.Lv

/-- What the walk of together keeps. -/
structure TgW (w : World) (s : SetV) (W : World) : Prop where
  below : Below w.heap.size w W
  blk : W.heap[w.heap.size]? = some (.cells s.cells 25 (0, 0))
  lt : w.heap.size < W.heap.size
theorem TgW.new (w : World) (s : SetV) : TgW w s (w.alloc (.cells s.cells 25)) :=
  ⟨(Below.refl _ _).alloc (Nat.le_refl _) _, heap_alloc_new w _, by simp⟩
theorem TgW.cell {w W : World} {s : SetV} (h : TgW w s W) (k : Nat) (v : Value) (hv : s.cells[k]? = some v) : W.cell? ⟨w.heap.size, k, none⟩ = some v := by
  rw [cell_of_row W _ k _ _ _ h.blk, hv]

/-- The world is as wr was, in wr's own blocks. -/
structure TgS (wr W : World) : Prop where
  below : Below wr.heap.size wr W
theorem TgS.new (w : World) : TgS w w := ⟨Below.refl _ _⟩
theorem TgS.drew {wr W : World} (h : TgS wr W) : TgS wr W.drew := ⟨h.below.drew⟩
theorem TgS.call {wr W W' : World} (h : TgS wr W) (hb : Below W.heap.size W W') : TgS wr W' := ⟨h.below.trans (hb.mono h.below.size)⟩
theorem TgS.alloc {wr W : World} (h : TgS wr W) (o : Obj) : TgS wr (W.alloc o) := ⟨h.below.alloc h.below.size o⟩

theorem rangeAt_row {W : World} {B : Nat} {cs : Array Value} {t : TypeId} {f : Nat × Nat} (h : W.heap[B]? = some (.cells cs t f)) : W.rangeAt B 0 cs.toList := fun j v hv => by
  rw [cell_of_row W B (0 + j) _ _ _ h, Nat.zero_add]
  simpa using hv
theorem A.setSize : (Tryz.prog.info? 25).map (·.size) = some 2 := by kernel_rfl
theorem run_load_gate {W : World} {B : Nat} {g : GateV} (h : GateIn W B g) : (Instr.loadAt 60 (.pointer (some ⟨B, 0, none⟩))).run Tryz.prog W = .ok g.val W :=
  run_loadAt_mid W B 0 60 g.cells.toList _ (rangeAt_row h.blk) Tryz.underlying60 rfl A.gateSize
theorem run_load_set {W : World} {B : Nat} {s : SetV} (h : W.heap[B]? = some (.cells s.cells 25 (0, 0))) : (Instr.loadAt 25 (.pointer (some ⟨B, 0, none⟩))).run Tryz.prog W = .ok s.val W :=
  run_loadAt_mid W B 0 25 s.cells.toList _ (rangeAt_row h) Tryz.underlying25 rfl A.setSize
theorem run_load_st {W : World} {b o : Nat} {x : St} (h0 : W.cell? ⟨b, o, none⟩ = some (.int .i64 x.pos)) (h1 : W.cell? ⟨b, o + 1, none⟩ = some (.int .i64 x.charge)) (h2 : W.cell? ⟨b, o + 2, none⟩ = some (.bool x.bolted)) :
    (Instr.loadAt 62 (.pointer (some ⟨b, o, none⟩))).run Tryz.prog W = .ok x.val W :=
  run_loadAt_mid W b o 62 x.cells.toList _ (fun j v hv => by
    match j, hv with
    | 0, hv => simp at hv; rw [← hv]; exact h0
    | 1, hv => simp at hv; rw [← hv]; exact h1
    | 2, hv => simp at hv; rw [← hv]; exact h2
    | j + 3, hv => simp at hv) Tryz.underlying62 rfl A.stSize
theorem run_load_stp {W : World} {b o : Nat} {x : Stp} (h0 : W.cell? ⟨b, o, none⟩ = some (.int .i64 x.order)) (h1 : W.cell? ⟨b, o + 1, none⟩ = some (.bool x.power)) (h2 : W.cell? ⟨b, o + 2, none⟩ = some (.int .i64 x.outer)) (h3 : W.cell? ⟨b, o + 3, none⟩ = some (.int .i64 x.inner)) :
    (Instr.loadAt 47 (.pointer (some ⟨b, o, none⟩))).run Tryz.prog W = .ok x.val W :=
  run_loadAt_mid W b o 47 x.cells.toList _ (fun j v hv => by
    match j, hv with
    | 0, hv => simp at hv; rw [← hv]; exact h0
    | 1, hv => simp at hv; rw [← hv]; exact h1
    | 2, hv => simp at hv; rw [← hv]; exact h2
    | 3, hv => simp at hv; rw [← hv]; exact h3
    | j + 4, hv => simp at hv) Tryz.underlying47 rfl A.stpSize
end Go.Proofs.YtgfdindlihfidaaGreat
