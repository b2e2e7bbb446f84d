/-
  Delay: the closure that gives each gate the same step; the plain part; what the walk keeps.
-/
import Derived.Test.YthalanpmfhhhnaaAl
import Derived.Laws.MakeOwn
namespace Go.Proofs.Ythalanpmfhhhnaa
open Go.RowKit
set_option linter.unusedSimpArgs false
set_option linter.unusedVariables false

set_option maxRecDepth 100000 in
theorem dl1_any (C : Nat) (t : Stp) (i : Int) (w : World) (hg : StpIn w C t) :
    Calls Try.prog 77 #[.int .i64 i, .pointer (some ⟨C, 0, none⟩)] w fun e w' => e = .returned t.val ∧ Below w.heap.size w w' := by
  have c0 := hg.cell 0 _ rfl
  have c1 := hg.cell 1 _ rfl
  have c2 := hg.cell 2 _ rfl
  have c3 := hg.cell 3 _ rfl
  have hlt := hg.lt
  clear hg
  go_enter Try.func77, Try.ntmps77
  go_wp2
  refine bodyPost_ret (v := t.val) (by simp [results, Try.results77, go_sem, *]) rfl ⟨rfl, ?_⟩
  exact (Below.refl _ _).alloc (Nat.le_refl _) _

/-- The first m gates are shut. -/
def shutUpto (gs : List GateV) (sts : List St) (m : Nat) : Bool := (List.range m).all fun j => match gs[j]?, sts[j]? with | some g, some s => decide (s.pos = g.travel) | _, _ => true
theorem shutUpto_succ {gs : List GateV} {sts : List St} {m : Nat} (h1 : m < gs.length) (h2 : m < sts.length) : shutUpto gs sts (m + 1) = (shutUpto gs sts m && decide (sts[m].pos = gs[m].travel)) := by
  unfold shutUpto
  rw [List.range_succ, List.all_append]
  simp [List.getElem?_eq_getElem h1, List.getElem?_eq_getElem h2]
/-- The first step, from the k-th on, of n, before which all gates are shut, in ticks, rounded up; ErrDown. -/
def delayFrom (gs : List GateV) (rules : List Rul) (ts : List Stp) (bs : List Bool) : Nat → List St → Int → Int × Int
  | 0, _, _ => (0, 9)
  | m + 1, sts, k => if shutUpto gs sts gs.length = true then ((k + 9) / 10, 0) else delayFrom gs rules ts bs m (stList (togAt gs rules sts ts bs) gs.length) (k + 1)
/-- What Delay returns. -/
def delayZ (s : SetV) (sts : List St) (t : Stp) : Int × Int :=
  if (setE s).2.2 ≠ 0 then (0, (setE s).2.2) else if sts.length ≠ s.gates.length then (0, 2) else if allE s.gates sts (fun _ => t) ≠ 0 then (0, allE s.gates sts (fun _ => t))
  else delayFrom s.gates s.rules (List.replicate s.gates.length t) (List.replicate s.gates.length false) 2001 sts 0

/-- Zeroed steps and bools, as make lays them. -/
def mkStp (n : Nat) : Array Value := madeCells #[.int .i64 0, .bool false, .int .i64 0, .int .i64 0] (n * 4)
def mkBool (n : Nat) : Array Value := madeCells #[.bool false] (n * 1)
theorem mkStp_size (n : Nat) : (mkStp n).size = n * 4 := size_madeCells _ _
theorem mkBool_get {n j : Nat} (h : j < n) : (mkBool n)[j]? = some (.bool false) := by
  unfold mkBool madeCells
  simp [h, Nat.mod_one]
theorem A.stpInfo : (Try.prog.info? 45).map (fun i => (i.zero, i.size, i.bytes)) = some (some (.agg #[.int .i64 0, .bool false, .int .i64 0, .int .i64 0]), 4, 32) := by kernel_rfl
theorem A.boolInfo : (Try.prog.info? 4).map (fun i => (i.zero, i.size, i.bytes)) = some (some (.bool false), 1, 1) := by kernel_rfl
theorem run_mk_stp (n : Nat) (hn : n ≤ 6) (W : World) : (Instr.makeSlice 62 (.int .i64 n) (.int .i64 n)).run Try.prog W = .ok (.slice (some ⟨W.heap.size, 0, none⟩) n n) (W.alloc (.cells (mkStp n) 45)) := by
  obtain ⟨i, hi, hz, hs, hb⟩ := info_parts A.stpInfo
  have h := run_make (P := Try.prog) W 62 45 i _ Try.underlying62 hi hz .i64 .i64 n n (by omega) (by omega) (by rw [hb]; omega) (by omega)
  rw [h]
  simp only [Int.toNat_natCast, hs]
  rfl
theorem run_mk_bool (n : Nat) (hn : n ≤ 6) (W : World) : (Instr.makeSlice 63 (.int .i64 n) (.int .i64 n)).run Try.prog W = .ok (.slice (some ⟨W.heap.size, 0, none⟩) n n) (W.alloc (.cells (mkBool n) 4)) := by
  obtain ⟨i, hi, hz, hs, hb⟩ := info_parts A.boolInfo
  have h := run_make (P := Try.prog) W 63 4 i _ Try.underlying63 hi hz .i64 .i64 n n (by omega) (by omega) (by rw [hb]; omega) (by omega)
  rw [h]
  simp only [Int.toNat_natCast, hs]
  rfl

/-- What Delay keeps behind its two calls. -/
structure DeW (w : World) (s : SetV) (t : Stp) (W : World) : Prop where
  below : Below w.heap.size w W
  set : W.heap[w.heap.size]? = some (.cells s.cells 25 (0, 0))
  stp : W.heap[w.heap.size + 1]? = some (.cells t.cells 45 (0, 0))
theorem DeW.new (w : World) (s : SetV) (t : Stp) : DeW w s t ((w.alloc (.cells s.cells 25)).alloc (.cells t.cells 45)) :=
  ⟨((Below.refl _ _).alloc (Nat.le_refl _) _).alloc (by simp) _, blk_old (blk_new rfl), blk_new (by simp)⟩
theorem DeW.lt {w W : World} {s : SetV} {t : Stp} (h : DeW w s t W) : w.heap.size + 1 < W.heap.size := (Array.getElem?_eq_some_iff.1 h.stp).1
theorem DeW.call {w W W' : World} {s : SetV} {t : Stp} (h : DeW w s t W) (hb : Below W.heap.size W W') : DeW w s t W' :=
  ⟨h.below.trans (hb.mono h.below.size), blk_below hb h.set, blk_below hb h.stp⟩
theorem DeW.alloc {w W : World} {s : SetV} {t : Stp} (h : DeW w s t W) (o : Obj) : DeW w s t (W.alloc o) := h.call ((Below.refl W.heap.size W).alloc (Nat.le_refl _) o)
theorem DeW.stpIn {w W : World} {s : SetV} {t : Stp} (h : DeW w s t W) : StpIn W (w.heap.size + 1) t := ⟨h.lt, h.stp⟩

/-- What Delay keeps from its two slices on: k steps are filled in. -/
structure DlW (w : World) (s : SetV) (t : Stp) (P Q n k : Nat) (W : World) : Prop where
  base : DeW w s t W
  lp : w.heap.size + 1 < P
  lq : w.heap.size + 1 < Q
  ne : P ≠ Q
  bools : W.heap[Q]? = some (.cells (mkBool n) 4 (0, 0))
  fill : ∃ cs, W.heap[P]? = some (.cells cs 45 (0, 0)) ∧ cs.size = n * 4 ∧ ∀ j r, j < k → r < 4 → cs[j * 4 + r]? = t.cells[r]?
theorem DlW.call {w W W' : World} {s : SetV} {t : Stp} {P Q n k : Nat} (h : DlW w s t P Q n k W) (hb : Below W.heap.size W W') : DlW w s t P Q n k W' := by
  obtain ⟨cs, h1, h2, h3⟩ := h.fill
  exact ⟨h.base.call hb, h.lp, h.lq, h.ne, blk_below hb h.bools, cs, blk_below hb h1, h2, h3⟩
theorem DlW.alloc {w W : World} {s : SetV} {t : Stp} {P Q n k : Nat} (h : DlW w s t P Q n k W) (o : Obj) : DlW w s t P Q n k (W.alloc o) := h.call ((Below.refl W.heap.size W).alloc (Nat.le_refl _) o)
theorem DlW.store {w W : World} {s : SetV} {t : Stp} {P Q n k : Nat} (h : DlW w s t P Q n k W) (hk : k < n) :
    DlW w s t P Q n (k + 1) ((((W.setCell ⟨P, k * 4, none⟩ (.int .i64 t.order)).setCell ⟨P, k * 4 + 1, none⟩ (.bool t.power)).setCell ⟨P, k * 4 + 2, none⟩ (.int .i64 t.outer)).setCell ⟨P, k * 4 + 3, none⟩ (.int .i64 t.inner)) := by
  obtain ⟨cs, h1, h2, h3⟩ := h.fill
  have l1 := h.lp
  have l2 := h.lq
  have l3 := h.ne
  have p1 := heap_setCell_same _ P (k * 4) _ _ (.int .i64 t.order) h1
  have p2 := heap_setCell_same _ P (k * 4 + 1) _ _ (.bool t.power) p1
  have p3 := heap_setCell_same _ P (k * 4 + 2) _ _ (.int .i64 t.outer) p2
  have p4 := heap_setCell_same _ P (k * 4 + 3) _ _ (.int .i64 t.inner) p3
  have o : ∀ {B : Nat} {x : Obj}, B ≠ P → W.heap[B]? = some x → ((((W.setCell ⟨P, k * 4, none⟩ (.int .i64 t.order)).setCell ⟨P, k * 4 + 1, none⟩ (.bool t.power)).setCell ⟨P, k * 4 + 2, none⟩ (.int .i64 t.outer)).setCell ⟨P, k * 4 + 3, none⟩ (.int .i64 t.inner)).heap[B]? = some x :=
    fun hne hx => blk_set_other hne (blk_set_other hne (blk_set_other hne (blk_set_other hne hx)))
  refine ⟨⟨(((h.base.below.setCell (by show w.heap.size ≤ P; omega) _).setCell (by show w.heap.size ≤ P; omega) _).setCell (by show w.heap.size ≤ P; omega) _).setCell (by show w.heap.size ≤ P; omega) _, o (by omega) h.base.set, o (by omega) h.base.stp⟩, l1, l2, l3, o (Ne.symm l3) h.bools, _, p4, by simp [h2], fun j r hj hr => ?_⟩
  by_cases e : j = k
  · subst e
    match r, hr with
    | 0, _ => simp [Array.getElem?_setIfInBounds, h2]; omega
    | 1, _ => simp [Array.getElem?_setIfInBounds, h2]; omega
    | 2, _ => simp [Array.getElem?_setIfInBounds, h2]; omega
    | 3, _ => simp [Array.getElem?_setIfInBounds, h2]; omega
  · have hh := h3 j r (by omega) hr
    simp only [Array.getElem?_setIfInBounds]
    rw [if_neg (by omega), if_neg (by omega), if_neg (by omega), if_neg (by omega)]
    exact hh
theorem DlW.stps {w W : World} {s : SetV} {t : Stp} {P Q n : Nat} (h : DlW w s t P Q n n W) (hn : n ≤ 6) : StpsAt W (some ⟨P, 0, none⟩) (List.replicate n t) := by
  obtain ⟨cs, h1, h2, h3⟩ := h.fill
  refine ⟨by simp [maxLen]; omega, .inr ⟨P, 0, rfl, (Array.getElem?_eq_some_iff.1 h1).1, fun j hj => ?_⟩⟩
  have hj' : j < n := by simpa using hj
  have c := fun r (hr : r < 4) => (cell_of_row W P (j * 4 + r) _ _ _ h1).trans (h3 j r hj' hr)
  have c0 := c 0 (by omega)
  have c1 := c 1 (by omega)
  have c2 := c 2 (by omega)
  have c3 := c 3 (by omega)
  simp only [Nat.zero_add, List.getElem_replicate]
  exact ⟨c0, c1, c2, c3⟩
theorem DlW.bls {w W : World} {s : SetV} {t : Stp} {P Q n k : Nat} (h : DlW w s t P Q n k W) (hn : n ≤ 6) : BoolsAt W (some ⟨Q, 0, none⟩) (List.replicate n false) := by
  refine ⟨by simp [maxLen]; omega, .inr ⟨Q, 0, rfl, (Array.getElem?_eq_some_iff.1 h.bools).1, fun j hj => ?_⟩⟩
  have hj' : j < n := by simpa using hj
  simp only [Nat.zero_add, List.getElem_replicate]
  exact (cell_of_row W Q j _ _ _ h.bools).trans (mkBool_get hj')
end Go.Proofs.Ythalanpmfhhhnaa
