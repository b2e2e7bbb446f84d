/-
  More arguments opened: levels on both sides, arrays of three, lists of states, steps and numbers, readings, joints, bolts.
-/
import Derived.Test.YthalanpmfhhhnaaFr
namespace Go.Proofs.Ythalanpmfhhhnaa
open Go.ChangeShapes Go.WideShapes Go.ChangeAt Go.RowKit
set_option linter.unusedSimpArgs false
set_option linter.unusedVariables false

section
variable {H : Type} {enc : TypeId × Value → H} {w : World} {base b0 : Nat} {spare : Nat → Bool} {held : Bool} {r : Reach}

set_option maxRecDepth 100000 in
theorem side_arg {v : Value} {d : DataW H} {p : List MemPlace} (hv : Value.okWide Try.prog w r b0 38 v) (h : DataW.Trod enc Try.prog w base spare held 38 v d p) : ∃ (o i : Int) (pw : Bool), v = .agg #[.int .i64 o, .int .i64 i, .bool pw] := by
  obtain ⟨cs, rfl, _⟩ := okWide_struct Try.underlying38 hv
  obtain ⟨fu, x, hx⟩ := agg_cells (cs := cs) rfl h
  obtain ⟨xs, n, _, _, hlen, hl, hf⟩ := DataW.trod_struct Try.underlying38 hx
  have hk : Try.prog.cellsOf 38 = 3 := by kernel_rfl
  have F := fld (cs := cs.toList) (by kernel_rfl) hl hf
  clear hf
  obtain ⟨l⟩ := cs
  match l, hlen.trans hk with
  | [c0, c1, c2], _ =>
    obtain ⟨y0, h0⟩ := F 0 _ rfl c0 rfl
    obtain ⟨y1, h1⟩ := F 1 _ rfl c1 rfl
    obtain ⟨y2, h2⟩ := F 2 _ rfl c2 rfl
    obtain ⟨k0, e0, _⟩ := DataW.trod_int Try.underlying3 h0
    obtain ⟨k1, e1, _⟩ := DataW.trod_int Try.underlying3 h1
    obtain ⟨k2, e2, _⟩ := DataW.trod_bool Try.underlying4 h2
    simp only [List.cons.injEq, and_true] at e0 e1 e2
    exact ⟨k0, k1, k2, by rw [e0, e1, e2]⟩

set_option maxRecDepth 100000 in
theorem arr3_arg {v : Value} {d : DataW H} {p : List MemPlace} (hv : Value.okWide Try.prog w r b0 58 v) (h : DataW.Trod enc Try.prog w base spare held 58 v d p) : ∃ a b c : Int, v = .agg #[.int .i64 a, .int .i64 b, .int .i64 c] := by
  simp only [Value.okWide, Try.underlying58] at hv
  obtain ⟨cs, rfl, hs, _⟩ := hv
  obtain ⟨fu, x, hx⟩ := agg_cells (cs := cs) rfl h
  have hk : Try.prog.cellsOf 58 = 3 := by kernel_rfl
  have hi : Try.prog.cellsOf 3 = 1 := by kernel_rfl
  obtain ⟨xs, m, _, _, hlen, hl, hf⟩ := DataW.trod_array Try.underlying58 hx
  rw [hi] at hf
  obtain ⟨l⟩ := cs
  match l, hlen.trans hk with
  | [c0, c1, c2], _ =>
    have f : ∀ i, (h : i < 3) → ∃ y, DataW.trod enc Try.prog w base spare held m 3 [[c0, c1, c2][i]] = some y := fun i h => by
      have h2 := hf i h
      rw [List.getElem?_eq_getElem (by omega)] at h2
      match i, h with
      | 0, _ => exact ⟨_, h2⟩
      | 1, _ => exact ⟨_, h2⟩
      | 2, _ => exact ⟨_, h2⟩
    obtain ⟨y0, h0⟩ := f 0 (by omega)
    obtain ⟨y1, h1⟩ := f 1 (by omega)
    obtain ⟨y2, h2⟩ := f 2 (by omega)
    obtain ⟨k0, e0, _⟩ := DataW.trod_int Try.underlying3 h0
    obtain ⟨k1, e1, _⟩ := DataW.trod_int Try.underlying3 h1
    obtain ⟨k2, e2, _⟩ := DataW.trod_int Try.underlying3 h2
    simp only [List.getElem_cons_zero, List.getElem_cons_succ, List.cons.injEq, and_true] at e0 e1 e2
    exact ⟨k0, k1, k2, by rw [e0, e1, e2]⟩

set_option maxRecDepth 100000 in
theorem int_arg {v : Value} (hv : Value.okWide Try.prog w r b0 3 v) : ∃ n : Int, v = .int .i64 n := okWide_int Try.underlying3 hv
set_option maxRecDepth 100000 in
theorem u16_arg {v : Value} (hv : Value.okWide Try.prog w r b0 75 v) : ∃ n : Int, v = .int .u16 n := okWide_int Try.underlying75 hv
set_option maxRecDepth 100000 in
theorem ints_arg {v : Value} {d : DataW H} {p : List MemPlace} (hv : Value.okWide Try.prog w r b0 30 v) (h : DataW.Trod enc Try.prog w base spare held 30 v d p) : ∃ (a : Option Addr) (l : List Int) (cap : Nat), v = .slice a l.length cap ∧ IntsAt w a l := by
  obtain ⟨a, n, c, rfl⟩ := okWide_slice Try.underlying30 hv
  obtain ⟨fu, x, hx⟩ := cell_cells rfl h
  obtain ⟨a, l, cap, e, hi, _⟩ := ints_at hx
  exact ⟨a, l, cap, e, hi⟩
set_option maxRecDepth 100000 in
theorem sts_arg {v : Value} {d : DataW H} {p : List MemPlace} (hv : Value.okWide Try.prog w r b0 36 v) (h : DataW.Trod enc Try.prog w base spare held 36 v d p) : ∃ (a : Option Addr) (l : List St) (cap : Nat), v = .slice a l.length cap ∧ StsAt w a l := by
  obtain ⟨a, n, c, rfl⟩ := okWide_slice Try.underlying36 hv
  obtain ⟨fu, x, hx⟩ := cell_cells rfl h
  exact sts_at hx
set_option maxRecDepth 100000 in
theorem stps_arg {v : Value} {d : DataW H} {p : List MemPlace} (hv : Value.okWide Try.prog w r b0 62 v) (h : DataW.Trod enc Try.prog w base spare held 62 v d p) : ∃ (a : Option Addr) (l : List Stp) (cap : Nat), v = .slice a l.length cap ∧ StpsAt w a l := by
  obtain ⟨a, n, c, rfl⟩ := okWide_slice Try.underlying62 hv
  obtain ⟨fu, x, hx⟩ := cell_cells rfl h
  exact stps_at hx

set_option maxRecDepth 100000 in
theorem read_arg {v : Value} {d : DataW H} {p : List MemPlace} (hv : Value.okWide Try.prog w r b0 81 v) (h : DataW.Trod enc Try.prog w base spare held 81 v d p) :
    ∃ (a : Option Addr) (l : List Int) (cap : Nat) (on : Bool), v = .agg #[.slice a l.length cap, .bool on] ∧ IntsAt w a l := by
  obtain ⟨cs, rfl, _⟩ := okWide_struct Try.underlying81 hv
  obtain ⟨fu, x, hx⟩ := agg_cells (cs := cs) rfl h
  obtain ⟨xs, n, _, _, hlen, hl, hf⟩ := DataW.trod_struct Try.underlying81 hx
  have hk : Try.prog.cellsOf 81 = 2 := by kernel_rfl
  have F := fld (cs := cs.toList) (by kernel_rfl) hl hf
  clear hf
  obtain ⟨l⟩ := cs
  match l, hlen.trans hk with
  | [c0, c1], _ =>
    obtain ⟨y0, h0⟩ := F 0 _ rfl c0 rfl
    obtain ⟨y1, h1⟩ := F 1 _ rfl c1 rfl
    obtain ⟨a, l, cap, rfl, hi, _⟩ := ints_at h0
    obtain ⟨k1, e1, _⟩ := DataW.trod_bool Try.underlying4 h1
    simp only [List.cons.injEq, and_true] at e1
    exact ⟨a, l, cap, k1, by rw [e1], hi⟩

set_option maxRecDepth 100000 in
theorem joint_arg {v : Value} {d : DataW H} {p : List MemPlace} (hv : Value.okWide Try.prog w r b0 65 v) (h : DataW.Trod enc Try.prog w base spare held 65 v d p) :
    ∃ (a : Option Addr) (l : List St) (c : Nat) (a2 : Option Addr) (l2 : List Stp) (c2 : Nat) (a3 : Option Addr) (l3 : List Bool) (c3 : Nat), v = .agg #[.slice a l.length c, .slice a2 l2.length c2, .slice a3 l3.length c3] ∧ StsAt w a l ∧ StpsAt w a2 l2 ∧ BoolsAt w a3 l3 := by
  obtain ⟨cs, rfl, _⟩ := okWide_struct Try.underlying65 hv
  obtain ⟨fu, x, hx⟩ := agg_cells (cs := cs) rfl h
  obtain ⟨xs, n, _, _, hlen, hl, hf⟩ := DataW.trod_struct Try.underlying65 hx
  have hk : Try.prog.cellsOf 65 = 3 := by kernel_rfl
  have F := fld (cs := cs.toList) (by kernel_rfl) hl hf
  clear hf
  obtain ⟨l⟩ := cs
  match l, hlen.trans hk with
  | [c0, c1, c2], _ =>
    obtain ⟨y0, h0⟩ := F 0 _ rfl c0 rfl
    obtain ⟨y1, h1⟩ := F 1 _ rfl c1 rfl
    obtain ⟨y2, h2⟩ := F 2 _ rfl c2 rfl
    obtain ⟨a, l, c, rfl, hi⟩ := sts_at h0
    obtain ⟨a2, l2, c2, rfl, hi2⟩ := stps_at h1
    obtain ⟨a3, l3, c3, rfl, hi3⟩ := bools_at h2
    exact ⟨a, l, c, a2, l2, c2, a3, l3, c3, rfl, hi, hi2, hi3⟩

set_option maxRecDepth 100000 in
theorem bolts_arg {v : Value} {d : DataW H} {p : List MemPlace} (hv : Value.okWide Try.prog w r b0 91 v) (h : DataW.Trod enc Try.prog w base spare held 91 v d p) :
    ∃ (s : St) (a : Option Addr) (l : List Int) (c : Nat), v = .agg #[.int .i64 s.pos, .int .i64 s.charge, .bool s.bolted, .slice a l.length c] ∧ IntsAt w a l := by
  obtain ⟨cs, rfl, _⟩ := okWide_struct Try.underlying91 hv
  obtain ⟨fu, x, hx⟩ := agg_cells (cs := cs) rfl h
  obtain ⟨xs, n, _, _, hlen, hl, hf⟩ := DataW.trod_struct Try.underlying91 hx
  have hk : Try.prog.cellsOf 91 = 4 := by kernel_rfl
  have k1 : Try.prog.cellsOf 43 = 3 := by kernel_rfl
  have k2 : Try.prog.cellsOf 30 = 1 := by kernel_rfl
  have h0 : DataW.trod enc Try.prog w base spare held n 43 ((cs.toList.drop 0).take (Try.prog.cellsOf 43)) = xs[0]? := hf 0 _ rfl
  have h1 : DataW.trod enc Try.prog w base spare held n 30 ((cs.toList.drop 3).take (Try.prog.cellsOf 30)) = xs[1]? := hf 1 _ rfl
  rw [k1] at h0
  rw [k2] at h1
  obtain ⟨l⟩ := cs
  match l, hlen.trans hk with
  | [c0, c1, c2, c3], _ =>
    rw [List.getElem?_eq_getElem (by rw [hl]; decide)] at h0 h1
    obtain ⟨s, hs⟩ := st_of h0
    obtain ⟨a, l, c, e, hi, _⟩ := ints_at (c := c3) h1
    simp only [List.drop_zero, List.take_succ_cons, List.take_zero, List.cons.injEq, and_true] at hs
    obtain ⟨e0, e1, e2⟩ := hs
    exact ⟨s, a, l, c, by rw [e0, e1, e2, e], hi⟩
end
end Go.Proofs.Ythalanpmfhhhnaa
