/-
  The arguments of TopDelay opened to plain data: a task, gates with their states, a number.
-/
import Derived.Test.YtgfdindlihfidaaGreatFr
import Derived.Test.YtgfdindlihfidaaGreatZo
namespace Go.Proofs.YtgfdindlihfidaaGreat
open Go.ChangeShapes Go.WideShapes Go.ChangeAt Go.RowKit Go.Deep
set_option linter.unusedSimpArgs false
set_option linter.unusedVariables false

section
variable {H : Type} {enc : TypeId × Value → H} {w : World} {base b0 : Nat} {spare : Nat → Bool} {held : Bool} {r : Reach}

/-- One field of a struct. -/
theorem fldN {fs : Array Field} {n : Nat} {cs : List Value} {xs : List (DataW H × List MemPlace)} (hl : xs.length = fs.size)
    (hf : ∀ (i : Nat) (f : Field), fs[i]? = some f → DataW.trod enc Tryz.prog w base spare held n f.type ((cs.drop f.offset).take (Tryz.prog.cellsOf f.type)) = xs[i]?)
    (i : Nat) (f : Field) (hi : fs[i]? = some f) (T : TypeId) (hT : f.type = T) (o k : Nat) (ho : f.offset = o) (hk : Tryz.prog.cellsOf T = k) (l : List Value) (hlc : (cs.drop o).take k = l) : ∃ y, DataW.trod enc Tryz.prog w base spare held n T l = some y := by
  have h1 := hf i f hi
  have hil : i < fs.size := (Array.getElem?_eq_some_iff.1 hi).1
  rw [List.getElem?_eq_getElem (by omega), hT, ho, hk, hlc] at h1
  exact ⟨_, h1⟩
theorem slice_cap {t e : TypeId} {fuel : Nat} {a : Option Addr} {n cap : Nat} {x : DataW H × List MemPlace} (ht : Tryz.prog.underlying t = some (.slice e)) (h : DataW.trod enc Tryz.prog w base spare held fuel t [.slice a n cap] = some x) : n ≤ cap := by
  rcases open_slice ht h with ⟨hc, _⟩ | ⟨a', len, cap', m, n', D, Pl, hc, _, hl, _⟩
  · simp at hc
    obtain ⟨rfl, rfl, rfl⟩ := hc
    exact Nat.le_refl _
  · simp at hc
    obtain ⟨rfl, rfl, rfl⟩ := hc
    exact hl

theorem row_of {fuel : Nat} {cs : List Value} {x : DataW H × List MemPlace} (h : DataW.trod enc Tryz.prog w base spare held fuel 144 cs = some x) : ∃ s : RowV, cs = s.cells.toList := by
  obtain ⟨xs, n, _, _, hlen, hl, hf⟩ := DataW.trod_struct Tryz.underlying144 h
  have hk : Tryz.prog.cellsOf 144 = 2 := by kernel_rfl
  have F := fld (cs := cs) (by kernel_rfl) hl hf
  clear hf
  match cs, hlen.trans hk with
  | [c0, c1], _ =>
    obtain ⟨y0, h0⟩ := F 0 _ rfl c0 rfl
    obtain ⟨y1, h1⟩ := F 1 _ rfl c1 rfl
    obtain ⟨k0, e0, _⟩ := DataW.trod_int Tryz.underlying3 h0
    obtain ⟨k1, e1, _⟩ := DataW.trod_int Tryz.underlying3 h1
    simp only [List.cons.injEq, and_true] at e0 e1
    exact ⟨⟨k0, k1⟩, by rw [e0, e1]⟩
theorem rows_at {fuel : Nat} {c : Value} {x : DataW H × List MemPlace} (h : DataW.trod enc Tryz.prog w base spare held fuel 29 [c] = some x) :
    ∃ (a : Option Addr) (l : List RowV) (cap : Nat), c = .slice a l.length cap ∧ RowsAt w a l ∧ l.length ≤ cap := by
  have hk : Tryz.prog.cellsOf 144 = 2 := by kernel_rfl
  obtain ⟨a, n, cap, C, rfl, hm, hC, hr⟩ := slice_rows Tryz.underlying29 (by rw [hk]; omega) h
  have hcp := slice_cap Tryz.underlying29 h
  obtain ⟨l, hl, hp⟩ := pick_list (p := fun i (z : RowV) => C i = z.cells.toList) n fun i hi => by
    obtain ⟨fu, y, hy⟩ := hC i hi
    exact row_of hy
  refine ⟨a, l, cap, by rw [hl], ⟨by omega, ?_⟩, by omega⟩
  rcases hr with h0 | ⟨b, off, ha, hb, hc⟩
  · exact .inl (List.eq_nil_of_length_eq_zero (by omega))
  · refine .inr ⟨b, off, ha, hb, fun k hk' => ?_⟩
    have hh := hc k (by omega)
    rw [hk, hp k hk'] at hh
    exact ⟨hh 0 _ rfl, hh 1 _ rfl⟩

theorem pol_of {fuel : Nat} {cs : List Value} {x : DataW H × List MemPlace} (h : DataW.trod enc Tryz.prog w base spare held fuel 146 cs = some x) : ∃ s : PolV, cs = s.cells.toList ∧ s.nm.size ≤ maxLen := by
  obtain ⟨xs, n, _, _, hlen, hl, hf⟩ := DataW.trod_struct Tryz.underlying146 h
  have hk : Tryz.prog.cellsOf 146 = 4 := by kernel_rfl
  have F := fld (cs := cs) (by kernel_rfl) hl hf
  clear hf
  match cs, hlen.trans hk with
  | [c0, c1, c2, c3], _ =>
    obtain ⟨y0, h0⟩ := F 0 _ rfl c0 rfl
    obtain ⟨y1, h1⟩ := F 1 _ rfl c1 rfl
    obtain ⟨y2, h2⟩ := F 2 _ rfl c2 rfl
    obtain ⟨y3, h3⟩ := F 3 _ rfl c3 rfl
    obtain ⟨s0, e0, _, hs0⟩ := DataW.trod_string Tryz.underlying9 h0
    obtain ⟨k1, e1, _⟩ := DataW.trod_int Tryz.underlying3 h1
    obtain ⟨k2, e2, _⟩ := DataW.trod_int Tryz.underlying3 h2
    obtain ⟨k3, e3, _⟩ := DataW.trod_int Tryz.underlying3 h3
    simp only [List.cons.injEq, and_true] at e0 e1 e2 e3
    exact ⟨⟨s0, k1, k2, k3⟩, by rw [e0, e1, e2, e3], hs0⟩
theorem pols_at {fuel : Nat} {c : Value} {x : DataW H × List MemPlace} (h : DataW.trod enc Tryz.prog w base spare held fuel 30 [c] = some x) :
    ∃ (a : Option Addr) (l : List PolV) (cap : Nat), c = .slice a l.length cap ∧ PolsAt w a l := by
  have hk : Tryz.prog.cellsOf 146 = 4 := by kernel_rfl
  obtain ⟨a, n, cap, C, rfl, hm, hC, hr⟩ := slice_rows Tryz.underlying30 (by rw [hk]; omega) h
  obtain ⟨l, hl, hp⟩ := pick_list (p := fun i (z : PolV) => C i = z.cells.toList ∧ z.nm.size ≤ maxLen) n fun i hi => by
    obtain ⟨fu, y, hy⟩ := hC i hi
    exact pol_of hy
  refine ⟨a, l, cap, by rw [hl], by omega, fun p hp' => ?_, ?_⟩
  · obtain ⟨k, hk', rfl⟩ := List.getElem_of_mem hp'
    exact (hp k hk').2
  · rcases hr with h0 | ⟨b, off, ha, hb, hc⟩
    · exact .inl (List.eq_nil_of_length_eq_zero (by omega))
    · refine .inr ⟨b, off, ha, hb, fun k hk' => ?_⟩
      have hh := hc k (by omega)
      rw [hk, (hp k hk').1] at hh
      exact ⟨hh 0 _ rfl, hh 1 _ rfl, hh 2 _ rfl, hh 3 _ rfl⟩

theorem ser_of {fuel : Nat} {cs : List Value} {x : DataW H × List MemPlace} (h : DataW.trod enc Tryz.prog w base spare held fuel 106 cs = some x) : ∃ s : SerV, cs = s.cells.toList ∧ IntsAt w s.vA s.vals := by
  obtain ⟨xs, n, _, _, hlen, hl, hf⟩ := DataW.trod_struct Tryz.underlying106 h
  have hk : Tryz.prog.cellsOf 106 = 2 := by kernel_rfl
  have F := fld (cs := cs) (by kernel_rfl) hl hf
  clear hf
  match cs, hlen.trans hk with
  | [c0, c1], _ =>
    obtain ⟨y0, h0⟩ := F 0 _ rfl c0 rfl
    obtain ⟨y1, h1⟩ := F 1 _ rfl c1 rfl
    obtain ⟨k0, e0, _⟩ := DataW.trod_int Tryz.underlying3 h0
    obtain ⟨a1, l1, p1, rfl, o1, _⟩ := ints_at h1
    simp only [List.cons.injEq, and_true] at e0
    exact ⟨⟨k0, a1, p1, l1⟩, by rw [e0], o1⟩
theorem sers_at {fuel : Nat} {c : Value} {x : DataW H × List MemPlace} (h : DataW.trod enc Tryz.prog w base spare held fuel 34 [c] = some x) :
    ∃ (a : Option Addr) (l : List SerV) (cap : Nat), c = .slice a l.length cap ∧ SersAt w a l := by
  have hk : Tryz.prog.cellsOf 106 = 2 := by kernel_rfl
  obtain ⟨a, n, cap, C, rfl, hm, hC, hr⟩ := slice_rows Tryz.underlying34 (by rw [hk]; omega) h
  obtain ⟨l, hl, hp⟩ := pick_list (p := fun i (z : SerV) => C i = z.cells.toList ∧ IntsAt w z.vA z.vals) n fun i hi => by
    obtain ⟨fu, y, hy⟩ := hC i hi
    exact ser_of hy
  refine ⟨a, l, cap, by rw [hl], by omega, fun p hp' => ?_, ?_⟩
  · obtain ⟨k, hk', rfl⟩ := List.getElem_of_mem hp'
    exact (hp k hk').2
  · rcases hr with h0 | ⟨b, off, ha, hb, hc⟩
    · exact .inl (List.eq_nil_of_length_eq_zero (by omega))
    · refine .inr ⟨b, off, ha, hb, fun k hk' => ?_⟩
      have hh := hc k (by omega)
      rw [hk, (hp k hk').1] at hh
      exact ⟨hh 0 _ rfl, hh 1 _ rfl⟩

theorem bas_of {fuel : Nat} {cs : List Value} {x : DataW H × List MemPlace} (h : DataW.trod enc Tryz.prog w base spare held fuel 32 cs = some x) : ∃ s : BasV, cs = s.cells.toList ∧ s.Ok w := by
  obtain ⟨xs, n, _, _, hlen, hl, hf⟩ := DataW.trod_struct Tryz.underlying32 h
  have hk : Tryz.prog.cellsOf 32 = 5 := by kernel_rfl
  have F := fld (cs := cs) (by kernel_rfl) hl hf
  clear hf
  match cs, hlen.trans hk with
  | [c0, c1, c2, c3, c4], _ =>
    obtain ⟨y0, h0⟩ := F 0 _ rfl c0 rfl
    obtain ⟨y1, h1⟩ := F 1 _ rfl c1 rfl
    obtain ⟨y2, h2⟩ := F 2 _ rfl c2 rfl
    obtain ⟨y3, h3⟩ := F 3 _ rfl c3 rfl
    obtain ⟨y4, h4⟩ := F 4 _ rfl c4 rfl
    obtain ⟨a0, l0, p0, rfl, o0, hcp⟩ := rows_at h0
    obtain ⟨k1, e1, _⟩ := DataW.trod_int Tryz.underlying3 h1
    obtain ⟨k2, e2, _⟩ := DataW.trod_int Tryz.underlying3 h2
    obtain ⟨k3, e3, _⟩ := DataW.trod_int Tryz.underlying3 h3
    obtain ⟨a4, l4, p4, rfl, o4⟩ := pols_at h4
    simp only [List.cons.injEq, and_true] at e1 e2 e3
    exact ⟨⟨a0, p0, l0, k1, k2, k3, a4, p4, l4⟩, by rw [e1, e2, e3], o0, o4, hcp⟩

set_option maxRecDepth 100000 in
theorem task_of {fuel : Nat} {cs : List Value} {x : DataW H × List MemPlace} (h : DataW.trod enc Tryz.prog w base spare held fuel 36 cs = some x) : ∃ s : TaskV, cs = s.cells.toList ∧ s.Ok w := by
  obtain ⟨xs, n, _, _, hlen, hl, hf⟩ := DataW.trod_struct Tryz.underlying36 h
  have hk : Tryz.prog.cellsOf 36 = 11 := by kernel_rfl
  have kb : Tryz.prog.cellsOf 32 = 5 := by kernel_rfl
  have ki : Tryz.prog.cellsOf 33 = 1 := by kernel_rfl
  have kn : Tryz.prog.cellsOf 3 = 1 := by kernel_rfl
  have ks : Tryz.prog.cellsOf 34 = 1 := by kernel_rfl
  have F := fldN (cs := cs) hl hf
  clear hf
  match cs, hlen.trans hk with
  | [c0, c1, c2, c3, c4, c5, c6, c7, c8, c9, c10], _ =>
    obtain ⟨y0, h0'⟩ := F 0 _ rfl 32 rfl 0 5 rfl kb [c0, c1, c2, c3, c4] rfl
    obtain ⟨y1, h1'⟩ := F 1 _ rfl 33 rfl 5 1 rfl ki [c5] rfl
    obtain ⟨y2, h2'⟩ := F 2 _ rfl 34 rfl 6 1 rfl ks [c6] rfl
    obtain ⟨y3, h3'⟩ := F 3 _ rfl 33 rfl 7 1 rfl ki [c7] rfl
    obtain ⟨y4, h4'⟩ := F 4 _ rfl 3 rfl 8 1 rfl kn [c8] rfl
    obtain ⟨y5, h5'⟩ := F 5 _ rfl 3 rfl 9 1 rfl kn [c9] rfl
    obtain ⟨y6, h6'⟩ := F 6 _ rfl 3 rfl 10 1 rfl kn [c10] rfl
    obtain ⟨b, eb, ob⟩ := bas_of h0'
    obtain ⟨a5, l5, p5, rfl, o5, _⟩ := ints_at h1'
    obtain ⟨a6, l6, p6, rfl, o6⟩ := sers_at h2'
    obtain ⟨a7, l7, p7, rfl, o7, _⟩ := ints_at h3'
    obtain ⟨k8, e8, _⟩ := DataW.trod_int Tryz.underlying3 h4'
    obtain ⟨k9, e9, _⟩ := DataW.trod_int Tryz.underlying3 h5'
    obtain ⟨k10, e10, _⟩ := DataW.trod_int Tryz.underlying3 h6'
    simp only [List.cons.injEq, and_true] at e8 e9 e10 eb
    obtain ⟨b0, b1, b2, b3, b4⟩ := eb
    subst b0 b1 b2 b3 b4 e8 e9 e10
    exact ⟨⟨b, a5, p5, l5, a6, p6, l6, a7, p7, l7, k8, k9, k10⟩, rfl, ob, o5, o6, o7⟩
set_option maxRecDepth 100000 in
theorem moved_of {fuel : Nat} {cs : List Value} {x : DataW H × List MemPlace} (h : DataW.trod enc Tryz.prog w base spare held fuel 28 cs = some x) :
    ∃ (s : SetV) (sA : Option Addr) (sl : List St) (sC : Nat) (o i : Int) (pw : Bool), cs = (mvdCells s sA sl.length sC o i pw).toList ∧ s.Ok w ∧ StsAt w sA sl := by
  obtain ⟨xs, n, _, _, hlen, hl, hf⟩ := DataW.trod_struct Tryz.underlying28 h
  have hk : Tryz.prog.cellsOf 28 = 6 := by kernel_rfl
  have kb : Tryz.prog.cellsOf 25 = 2 := by kernel_rfl
  have ks : Tryz.prog.cellsOf 26 = 1 := by kernel_rfl
  have kn : Tryz.prog.cellsOf 3 = 1 := by kernel_rfl
  have ko : Tryz.prog.cellsOf 4 = 1 := by kernel_rfl
  have F := fldN (cs := cs) hl hf
  clear hf
  match cs, hlen.trans hk with
  | [c0, c1, c2, c3, c4, c5], _ =>
    obtain ⟨y0, h0'⟩ := F 0 _ rfl 25 rfl 0 2 rfl kb [c0, c1] rfl
    obtain ⟨y1, h1'⟩ := F 1 _ rfl 26 rfl 2 1 rfl ks [c2] rfl
    obtain ⟨y2, h2'⟩ := F 2 _ rfl 3 rfl 3 1 rfl kn [c3] rfl
    obtain ⟨y3, h3'⟩ := F 3 _ rfl 3 rfl 4 1 rfl kn [c4] rfl
    obtain ⟨y4, h4'⟩ := F 4 _ rfl 4 rfl 5 1 rfl ko [c5] rfl
    obtain ⟨s, es, os⟩ := set_of h0'
    obtain ⟨a2, l2, p2, rfl, o2⟩ := sts_at h1'
    obtain ⟨k3, e3, _⟩ := DataW.trod_int Tryz.underlying3 h2'
    obtain ⟨k4, e4, _⟩ := DataW.trod_int Tryz.underlying3 h3'
    obtain ⟨k5, e5, _⟩ := DataW.trod_bool Tryz.underlying4 h4'
    simp only [List.cons.injEq, and_true] at e3 e4 e5 es
    obtain ⟨b0, b1⟩ := es
    subst b0 b1 e3 e4 e5
    exact ⟨s, a2, l2, p2, k3, k4, k5, rfl, os, o2⟩

set_option maxRecDepth 100000 in
theorem task_arg {v : Value} {d : DataW H} {p : List MemPlace} (hv : Value.okWide Tryz.prog w r b0 36 v) (h : DataW.Trod enc Tryz.prog w base spare held 36 v d p) : ∃ t : TaskV, v = t.val ∧ t.Ok w := by
  obtain ⟨cs, rfl, _⟩ := okWide_struct Tryz.underlying36 hv
  obtain ⟨fu, x, hx⟩ := agg_cells (cs := cs) rfl h
  obtain ⟨s, hs, hok⟩ := task_of hx
  exact ⟨s, by rw [Array.toList_inj.1 hs], hok⟩
set_option maxRecDepth 100000 in
theorem moved_arg {v : Value} {d : DataW H} {p : List MemPlace} (hv : Value.okWide Tryz.prog w r b0 28 v) (h : DataW.Trod enc Tryz.prog w base spare held 28 v d p) :
    ∃ (s : SetV) (sA : Option Addr) (sl : List St) (sC : Nat) (o i : Int) (pw : Bool), v = .agg (mvdCells s sA sl.length sC o i pw) ∧ s.Ok w ∧ StsAt w sA sl := by
  obtain ⟨cs, rfl, _⟩ := okWide_struct Tryz.underlying28 hv
  obtain ⟨fu, x, hx⟩ := agg_cells (cs := cs) rfl h
  obtain ⟨s, a, l, c, o, i, pw, hs, hok, hms⟩ := moved_of hx
  exact ⟨s, a, l, c, o, i, pw, by rw [Array.toList_inj.1 hs], hok, hms⟩
set_option maxRecDepth 100000 in
theorem wint_arg {v : Value} {d : DataW H} {p : List MemPlace} (hv : Value.okWide Tryz.prog w r b0 3 v) (h : DataW.Trod enc Tryz.prog w base spare held 3 v d p) : ∃ n : Int, v = .int .i64 n ∧ -9223372036854775808 ≤ n ∧ n ≤ 9223372036854775807 := by
  obtain ⟨n, rfl⟩ := okWide_int Tryz.underlying3 hv
  obtain ⟨fu, x, hx⟩ := cell_cells rfl h
  obtain ⟨k, e, _, hw⟩ := DataW.trod_int Tryz.underlying3 hx
  simp only [List.cons.injEq, and_true, Value.int.injEq, true_and] at e
  subst e
  simp [Lit.wf, IntKind.min, IntKind.max, IntKind.signed, IntKind.bits] at hw
  exact ⟨_, rfl, hw⟩
end
end Go.Proofs.YtgfdindlihfidaaGreat
