/-
  Arguments that came in, opened to plain data: gates, sets of gates, rules, states, steps, flags, numbers.
-/
import Derived.Test.YtgfdindlihfidaaGreatTg
import Derived.Deep.Slices
import Derived.Deep.Fields
import Derived.ChangeSame
import Derived.ChangeArms
namespace Go.Proofs.YtgfdindlihfidaaGreat
open Go.RowKit Go.ChangeShapes Go.WideShapes Go.Deep
set_option linter.unusedSimpArgs false
set_option linter.unusedVariables false

theorem pick_list {α : Type} {p : Nat → α → Prop} : ∀ n : Nat, (∀ i, i < n → ∃ x, p i x) → ∃ l : List α, l.length = n ∧ ∀ i, (h : i < l.length) → p i l[i]
  | 0, _ => ⟨[], rfl, fun i h => absurd h (by simp)⟩
  | n + 1, h => by
    obtain ⟨l, hl, hp⟩ := pick_list n fun i hi => h i (by omega)
    obtain ⟨x, hx⟩ := h n (by omega)
    refine ⟨l ++ [x], by simp [hl], fun i hi => ?_⟩
    by_cases e : i < l.length
    · rw [List.getElem_append_left e]; exact hp i e
    · have e2 : i = n := by simp at hi; omega
      subst e2
      rw [List.getElem_append_right (by omega)]
      simpa [hl] using hx

section
variable {H : Type} {enc : TypeId × Value → H} {w : World} {base : Nat} {spare : Nat → Bool} {held : Bool}

/-- A slice that came in: nil or empty, or a row of elements. -/
theorem slice_rows {t e : TypeId} {fuel : Nat} {c : Value} {x : DataW H × List MemPlace} (ht : Tryz.prog.underlying t = some (.slice e)) (hpos : 0 < Tryz.prog.cellsOf e) (h : DataW.trod enc Tryz.prog w base spare held fuel t [c] = some x) :
    ∃ (a : Option Addr) (n cap : Nat) (C : Nat → List Value), c = .slice a n cap ∧ n ≤ maxLen ∧ (∀ i, i < n → ∃ fu y, DataW.trod enc Tryz.prog w base spare held fu e (C i) = some y) ∧
      (n = 0 ∨ ∃ b off, a = some ⟨b, off, none⟩ ∧ b < w.heap.size ∧ ∀ i, i < n → w.rangeAt b (off + i * Tryz.prog.cellsOf e) (C i)) := by
  rcases open_slice ht h with ⟨hc, _⟩ | ⟨a, len, cap, m, n, D, Pl, hc, _, hl, hm, hmm, _, hi⟩
  · simp at hc
    exact ⟨none, 0, 0, fun _ => [], hc, by simp, fun i hi => absurd hi (by omega), .inl rfl⟩
  · simp at hc
    have hlm : len ≤ m := by rw [hmm]; split <;> omega
    obtain ⟨C, hC⟩ : ∃ C : Nat → List Value, ∀ i, i < m → w.cells? base (a.add (i * Tryz.prog.cellsOf e)) (Tryz.prog.cellsOf e) = some (C i) ∧ DataW.trod enc Tryz.prog w base spare held n e (C i) = some (D i, Pl i) := by
      refine ⟨fun i => if h : i < m then Classical.choose (hi i h) else [], fun i h => ?_⟩
      simp only [h, dite_true]
      exact Classical.choose_spec (hi i h)
    refine ⟨some a, len, cap, C, hc, by omega, fun i h => ⟨n, _, (hC i (by omega)).2⟩, ?_⟩
    by_cases h0 : len = 0
    · exact .inl h0
    · right
      obtain ⟨b, off, spot⟩ := a
      obtain ⟨_, hlen, hcell⟩ := World.cells?_some (hC 0 (by omega)).1
      have h1 := hcell 0 hpos
      rw [List.getElem?_eq_getElem (by omega)] at h1
      have hs : spot = none := by simpa [Addr.add] using World.cell?_spot h1
      subst hs
      refine ⟨b, off, rfl, by simpa [Addr.add] using World.block_lt_of_cell? w _ h1, fun i hi' j v hv => ?_⟩
      obtain ⟨_, hlen, hcell⟩ := World.cells?_some (hC i (by omega)).1
      have hj : j < Tryz.prog.cellsOf e := by rw [← hlen]; exact (List.getElem?_eq_some_iff.1 hv).1
      have := hcell j hj
      rw [hv, add_plain, add_plain] at this
      exact this

/-- One field of a struct of one-cell fields. -/
theorem fld {fs : Array Field} {n : Nat} {cs : List Value} {xs : List (DataW H × List MemPlace)} (hone : oneCellFields Tryz.prog fs = true) (hl : xs.length = fs.size)
    (hf : ∀ (i : Nat) (f : Field), fs[i]? = some f → DataW.trod enc Tryz.prog w base spare held n f.type ((cs.drop f.offset).take (Tryz.prog.cellsOf f.type)) = xs[i]?)
    (i : Nat) (f : Field) (hi : fs[i]? = some f) (c : Value) (hc : cs[i]? = some c) : ∃ y, DataW.trod enc Tryz.prog w base spare held n f.type [c] = some y := by
  obtain ⟨ho, hk⟩ := hone_of hone i f hi
  have hil : i < fs.size := (Array.getElem?_eq_some_iff.1 hi).1
  have h1 := hf i f hi
  obtain ⟨hic, hcc⟩ := List.getElem?_eq_some_iff.1 hc
  rw [ho, hk, List.drop_eq_getElem_cons hic, List.getElem?_eq_getElem (by omega)] at h1
  rw [← hcc]
  exact ⟨_, h1⟩

theorem ints_at {fuel : Nat} {c : Value} {x : DataW H × List MemPlace} (h : DataW.trod enc Tryz.prog w base spare held fuel 33 [c] = some x) :
    ∃ (a : Option Addr) (l : List Int) (cap : Nat), c = .slice a l.length cap ∧ IntsAt w a l ∧ ∀ n ∈ l, (Lit.int .i64 n).wf = true := by
  have hk : Tryz.prog.cellsOf 3 = 1 := by kernel_rfl
  obtain ⟨a, n, cap, C, rfl, hm, hC, hr⟩ := slice_rows Tryz.underlying33 (by rw [hk]; omega) h
  obtain ⟨l, hl, hp⟩ := pick_list (p := fun i z => C i = [.int .i64 z] ∧ (Lit.int .i64 z).wf = true) n fun i hi => by
    obtain ⟨fu, y, hy⟩ := hC i hi
    obtain ⟨z, hz, _, hw⟩ := DataW.trod_int Tryz.underlying3 hy
    exact ⟨z, hz, hw⟩
  refine ⟨a, l, cap, by rw [hl], ⟨by omega, ?_⟩, fun z hz => ?_⟩
  · rcases hr with h0 | ⟨b, off, ha, hb, hc⟩
    · exact .inl (List.eq_nil_of_length_eq_zero (by omega))
    · refine .inr ⟨b, off, ha, hb, fun k hk' => ?_⟩
      have := hc k (by omega) 0 (.int .i64 l[k]) (by rw [(hp k hk').1]; rfl)
      rw [hk, Nat.mul_one] at this
      rw [List.getElem?_eq_getElem hk']
      exact this
  · obtain ⟨k, hk', rfl⟩ := List.getElem_of_mem hz
    exact (hp k hk').2

theorem bools_at {fuel : Nat} {c : Value} {x : DataW H × List MemPlace} (h : DataW.trod enc Tryz.prog w base spare held fuel 48 [c] = some x) :
    ∃ (a : Option Addr) (l : List Bool) (cap : Nat), c = .slice a l.length cap ∧ BoolsAt w a l := by
  have hk : Tryz.prog.cellsOf 4 = 1 := by kernel_rfl
  obtain ⟨a, n, cap, C, rfl, hm, hC, hr⟩ := slice_rows Tryz.underlying48 (by rw [hk]; omega) h
  obtain ⟨l, hl, hp⟩ := pick_list (p := fun i z => C i = [.bool z]) n fun i hi => by
    obtain ⟨fu, y, hy⟩ := hC i hi
    obtain ⟨z, hz, _⟩ := DataW.trod_bool Tryz.underlying4 hy
    exact ⟨z, hz⟩
  refine ⟨a, l, cap, by rw [hl], by omega, ?_⟩
  rcases hr with h0 | ⟨b, off, ha, hb, hc⟩
  · exact .inl (List.eq_nil_of_length_eq_zero (by omega))
  · refine .inr ⟨b, off, ha, hb, fun k hk' => ?_⟩
    have := hc k (by omega) 0 (.bool l[k]) (by rw [hp k hk']; rfl)
    rw [hk, Nat.mul_one] at this
    exact this

theorem sen_of {fuel : Nat} {cs : List Value} {x : DataW H × List MemPlace} (h : DataW.trod enc Tryz.prog w base spare held fuel 129 cs = some x) : ∃ s : Sen, cs = s.cells.toList := by
  obtain ⟨xs, n, _, _, hlen, hl, hf⟩ := DataW.trod_struct Tryz.underlying129 h
  have hk : Tryz.prog.cellsOf 129 = 3 := by kernel_rfl
  have F := fld (cs := cs) (by kernel_rfl) hl hf
  clear hf
  match cs, hlen.trans hk with
  | [c0, c1, c2], _ =>
    obtain ⟨y0, h0⟩ := F 0 _ rfl c0 rfl
    obtain ⟨y1, h1⟩ := F 1 _ rfl c1 rfl
    obtain ⟨y2, h2⟩ := F 2 _ rfl c2 rfl
    obtain ⟨k0, e0, _⟩ := DataW.trod_int Tryz.underlying3 h0
    obtain ⟨k1, e1, _⟩ := DataW.trod_int Tryz.underlying3 h1
    obtain ⟨k2, e2, _⟩ := DataW.trod_int Tryz.underlying3 h2
    simp only [List.cons.injEq, and_true] at e0 e1 e2
    exact ⟨⟨k0, k1, k2⟩, by rw [e0, e1, e2]⟩

theorem st_of {fuel : Nat} {cs : List Value} {x : DataW H × List MemPlace} (h : DataW.trod enc Tryz.prog w base spare held fuel 62 cs = some x) : ∃ s : St, cs = s.cells.toList := by
  obtain ⟨xs, n, _, _, hlen, hl, hf⟩ := DataW.trod_struct Tryz.underlying62 h
  have hk : Tryz.prog.cellsOf 62 = 3 := by kernel_rfl
  have F := fld (cs := cs) (by kernel_rfl) hl hf
  clear hf
  match cs, hlen.trans hk with
  | [c0, c1, c2], _ =>
    obtain ⟨y0, h0⟩ := F 0 _ rfl c0 rfl
    obtain ⟨y1, h1⟩ := F 1 _ rfl c1 rfl
    obtain ⟨y2, h2⟩ := F 2 _ rfl c2 rfl
    obtain ⟨k0, e0, _⟩ := DataW.trod_int Tryz.underlying3 h0
    obtain ⟨k1, e1, _⟩ := DataW.trod_int Tryz.underlying3 h1
    obtain ⟨k2, e2, _⟩ := DataW.trod_bool Tryz.underlying4 h2
    simp only [List.cons.injEq, and_true] at e0 e1 e2
    exact ⟨⟨k0, k1, k2⟩, by rw [e0, e1, e2]⟩

theorem stp_of {fuel : Nat} {cs : List Value} {x : DataW H × List MemPlace} (h : DataW.trod enc Tryz.prog w base spare held fuel 47 cs = some x) : ∃ s : Stp, cs = s.cells.toList := by
  obtain ⟨xs, n, _, _, hlen, hl, hf⟩ := DataW.trod_struct Tryz.underlying47 h
  have hk : Tryz.prog.cellsOf 47 = 4 := by kernel_rfl
  have F := fld (cs := cs) (by kernel_rfl) hl hf
  clear hf
  match cs, hlen.trans hk with
  | [c0, c1, c2, c3], _ =>
    obtain ⟨y0, h0⟩ := F 0 _ rfl c0 rfl
    obtain ⟨y1, h1⟩ := F 1 _ rfl c1 rfl
    obtain ⟨y2, h2⟩ := F 2 _ rfl c2 rfl
    obtain ⟨y3, h3⟩ := F 3 _ rfl c3 rfl
    obtain ⟨k0, e0, _⟩ := DataW.trod_int Tryz.underlying3 h0
    obtain ⟨k1, e1, _⟩ := DataW.trod_bool Tryz.underlying4 h1
    obtain ⟨k2, e2, _⟩ := DataW.trod_int Tryz.underlying3 h2
    obtain ⟨k3, e3, _⟩ := DataW.trod_int Tryz.underlying3 h3
    simp only [List.cons.injEq, and_true] at e0 e1 e2 e3
    exact ⟨⟨k0, k1, k2, k3⟩, by rw [e0, e1, e2, e3]⟩

theorem rul_of {fuel : Nat} {cs : List Value} {x : DataW H × List MemPlace} (h : DataW.trod enc Tryz.prog w base spare held fuel 88 cs = some x) : ∃ s : Rul, cs = s.cells.toList := by
  obtain ⟨xs, n, _, _, hlen, hl, hf⟩ := DataW.trod_struct Tryz.underlying88 h
  have hk : Tryz.prog.cellsOf 88 = 4 := by kernel_rfl
  have F := fld (cs := cs) (by kernel_rfl) hl hf
  clear hf
  match cs, hlen.trans hk with
  | [c0, c1, c2, c3], _ =>
    obtain ⟨y0, h0⟩ := F 0 _ rfl c0 rfl
    obtain ⟨y1, h1⟩ := F 1 _ rfl c1 rfl
    obtain ⟨y2, h2⟩ := F 2 _ rfl c2 rfl
    obtain ⟨y3, h3⟩ := F 3 _ rfl c3 rfl
    obtain ⟨k0, e0, _⟩ := DataW.trod_int Tryz.underlying3 h0
    obtain ⟨k1, e1, _⟩ := DataW.trod_int Tryz.underlying3 h1
    obtain ⟨k2, e2, _⟩ := DataW.trod_int Tryz.underlying3 h2
    obtain ⟨k3, e3, _⟩ := DataW.trod_int Tryz.underlying3 h3
    simp only [List.cons.injEq, and_true] at e0 e1 e2 e3
    exact ⟨⟨k0, k1, k2, k3⟩, by rw [e0, e1, e2, e3]⟩

theorem sens_at {fuel : Nat} {c : Value} {x : DataW H × List MemPlace} (h : DataW.trod enc Tryz.prog w base spare held fuel 58 [c] = some x) :
    ∃ (a : Option Addr) (l : List Sen) (cap : Nat), c = .slice a l.length cap ∧ SensAt w a l := by
  have hk : Tryz.prog.cellsOf 129 = 3 := by kernel_rfl
  obtain ⟨a, n, cap, C, rfl, hm, hC, hr⟩ := slice_rows Tryz.underlying58 (by rw [hk]; omega) h
  obtain ⟨l, hl, hp⟩ := pick_list (p := fun i (z : Sen) => C i = z.cells.toList) n fun i hi => by
    obtain ⟨fu, y, hy⟩ := hC i hi
    exact sen_of hy
  refine ⟨a, l, cap, by rw [hl], by omega, ?_⟩
  rcases hr with h0 | ⟨b, off, ha, hb, hc⟩
  · exact .inl (List.eq_nil_of_length_eq_zero (by omega))
  · refine .inr ⟨b, off, ha, hb, fun k hk' => ?_⟩
    have hh := hc k (by omega)
    rw [hk, hp k hk'] at hh
    exact ⟨hh 0 _ rfl, hh 1 _ rfl, hh 2 _ rfl⟩

theorem sts_at {fuel : Nat} {c : Value} {x : DataW H × List MemPlace} (h : DataW.trod enc Tryz.prog w base spare held fuel 26 [c] = some x) :
    ∃ (a : Option Addr) (l : List St) (cap : Nat), c = .slice a l.length cap ∧ StsAt w a l := by
  have hk : Tryz.prog.cellsOf 62 = 3 := by kernel_rfl
  obtain ⟨a, n, cap, C, rfl, hm, hC, hr⟩ := slice_rows Tryz.underlying26 (by rw [hk]; omega) h
  obtain ⟨l, hl, hp⟩ := pick_list (p := fun i (z : St) => C i = z.cells.toList) n fun i hi => by
    obtain ⟨fu, y, hy⟩ := hC i hi
    exact st_of hy
  refine ⟨a, l, cap, by rw [hl], by omega, ?_⟩
  rcases hr with h0 | ⟨b, off, ha, hb, hc⟩
  · exact .inl (List.eq_nil_of_length_eq_zero (by omega))
  · refine .inr ⟨b, off, ha, hb, fun k hk' => ?_⟩
    have hh := hc k (by omega)
    rw [hk, hp k hk'] at hh
    exact ⟨hh 0 _ rfl, hh 1 _ rfl, hh 2 _ rfl⟩

theorem stps_at {fuel : Nat} {c : Value} {x : DataW H × List MemPlace} (h : DataW.trod enc Tryz.prog w base spare held fuel 45 [c] = some x) :
    ∃ (a : Option Addr) (l : List Stp) (cap : Nat), c = .slice a l.length cap ∧ StpsAt w a l := by
  have hk : Tryz.prog.cellsOf 47 = 4 := by kernel_rfl
  obtain ⟨a, n, cap, C, rfl, hm, hC, hr⟩ := slice_rows Tryz.underlying45 (by rw [hk]; omega) h
  obtain ⟨l, hl, hp⟩ := pick_list (p := fun i (z : Stp) => C i = z.cells.toList) n fun i hi => by
    obtain ⟨fu, y, hy⟩ := hC i hi
    exact stp_of hy
  refine ⟨a, l, cap, by rw [hl], by omega, ?_⟩
  rcases hr with h0 | ⟨b, off, ha, hb, hc⟩
  · exact .inl (List.eq_nil_of_length_eq_zero (by omega))
  · refine .inr ⟨b, off, ha, hb, fun k hk' => ?_⟩
    have hh := hc k (by omega)
    rw [hk, hp k hk'] at hh
    exact ⟨hh 0 _ rfl, hh 1 _ rfl, hh 2 _ rfl, hh 3 _ rfl⟩

theorem ruls_at {fuel : Nat} {c : Value} {x : DataW H × List MemPlace} (h : DataW.trod enc Tryz.prog w base spare held fuel 23 [c] = some x) :
    ∃ (a : Option Addr) (l : List Rul) (cap : Nat), c = .slice a l.length cap ∧ RulesAt w a l := by
  have hk : Tryz.prog.cellsOf 88 = 4 := by kernel_rfl
  obtain ⟨a, n, cap, C, rfl, hm, hC, hr⟩ := slice_rows Tryz.underlying23 (by rw [hk]; omega) h
  obtain ⟨l, hl, hp⟩ := pick_list (p := fun i (z : Rul) => C i = z.cells.toList) n fun i hi => by
    obtain ⟨fu, y, hy⟩ := hC i hi
    exact rul_of hy
  refine ⟨a, l, cap, by rw [hl], by omega, ?_⟩
  rcases hr with h0 | ⟨b, off, ha, hb, hc⟩
  · exact .inl (List.eq_nil_of_length_eq_zero (by omega))
  · refine .inr ⟨b, off, ha, hb, fun k hk' => ?_⟩
    have hh := hc k (by omega)
    rw [hk, hp k hk'] at hh
    exact ⟨hh 0 _ rfl, hh 1 _ rfl, hh 2 _ rfl, hh 3 _ rfl⟩

set_option maxRecDepth 100000 in
theorem gate_of {fuel : Nat} {cs : List Value} {x : DataW H × List MemPlace} (h : DataW.trod enc Tryz.prog w base spare held fuel 60 cs = some x) : ∃ g : GateV, cs = g.cells.toList ∧ g.Ok w := by
  obtain ⟨xs, n, _, _, hlen, hl, hf⟩ := DataW.trod_struct Tryz.underlying60 h
  have hk : Tryz.prog.cellsOf 60 = 21 := by kernel_rfl
  have F := fld (cs := cs) (by kernel_rfl) hl hf
  have I : ∀ (i : Nat) (f : Field), Tryz.prog.underlying f.type = some (.int .i64) → ∀ c, (∃ y, DataW.trod enc Tryz.prog w base spare held n f.type [c] = some y) → ∃ k, c = .int .i64 k := fun i f hu c ⟨y, hy⟩ => by
    obtain ⟨k, e, _⟩ := DataW.trod_int hu hy
    simp only [List.cons.injEq, and_true] at e
    exact ⟨k, e⟩
  clear hf
  match cs, hlen.trans hk with
  | [c0, c1, c2, c3, c4, c5, c6, c7, c8, c9, c10, c11, c12, c13, c14, c15, c16, c17, c18, c19, c20], _ =>
    obtain ⟨y0, h0⟩ := F 0 _ rfl c0 rfl
    obtain ⟨s0, e0, _, hs0⟩ := DataW.trod_string Tryz.underlying9 h0
    obtain ⟨k1, rfl⟩ := I 1 _ Tryz.underlying3 c1 (F 1 _ rfl c1 rfl)
    obtain ⟨k2, rfl⟩ := I 2 _ Tryz.underlying3 c2 (F 2 _ rfl c2 rfl)
    obtain ⟨y3, h3⟩ := F 3 _ rfl c3 rfl
    obtain ⟨a3, l3, p3, rfl, o3, _⟩ := ints_at h3
    obtain ⟨k4, rfl⟩ := I 4 _ Tryz.underlying3 c4 (F 4 _ rfl c4 rfl)
    obtain ⟨k5, rfl⟩ := I 5 _ Tryz.underlying3 c5 (F 5 _ rfl c5 rfl)
    obtain ⟨k6, rfl⟩ := I 6 _ Tryz.underlying3 c6 (F 6 _ rfl c6 rfl)
    obtain ⟨k7, rfl⟩ := I 7 _ Tryz.underlying3 c7 (F 7 _ rfl c7 rfl)
    obtain ⟨k8, rfl⟩ := I 8 _ Tryz.underlying3 c8 (F 8 _ rfl c8 rfl)
    obtain ⟨k9, rfl⟩ := I 9 _ Tryz.underlying3 c9 (F 9 _ rfl c9 rfl)
    obtain ⟨k10, rfl⟩ := I 10 _ Tryz.underlying3 c10 (F 10 _ rfl c10 rfl)
    obtain ⟨k11, rfl⟩ := I 11 _ Tryz.underlying3 c11 (F 11 _ rfl c11 rfl)
    obtain ⟨k12, rfl⟩ := I 12 _ Tryz.underlying3 c12 (F 12 _ rfl c12 rfl)
    obtain ⟨k13, rfl⟩ := I 13 _ Tryz.underlying3 c13 (F 13 _ rfl c13 rfl)
    obtain ⟨k14, rfl⟩ := I 14 _ Tryz.underlying3 c14 (F 14 _ rfl c14 rfl)
    obtain ⟨k15, rfl⟩ := I 15 _ Tryz.underlying3 c15 (F 15 _ rfl c15 rfl)
    obtain ⟨k16, rfl⟩ := I 16 _ Tryz.underlying3 c16 (F 16 _ rfl c16 rfl)
    obtain ⟨k17, rfl⟩ := I 17 _ Tryz.underlying3 c17 (F 17 _ rfl c17 rfl)
    obtain ⟨k18, rfl⟩ := I 18 _ Tryz.underlying3 c18 (F 18 _ rfl c18 rfl)
    obtain ⟨y19, h19⟩ := F 19 _ rfl c19 rfl
    obtain ⟨a19, l19, p19, rfl, o19⟩ := sens_at h19
    obtain ⟨k20, rfl⟩ := I 20 _ Tryz.underlying3 c20 (F 20 _ rfl c20 rfl)
    simp only [List.cons.injEq, and_true] at e0
    subst e0
    exact ⟨⟨s0, k1, k2, a3, p3, l3, k4, k5, k6, k7, k8, k9, k10, k11, k12, k13, k14, k15, k16, k17, k18, a19, p19, l19, k20⟩, rfl, o3, o19, hs0⟩

set_option maxRecDepth 100000 in
theorem gates_at {fuel : Nat} {c : Value} {x : DataW H × List MemPlace} (h : DataW.trod enc Tryz.prog w base spare held fuel 22 [c] = some x) :
    ∃ (a : Option Addr) (l : List GateV) (cap : Nat), c = .slice a l.length cap ∧ GatesAt w a l := by
  have hk : Tryz.prog.cellsOf 60 = 21 := by kernel_rfl
  obtain ⟨a, n, cap, C, rfl, hm, hC, hr⟩ := slice_rows Tryz.underlying22 (by rw [hk]; omega) h
  obtain ⟨l, hl, hp⟩ := pick_list (p := fun i (z : GateV) => C i = z.cells.toList ∧ z.Ok w) n fun i hi => by
    obtain ⟨fu, y, hy⟩ := hC i hi
    exact gate_of hy
  refine ⟨a, l, cap, by rw [hl], by omega, fun g hg => ?_, ?_⟩
  · obtain ⟨k, hk', rfl⟩ := List.getElem_of_mem hg
    exact (hp k hk').2
  · rcases hr with h0 | ⟨b, off, ha, hb, hc⟩
    · exact .inl (List.eq_nil_of_length_eq_zero (by omega))
    · refine .inr ⟨b, off, ha, hb, fun k hk' => ?_⟩
      have hh := hc k (by omega)
      rw [hk, (hp k hk').1] at hh
      exact hh

theorem set_of {fuel : Nat} {cs : List Value} {x : DataW H × List MemPlace} (h : DataW.trod enc Tryz.prog w base spare held fuel 25 cs = some x) : ∃ s : SetV, cs = s.cells.toList ∧ s.Ok w := by
  obtain ⟨xs, n, _, _, hlen, hl, hf⟩ := DataW.trod_struct Tryz.underlying25 h
  have hk : Tryz.prog.cellsOf 25 = 2 := by kernel_rfl
  have F := fld (cs := cs) (by kernel_rfl) hl hf
  clear hf
  match cs, hlen.trans hk with
  | [c0, c1], _ =>
    obtain ⟨y0, h0⟩ := F 0 _ rfl c0 rfl
    obtain ⟨y1, h1⟩ := F 1 _ rfl c1 rfl
    obtain ⟨a, l, p, rfl, o⟩ := gates_at h0
    obtain ⟨a2, l2, p2, rfl, o2⟩ := ruls_at h1
    exact ⟨⟨a, p, l, a2, p2, l2⟩, rfl, o, o2⟩

/-- By value: a struct's reading speaks of its cells. -/
theorem agg_cells {t : TypeId} {v : Value} {cs : Array Value} {d : DataW H} {p : List MemPlace} (hv : v = .agg cs) (h : DataW.Trod enc Tryz.prog w base spare held t v d p) : ∃ fu x, DataW.trod enc Tryz.prog w base spare held fu t cs.toList = some x := by
  obtain ⟨fu, hf⟩ := h
  subst hv
  exact ⟨fu, _, hf⟩
theorem cell_cells {t : TypeId} {v : Value} {d : DataW H} {p : List MemPlace} (hc : v.cells = #[v]) (h : DataW.Trod enc Tryz.prog w base spare held t v d p) : ∃ fu x, DataW.trod enc Tryz.prog w base spare held fu t [v] = some x := by
  obtain ⟨fu, hf⟩ := h
  rw [hc] at hf
  exact ⟨fu, _, hf⟩
end
end Go.Proofs.YtgfdindlihfidaaGreat
