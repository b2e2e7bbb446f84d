/-
  Plain data of the basin and the closure chapters: rows, polders, basins, series, tasks, as Lean structures, and how each lies in memory.
-/
import Derived.Test.YtgfdindlihfidaaGreatMa
import Derived.Test.YtgfdindlihfidaaGreatZb
namespace Go.Proofs.YtgfdindlihfidaaGreat
open Go.RowKit
set_option linter.unusedVariables false

/-- A row of a basin. -/
structure RowV where
  level : Int
  vol : Int
abbrev RowV.cells (x : RowV) : Array Value := #[.int .i64 x.level, .int .i64 x.vol]
abbrev RowV.val (x : RowV) : Value := .agg x.cells

/-- A polder. -/
structure PolV where
  nm : ByteArray
  sill : Int
  take : Int
  room : Int
abbrev PolV.cells (x : PolV) : Array Value := #[.string x.nm, .int .i64 x.sill, .int .i64 x.take, .int .i64 x.room]
abbrev PolV.val (x : PolV) : Value := .agg x.cells

/-- A basin. -/
structure BasV where
  rA : Option Addr
  rC : Nat
  rows : List RowV
  leak : Int
  crest : Int
  over : Int
  pA : Option Addr
  pC : Nat
  pols : List PolV
abbrev BasV.cells (b : BasV) : Array Value := #[.slice b.rA b.rows.length b.rC, .int .i64 b.leak, .int .i64 b.crest, .int .i64 b.over, .slice b.pA b.pols.length b.pC]
abbrev BasV.val (b : BasV) : Value := .agg b.cells

/-- A series. -/
structure SerV where
  from_ : Int
  vA : Option Addr
  vC : Nat
  vals : List Int
abbrev SerV.cells (x : SerV) : Array Value := #[.int .i64 x.from_, .slice x.vA x.vals.length x.vC]
abbrev SerV.val (x : SerV) : Value := .agg x.cells

/-- A task of closure. -/
structure TaskV where
  bas : BasV
  fA : Option Addr
  fC : Nat
  filled : List Int
  hA : Option Addr
  hC : Nat
  hists : List SerV
  rA : Option Addr
  rC : Nat
  river : List Int
  out : Int
  limit : Int
  delay : Int
abbrev TaskV.cells (t : TaskV) : Array Value :=
  #[.slice t.bas.rA t.bas.rows.length t.bas.rC, .int .i64 t.bas.leak, .int .i64 t.bas.crest, .int .i64 t.bas.over, .slice t.bas.pA t.bas.pols.length t.bas.pC, .slice t.fA t.filled.length t.fC, .slice t.hA t.hists.length t.hC, .slice t.rA t.river.length t.rC, .int .i64 t.out, .int .i64 t.limit, .int .i64 t.delay]
abbrev TaskV.val (t : TaskV) : Value := .agg t.cells

/-- Rows lie in memory. -/
def RowsAt (w : World) (a : Option Addr) (l : List RowV) : Prop :=
  l.length ≤ maxLen ∧ (l = [] ∨ ∃ b off, a = some ⟨b, off, none⟩ ∧ b < w.heap.size ∧ ∀ k, (h : k < l.length) →
    w.cell? ⟨b, off + k * 2, none⟩ = some (.int .i64 l[k].level) ∧ w.cell? ⟨b, off + k * 2 + 1, none⟩ = some (.int .i64 l[k].vol))
theorem RowsAt.below {w w' : World} {a : Option Addr} {l : List RowV} {B : Nat} (h : RowsAt w a l) (hb : Below B w w') (hB : w.heap.size ≤ B) : RowsAt w' a l := by
  obtain ⟨hm, h⟩ := h
  refine ⟨hm, ?_⟩
  rcases h with h | ⟨b, off, h1, h2, h3⟩
  · exact .inl h
  · refine .inr ⟨b, off, h1, Nat.lt_of_lt_of_le h2 hb.size, fun k hk => ?_⟩
    have hlt := Nat.lt_of_lt_of_le h2 hB
    obtain ⟨c0, c1⟩ := h3 k hk
    exact ⟨(hb.cell (p := ⟨b, off + k * 2, none⟩) hlt).trans c0, (hb.cell (p := ⟨b, off + k * 2 + 1, none⟩) hlt).trans c1⟩

/-- Polders lie in memory. -/
def PolsAt (w : World) (a : Option Addr) (l : List PolV) : Prop :=
  l.length ≤ maxLen ∧ (∀ p ∈ l, p.nm.size ≤ maxLen) ∧ (l = [] ∨ ∃ b off, a = some ⟨b, off, none⟩ ∧ b < w.heap.size ∧ ∀ k, (h : k < l.length) →
    w.cell? ⟨b, off + k * 4, none⟩ = some (.string l[k].nm) ∧ w.cell? ⟨b, off + k * 4 + 1, none⟩ = some (.int .i64 l[k].sill) ∧ w.cell? ⟨b, off + k * 4 + 2, none⟩ = some (.int .i64 l[k].take) ∧ w.cell? ⟨b, off + k * 4 + 3, none⟩ = some (.int .i64 l[k].room))
theorem PolsAt.below {w w' : World} {a : Option Addr} {l : List PolV} {B : Nat} (h : PolsAt w a l) (hb : Below B w w') (hB : w.heap.size ≤ B) : PolsAt w' a l := by
  obtain ⟨hm, hn, h⟩ := h
  refine ⟨hm, hn, ?_⟩
  rcases h with h | ⟨b, off, h1, h2, h3⟩
  · exact .inl h
  · refine .inr ⟨b, off, h1, Nat.lt_of_lt_of_le h2 hb.size, fun k hk => ?_⟩
    have hlt := Nat.lt_of_lt_of_le h2 hB
    obtain ⟨c0, c1, c2, c3⟩ := h3 k hk
    exact ⟨(hb.cell (p := ⟨b, off + k * 4, none⟩) hlt).trans c0, (hb.cell (p := ⟨b, off + k * 4 + 1, none⟩) hlt).trans c1, (hb.cell (p := ⟨b, off + k * 4 + 2, none⟩) hlt).trans c2, (hb.cell (p := ⟨b, off + k * 4 + 3, none⟩) hlt).trans c3⟩

/-- Series lie in memory, with what each holds. -/
def SersAt (w : World) (a : Option Addr) (l : List SerV) : Prop :=
  l.length ≤ maxLen ∧ (∀ x ∈ l, IntsAt w x.vA x.vals) ∧ (l = [] ∨ ∃ b off, a = some ⟨b, off, none⟩ ∧ b < w.heap.size ∧ ∀ k, (h : k < l.length) →
    w.cell? ⟨b, off + k * 2, none⟩ = some (.int .i64 l[k].from_) ∧ w.cell? ⟨b, off + k * 2 + 1, none⟩ = some (.slice l[k].vA l[k].vals.length l[k].vC))
theorem SersAt.below {w w' : World} {a : Option Addr} {l : List SerV} {B : Nat} (h : SersAt w a l) (hb : Below B w w') (hB : w.heap.size ≤ B) : SersAt w' a l := by
  obtain ⟨hm, hn, h⟩ := h
  refine ⟨hm, fun x hx => (hn x hx).below hb hB, ?_⟩
  rcases h with h | ⟨b, off, h1, h2, h3⟩
  · exact .inl h
  · refine .inr ⟨b, off, h1, Nat.lt_of_lt_of_le h2 hb.size, fun k hk => ?_⟩
    have hlt := Nat.lt_of_lt_of_le h2 hB
    obtain ⟨c0, c1⟩ := h3 k hk
    exact ⟨(hb.cell (p := ⟨b, off + k * 2, none⟩) hlt).trans c0, (hb.cell (p := ⟨b, off + k * 2 + 1, none⟩) hlt).trans c1⟩

/-- A basin whose lists lie in memory. -/
structure BasV.Ok (b : BasV) (w : World) : Prop where
  rows : RowsAt w b.rA b.rows
  pols : PolsAt w b.pA b.pols
  cap : b.rows.length ≤ b.rC
theorem BasV.Ok.below {b : BasV} {w w' : World} {B : Nat} (h : b.Ok w) (hb : Below B w w') (hB : w.heap.size ≤ B) : b.Ok w' := ⟨h.rows.below hb hB, h.pols.below hb hB, h.cap⟩
/-- A task whose lists lie in memory. -/
structure TaskV.Ok (t : TaskV) (w : World) : Prop where
  bas : t.bas.Ok w
  filled : IntsAt w t.fA t.filled
  hists : SersAt w t.hA t.hists
  river : IntsAt w t.rA t.river
theorem TaskV.Ok.below {t : TaskV} {w w' : World} {B : Nat} (h : t.Ok w) (hb : Below B w w') (hB : w.heap.size ≤ B) : t.Ok w' := ⟨h.bas.below hb hB, h.filled.below hb hB, h.hists.below hb hB, h.river.below hb hB⟩

/-- What is asked of row k: 7 if it is no row, 2 if it does not rise. -/
def RowGood (l : List RowV) (k : Nat) : Prop := (h : k < l.length) → outB l[k].level (-20000) 20000 = false ∧ outB l[k].vol 0 1000000000 = false ∧ (∀ j, (e : j + 1 = k) → l[j].level < l[k].level ∧ l[j].vol < l[k].vol)
/-- A basin without polders that is as stated. -/
structure BasV.Good (b : BasV) : Prop where
  nopol : b.pols = []
  len : 2 ≤ b.rows.length ∧ b.rows.length ≤ 12
  rows : ∀ k, RowGood b.rows k
  leak : outB b.leak 0 10000 = false
  over : outB b.over 0 10000 = false
  crest : outB b.crest (-20000) 20000 = false
  slope : ∀ k, (h : k + 1 < b.rows.length) → b.leak * (b.rows[k + 1].level - b.rows[k].level) ≤ b.rows[k + 1].vol - b.rows[k].vol

theorem bout_any (n lo hi : Int) (w : World) :
    Calls Tryz.prog 84 #[.int .i64 n, .int .i64 lo, .int .i64 hi] w fun e w' => e = .returned (.bool (outB n lo hi)) ∧ w = w' := by
  by_cases h1 : n < lo
  all_goals
    go_enter Tryz.func84, Tryz.ntmps84
    go_wp2
    go_ret
    refine ⟨ret_bool ?_, rfl⟩
    first
      | (have h2 : ¬ n < lo := by omega
         simp [outB, h2])
      | simp [outB, h1]
theorem bhigh_any (n : Int) (w : World) :
    Calls Tryz.prog 85 #[.int .i64 n] w fun e w' => e = .returned (.bool (outB n (-20000) 20000)) ∧ w = w' := by
  go_enter Tryz.func85, Tryz.ntmps85
  go_wp2_with (go_at_call 84; refine (bout_any _ _ _ _).mono ?_; rintro e w' ⟨rfl, rfl⟩)
  go_ret
  exact ⟨rfl, rfl⟩
theorem cout_any (n lo hi : Int) (w : World) :
    Calls Tryz.prog 18 #[.int .i64 n, .int .i64 lo, .int .i64 hi] w fun e w' => e = .returned (.bool (outB n lo hi)) ∧ w = w' := by
  by_cases h1 : n < lo
  all_goals
    go_enter Tryz.func18, Tryz.ntmps18
    go_wp2
    go_ret
    refine ⟨ret_bool ?_, rfl⟩
    first
      | (have h2 : ¬ n < lo := by omega
         simp [outB, h2])
      | simp [outB, h1]
end Go.Proofs.YtgfdindlihfidaaGreat

/-
  Small functions of closure over any closure that is handed in: slices.IndexFunc, slices.ContainsFunc, where.
-/
namespace Go.Proofs.YtgfdindlihfidaaGreat
open Go.RowKit
set_option linter.unusedSimpArgs false
set_option linter.unusedVariables false

/-- A function of numbers that only looks. -/
def PureF (fid : FuncId) (p : Int → Bool) : Prop := Enters Tryz.prog fid ∧ ∀ (v : Int) (W : World), Calls Tryz.prog fid #[.int .i64 v] W fun e W' => e = .returned (.bool (p v)) ∧ W = W'

set_option maxHeartbeats 400000 in
theorem indexF_any (fid : FuncId) (p : Int → Bool) (hp : PureF fid p) (a : Option Addr) (l : List Int) (c : Nat) (w : World) (hl : IntsAt w a l) :
    Calls Tryz.prog 77 #[.slice a l.length c, .func (.func fid) #[] #[]] w fun e w' => e = .returned (.int .i64 (idxZ p l 0)) ∧ w = w' := by
  obtain ⟨hm, hl⟩ := hl
  unfold maxLen at hm
  obtain ⟨hen, hf⟩ := hp
  unfold Enters at hen
  have Hf := Lib.hid hf
  clear hf
  go_enter Tryz.func77, Tryz.ntmps77
  go_wp2
  go_loop [8] (fun i => ∃ k : Nat, k ≤ l.length ∧ i = .int .i64 k ∧ idxZ p (l.drop k) k = idxZ p l 0) (fun i => l.length - (intOf i).toNat)
  case atStart => exact ⟨0, Nat.zero_le _, rfl, rfl⟩
  case round =>
    obtain ⟨k, hk, rfl, hix⟩ := hrel
    have Hix := Lib.hid hix
    clear hix
    by_cases hlt : k < l.length
    · rcases hl with hl | ⟨b, off, rfl, hb, hl⟩
      · rw [hl] at hlt; exact absurd hlt (by simp)
      · have hck := hl k hlt
        have hs := drop_step hlt
        have Hs := Lib.hid hs
        clear hs hl
        by_cases ho : p l[k] = true
        all_goals
          go_wp2_with (refine (Hf.out _ _).mono ?_; rintro e w' ⟨rfl, rfl⟩)
          first
            | (go_ret
               exact ⟨ret_int (by rw [← Hix.out, Hs.out, idxZ, if_pos ho]), rfl⟩)
            | (go_round
               case rel => exact ⟨k + 1, by omega, by go_num, by rw [← Hix.out, Hs.out, idxZ, if_neg ho]; rfl⟩
               case measure => simp [intOf]; omega)
    · have hn : l.drop k = [] := List.drop_eq_nil_of_le (by omega)
      have Hn := Lib.hid hn
      clear hn hl
      go_wp2
      go_ret
      exact ⟨ret_int (by rw [← Hix.out, Hn.out]; rfl), rfl⟩

theorem containsF_any (fid : FuncId) (p : Int → Bool) (hp : PureF fid p) (a : Option Addr) (l : List Int) (c : Nat) (w : World) (hl : IntsAt w a l) :
    Calls Tryz.prog 57 #[.slice a l.length c, .func (.func fid) #[] #[]] w fun e w' => e = .returned (.bool (l.any p)) ∧ w = w' := by
  have hq := idxZ_nonneg p l 0 (by omega)
  have Hp := Lib.hid hq
  clear hq
  go_enter Tryz.func57, Tryz.ntmps57
  go_wp2_with (go_at_call 77; refine (indexF_any fid p hp a l c _ hl).mono ?_; rintro e w' ⟨rfl, rfl⟩)
  go_ret
  exact ⟨ret_bool Hp.out, rfl⟩

theorem wild_pure : PureF 73 (outB · (-20000) 20000) :=
  ⟨enters_of Tryz.func73 (by kernel_rfl) rfl, fun v W => by
    go_enter Tryz.func73, Tryz.ntmps73
    go_wp2_with (go_at_call 18; refine (cout_any _ _ _ _).mono ?_; rintro e w' ⟨rfl, rfl⟩)
    go_ret
    exact ⟨rfl, rfl⟩⟩
theorem flow_pure : PureF 74 (outB · 0 10000000) :=
  ⟨enters_of Tryz.func74 (by kernel_rfl) rfl, fun v W => by
    go_enter Tryz.func74, Tryz.ntmps74
    go_wp2_with (go_at_call 18; refine (cout_any _ _ _ _).mono ?_; rintro e w' ⟨rfl, rfl⟩)
    go_ret
    exact ⟨rfl, rfl⟩⟩

/-- The first of n indices from k on at which p holds; -1. -/
def whereZ (p : Nat → Bool) : Nat → Nat → Int
  | 0, _ => -1
  | n + 1, k => if p k = true then (k : Int) else whereZ p n (k + 1)
theorem whereZ_step {p : Nat → Bool} {n k : Nat} (h : k < n) (h0 : p k = false) : whereZ p (n - k) k = whereZ p (n - (k + 1)) (k + 1) := by
  rw [show n - k = (n - (k + 1)) + 1 from by omega, whereZ, if_neg (by simp [h0])]
theorem whereZ_hit {p : Nat → Bool} {n k : Nat} (h : k < n) (h0 : p k = true) : whereZ p (n - k) k = (k : Int) := by
  rw [show n - k = (n - (k + 1)) + 1 from by omega, whereZ, if_pos h0]
theorem whereZ_out {p : Nat → Bool} {n k : Nat} (h : n ≤ k) : whereZ p (n - k) k = -1 := by
  rw [show n - k = 0 from by omega, whereZ]

set_option maxHeartbeats 1000000 in
theorem where_any (fid : FuncId) (caps : Array Value) (hen : Enters Tryz.prog fid) (a : Option Addr) (l : List Int) (c : Nat) (p : Nat → Bool) (J : World → Prop) (hJ : ∀ W, J W → IntsAt W a l)
    (hf : ∀ k, (h : k < l.length) → ∀ W, J W → Calls Tryz.prog fid (#[.int .i64 k, .int .i64 l[k]] ++ caps) W fun e W' => e = .returned (.bool (p k)) ∧ J W') (w : World) (h0 : J w) :
    Calls Tryz.prog 67 #[.slice a l.length c, .func (.func fid) #[] caps] w fun e w' => e = .returned (.int .i64 (whereZ p l.length 0)) ∧ J w' := by
  have hm := (hJ w h0).1
  unfold maxLen at hm
  have HJ := Lib.hid hJ
  have Hf := Lib.hid hf
  have H0 := Lib.hid h0
  obtain ⟨r, hr⟩ : ∃ r, r = whereZ p l.length 0 := ⟨_, rfl⟩
  rw [← hr]
  have Hr := Lib.hid hr
  unfold Enters at hen
  clear hJ hf h0 hr
  go_enter Tryz.func67, Tryz.ntmps67
  go_wp2
  go_loopw [9] (fun i wr => ∃ k : Nat, k ≤ l.length ∧ i = .int .i64 k ∧ J wr ∧ whereZ p (l.length - k) k = r) (fun i _ => l.length - (intOf i).toNat)
  case atStart => exact ⟨0, Nat.zero_le _, rfl, H0.out, Hr.out.symm⟩
  case round =>
    obtain ⟨k, hk, rfl, hj, hix⟩ := hrel
    have Hj := Lib.hid hj
    have Hix := Lib.hid hix
    clear hj hix
    by_cases hlt : k < l.length
    · obtain ⟨_, hl⟩ := HJ.out _ Hj.out
      rcases hl with hl | ⟨b, off, ha, hb, hl⟩
      · rw [hl] at hlt; exact absurd hlt (by simp)
      · have hck := hl k hlt
        rw [List.getElem?_eq_getElem hlt, Option.getD_some] at hck
        have i1 : (0 : Int) ≤ (k : Int) := by omega
        have i2 : (k : Int) < (l.length : Int) := by omega
        rw [ha]
        clear hl ha
        cases hp : p k with
        | true =>
          have hw := whereZ_hit (n := l.length) hlt hp
          rw [Hix.out] at hw
          have Hw := Lib.hid hw
          have hc := Hf.out k hlt wr Hj.out
          rw [hp] at hc
          have Hc := Lib.hid hc
          clear hw hc hp
          go_wp2_with (refine Hc.out.mono ?_; rintro e w1 ⟨rfl, hj1⟩)
          go_ret
          exact ⟨ret_int Hw.out.symm, hj1⟩
        | false =>
          have hw := whereZ_step (n := l.length) hlt hp
          rw [Hix.out] at hw
          have Hw := Lib.hid hw
          have hc := Hf.out k hlt wr Hj.out
          rw [hp] at hc
          have Hc := Lib.hid hc
          clear hw hc hp
          go_wp2_with (refine Hc.out.mono ?_; rintro e w1 ⟨rfl, hj1⟩; have Hj1 := Lib.hid hj1; clear hj1)
          go_roundw
          case rel => first | exact ⟨k + 1, by omega, by go_num, Hj1.out, Hw.out.symm⟩ | ((repeat apply Exists.intro); exact ⟨⟨k + 1, by omega, by go_num, Hj1.out, Hw.out.symm⟩, rfl⟩)
          case measure => simp [intOf]; omega
    · have hw := whereZ_out (p := p) (n := l.length) (k := k) (by omega)
      rw [Hix.out] at hw
      go_wp2
      go_ret
      exact ⟨ret_int hw.symm, Hj.out⟩
end Go.Proofs.YtgfdindlihfidaaGreat

/-
  closure.where, with what holds at each index; what is asked of a closure only where no elder index answers true.
-/
namespace Go.Proofs.YtgfdindlihfidaaGreat
open Go.RowKit
set_option linter.unusedSimpArgs false
set_option linter.unusedVariables false

theorem all_upto {p : Nat → Bool} {k : Nat} (h : ∀ j, j < k → p j = false) (hk : p k = false) : ∀ j, j < k + 1 → p j = false := fun j hj => by
  by_cases e : j < k
  · exact h j e
  · obtain rfl : j = k := by omega
    exact hk
set_option maxHeartbeats 1000000 in
theorem where_first (fid : FuncId) (caps : Array Value) (hen : Enters Tryz.prog fid) (a : Option Addr) (l : List Int) (c : Nat) (p : Nat → Bool) (J : Nat → World → Prop) (hJ : ∀ x W, J x W → IntsAt W a l)
    (hf : ∀ k, (h : k < l.length) → (∀ j, j < k → p j = false) → ∀ W, J k W → Calls Tryz.prog fid (#[.int .i64 k, .int .i64 l[k]] ++ caps) W fun e W' => e = .returned (.bool (p k)) ∧ J (k + 1) W') (w : World) (h0 : J 0 w) :
    Calls Tryz.prog 67 #[.slice a l.length c, .func (.func fid) #[] caps] w fun e w' => e = .returned (.int .i64 (whereZ p l.length 0)) ∧ ∃ m, J m w' ∧ (m = l.length ∨ ∃ x, m = x + 1 ∧ x < l.length ∧ p x = true) := by
  have hm := (hJ 0 w h0).1
  unfold maxLen at hm
  have HJ := Lib.hid hJ
  have Hf := Lib.hid hf
  have H0 := Lib.hid h0
  obtain ⟨r, hr⟩ : ∃ r, r = whereZ p l.length 0 := ⟨_, rfl⟩
  rw [← hr]
  have Hr := Lib.hid hr
  unfold Enters at hen
  clear hJ hf h0 hr
  go_enter Tryz.func67, Tryz.ntmps67
  go_wp2
  go_loopw [9] (fun i wr => ∃ k : Nat, k ≤ l.length ∧ i = .int .i64 k ∧ (J k wr ∧ ∀ j, j < k → p j = false) ∧ whereZ p (l.length - k) k = r) (fun i _ => l.length - (intOf i).toNat)
  case atStart => exact ⟨0, Nat.zero_le _, rfl, ⟨H0.out, fun j hj => absurd hj (by omega)⟩, Hr.out.symm⟩
  case round =>
    obtain ⟨k, hk, rfl, hj, hix⟩ := hrel
    have Hj := Lib.hid hj
    have Hix := Lib.hid hix
    clear hj hix
    by_cases hlt : k < l.length
    · obtain ⟨_, hl⟩ := HJ.out _ _ Hj.out.1
      rcases hl with hl | ⟨b, off, ha, hb, hl⟩
      · rw [hl] at hlt; exact absurd hlt (by simp)
      · have hck := hl k hlt
        rw [List.getElem?_eq_getElem hlt, Option.getD_some] at hck
        have i1 : (0 : Int) ≤ (k : Int) := by omega
        have i2 : (k : Int) < (l.length : Int) := by omega
        rw [ha]
        clear hl ha
        cases hp : p k with
        | true =>
          have Hpk := Lib.hid hp
          have hw := whereZ_hit (n := l.length) hlt hp
          rw [Hix.out] at hw
          have Hw := Lib.hid hw
          have hc := Hf.out k hlt Hj.out.2 wr Hj.out.1
          rw [hp] at hc
          have Hc := Lib.hid hc
          clear hw hc hp
          go_wp2_with (refine Hc.out.mono ?_; rintro e w1 ⟨rfl, hj1⟩)
          go_ret
          exact ⟨ret_int Hw.out.symm, k + 1, hj1, .inr ⟨k, rfl, hlt, Hpk.out⟩⟩
        | false =>
          have Hpk := Lib.hid hp
          have hw := whereZ_step (n := l.length) hlt hp
          rw [Hix.out] at hw
          have Hw := Lib.hid hw
          have hc := Hf.out k hlt Hj.out.2 wr Hj.out.1
          rw [hp] at hc
          have Hc := Lib.hid hc
          clear hw hc hp
          go_wp2_with (refine Hc.out.mono ?_; rintro e w1 ⟨rfl, hj1⟩; have Hj1 := Lib.hid (show J (k + 1) w1 ∧ ∀ j, j < k + 1 → p j = false from ⟨hj1, all_upto Hj.out.2 Hpk.out⟩); clear hj1)
          go_roundw
          case rel => first | exact ⟨k + 1, by omega, by go_num, Hj1.out, Hw.out.symm⟩ | ((repeat apply Exists.intro); exact ⟨⟨k + 1, by omega, by go_num, Hj1.out, Hw.out.symm⟩, rfl⟩)
          case measure => simp [intOf]; omega
    · have hw := whereZ_out (p := p) (n := l.length) (k := k) (by omega)
      rw [Hix.out] at hw
      go_wp2
      go_ret
      exact ⟨ret_int hw.symm, k, Hj.out.1, .inl (by omega)⟩
end Go.Proofs.YtgfdindlihfidaaGreat
