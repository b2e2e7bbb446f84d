/-
  The contract of gate.first over any list of faults: the error of the first closure that answers true.
-/
import Derived.Test.YtgfdindlihfidaaGreatZa
import Derived.Laws.EntriesVeiled
import Derived.Shelf.Abstract
namespace Go.Proofs.YtgfdindlihfidaaGreat
open Go.RowKit
set_option linter.unusedSimpArgs false
set_option linter.unusedVariables false

/-- A fault: the closure (function and captured variables), its error, and what it answers. -/
structure Flt where
  fid : FuncId
  caps : Array Value
  e : Int
  b : Bool
abbrev Flt.fn (f : Flt) : Value := .func (.func f.fid) #[] f.caps

/-- The closure answers what is said, from each world that is as w was. -/
def Flt.Ok (f : Flt) (w : World) : Prop := Enters Tryz.prog f.fid ∧ ∀ W, Below w.heap.size w W → Calls Tryz.prog f.fid f.caps W fun e W' => e = .returned (.bool f.b) ∧ Below W.heap.size W W'

/-- The error of the first fault that there is. -/
def firstE : List Flt → Int
  | [] => 0
  | f :: l => if f.b then f.e else firstE l

/-- Faults lie in memory. -/
def FltsAt (w : World) (b off : Nat) (l : List Flt) : Prop :=
  b < w.heap.size ∧ ∀ k, (h : k < l.length) → w.cell? ⟨b, off + k * 2, none⟩ = some l[k].fn ∧ w.cell? ⟨b, off + k * 2 + 1, none⟩ = some (.int .i64 l[k].e)

/-- Each closure answers what is said, if those before it answer false. -/
def FltsOk (w : World) : List Flt → Prop
  | [] => True
  | f :: l => f.Ok w ∧ (f.b = false → FltsOk w l)



set_option maxRecDepth 100000 in
set_option maxHeartbeats 800000 in
theorem first_any (b off : Nat) (l : List Flt) (c : Nat) (w : World) (hm : l.length ≤ 100) (hl : FltsAt w b off l) (hok : FltsOk w l) :
    Calls Tryz.prog 24 #[.slice (some ⟨b, off, none⟩) l.length c] w fun e w' => e = .returned (.int .i64 (firstE l)) ∧ Below w.heap.size w w' := by
  obtain ⟨hb, hl⟩ := hl
  have Hok := Lib.hid hok
  clear hok
  go_enter Tryz.func24, Tryz.ntmps24
  go_wp2
  go_loopw [7] (fun i wr => ∃ k : Nat, k ≤ l.length ∧ i = .int .i64 k ∧ firstE (l.drop k) = firstE l ∧ FltsOk w (l.drop k) ∧ Below w.heap.size w wr) (fun i _ => l.length - (intOf i).toNat)
  case atStart => exact ⟨0, Nat.zero_le _, rfl, rfl, Hok.out, Below.refl _ _⟩
  case round =>
    obtain ⟨k, hk, rfl, hix, hok, hbl⟩ := hrel
    have Hix := Lib.hid hix
    have Hok2 := Lib.hid hok
    clear hix hok Hok
    by_cases hlt : k < l.length
    · obtain ⟨hc1, hc2⟩ := hl k hlt
      have hs := drop_step hlt
      have Hs := Lib.hid hs
      have hko := Hok2.out
      rw [hs] at hko
      obtain ⟨⟨hen, hcall⟩, hnext⟩ := hko
      have Hcall := Lib.hid hcall
      have Hnext := Lib.hid hnext
      clear hs hl hcall hnext
      have hd1 := (hbl.cell (p := ⟨b, off + k * 2, none⟩) hb).trans hc1
      have hd2 := (hbl.cell (p := ⟨b, off + k * 2 + 1, none⟩) hb).trans hc2
      clear hc1 hc2
      unfold Enters at hen
      go_wp2_with fail
      refine (Hcall.out _ (hbl.alloc hbl.size _)).mono ?_
      rintro e w1 ⟨rfl, hb1⟩
      have hcc : w1.cell? ⟨wr.heap.size, 1, none⟩ = some (.int .i64 l[k].e) := (hb1.cell (p := ⟨wr.heap.size, 1, none⟩) (by simp)).trans (by simp [go_sem])
      have hb2 : Below w.heap.size w w1 := (hbl.alloc hbl.size _).trans (hb1.mono (by have := hbl.size; simp; omega))
      have Hb2 := Lib.hid hb2
      clear hb2
      by_cases hbb : l[k].b = true
      · go_wp2
        go_ret
        exact ⟨ret_int (by rw [← Hix.out, Hs.out, firstE, if_pos hbb]), Hb2.out⟩
      · simp only [Bool.not_eq_true] at hbb
        go_wp2
        go_roundw
        case rel => exact ⟨k + 1, by omega, by go_num, by rw [← Hix.out, Hs.out, firstE, hbb]; rfl, Hnext.out hbb, Hb2.out⟩
        case measure => simp [intOf]; omega
    · have hn : l.drop k = [] := List.drop_eq_nil_of_le (by omega)
      have Hn := Lib.hid hn
      clear hn hl
      go_wp2
      go_ret
      exact ⟨ret_int (by rw [← Hix.out, Hn.out]; rfl), hbl⟩
end Go.Proofs.YtgfdindlihfidaaGreat

/-
  The closures of gate.Check: what each answers of a gate that lies in memory.
-/
namespace Go.Proofs.YtgfdindlihfidaaGreat
open Go.RowKit
set_option linter.unusedSimpArgs false
set_option linter.unusedVariables false

/-- A gate lies in block B. -/
structure GateIn (w : World) (B : Nat) (g : GateV) : Prop where
  lt : B < w.heap.size
  blk : w.heap[B]? = some (.cells g.cells 60 (0, 0))

theorem GateIn.below {w W : World} {B B0 : Nat} {g : GateV} (h : GateIn w B g) (hb : Below B0 w W) (hB : w.heap.size ≤ B0) : GateIn W B g :=
  ⟨Nat.lt_of_lt_of_le h.lt hb.size, (hb.block B (Nat.lt_of_lt_of_le h.lt hB)).trans h.blk⟩
theorem GateIn.cell {w : World} {B : Nat} {g : GateV} (h : GateIn w B g) (k : Nat) (v : Value) (hv : g.cells[k]? = some v) : w.cell? ⟨B, k, none⟩ = some v := by
  rw [cell_of_row w B k _ _ _ h.blk, hv]

theorem gateIn_new (w : World) (g : GateV) : GateIn (w.alloc (.cells g.cells 60)) w.heap.size g :=
  ⟨by simp, heap_alloc_new w _⟩

theorem ints_new3 (w : World) (x y z : Int) (t : TypeId) : IntsAt (w.alloc (.cells #[.int .i64 x, .int .i64 y, .int .i64 z] t)) (some ⟨w.heap.size, 0, none⟩) [x, y, z] :=
  ⟨by simp [maxLen], .inr ⟨w.heap.size, 0, rfl, by simp, fun k hk => by
    match k, hk with
    | 0, _ => simp [go_sem]
    | 1, _ => simp [go_sem]
    | 2, _ => simp [go_sem]⟩⟩

theorem ck1_any (B : Nat) (g : GateV) (hn : g.nm.size ≤ maxLen) (w : World) (hg : GateIn w B g) :
    Calls Tryz.prog 45 #[.pointer (some ⟨B, 0, none⟩)] w fun e w' => e = .returned (.bool (!nameB g.nm)) ∧ Below w.heap.size w w' := by
  have c0 := hg.cell 0 _ rfl
  go_enter Tryz.func45, Tryz.ntmps45
  go_wp2_with (go_at_call 46; refine (name_any _ hn _).mono ?_; rintro e w' ⟨rfl, rfl⟩)
  go_ret
  exact ⟨rfl, Below.refl _ _⟩

set_option maxHeartbeats 400000 in
theorem ck2_any (B : Nat) (g : GateV) (w : World) (hg : GateIn w B g) :
    Calls Tryz.prog 47 #[.pointer (some ⟨B, 0, none⟩)] w fun e w' => e = .returned (.bool (outB g.kind (1) 3)) ∧ Below w.heap.size w w' := by
  have c_kind := hg.cell 1 _ rfl
  have Hg := Lib.hid hg
  clear hg
  go_enter Tryz.func47, Tryz.ntmps47
  go_wp2_with (go_at_call 22; refine (out_any _ _ _ _).mono ?_; rintro e w' ⟨rfl, rfl⟩)
  go_ret
  exact ⟨rfl, Below.refl _ _⟩

set_option maxHeartbeats 400000 in
theorem ck3_any (B : Nat) (g : GateV) (w : World) (hg : GateIn w B g) :
    Calls Tryz.prog 48 #[.pointer (some ⟨B, 0, none⟩)] w fun e w' => e = .returned (.bool (outB g.travel (1) 5000)) ∧ Below w.heap.size w w' := by
  have c_travel := hg.cell 2 _ rfl
  have Hg := Lib.hid hg
  clear hg
  go_enter Tryz.func48, Tryz.ntmps48
  go_wp2_with (go_at_call 22; refine (out_any _ _ _ _).mono ?_; rintro e w' ⟨rfl, rfl⟩)
  go_ret
  exact ⟨rfl, Below.refl _ _⟩

set_option maxHeartbeats 400000 in
theorem ck4_any (B : Nat) (g : GateV) (w : World) (hg : GateIn w B g) :
    Calls Tryz.prog 50 #[.pointer (some ⟨B, 0, none⟩)] w fun e w' => e = .returned (.bool ((outB g.open_ (-20000) 20000 || outB g.shut (-20000) 20000 || outB g.height (1) 30000))) ∧ Below w.heap.size w w' := by
  have c_open_ := hg.cell 4 _ rfl
  have c_shut := hg.cell 5 _ rfl
  have c_height := hg.cell 6 _ rfl
  have Hg := Lib.hid hg
  clear hg
  by_cases h0 : outB g.open_ (-20000) 20000 = true <;> by_cases h1 : outB g.shut (-20000) 20000 = true
  all_goals
    try simp only [Bool.not_eq_true] at h0 h1
    go_enter Tryz.func50, Tryz.ntmps50
    go_wp2_with (first | (go_at_call 22; refine (out_any _ _ _ _).mono ?_; rintro e w' ⟨rfl, rfl⟩) | (go_at_call 51; refine (dry_any _ _).mono ?_; rintro e w' ⟨rfl, rfl⟩))
    go_ret
    exact ⟨ret_bool (by simp [*]), Below.refl _ _⟩

set_option maxHeartbeats 400000 in
theorem ck5_any (B : Nat) (g : GateV) (w : World) (hg : GateIn w B g) :
    Calls Tryz.prog 52 #[.pointer (some ⟨B, 0, none⟩)] w fun e w' => e = .returned (.bool (anyB 10000 [g.float, g.slide] || outB g.push (-10000) 10000)) ∧ Below w.heap.size w w' := by
  have c_float := hg.cell 7 _ rfl
  have c_slide := hg.cell 9 _ rfl
  have c_push := hg.cell 8 _ rfl
  have Hg := Lib.hid hg
  clear hg
  by_cases h0 : anyB 10000 [g.float, g.slide] = true
  all_goals
    try simp only [Bool.not_eq_true] at h0
    go_enter Tryz.func52, Tryz.ntmps52
    have tok : True := trivial
    go_wp2_with (first | (go_at_call 22; refine (out_any _ _ _ _).mono ?_; rintro e w' ⟨rfl, rfl⟩) | (go_at_call 26; have _t := tok; refine (beyond_any _ _ [g.float, g.slide] _ _ (ints_new2 w g.float g.slide 3)).mono ?_; rintro e w1 ⟨rfl, hb1⟩; have hb2 := Hid.out (Lib.hid (((Below.refl w.heap.size w).alloc (Nat.le_refl _) _).trans (hb1.mono (by simp)))); have hgr := Hg.out.below hb2 (Nat.le_refl _); have d_push := hgr.cell 8 _ rfl; have Hb2 := Lib.hid hb2; clear hb2 hgr hb1 tok))
    go_ret
    exact ⟨ret_bool (by simp [*]), Hb2.out⟩

set_option maxHeartbeats 400000 in
theorem ck6_any (B : Nat) (g : GateV) (w : World) (hg : GateIn w B g) :
    Calls Tryz.prog 53 #[.pointer (some ⟨B, 0, none⟩)] w fun e w' => e = .returned (.bool (anyB 200000 [g.sealing, g.drive, g.brake])) ∧ Below w.heap.size w w' := by
  have c_sealing := hg.cell 10 _ rfl
  have c_drive := hg.cell 11 _ rfl
  have c_brake := hg.cell 12 _ rfl
  have Hg := Lib.hid hg
  clear hg
  go_enter Tryz.func53, Tryz.ntmps53
  have tok : True := trivial
  go_wp2_with (go_at_call 26; have _t := tok; refine (beyond_any _ _ [g.sealing, g.drive, g.brake] _ _ (ints_new3 w g.sealing g.drive g.brake 3)).mono ?_; rintro e w1 ⟨rfl, hb1⟩; have hb2 := Hid.out (Lib.hid (((Below.refl w.heap.size w).alloc (Nat.le_refl _) _).trans (hb1.mono (by simp)))); have hgr := Hg.out.below hb2 (Nat.le_refl _); have Hb2 := Lib.hid hb2; clear hb2 hgr hb1 tok)
  go_ret
  exact ⟨ret_bool (by simp [*]), Hb2.out⟩

set_option maxHeartbeats 400000 in
theorem ck7_any (B : Nat) (g : GateV) (w : World) (hg : GateIn w B g) :
    Calls Tryz.prog 54 #[.pointer (some ⟨B, 0, none⟩)] w fun e w' => e = .returned (.bool (outB g.speed (1) 100 || outB g.gravity (1) 100)) ∧ Below w.heap.size w w' := by
  have c_speed := hg.cell 13 _ rfl
  have c_gravity := hg.cell 14 _ rfl
  have Hg := Lib.hid hg
  clear hg
  by_cases h0 : outB g.speed (1) 100 = true
  all_goals
    try simp only [Bool.not_eq_true] at h0
    go_enter Tryz.func54, Tryz.ntmps54
    go_wp2_with (go_at_call 22; refine (out_any _ _ _ _).mono ?_; rintro e w' ⟨rfl, rfl⟩)
    go_ret
    exact ⟨ret_bool (by simp [*]), Below.refl _ _⟩

set_option maxHeartbeats 400000 in
theorem ck8_any (B : Nat) (g : GateV) (ht : 1 ≤ g.travel) (ht2 : g.travel ≤ 5000) (w : World) (hg : GateIn w B g) :
    Calls Tryz.prog 55 #[.pointer (some ⟨B, 0, none⟩)] w fun e w' => e = .returned (.bool (anyB 100000 [g.use, g.pump, g.cap] || anyB ((g.travel - 1) / 2) [g.slack])) ∧ Below w.heap.size w w' := by
  have c_use := hg.cell 15 _ rfl
  have c_pump := hg.cell 16 _ rfl
  have c_cap := hg.cell 17 _ rfl
  have c_slack := hg.cell 18 _ rfl
  have c_travel := hg.cell 2 _ rfl
  have Hg := Lib.hid hg
  clear hg
  by_cases h0 : anyB 100000 [g.use, g.pump, g.cap] = true
  all_goals
    try simp only [Bool.not_eq_true] at h0
    go_enter Tryz.func55, Tryz.ntmps55
    have tok : True := trivial
    go_wp2_with (first | (go_at_call 26; have _t := tok; refine (beyond_any _ _ [g.use, g.pump, g.cap] _ _ (ints_new3 w g.use g.pump g.cap 3)).mono ?_; rintro e w1 ⟨rfl, hb1⟩; have hb2 := Hid.out (Lib.hid (((Below.refl w.heap.size w).alloc (Nat.le_refl _) _).trans (hb1.mono (by simp)))); have hgr := Hg.out.below hb2 (Nat.le_refl _); have d_slack := hgr.cell 18 _ rfl; have d_travel := hgr.cell 2 _ rfl; have Hb2 := Lib.hid hb2; clear hb2 hgr hb1 tok) | (go_at_call 26; refine (beyond_any _ _ [g.slack] _ _ (ints_new1 w1 g.slack 3)).mono ?_; rintro e w2 ⟨rfl, hb3⟩))
    go_ret
    refine ⟨ret_bool (by simp [*]), ?_⟩
    first
      | exact (Hb2.out.alloc Hb2.out.size _).trans (hb3.mono (by have := Hb2.out.size; simp; omega))
      | exact Hb2.out
end Go.Proofs.YtgfdindlihfidaaGreat

/-
  The contract of gate.Check: part, index and error of any gate.
-/
namespace Go.Proofs.YtgfdindlihfidaaGreat
open Go.RowKit
set_option linter.unusedSimpArgs false
set_option linter.unusedVariables false

/-- The error of the name, the kind and the way. -/
def headE (g : GateV) : Int := if !nameB g.nm then 6 else if outB g.kind 1 3 then 2 else if outB g.travel 1 5000 then 7 else 0
/-- One of the other numbers, up to Slack, is not as stated. -/
def numsB (g : GateV) : Bool :=
  (outB g.open_ (-20000) 20000 || outB g.shut (-20000) 20000 || outB g.height 1 30000) || (anyB 10000 [g.float, g.slide] || outB g.push (-10000) 10000) || anyB 200000 [g.sealing, g.drive, g.brake] ||
    (outB g.speed 1 100 || outB g.gravity 1 100) || (anyB 100000 [g.use, g.pump, g.cap] || anyB ((g.travel - 1) / 2) [g.slack])
/-- The first element with an error: its index, and the error; 0 and 0. -/
def scan {α : Type} (f : α → Int) : List α → Int → Int × Int
  | [], _ => (0, 0)
  | x :: l, k => if f x = 0 then scan f l (k + 1) else (k, f x)
/-- What Check returns. -/
def checkZ (g : GateV) : Int × Int × Int :=
  if headE g ≠ 0 then (1, 0, headE g) else
  if outB g.own.length 2 16 then (2, 0, 3) else
  if (scan (forceE g.kind) g.own 0).2 ≠ 0 then (2, (scan (forceE g.kind) g.own 0).1, (scan (forceE g.kind) g.own 0).2) else
  if numsB g then (3, 0, 7) else
  if 6 < g.sens.length then (4, 0, 3) else
  if (scan sensorE g.sens 0).2 ≠ 0 then (4, (scan sensorE g.sens 0).1, (scan sensorE g.sens 0).2) else
  if outB g.wrong 0 g.sens.length then (4, 0, 7) else (0, 0, 0)

theorem ret3 {a b c a' b' c' : Int} (h : (a, b, c) = (a', b', c')) : Ending.returned (.tuple #[.int .i64 a, .int .i64 b, .int .i64 c]) = Ending.returned (.tuple #[.int .i64 a', .int .i64 b', .int .i64 c']) := by
  simp only [Prod.mk.injEq] at h
  obtain ⟨rfl, rfl, rfl⟩ := h
  rfl

/-- The three faults at the head. -/
def flts3 (B : Nat) (g : GateV) : List Flt :=
  [⟨45, #[.pointer (some ⟨B, 0, none⟩)], 6, !nameB g.nm⟩, ⟨47, #[.pointer (some ⟨B, 0, none⟩)], 2, outB g.kind 1 3⟩,
   ⟨48, #[.pointer (some ⟨B, 0, none⟩)], 7, outB g.travel 1 5000⟩]
theorem flts3_E (B : Nat) (g : GateV) : firstE (flts3 B g) = headE g := by
  simp only [flts3, firstE, headE]
theorem flts3_ok (B : Nat) (g : GateV) (hn : g.nm.size ≤ maxLen) (w : World) (hg : GateIn w B g) : FltsOk w (flts3 B g) :=
  ⟨⟨enters_of Tryz.func45 (by kernel_rfl) rfl, fun W hb => ck1_any B g hn W (hg.below hb (Nat.le_refl _))⟩, fun _ =>
   ⟨⟨enters_of Tryz.func47 (by kernel_rfl) rfl, fun W hb => ck2_any B g W (hg.below hb (Nat.le_refl _))⟩, fun _ =>
    ⟨⟨enters_of Tryz.func48 (by kernel_rfl) rfl, fun W hb => ck3_any B g W (hg.below hb (Nat.le_refl _))⟩, fun _ => trivial⟩⟩⟩
/-- The five faults of the numbers. -/
def flts5 (B : Nat) (g : GateV) : List Flt :=
  [⟨50, #[.pointer (some ⟨B, 0, none⟩)], 7, (outB g.open_ (-20000) 20000 || outB g.shut (-20000) 20000) || outB g.height (1) 30000⟩,
   ⟨52, #[.pointer (some ⟨B, 0, none⟩)], 7, anyB 10000 [g.float, g.slide] || outB g.push (-10000) 10000⟩,
   ⟨53, #[.pointer (some ⟨B, 0, none⟩)], 7, anyB 200000 [g.sealing, g.drive, g.brake]⟩,
   ⟨54, #[.pointer (some ⟨B, 0, none⟩)], 7, outB g.speed 1 100 || outB g.gravity 1 100⟩,
   ⟨55, #[.pointer (some ⟨B, 0, none⟩)], 7, anyB 100000 [g.use, g.pump, g.cap] || anyB ((g.travel - 1) / 2) [g.slack]⟩]
theorem flts5_E (B : Nat) (g : GateV) : firstE (flts5 B g) = if numsB g then 7 else 0 := by
  simp only [flts5, firstE, numsB]
  repeat' split
  all_goals simp_all
theorem flts5_ok (B : Nat) (g : GateV) (ht : 1 ≤ g.travel) (ht2 : g.travel ≤ 5000) (w : World) (hg : GateIn w B g) : FltsOk w (flts5 B g) :=
  ⟨⟨enters_of Tryz.func50 (by kernel_rfl) rfl, fun W hb => ck4_any B g W (hg.below hb (Nat.le_refl _))⟩, fun _ =>
   ⟨⟨enters_of Tryz.func52 (by kernel_rfl) rfl, fun W hb => ck5_any B g W (hg.below hb (Nat.le_refl _))⟩, fun _ =>
    ⟨⟨enters_of Tryz.func53 (by kernel_rfl) rfl, fun W hb => ck6_any B g W (hg.below hb (Nat.le_refl _))⟩, fun _ =>
     ⟨⟨enters_of Tryz.func54 (by kernel_rfl) rfl, fun W hb => ck7_any B g W (hg.below hb (Nat.le_refl _))⟩, fun _ =>
      ⟨⟨enters_of Tryz.func55 (by kernel_rfl) rfl, fun W hb => ck8_any B g ht ht2 W (hg.below hb (Nat.le_refl _))⟩, fun _ => trivial⟩⟩⟩⟩⟩

theorem headE_0 {g : GateV} (h : headE g = 0) : nameB g.nm = true ∧ (1 ≤ g.kind ∧ g.kind ≤ 3) ∧ 1 ≤ g.travel ∧ g.travel ≤ 5000 := by
  unfold headE at h
  split at h
  · omega
  · split at h
    · omega
    · split at h
      · omega
      · rename_i h1 h2 h3
        unfold outB at h2 h3
        simp at h1 h2 h3
        exact ⟨h1, h2, h3⟩

theorem flts3_at (w : World) (B : Nat) (g : GateV) (t : TypeId) :
    FltsAt (w.alloc (.cells #[.func (.func 45) #[] #[.pointer (some ⟨B, 0, none⟩)], .int .i64 6, .func (.func 47) #[] #[.pointer (some ⟨B, 0, none⟩)], .int .i64 2, .func (.func 48) #[] #[.pointer (some ⟨B, 0, none⟩)], .int .i64 7] t)) w.heap.size 0 (flts3 B g) := by
  refine ⟨by simp, fun k h => ?_⟩
  match k, h with
  | 0, _ => exact ⟨by simp [go_sem, flts3], by simp [go_sem, flts3]⟩
  | 1, _ => exact ⟨by simp [go_sem, flts3], by simp [go_sem, flts3]⟩
  | 2, _ => exact ⟨by simp [go_sem, flts3], by simp [go_sem, flts3]⟩

theorem flts5_at (w : World) (B : Nat) (g : GateV) (t : TypeId) :
    FltsAt (w.alloc (.cells #[.func (.func 50) #[] #[.pointer (some ⟨B, 0, none⟩)], .int .i64 7, .func (.func 52) #[] #[.pointer (some ⟨B, 0, none⟩)], .int .i64 7, .func (.func 53) #[] #[.pointer (some ⟨B, 0, none⟩)], .int .i64 7, .func (.func 54) #[] #[.pointer (some ⟨B, 0, none⟩)], .int .i64 7, .func (.func 55) #[] #[.pointer (some ⟨B, 0, none⟩)], .int .i64 7] t)) w.heap.size 0 (flts5 B g) := by
  refine ⟨by simp, fun k h => ?_⟩
  match k, h with
  | 0, _ => exact ⟨by simp [go_sem, flts5], by simp [go_sem, flts5]⟩
  | 1, _ => exact ⟨by simp [go_sem, flts5], by simp [go_sem, flts5]⟩
  | 2, _ => exact ⟨by simp [go_sem, flts5], by simp [go_sem, flts5]⟩
  | 3, _ => exact ⟨by simp [go_sem, flts5], by simp [go_sem, flts5]⟩
  | 4, _ => exact ⟨by simp [go_sem, flts5], by simp [go_sem, flts5]⟩

/-- What the walk keeps: the world as it was below, and the gate in its block. -/
structure Keep (w : World) (B : Nat) (g : GateV) (W : World) : Prop where
  below : Below w.heap.size w W
  gate : GateIn W B g
theorem Keep.new (w : World) (g : GateV) : Keep w w.heap.size g (w.alloc (.cells g.cells 60)) :=
  ⟨(Below.refl _ _).alloc (Nat.le_refl _) _, gateIn_new w g⟩
theorem Keep.alloc {w W : World} {B : Nat} {g : GateV} (h : Keep w B g W) (o : Obj) : Keep w B g (W.alloc o) :=
  ⟨h.below.alloc h.below.size o, h.gate.below ((Below.refl W.heap.size W).alloc (Nat.le_refl _) o) (Nat.le_refl _)⟩
theorem Keep.call {w W W' : World} {B : Nat} {g : GateV} (h : Keep w B g W) (hb : Below W.heap.size W W') : Keep w B g W' :=
  ⟨h.below.trans (hb.mono h.below.size), h.gate.below hb (Nat.le_refl _)⟩

theorem scan_step {α : Type} {f : α → Int} {l : List α} {k : Nat} (h : k < l.length) (h0 : f l[k] = 0) : scan f (l.drop k) (k : Int) = scan f (l.drop (k + 1)) ((k + 1 : Nat) : Int) := by
  rw [drop_step h, scan, if_pos h0]; rfl
theorem scan_hit {α : Type} {f : α → Int} {l : List α} {k : Nat} (h : k < l.length) (h0 : f l[k] ≠ 0) : scan f (l.drop k) (k : Int) = ((k : Int), f l[k]) := by
  rw [drop_step h, scan, if_neg h0]
theorem scan_out {α : Type} {f : α → Int} {l : List α} {k : Nat} (h : ¬ k < l.length) : scan f (l.drop k) (k : Int) = (0, 0) := by
  rw [List.drop_eq_nil_of_le (by omega)]; rfl

set_option maxRecDepth 100000 in
set_option maxHeartbeats 1000000 in
theorem check_any (g : GateV) (w : World) (hok : g.Ok w) :
    Calls Tryz.prog 23 #[g.val] w fun e w' => e = .returned (.tuple #[.int .i64 (checkZ g).1, .int .i64 (checkZ g).2.1, .int .i64 (checkZ g).2.2]) ∧ Below w.heap.size w w' := by
  have hf := flts3_E w.heap.size g
  have Hf := Lib.hid hf
  have Hok := Lib.hid hok
  clear hf hok
  go_enter Tryz.func23, Tryz.ntmps23
  go_wp2_with fail
  have K1 := (Keep.new w g).alloc (.cells #[.func (.func 45) #[] #[.pointer (some ⟨w.heap.size, 0, none⟩)], .int .i64 6, .func (.func 47) #[] #[.pointer (some ⟨w.heap.size, 0, none⟩)], .int .i64 2, .func (.func 48) #[] #[.pointer (some ⟨w.heap.size, 0, none⟩)], .int .i64 7] 92)
  refine (first_any (w.heap.size + 1) 0 (flts3 w.heap.size g) 3 _ (by simp [flts3]) (by simpa using flts3_at (w.alloc (.cells g.cells 60)) w.heap.size g _) (flts3_ok _ g Hok.out.nm _ K1.gate)).mono ?_
  rintro e w1 ⟨rfl, hb1⟩
  rw [Hf.out]
  have K2 := K1.call hb1
  clear K1 hb1 Hf
  by_cases he : headE g = 0
  · obtain ⟨hn, hk, ht1, ht2⟩ := headE_0 he
    have hr : checkZ g = if outB g.own.length 2 16 then (2, 0, 3) else
        if (scan (forceE g.kind) g.own 0).2 ≠ 0 then (2, (scan (forceE g.kind) g.own 0).1, (scan (forceE g.kind) g.own 0).2) else
        if numsB g then (3, 0, 7) else
        if 6 < g.sens.length then (4, 0, 3) else
        if (scan sensorE g.sens 0).2 ≠ 0 then (4, (scan sensorE g.sens 0).1, (scan sensorE g.sens 0).2) else
        if outB g.wrong 0 g.sens.length then (4, 0, 7) else (0, 0, 0) := by rw [checkZ, if_neg (by simp [he])]
    rw [he]
    have Hr := Lib.hid hr
    clear hr he hn hk
    have HK := Lib.hid K2
    have c1 := K2.gate.cell 1 _ rfl
    have c3 := K2.gate.cell 3 _ rfl
    clear K2
    by_cases ho : outB g.own.length 2 16 = true
    · go_wp2_with (go_at_call 22; refine (out_any _ _ _ _).mono ?_; rintro e w' ⟨rfl, rfl⟩)
      go_ret3
      exact ⟨ret3 (by rw [Hr.out, if_pos ho]), HK.out.below⟩
    · have hr2 := Hr.out
      rw [if_neg ho] at hr2
      have Hr2 := Lib.hid hr2
      clear Hr hr2
      simp only [Bool.not_eq_true] at ho
      go_wp2_with (go_at_call 22; refine (out_any _ _ _ _).mono ?_; rintro e w' ⟨rfl, rfl⟩)
      have hoi := Hok.out.own.below HK.out.below (Nat.le_refl _)
      obtain ⟨hom, hoi⟩ := hoi
      unfold maxLen at hom
      have Hoi := Lib.hid hoi
      clear hoi ho
      go_loop [27] (fun i => ∃ k : Nat, k ≤ g.own.length ∧ i = .int .i64 k ∧ scan (forceE g.kind) (g.own.drop k) k = scan (forceE g.kind) g.own 0) (fun i => g.own.length - (intOf i).toNat)
      case atStart => exact ⟨0, Nat.zero_le _, rfl, rfl⟩
      case round =>
        obtain ⟨k, hk, rfl, hix⟩ := hrel
        have Hix := Lib.hid hix
        clear hix
        by_cases hlt : k < g.own.length
        · rcases Hoi.out with hl | ⟨b, off, ha, hb, hl⟩
          · rw [hl] at hlt; exact absurd hlt (by simp)
          · rw [ha]
            have hck := hl k hlt
            rw [List.getElem?_eq_getElem hlt, Option.getD_some] at hck
            clear hl Hoi ha
            by_cases hf : forceE g.kind g.own[k] = 0
            · have hs := scan_step (f := forceE g.kind) hlt hf
              have Hs := Lib.hid hs
              clear hs
              go_wp2_with (go_at_call 49; refine (force_any _ _ _).mono ?_; rintro e w' ⟨rfl, rfl⟩)
              go_round
              case rel => exact ⟨k + 1, by omega, by go_num, by rw [← Hix.out, Hs.out]⟩
              case measure => simp [intOf]; omega
            · have hs := scan_hit (f := forceE g.kind) hlt hf
              rw [Hix.out] at hs
              have Hs := Lib.hid hs
              have hf2 : (forceE g.kind g.own[k] != 0) = true := by simp [hf]
              clear hs hf
              go_wp2_with (go_at_call 49; refine (force_any _ _ _).mono ?_; rintro e w' ⟨rfl, rfl⟩)
              go_ret3
              exact ⟨ret3 (by rw [Hr2.out, Hs.out, if_pos (by simpa using hf2)]), HK.out.below⟩
        · have hs := scan_out (f := forceE g.kind) hlt
          rw [Hix.out] at hs
          have hr3 := Hr2.out
          rw [hs, if_neg (by simp)] at hr3
          have Hr3 := Lib.hid hr3
          clear hr3 hs Hr2 Hix Hoi c1
          go_wp2_with fail
          have hf := flts5_E w.heap.size g
          have K3 := HK.out.alloc (.cells #[.func (.func 50) #[] #[.pointer (some ⟨w.heap.size, 0, none⟩)], .int .i64 7, .func (.func 52) #[] #[.pointer (some ⟨w.heap.size, 0, none⟩)], .int .i64 7, .func (.func 53) #[] #[.pointer (some ⟨w.heap.size, 0, none⟩)], .int .i64 7, .func (.func 54) #[] #[.pointer (some ⟨w.heap.size, 0, none⟩)], .int .i64 7, .func (.func 55) #[] #[.pointer (some ⟨w.heap.size, 0, none⟩)], .int .i64 7] 92)
          refine (first_any w1.heap.size 0 (flts5 w.heap.size g) 5 _ (by simp [flts5]) (flts5_at w1 w.heap.size g _) (flts5_ok _ g ht1 ht2 _ K3.gate)).mono ?_
          rintro e w2 ⟨rfl, hb2⟩
          rw [hf]
          have K4 := K3.call hb2
          have HK4 := Lib.hid K4
          have c19 := K4.gate.cell 19 _ rfl
          have c20 := K4.gate.cell 20 _ rfl
          clear hf hb2 K3 HK c3 K4
          by_cases hb : numsB g = true
          · have hr4 := Hr3.out
            rw [if_pos hb] at hr4
            have Hr4 := Lib.hid hr4
            rw [if_pos hb]
            clear hr4 hb Hr3
            go_wp2
            go_ret3
            exact ⟨ret3 (by rw [Hr4.out]), HK4.out.below⟩
          · have hr4 := Hr3.out
            rw [if_neg hb] at hr4
            have Hr4 := Lib.hid hr4
            rw [if_neg hb]
            clear hr4 hb Hr3
            by_cases hs6 : 6 < g.sens.length
            · have hr5 := Hr4.out
              rw [if_pos hs6] at hr5
              have Hr5 := Lib.hid hr5
              clear hr5 Hr4
              go_wp2
              go_ret3
              exact ⟨ret3 (by rw [Hr5.out]), HK4.out.below⟩
            · have hr5 := Hr4.out
              rw [if_neg hs6] at hr5
              have Hr5 := Lib.hid hr5
              clear hr5 Hr4
              go_wp2
              go_loopw [63] (fun i wr => ∃ k : Nat, k ≤ g.sens.length ∧ i = .int .i64 k ∧ scan sensorE (g.sens.drop k) k = scan sensorE g.sens 0 ∧ Keep w w.heap.size g wr) (fun i _ => g.sens.length - (intOf i).toNat)
              case atStart => exact ⟨0, Nat.zero_le _, rfl, rfl, HK4.out⟩
              case round =>
                obtain ⟨k, hk, rfl, hix, hkp⟩ := hrel
                have Hix := Lib.hid hix
                have Hkp := Lib.hid hkp
                clear hix c20 c19
                have c20 := hkp.gate.cell 20 _ rfl
                have c19 := hkp.gate.cell 19 _ rfl
                clear hkp
                by_cases hlt : k < g.sens.length
                · obtain ⟨_, hsn⟩ := Hok.out.sens.below Hkp.out.below (Nat.le_refl _)
                  rcases hsn with hl | ⟨b, off, ha, hb, hl⟩
                  · rw [hl] at hlt; exact absurd hlt (by simp)
                  · rw [ha]
                    obtain ⟨d0, d1, d2⟩ := hl k hlt
                    have HKr := Hkp.out.alloc (.cells g.sens[k].cells 129)
                    have HKr2 := Lib.hid HKr
                    clear hl ha HKr c19 c20
                    by_cases hf : sensorE g.sens[k] = 0
                    · have hs := scan_step (f := sensorE) hlt hf
                      have Hs := Lib.hid hs
                      clear hs
                      go_wp2_with (go_at_call 56; refine (sensor_any g.sens[k] _).mono ?_; rintro e w3 ⟨rfl, hb3⟩; have K5 := HKr2.out.call hb3; have HK5 := Lib.hid K5; clear K5 hb3)
                      go_roundw
                      case rel => exact ⟨k + 1, by omega, by go_num, by rw [← Hix.out, Hs.out], HK5.out⟩
                      case measure => simp [intOf]; omega
                    · have hs := scan_hit (f := sensorE) hlt hf
                      rw [Hix.out] at hs
                      have Hs := Lib.hid hs
                      have hf2 : (sensorE g.sens[k] != 0) = true := by simp [hf]
                      clear hs hf
                      go_wp2_with (go_at_call 56; refine (sensor_any g.sens[k] _).mono ?_; rintro e w3 ⟨rfl, hb3⟩; have K5 := HKr2.out.call hb3; have HK5 := Lib.hid K5; clear K5 hb3)
                      go_ret3
                      exact ⟨ret3 (by rw [Hr5.out, Hs.out, if_pos (by simpa using hf2)]), HK5.out.below⟩
                · have hs := scan_out (f := sensorE) hlt
                  rw [Hix.out] at hs
                  have hr6 := Hr5.out
                  rw [hs, if_neg (by simp)] at hr6
                  have Hr6 := Lib.hid hr6
                  have hany : anyB g.sens.length [g.wrong] = outB g.wrong 0 g.sens.length := by simp [anyB]
                  have Hany := Lib.hid hany
                  have HKr := Hkp.out.alloc (.cells #[.int .i64 g.wrong] 3)
                  have HKr2 := Lib.hid HKr
                  clear hr6 hs Hr5 Hix hany HKr
                  by_cases hw : outB g.wrong 0 g.sens.length = true
                  all_goals
                    try simp only [Bool.not_eq_true] at hw
                    go_wp2_with (go_at_call 26; refine (beyond_any _ _ [g.wrong] _ _ (ints_new1 wr g.wrong 3)).mono ?_; rintro e w3 ⟨rfl, hb3⟩; rw [Hany.out]; have K5 := HKr2.out.call hb3; have HK5 := Lib.hid K5; clear K5 hb3)
                    go_ret3
                    exact ⟨ret3 (by rw [Hr6.out]; simp [hw]), HK5.out.below⟩
  · have hr : checkZ g = (1, 0, headE g) := by rw [checkZ, if_pos he]
    have Hr := Lib.hid hr
    clear hr
    have he2 : (headE g != 0) = true := by simp [he]
    have HK := Lib.hid K2
    clear he K2
    go_wp2
    go_ret3
    exact ⟨ret3 (by rw [Hr.out]), HK.out.below⟩
end Go.Proofs.YtgfdindlihfidaaGreat

/-
  Contracts of the leaves of the reference's Check: in, level, rate, force, oil, Name, own, sensors.
-/
namespace Go.Proofs.YtgfdindlihfidaaGreat
open Go.RowKit
set_option linter.unusedSimpArgs false
set_option linter.unusedVariables false

theorem outB_t {n lo hi : Int} (h : n < lo ∨ hi < n) : outB n lo hi = true := by
  unfold outB; simp; exact h
theorem outB_f {n lo hi : Int} (h : ¬ (n < lo ∨ hi < n)) : outB n lo hi = false := by
  unfold outB; simp; omega
theorem outB_ft {n lo hi : Int} (h : outB n lo hi = false) : lo ≤ n ∧ n ≤ hi := by
  unfold outB at h; simp at h; omega
theorem outB_tt {n lo hi : Int} (h : outB n lo hi = true) : n < lo ∨ hi < n := by
  unfold outB at h; simp at h; exact h

/-- What the reference's own returns. -/
def ownZ (g : GateV) : Int × Int := if outB g.own.length 2 16 then (0, 3) else scan (forceE g.kind) g.own 0
theorem ret2 {a b a' b' : Int} (h : (a, b) = (a', b')) : Ending.returned (.tuple #[.int .i64 a, .int .i64 b]) = Ending.returned (.tuple #[.int .i64 a', .int .i64 b']) := by
  simp only [Prod.mk.injEq] at h
  obtain ⟨rfl, rfl⟩ := h
  rfl

end Go.Proofs.YtgfdindlihfidaaGreat
