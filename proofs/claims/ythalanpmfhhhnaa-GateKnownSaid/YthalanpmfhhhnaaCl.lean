/-
  The closures of gate.Check: what each answers of a gate that lies in memory.
-/
import Derived.Test.YthalanpmfhhhnaaFi
namespace Go.Proofs.Ythalanpmfhhhnaa
open Go.RowKit
set_option linter.unusedSimpArgs false
set_option linter.unusedVariables false

/-- A gate lies in block B. -/
structure GateIn (w : World) (B : Nat) (g : GateV) : Prop where
  lt : B < w.heap.size
  blk : w.heap[B]? = some (.cells g.cells 33 (0, 0))

theorem GateIn.below {w W : World} {B B0 : Nat} {g : GateV} (h : GateIn w B g) (hb : Below B0 w W) (hB : w.heap.size ≤ B0) : GateIn W B g :=
  ⟨Nat.lt_of_lt_of_le h.lt hb.size, (hb.block B (Nat.lt_of_lt_of_le h.lt hB)).trans h.blk⟩
theorem GateIn.cell {w : World} {B : Nat} {g : GateV} (h : GateIn w B g) (k : Nat) (v : Value) (hv : g.cells[k]? = some v) : w.cell? ⟨B, k, none⟩ = some v := by
  rw [cell_of_row w B k _ _ _ h.blk, hv]

theorem gateIn_new (w : World) (g : GateV) : GateIn (w.alloc (.cells g.cells 33)) w.heap.size g :=
  ⟨by simp, heap_alloc_new w _⟩

theorem ints_new3 (w : World) (x y z : Int) (t : TypeId) : IntsAt (w.alloc (.cells #[.int .i64 x, .int .i64 y, .int .i64 z] t)) (some ⟨w.heap.size, 0, none⟩) [x, y, z] :=
  ⟨by simp [maxLen], .inr ⟨w.heap.size, 0, rfl, by simp, fun k hk => by
    match k, hk with
    | 0, _ => simp [go_sem]
    | 1, _ => simp [go_sem]
    | 2, _ => simp [go_sem]⟩⟩

theorem ck1_any (B : Nat) (g : GateV) (hn : g.nm.size ≤ maxLen) (w : World) (hg : GateIn w B g) :
    Calls Try.prog 57 #[.pointer (some ⟨B, 0, none⟩)] w fun e w' => e = .returned (.bool (!nameB g.nm)) ∧ Below w.heap.size w w' := by
  have c0 := hg.cell 0 _ rfl
  go_enter Try.func57, Try.ntmps57
  go_wp2_with (go_at_call 58; refine (name_any _ hn _).mono ?_; rintro e w' ⟨rfl, rfl⟩)
  go_ret
  exact ⟨rfl, Below.refl _ _⟩

set_option maxHeartbeats 400000 in
theorem ck2_any (B : Nat) (g : GateV) (w : World) (hg : GateIn w B g) :
    Calls Try.prog 59 #[.pointer (some ⟨B, 0, none⟩)] w fun e w' => e = .returned (.bool (outB g.kind (1) 3)) ∧ Below w.heap.size w w' := by
  have c_kind := hg.cell 1 _ rfl
  have Hg := Lib.hid hg
  clear hg
  go_enter Try.func59, Try.ntmps59
  go_wp2_with (go_at_call 50; refine (out_any _ _ _ _).mono ?_; rintro e w' ⟨rfl, rfl⟩)
  go_ret
  exact ⟨rfl, Below.refl _ _⟩

set_option maxHeartbeats 400000 in
theorem ck3_any (B : Nat) (g : GateV) (w : World) (hg : GateIn w B g) :
    Calls Try.prog 60 #[.pointer (some ⟨B, 0, none⟩)] w fun e w' => e = .returned (.bool (outB g.travel (1) 5000)) ∧ Below w.heap.size w w' := by
  have c_travel := hg.cell 2 _ rfl
  have Hg := Lib.hid hg
  clear hg
  go_enter Try.func60, Try.ntmps60
  go_wp2_with (go_at_call 50; refine (out_any _ _ _ _).mono ?_; rintro e w' ⟨rfl, rfl⟩)
  go_ret
  exact ⟨rfl, Below.refl _ _⟩

set_option maxHeartbeats 400000 in
theorem ck4_any (B : Nat) (g : GateV) (w : World) (hg : GateIn w B g) :
    Calls Try.prog 62 #[.pointer (some ⟨B, 0, none⟩)] w fun e w' => e = .returned (.bool ((outB g.open_ (-20000) 20000 || outB g.shut (-20000) 20000 || outB g.height (1) 30000))) ∧ Below w.heap.size w w' := by
  have c_open_ := hg.cell 4 _ rfl
  have c_shut := hg.cell 5 _ rfl
  have c_height := hg.cell 6 _ rfl
  have Hg := Lib.hid hg
  clear hg
  by_cases h0 : outB g.open_ (-20000) 20000 = true <;> by_cases h1 : outB g.shut (-20000) 20000 = true
  all_goals
    try simp only [Bool.not_eq_true] at h0 h1
    go_enter Try.func62, Try.ntmps62
    go_wp2_with (first | (go_at_call 50; refine (out_any _ _ _ _).mono ?_; rintro e w' ⟨rfl, rfl⟩) | (go_at_call 63; refine (dry_any _ _).mono ?_; rintro e w' ⟨rfl, rfl⟩))
    go_ret
    exact ⟨ret_bool (by simp [*]), Below.refl _ _⟩

set_option maxHeartbeats 400000 in
theorem ck5_any (B : Nat) (g : GateV) (w : World) (hg : GateIn w B g) :
    Calls Try.prog 64 #[.pointer (some ⟨B, 0, none⟩)] w fun e w' => e = .returned (.bool (anyB 10000 [g.float, g.slide] || outB g.push (-10000) 10000)) ∧ Below w.heap.size w w' := by
  have c_float := hg.cell 7 _ rfl
  have c_slide := hg.cell 9 _ rfl
  have c_push := hg.cell 8 _ rfl
  have Hg := Lib.hid hg
  clear hg
  by_cases h0 : anyB 10000 [g.float, g.slide] = true
  all_goals
    try simp only [Bool.not_eq_true] at h0
    go_enter Try.func64, Try.ntmps64
    have tok : True := trivial
    go_wp2_with (first | (go_at_call 50; refine (out_any _ _ _ _).mono ?_; rintro e w' ⟨rfl, rfl⟩) | (go_at_call 53; have _t := tok; refine (beyond_any _ _ [g.float, g.slide] _ _ (ints_new2 w g.float g.slide 3)).mono ?_; rintro e w1 ⟨rfl, hb1⟩; have hb2 := Hid.out (Lib.hid (((Below.refl w.heap.size w).alloc (Nat.le_refl _) _).trans (hb1.mono (by simp)))); have hgr := Hg.out.below hb2 (Nat.le_refl _); have d_push := hgr.cell 8 _ rfl; have Hb2 := Lib.hid hb2; clear hb2 hgr hb1 tok))
    go_ret
    exact ⟨ret_bool (by simp [*]), Hb2.out⟩

set_option maxHeartbeats 400000 in
theorem ck6_any (B : Nat) (g : GateV) (w : World) (hg : GateIn w B g) :
    Calls Try.prog 65 #[.pointer (some ⟨B, 0, none⟩)] w fun e w' => e = .returned (.bool (anyB 200000 [g.sealing, g.drive, g.brake])) ∧ Below w.heap.size w w' := by
  have c_sealing := hg.cell 10 _ rfl
  have c_drive := hg.cell 11 _ rfl
  have c_brake := hg.cell 12 _ rfl
  have Hg := Lib.hid hg
  clear hg
  go_enter Try.func65, Try.ntmps65
  have tok : True := trivial
  go_wp2_with (go_at_call 53; have _t := tok; refine (beyond_any _ _ [g.sealing, g.drive, g.brake] _ _ (ints_new3 w g.sealing g.drive g.brake 3)).mono ?_; rintro e w1 ⟨rfl, hb1⟩; have hb2 := Hid.out (Lib.hid (((Below.refl w.heap.size w).alloc (Nat.le_refl _) _).trans (hb1.mono (by simp)))); have hgr := Hg.out.below hb2 (Nat.le_refl _); have Hb2 := Lib.hid hb2; clear hb2 hgr hb1 tok)
  go_ret
  exact ⟨ret_bool (by simp [*]), Hb2.out⟩

set_option maxHeartbeats 400000 in
theorem ck7_any (B : Nat) (g : GateV) (w : World) (hg : GateIn w B g) :
    Calls Try.prog 66 #[.pointer (some ⟨B, 0, none⟩)] w fun e w' => e = .returned (.bool (outB g.speed (1) 100 || outB g.gravity (1) 100)) ∧ Below w.heap.size w w' := by
  have c_speed := hg.cell 13 _ rfl
  have c_gravity := hg.cell 14 _ rfl
  have Hg := Lib.hid hg
  clear hg
  by_cases h0 : outB g.speed (1) 100 = true
  all_goals
    try simp only [Bool.not_eq_true] at h0
    go_enter Try.func66, Try.ntmps66
    go_wp2_with (go_at_call 50; refine (out_any _ _ _ _).mono ?_; rintro e w' ⟨rfl, rfl⟩)
    go_ret
    exact ⟨ret_bool (by simp [*]), Below.refl _ _⟩

set_option maxHeartbeats 400000 in
theorem ck8_any (B : Nat) (g : GateV) (ht : 1 ≤ g.travel) (ht2 : g.travel ≤ 5000) (w : World) (hg : GateIn w B g) :
    Calls Try.prog 67 #[.pointer (some ⟨B, 0, none⟩)] w fun e w' => e = .returned (.bool (anyB 100000 [g.use, g.pump, g.cap] || anyB ((g.travel - 1) / 2) [g.slack])) ∧ Below w.heap.size w w' := by
  have c_use := hg.cell 15 _ rfl
  have c_pump := hg.cell 16 _ rfl
  have c_cap := hg.cell 17 _ rfl
  have c_slack := hg.cell 18 _ rfl
  have c_travel := hg.cell 2 _ rfl
  have Hg := Lib.hid hg
  clear hg
  by_cases h0 : anyB 100000 [g.use, g.pump, g.cap] = true
  all_goals
    try simp only [Bool.not_eq_true] at h0
    go_enter Try.func67, Try.ntmps67
    have tok : True := trivial
    go_wp2_with (first | (go_at_call 53; have _t := tok; refine (beyond_any _ _ [g.use, g.pump, g.cap] _ _ (ints_new3 w g.use g.pump g.cap 3)).mono ?_; rintro e w1 ⟨rfl, hb1⟩; have hb2 := Hid.out (Lib.hid (((Below.refl w.heap.size w).alloc (Nat.le_refl _) _).trans (hb1.mono (by simp)))); have hgr := Hg.out.below hb2 (Nat.le_refl _); have d_slack := hgr.cell 18 _ rfl; have d_travel := hgr.cell 2 _ rfl; have Hb2 := Lib.hid hb2; clear hb2 hgr hb1 tok) | (go_at_call 53; refine (beyond_any _ _ [g.slack] _ _ (ints_new1 w1 g.slack 3)).mono ?_; rintro e w2 ⟨rfl, hb3⟩))
    go_ret
    refine ⟨ret_bool (by simp [*]), ?_⟩
    first
      | exact (Hb2.out.alloc Hb2.out.size _).trans (hb3.mono (by have := Hb2.out.size; simp; omega))
      | exact Hb2.out
end Go.Proofs.Ythalanpmfhhhnaa
