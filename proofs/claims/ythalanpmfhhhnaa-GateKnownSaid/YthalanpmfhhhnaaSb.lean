/-
  Sure and Bolt, the program's and the reference's.
-/
import Derived.Test.YthalanpmfhhhnaaRh
import Derived.Test.YthalanpmfhhhnaaRs
import Derived.Test.YthalanpmfhhhnaaOd
namespace Go.Proofs.Ythalanpmfhhhnaa
open Go.RowKit
set_option linter.unusedSimpArgs false
set_option linter.unusedVariables false

/-- The error of Bolt. -/
def setBE (g : GateV) (s : St) (on : Bool) (rs : List Int) : Int :=
  if (checkZ g).2.2 ≠ 0 then (checkZ g).2.2 else if lostE g s ≠ 0 then lostE g s else if (on && s.bolted) = true then 5 else if (!on && !s.bolted) = true then 4 else if on = true ∧ whereE g rs ≠ 0 then whereE g rs else if on = true ∧ sureV g rs = 0 then 9 else 0
/-- The state behind Bolt. -/
def setBS (g : GateV) (s : St) (on : Bool) (rs : List Int) : St := if setBE g s on rs = 0 then ⟨s.pos, s.charge, on⟩ else ⟨0, 0, false⟩
theorem whereE_0 {g : GateV} {rs : List Int} (h : whereE g rs = 0) : (checkZ g).2.2 = 0 := by
  unfold whereE at h
  split at h
  · rename_i a; exact absurd h a
  · rename_i a; simpa using a
theorem psUpto_lo {g : GateV} {rs : List Int} {n : Nat} (h : (psUpto g rs n).isEmpty = false) : 0 ≤ spanLo (psUpto g rs n) ∧ spanLo (psUpto g rs n) < n := by
  have := psUpto_mem (spanLo_mem h)
  exact ⟨this.1, this.2.1⟩

set_option maxRecDepth 100000 in
set_option maxHeartbeats 2000000 in
theorem sure_any (g : GateV) (rA : Option Addr) (rC : Nat) (rs : List Int) (w : World) (hok : g.Ok w) (hri : IntsAt w rA rs) :
    Calls Try.prog 44 #[g.val, .slice rA rs.length rC] w fun e w' => e = .returned (.tuple #[.int .i64 (sureV g rs), .int .i64 (whereE g rs)]) ∧ Below w.heap.size w w' := by
  have H0 := Lib.hid (Bk.new1 w (.cells g.cells 33))
  have Hok := Lib.hid (fun W (h : Below w.heap.size w W) => hok.below h (Nat.le_refl _))
  have Hri := Lib.hid (fun W (h : Below w.heap.size w W) => hri.below h (Nat.le_refl _))
  clear hok hri
  by_cases he : whereE g rs = 0
  · have hg := check_good (whereE_0 he)
    have hsk := hg.slack
    have htr := hg.travel
    have He := Lib.hid he
    by_cases h1 : whereHi g rs ≤ g.slack
    · have e1 : sureV g rs = 1 := by rw [sureV, if_neg (by simp [he]), if_pos h1]
      rw [e1, he]
      have f1 : decide (whereHi g rs ≤ g.slack) = true := by simpa using h1
      clear e1 he hg h1
      go_enter Try.func44, Try.ntmps44
      go_wp2_with (first
        | (with_reducible show wpList _ _ _ (({ dst := _, op := .load 33 (.tmp 2), type := _, pos := _, after := _, guard := none } : Oper) :: _) _ _; refine wpList_load_gate (H0.out.gate 0 rfl) rfl (.tmp 2) rfl rfl ?_)
        | (go_at_call 29; refine (where_any g rA rC rs _ (Hok.out _ H0.out.below) (Hri.out _ H0.out.below)).mono ?_; rintro e w1 ⟨rfl, hb1⟩; rw [He.out]; have H1 := H0.out.call hb1; have g2 : w1.cell? ⟨w.heap.size, 2, none⟩ = some (.int .i64 g.travel) := H1.cell 0 2 rfl rfl; have g18 : w1.cell? ⟨w.heap.size, 18, none⟩ = some (.int .i64 g.slack) := H1.cell 0 18 rfl rfl; have lt : w.heap.size < w1.heap.size := H1.lt 0 rfl; have HB := Lib.hid H1.below; clear H1 hb1))
      go_ret2
      exact ⟨rfl, HB.out.alloc (by omega) _⟩
    · have f1 : decide (whereHi g rs ≤ g.slack) = false := by simpa using h1
      by_cases h2 : g.travel - g.slack ≤ whereLo g rs
      · have e1 : sureV g rs = 2 := by rw [sureV, if_neg (by simp [he]), if_neg h1, if_pos h2]
        rw [e1, he]
        have f2 : decide (g.travel - g.slack ≤ whereLo g rs) = true := by simpa using h2
        clear e1 he hg h1 h2
        go_enter Try.func44, Try.ntmps44
        go_wp2_with (first
          | (with_reducible show wpList _ _ _ (({ dst := _, op := .load 33 (.tmp 2), type := _, pos := _, after := _, guard := none } : Oper) :: _) _ _; refine wpList_load_gate (H0.out.gate 0 rfl) rfl (.tmp 2) rfl rfl ?_)
          | (go_at_call 29; refine (where_any g rA rC rs _ (Hok.out _ H0.out.below) (Hri.out _ H0.out.below)).mono ?_; rintro e w1 ⟨rfl, hb1⟩; rw [He.out]; have H1 := H0.out.call hb1; have g2 : w1.cell? ⟨w.heap.size, 2, none⟩ = some (.int .i64 g.travel) := H1.cell 0 2 rfl rfl; have g18 : w1.cell? ⟨w.heap.size, 18, none⟩ = some (.int .i64 g.slack) := H1.cell 0 18 rfl rfl; have lt : w.heap.size < w1.heap.size := H1.lt 0 rfl; have HB := Lib.hid H1.below; clear H1 hb1))
        go_ret2
        exact ⟨rfl, HB.out.alloc (by omega) _⟩
      · have e1 : sureV g rs = 0 := by rw [sureV, if_neg (by simp [he]), if_neg h1, if_neg h2]
        rw [e1, he]
        have f2 : decide (g.travel - g.slack ≤ whereLo g rs) = false := by simpa using h2
        clear e1 he hg h1 h2
        go_enter Try.func44, Try.ntmps44
        go_wp2_with (first
          | (with_reducible show wpList _ _ _ (({ dst := _, op := .load 33 (.tmp 2), type := _, pos := _, after := _, guard := none } : Oper) :: _) _ _; refine wpList_load_gate (H0.out.gate 0 rfl) rfl (.tmp 2) rfl rfl ?_)
          | (go_at_call 29; refine (where_any g rA rC rs _ (Hok.out _ H0.out.below) (Hri.out _ H0.out.below)).mono ?_; rintro e w1 ⟨rfl, hb1⟩; rw [He.out]; have H1 := H0.out.call hb1; have g2 : w1.cell? ⟨w.heap.size, 2, none⟩ = some (.int .i64 g.travel) := H1.cell 0 2 rfl rfl; have g18 : w1.cell? ⟨w.heap.size, 18, none⟩ = some (.int .i64 g.slack) := H1.cell 0 18 rfl rfl; have lt : w.heap.size < w1.heap.size := H1.lt 0 rfl; have HB := Lib.hid H1.below; clear H1 hb1))
        go_ret2
        exact ⟨rfl, HB.out.alloc (by omega) _⟩
  · have e1 : sureV g rs = 0 := by rw [sureV, if_pos he]
    rw [e1]
    have f1 : (whereE g rs != 0) = true := by simp [he]
    clear e1 he
    go_enter Try.func44, Try.ntmps44
    go_wp2_with (first
      | (with_reducible show wpList _ _ _ (({ dst := _, op := .load 33 (.tmp 2), type := _, pos := _, after := _, guard := none } : Oper) :: _) _ _; refine wpList_load_gate (H0.out.gate 0 rfl) rfl (.tmp 2) rfl rfl ?_)
      | (go_at_call 29; refine (where_any g rA rC rs _ (Hok.out _ H0.out.below) (Hri.out _ H0.out.below)).mono ?_; rintro e w1 ⟨rfl, hb1⟩; have H1 := H0.out.call hb1; have g2 : w1.cell? ⟨w.heap.size, 2, none⟩ = some (.int .i64 g.travel) := H1.cell 0 2 rfl rfl; have g18 : w1.cell? ⟨w.heap.size, 18, none⟩ = some (.int .i64 g.slack) := H1.cell 0 18 rfl rfl; have lt : w.heap.size < w1.heap.size := H1.lt 0 rfl; have HB := Lib.hid H1.below; clear H1 hb1))
    go_ret2
    exact ⟨rfl, HB.out.alloc (by omega) _⟩
set_option maxRecDepth 100000 in
set_option maxHeartbeats 2000000 in
theorem rsure_any (g : GateV) (rA : Option Addr) (rC : Nat) (rs : List Int) (w : World) (hok : g.Ok w) (hri : IntsAt w rA rs) :
    Calls Try.prog 45 #[g.val, .slice rA rs.length rC] w fun e w' => e = .returned (.tuple #[.int .i64 (sureV g rs), .int .i64 (whereE g rs)]) ∧ Below w.heap.size w w' := by
  have H0 := Lib.hid (Bk.new1 w (.cells g.cells 33))
  have Hok := Lib.hid (fun W (h : Below w.heap.size w W) => hok.below h (Nat.le_refl _))
  have Hri := Lib.hid (fun W (h : Below w.heap.size w W) => hri.below h (Nat.le_refl _))
  clear hok hri
  by_cases he : whereE g rs = 0
  · have hg := check_good (whereE_0 he)
    have hsk := hg.slack
    have htr := hg.travel
    have He := Lib.hid he
    by_cases h1 : whereHi g rs ≤ g.slack
    · have e1 : sureV g rs = 1 := by rw [sureV, if_neg (by simp [he]), if_pos h1]
      rw [e1, he]
      have f1 : decide (whereHi g rs ≤ g.slack) = true := by simpa using h1
      clear e1 he hg h1
      go_enter Try.func45, Try.ntmps45
      go_wp2_with (first
        | (with_reducible show wpList _ _ _ (({ dst := _, op := .load 33 (.tmp 2), type := _, pos := _, after := _, guard := none } : Oper) :: _) _ _; refine wpList_load_gate (H0.out.gate 0 rfl) rfl (.tmp 2) rfl rfl ?_)
        | (go_at_call 43; refine (rWhere_any g rA rC rs _ (Hok.out _ H0.out.below) (Hri.out _ H0.out.below)).mono ?_; rintro e w1 ⟨rfl, hb1⟩; rw [He.out]; have H1 := H0.out.call hb1; have g2 : w1.cell? ⟨w.heap.size, 2, none⟩ = some (.int .i64 g.travel) := H1.cell 0 2 rfl rfl; have g18 : w1.cell? ⟨w.heap.size, 18, none⟩ = some (.int .i64 g.slack) := H1.cell 0 18 rfl rfl; have lt : w.heap.size < w1.heap.size := H1.lt 0 rfl; have HB := Lib.hid H1.below; clear H1 hb1))
      go_ret2
      exact ⟨rfl, HB.out.alloc (by omega) _⟩
    · have f1 : decide (whereHi g rs ≤ g.slack) = false := by simpa using h1
      by_cases h2 : g.travel - g.slack ≤ whereLo g rs
      · have e1 : sureV g rs = 2 := by rw [sureV, if_neg (by simp [he]), if_neg h1, if_pos h2]
        rw [e1, he]
        have f2 : decide (g.travel - g.slack ≤ whereLo g rs) = true := by simpa using h2
        clear e1 he hg h1 h2
        go_enter Try.func45, Try.ntmps45
        go_wp2_with (first
          | (with_reducible show wpList _ _ _ (({ dst := _, op := .load 33 (.tmp 2), type := _, pos := _, after := _, guard := none } : Oper) :: _) _ _; refine wpList_load_gate (H0.out.gate 0 rfl) rfl (.tmp 2) rfl rfl ?_)
          | (go_at_call 43; refine (rWhere_any g rA rC rs _ (Hok.out _ H0.out.below) (Hri.out _ H0.out.below)).mono ?_; rintro e w1 ⟨rfl, hb1⟩; rw [He.out]; have H1 := H0.out.call hb1; have g2 : w1.cell? ⟨w.heap.size, 2, none⟩ = some (.int .i64 g.travel) := H1.cell 0 2 rfl rfl; have g18 : w1.cell? ⟨w.heap.size, 18, none⟩ = some (.int .i64 g.slack) := H1.cell 0 18 rfl rfl; have lt : w.heap.size < w1.heap.size := H1.lt 0 rfl; have HB := Lib.hid H1.below; clear H1 hb1))
        go_ret2
        exact ⟨rfl, HB.out.alloc (by omega) _⟩
      · have e1 : sureV g rs = 0 := by rw [sureV, if_neg (by simp [he]), if_neg h1, if_neg h2]
        rw [e1, he]
        have f2 : decide (g.travel - g.slack ≤ whereLo g rs) = false := by simpa using h2
        clear e1 he hg h1 h2
        go_enter Try.func45, Try.ntmps45
        go_wp2_with (first
          | (with_reducible show wpList _ _ _ (({ dst := _, op := .load 33 (.tmp 2), type := _, pos := _, after := _, guard := none } : Oper) :: _) _ _; refine wpList_load_gate (H0.out.gate 0 rfl) rfl (.tmp 2) rfl rfl ?_)
          | (go_at_call 43; refine (rWhere_any g rA rC rs _ (Hok.out _ H0.out.below) (Hri.out _ H0.out.below)).mono ?_; rintro e w1 ⟨rfl, hb1⟩; rw [He.out]; have H1 := H0.out.call hb1; have g2 : w1.cell? ⟨w.heap.size, 2, none⟩ = some (.int .i64 g.travel) := H1.cell 0 2 rfl rfl; have g18 : w1.cell? ⟨w.heap.size, 18, none⟩ = some (.int .i64 g.slack) := H1.cell 0 18 rfl rfl; have lt : w.heap.size < w1.heap.size := H1.lt 0 rfl; have HB := Lib.hid H1.below; clear H1 hb1))
        go_ret2
        exact ⟨rfl, HB.out.alloc (by omega) _⟩
  · have e1 : sureV g rs = 0 := by rw [sureV, if_pos he]
    rw [e1]
    have f1 : (whereE g rs != 0) = true := by simp [he]
    clear e1 he
    go_enter Try.func45, Try.ntmps45
    go_wp2_with (first
      | (with_reducible show wpList _ _ _ (({ dst := _, op := .load 33 (.tmp 2), type := _, pos := _, after := _, guard := none } : Oper) :: _) _ _; refine wpList_load_gate (H0.out.gate 0 rfl) rfl (.tmp 2) rfl rfl ?_)
      | (go_at_call 43; refine (rWhere_any g rA rC rs _ (Hok.out _ H0.out.below) (Hri.out _ H0.out.below)).mono ?_; rintro e w1 ⟨rfl, hb1⟩; have H1 := H0.out.call hb1; have g2 : w1.cell? ⟨w.heap.size, 2, none⟩ = some (.int .i64 g.travel) := H1.cell 0 2 rfl rfl; have g18 : w1.cell? ⟨w.heap.size, 18, none⟩ = some (.int .i64 g.slack) := H1.cell 0 18 rfl rfl; have lt : w.heap.size < w1.heap.size := H1.lt 0 rfl; have HB := Lib.hid H1.below; clear H1 hb1))
    go_ret2
    exact ⟨rfl, HB.out.alloc (by omega) _⟩
set_option maxRecDepth 100000 in
set_option maxHeartbeats 4000000 in
theorem bolt_set_any (g : GateV) (s : St) (on : Bool) (rA : Option Addr) (rC : Nat) (rs : List Int) (w : World) (hok : g.Ok w) (hri : IntsAt w rA rs) :
    Calls Try.prog 46 #[g.val, s.val, .bool on, .slice rA rs.length rC] w fun e w' => e = .returned (.tuple #[(setBS g s on rs).val, .int .i64 (setBE g s on rs)]) ∧ Below w.heap.size w w' := by
  have H0 := Lib.hid (Bk.new3 w (.cells g.cells 33) (.cells s.cells 43) (.cells #[.int .i64 0, .int .i64 0, .bool false] 43))
  have Hok := Lib.hid (fun W (h : Below w.heap.size w W) => hok.below h (Nat.le_refl _))
  have Hri := Lib.hid (fun W (h : Below w.heap.size w W) => hri.below h (Nat.le_refl _))
  clear hok hri
  by_cases hc : (checkZ g).2.2 = 0
  · have Hc := Lib.hid hc
    obtain ⟨p, c, b⟩ := s
    by_cases hl : lostE g ⟨p, c, b⟩ = 0
    · have Hl := Lib.hid hl
      cases b with
      | true =>
        cases on with
        | true =>
          have he : setBE g ⟨p, c, true⟩ true rs = 5 := by simp [setBE, hc, hl]
          have hs : setBS g ⟨p, c, true⟩ true rs = ⟨0, 0, false⟩ := by rw [setBS, if_neg (by omega)]
          rw [he, hs]
          clear he hs hc hl
          go_enter Try.func46, Try.ntmps46
          go_wp2_with (first
            | (with_reducible show wpList _ _ _ (({ dst := _, op := .load 33 (.tmp 4), type := _, pos := _, after := _, guard := none } : Oper) :: _) _ _; refine wpList_load_gate (H0.out.gate 0 rfl) rfl (.tmp 4) rfl rfl ?_)
            | (go_at_call 22; refine (check_any g _ (Hok.out _ H0.out.below)).mono ?_; rintro e w1 ⟨rfl, hb1⟩; rw [Hc.out]; have H1 := Lib.hid (H0.out.call hb1); clear hb1)
            | (with_reducible show wpList _ _ _ (({ dst := _, op := .load 33 (.tmp 4), type := _, pos := _, after := _, guard := none } : Oper) :: _) _ _; refine wpList_load_gate (H1.out.gate 0 rfl) rfl (.tmp 4) rfl rfl ?_)
            | (with_reducible show wpList _ _ _ (({ dst := _, op := .load 43 (.tmp 5), type := _, pos := _, after := _, guard := none } : Oper) :: _) _ _; refine wpList_load_st (H1.out.blk 1 _ rfl) rfl (.tmp 5) rfl rfl ?_)
            | (go_at_call 91; refine (lost_any g ⟨p, c, true⟩ _).mono ?_; rintro e w2 ⟨rfl, hb2⟩; rw [Hl.out]; have H2 := Lib.hid (H1.out.call hb2); clear hb2; have r0 : w2.cell? ⟨w.heap.size + 1 + 1, 0, none⟩ = some (.int .i64 0) := H2.out.cell 2 0 rfl rfl; have r1 : w2.cell? ⟨w.heap.size + 1 + 1, 1, none⟩ = some (.int .i64 0) := H2.out.cell 2 1 rfl rfl; have r2 : w2.cell? ⟨w.heap.size + 1 + 1, 2, none⟩ = some (.bool false) := H2.out.cell 2 2 rfl rfl; have rf0 : w2.frozen? ⟨w.heap.size + 1 + 1, 0, none⟩ = false := H2.out.froz 2 0 rfl; have rf1 : w2.frozen? ⟨w.heap.size + 1 + 1, 1, none⟩ = false := H2.out.froz 2 1 rfl; have rf2 : w2.frozen? ⟨w.heap.size + 1 + 1, 2, none⟩ = false := H2.out.froz 2 2 rfl; have s0 : w2.cell? ⟨w.heap.size + 1, 0, none⟩ = some (.int .i64 p) := H2.out.cell 1 0 rfl rfl; have s1 : w2.cell? ⟨w.heap.size + 1, 1, none⟩ = some (.int .i64 c) := H2.out.cell 1 1 rfl rfl; have s2 : w2.cell? ⟨w.heap.size + 1, 2, none⟩ = some (.bool true) := H2.out.cell 1 2 rfl rfl; have sf0 : w2.frozen? ⟨w.heap.size + 1, 0, none⟩ = false := H2.out.froz 1 0 rfl; have sf1 : w2.frozen? ⟨w.heap.size + 1, 1, none⟩ = false := H2.out.froz 1 1 rfl; have sf2 : w2.frozen? ⟨w.heap.size + 1, 2, none⟩ = false := H2.out.froz 1 2 rfl; have lt : w.heap.size + 1 + 1 < w2.heap.size := H2.out.lt 2 rfl; have HZ := Lib.hid H2.out.below))
          refine bodyPost_ret (v := .tuple #[.agg #[.int .i64 0, .int .i64 0, .bool false], .int .i64 5]) (by simp [results, Try.results46, go_sem, *]) rfl ⟨rfl, ?_⟩
          repeat (first | (with_reducible exact HZ.out) | (with_reducible refine bset ?_ (by omega)) | (with_reducible refine Below.alloc ?_ (by simp; omega) _))
        | false =>
          have he : setBE g ⟨p, c, true⟩ false rs = 0 := by simp [setBE, hc, hl]
          have hs : setBS g ⟨p, c, true⟩ false rs = ⟨p, c, false⟩ := by rw [setBS, if_pos he]
          rw [he, hs]
          clear he hs hc hl
          go_enter Try.func46, Try.ntmps46
          go_wp2_with (first
            | (with_reducible show wpList _ _ _ (({ dst := _, op := .load 33 (.tmp 4), type := _, pos := _, after := _, guard := none } : Oper) :: _) _ _; refine wpList_load_gate (H0.out.gate 0 rfl) rfl (.tmp 4) rfl rfl ?_)
            | (go_at_call 22; refine (check_any g _ (Hok.out _ H0.out.below)).mono ?_; rintro e w1 ⟨rfl, hb1⟩; rw [Hc.out]; have H1 := Lib.hid (H0.out.call hb1); clear hb1)
            | (with_reducible show wpList _ _ _ (({ dst := _, op := .load 33 (.tmp 4), type := _, pos := _, after := _, guard := none } : Oper) :: _) _ _; refine wpList_load_gate (H1.out.gate 0 rfl) rfl (.tmp 4) rfl rfl ?_)
            | (with_reducible show wpList _ _ _ (({ dst := _, op := .load 43 (.tmp 5), type := _, pos := _, after := _, guard := none } : Oper) :: _) _ _; refine wpList_load_st (H1.out.blk 1 _ rfl) rfl (.tmp 5) rfl rfl ?_)
            | (go_at_call 91; refine (lost_any g ⟨p, c, true⟩ _).mono ?_; rintro e w2 ⟨rfl, hb2⟩; rw [Hl.out]; have H2 := Lib.hid (H1.out.call hb2); clear hb2; have r0 : w2.cell? ⟨w.heap.size + 1 + 1, 0, none⟩ = some (.int .i64 0) := H2.out.cell 2 0 rfl rfl; have r1 : w2.cell? ⟨w.heap.size + 1 + 1, 1, none⟩ = some (.int .i64 0) := H2.out.cell 2 1 rfl rfl; have r2 : w2.cell? ⟨w.heap.size + 1 + 1, 2, none⟩ = some (.bool false) := H2.out.cell 2 2 rfl rfl; have rf0 : w2.frozen? ⟨w.heap.size + 1 + 1, 0, none⟩ = false := H2.out.froz 2 0 rfl; have rf1 : w2.frozen? ⟨w.heap.size + 1 + 1, 1, none⟩ = false := H2.out.froz 2 1 rfl; have rf2 : w2.frozen? ⟨w.heap.size + 1 + 1, 2, none⟩ = false := H2.out.froz 2 2 rfl; have s0 : w2.cell? ⟨w.heap.size + 1, 0, none⟩ = some (.int .i64 p) := H2.out.cell 1 0 rfl rfl; have s1 : w2.cell? ⟨w.heap.size + 1, 1, none⟩ = some (.int .i64 c) := H2.out.cell 1 1 rfl rfl; have s2 : w2.cell? ⟨w.heap.size + 1, 2, none⟩ = some (.bool true) := H2.out.cell 1 2 rfl rfl; have sf0 : w2.frozen? ⟨w.heap.size + 1, 0, none⟩ = false := H2.out.froz 1 0 rfl; have sf1 : w2.frozen? ⟨w.heap.size + 1, 1, none⟩ = false := H2.out.froz 1 1 rfl; have sf2 : w2.frozen? ⟨w.heap.size + 1, 2, none⟩ = false := H2.out.froz 1 2 rfl; have lt : w.heap.size + 1 + 1 < w2.heap.size := H2.out.lt 2 rfl; have HZ := Lib.hid H2.out.below))
          refine bodyPost_ret (v := .tuple #[.agg #[.int .i64 p, .int .i64 c, .bool false], .int .i64 0]) (by simp [results, Try.results46, go_sem, *]) rfl ⟨rfl, ?_⟩
          repeat (first | (with_reducible exact HZ.out) | (with_reducible refine bset ?_ (by omega)) | (with_reducible refine Below.alloc ?_ (by simp; omega) _))
      | false =>
        cases on with
        | false =>
          have he : setBE g ⟨p, c, false⟩ false rs = 4 := by simp [setBE, hc, hl]
          have hs : setBS g ⟨p, c, false⟩ false rs = ⟨0, 0, false⟩ := by rw [setBS, if_neg (by omega)]
          rw [he, hs]
          clear he hs hc hl
          go_enter Try.func46, Try.ntmps46
          go_wp2_with (first
            | (with_reducible show wpList _ _ _ (({ dst := _, op := .load 33 (.tmp 4), type := _, pos := _, after := _, guard := none } : Oper) :: _) _ _; refine wpList_load_gate (H0.out.gate 0 rfl) rfl (.tmp 4) rfl rfl ?_)
            | (go_at_call 22; refine (check_any g _ (Hok.out _ H0.out.below)).mono ?_; rintro e w1 ⟨rfl, hb1⟩; rw [Hc.out]; have H1 := Lib.hid (H0.out.call hb1); clear hb1)
            | (with_reducible show wpList _ _ _ (({ dst := _, op := .load 33 (.tmp 4), type := _, pos := _, after := _, guard := none } : Oper) :: _) _ _; refine wpList_load_gate (H1.out.gate 0 rfl) rfl (.tmp 4) rfl rfl ?_)
            | (with_reducible show wpList _ _ _ (({ dst := _, op := .load 43 (.tmp 5), type := _, pos := _, after := _, guard := none } : Oper) :: _) _ _; refine wpList_load_st (H1.out.blk 1 _ rfl) rfl (.tmp 5) rfl rfl ?_)
            | (go_at_call 91; refine (lost_any g ⟨p, c, false⟩ _).mono ?_; rintro e w2 ⟨rfl, hb2⟩; rw [Hl.out]; have H2 := Lib.hid (H1.out.call hb2); clear hb2; have r0 : w2.cell? ⟨w.heap.size + 1 + 1, 0, none⟩ = some (.int .i64 0) := H2.out.cell 2 0 rfl rfl; have r1 : w2.cell? ⟨w.heap.size + 1 + 1, 1, none⟩ = some (.int .i64 0) := H2.out.cell 2 1 rfl rfl; have r2 : w2.cell? ⟨w.heap.size + 1 + 1, 2, none⟩ = some (.bool false) := H2.out.cell 2 2 rfl rfl; have rf0 : w2.frozen? ⟨w.heap.size + 1 + 1, 0, none⟩ = false := H2.out.froz 2 0 rfl; have rf1 : w2.frozen? ⟨w.heap.size + 1 + 1, 1, none⟩ = false := H2.out.froz 2 1 rfl; have rf2 : w2.frozen? ⟨w.heap.size + 1 + 1, 2, none⟩ = false := H2.out.froz 2 2 rfl; have s0 : w2.cell? ⟨w.heap.size + 1, 0, none⟩ = some (.int .i64 p) := H2.out.cell 1 0 rfl rfl; have s1 : w2.cell? ⟨w.heap.size + 1, 1, none⟩ = some (.int .i64 c) := H2.out.cell 1 1 rfl rfl; have s2 : w2.cell? ⟨w.heap.size + 1, 2, none⟩ = some (.bool false) := H2.out.cell 1 2 rfl rfl; have sf0 : w2.frozen? ⟨w.heap.size + 1, 0, none⟩ = false := H2.out.froz 1 0 rfl; have sf1 : w2.frozen? ⟨w.heap.size + 1, 1, none⟩ = false := H2.out.froz 1 1 rfl; have sf2 : w2.frozen? ⟨w.heap.size + 1, 2, none⟩ = false := H2.out.froz 1 2 rfl; have lt : w.heap.size + 1 + 1 < w2.heap.size := H2.out.lt 2 rfl; have HZ := Lib.hid H2.out.below))
          refine bodyPost_ret (v := .tuple #[.agg #[.int .i64 0, .int .i64 0, .bool false], .int .i64 4]) (by simp [results, Try.results46, go_sem, *]) rfl ⟨rfl, ?_⟩
          repeat (first | (with_reducible exact HZ.out) | (with_reducible refine bset ?_ (by omega)) | (with_reducible refine Below.alloc ?_ (by simp; omega) _))
        | true =>
          by_cases hw : whereE g rs = 0
          · have Hw := Lib.hid hw
            by_cases hu : sureV g rs = 0
            · have he : setBE g ⟨p, c, false⟩ true rs = 9 := by simp [setBE, hc, hl, hw, hu]
              have hs : setBS g ⟨p, c, false⟩ true rs = ⟨0, 0, false⟩ := by rw [setBS, if_neg (by omega)]
              have f1 : (sureV g rs == 0) = true := by simp [hu]
              rw [he, hs]
              clear he hs hc hl hw hu
              go_enter Try.func46, Try.ntmps46
              go_wp2_with (first
                | (with_reducible show wpList _ _ _ (({ dst := _, op := .load 33 (.tmp 4), type := _, pos := _, after := _, guard := none } : Oper) :: _) _ _; refine wpList_load_gate (H0.out.gate 0 rfl) rfl (.tmp 4) rfl rfl ?_)
                | (go_at_call 22; refine (check_any g _ (Hok.out _ H0.out.below)).mono ?_; rintro e w1 ⟨rfl, hb1⟩; rw [Hc.out]; have H1 := Lib.hid (H0.out.call hb1); clear hb1)
                | (with_reducible show wpList _ _ _ (({ dst := _, op := .load 33 (.tmp 4), type := _, pos := _, after := _, guard := none } : Oper) :: _) _ _; refine wpList_load_gate (H1.out.gate 0 rfl) rfl (.tmp 4) rfl rfl ?_)
                | (with_reducible show wpList _ _ _ (({ dst := _, op := .load 43 (.tmp 5), type := _, pos := _, after := _, guard := none } : Oper) :: _) _ _; refine wpList_load_st (H1.out.blk 1 _ rfl) rfl (.tmp 5) rfl rfl ?_)
                | (go_at_call 91; refine (lost_any g ⟨p, c, false⟩ _).mono ?_; rintro e w2 ⟨rfl, hb2⟩; rw [Hl.out]; have H2 := Lib.hid (H1.out.call hb2); clear hb2; have s2 : w2.cell? ⟨w.heap.size + 1, 2, none⟩ = some (.bool false) := H2.out.cell 1 2 rfl rfl)
                | (with_reducible show wpList _ _ _ (({ dst := _, op := .load 33 (.tmp 4), type := _, pos := _, after := _, guard := none } : Oper) :: _) _ _; refine wpList_load_gate (H2.out.gate 0 rfl) rfl (.tmp 4) rfl rfl ?_)
                | (go_at_call 44; refine (sure_any g rA rC rs _ (Hok.out _ H2.out.below) (Hri.out _ H2.out.below)).mono ?_; rintro e w3 ⟨rfl, hb3⟩; rw [Hw.out]; clear s2; have H3 := Lib.hid (H2.out.call hb3); clear hb3; have r0 : w3.cell? ⟨w.heap.size + 1 + 1, 0, none⟩ = some (.int .i64 0) := H3.out.cell 2 0 rfl rfl; have r1 : w3.cell? ⟨w.heap.size + 1 + 1, 1, none⟩ = some (.int .i64 0) := H3.out.cell 2 1 rfl rfl; have r2 : w3.cell? ⟨w.heap.size + 1 + 1, 2, none⟩ = some (.bool false) := H3.out.cell 2 2 rfl rfl; have rf0 : w3.frozen? ⟨w.heap.size + 1 + 1, 0, none⟩ = false := H3.out.froz 2 0 rfl; have rf1 : w3.frozen? ⟨w.heap.size + 1 + 1, 1, none⟩ = false := H3.out.froz 2 1 rfl; have rf2 : w3.frozen? ⟨w.heap.size + 1 + 1, 2, none⟩ = false := H3.out.froz 2 2 rfl; have s0 : w3.cell? ⟨w.heap.size + 1, 0, none⟩ = some (.int .i64 p) := H3.out.cell 1 0 rfl rfl; have s1 : w3.cell? ⟨w.heap.size + 1, 1, none⟩ = some (.int .i64 c) := H3.out.cell 1 1 rfl rfl; have s2 : w3.cell? ⟨w.heap.size + 1, 2, none⟩ = some (.bool false) := H3.out.cell 1 2 rfl rfl; have sf0 : w3.frozen? ⟨w.heap.size + 1, 0, none⟩ = false := H3.out.froz 1 0 rfl; have sf1 : w3.frozen? ⟨w.heap.size + 1, 1, none⟩ = false := H3.out.froz 1 1 rfl; have sf2 : w3.frozen? ⟨w.heap.size + 1, 2, none⟩ = false := H3.out.froz 1 2 rfl; have lt : w.heap.size + 1 + 1 < w3.heap.size := H3.out.lt 2 rfl; have HZ := Lib.hid H3.out.below))
              refine bodyPost_ret (v := .tuple #[.agg #[.int .i64 0, .int .i64 0, .bool false], .int .i64 9]) (by simp [results, Try.results46, go_sem, *]) rfl ⟨rfl, ?_⟩
              repeat (first | (with_reducible exact HZ.out) | (with_reducible refine bset ?_ (by omega)) | (with_reducible refine Below.alloc ?_ (by simp; omega) _))
            · have he : setBE g ⟨p, c, false⟩ true rs = 0 := by simp [setBE, hc, hl, hw, hu]
              have hs : setBS g ⟨p, c, false⟩ true rs = ⟨p, c, true⟩ := by rw [setBS, if_pos he]
              have f1 : (sureV g rs == 0) = false := by simp [hu]
              rw [he, hs]
              clear he hs hc hl hw hu
              go_enter Try.func46, Try.ntmps46
              go_wp2_with (first
                | (with_reducible show wpList _ _ _ (({ dst := _, op := .load 33 (.tmp 4), type := _, pos := _, after := _, guard := none } : Oper) :: _) _ _; refine wpList_load_gate (H0.out.gate 0 rfl) rfl (.tmp 4) rfl rfl ?_)
                | (go_at_call 22; refine (check_any g _ (Hok.out _ H0.out.below)).mono ?_; rintro e w1 ⟨rfl, hb1⟩; rw [Hc.out]; have H1 := Lib.hid (H0.out.call hb1); clear hb1)
                | (with_reducible show wpList _ _ _ (({ dst := _, op := .load 33 (.tmp 4), type := _, pos := _, after := _, guard := none } : Oper) :: _) _ _; refine wpList_load_gate (H1.out.gate 0 rfl) rfl (.tmp 4) rfl rfl ?_)
                | (with_reducible show wpList _ _ _ (({ dst := _, op := .load 43 (.tmp 5), type := _, pos := _, after := _, guard := none } : Oper) :: _) _ _; refine wpList_load_st (H1.out.blk 1 _ rfl) rfl (.tmp 5) rfl rfl ?_)
                | (go_at_call 91; refine (lost_any g ⟨p, c, false⟩ _).mono ?_; rintro e w2 ⟨rfl, hb2⟩; rw [Hl.out]; have H2 := Lib.hid (H1.out.call hb2); clear hb2; have s2 : w2.cell? ⟨w.heap.size + 1, 2, none⟩ = some (.bool false) := H2.out.cell 1 2 rfl rfl)
                | (with_reducible show wpList _ _ _ (({ dst := _, op := .load 33 (.tmp 4), type := _, pos := _, after := _, guard := none } : Oper) :: _) _ _; refine wpList_load_gate (H2.out.gate 0 rfl) rfl (.tmp 4) rfl rfl ?_)
                | (go_at_call 44; refine (sure_any g rA rC rs _ (Hok.out _ H2.out.below) (Hri.out _ H2.out.below)).mono ?_; rintro e w3 ⟨rfl, hb3⟩; rw [Hw.out]; clear s2; have H3 := Lib.hid (H2.out.call hb3); clear hb3; have r0 : w3.cell? ⟨w.heap.size + 1 + 1, 0, none⟩ = some (.int .i64 0) := H3.out.cell 2 0 rfl rfl; have r1 : w3.cell? ⟨w.heap.size + 1 + 1, 1, none⟩ = some (.int .i64 0) := H3.out.cell 2 1 rfl rfl; have r2 : w3.cell? ⟨w.heap.size + 1 + 1, 2, none⟩ = some (.bool false) := H3.out.cell 2 2 rfl rfl; have rf0 : w3.frozen? ⟨w.heap.size + 1 + 1, 0, none⟩ = false := H3.out.froz 2 0 rfl; have rf1 : w3.frozen? ⟨w.heap.size + 1 + 1, 1, none⟩ = false := H3.out.froz 2 1 rfl; have rf2 : w3.frozen? ⟨w.heap.size + 1 + 1, 2, none⟩ = false := H3.out.froz 2 2 rfl; have s0 : w3.cell? ⟨w.heap.size + 1, 0, none⟩ = some (.int .i64 p) := H3.out.cell 1 0 rfl rfl; have s1 : w3.cell? ⟨w.heap.size + 1, 1, none⟩ = some (.int .i64 c) := H3.out.cell 1 1 rfl rfl; have s2 : w3.cell? ⟨w.heap.size + 1, 2, none⟩ = some (.bool false) := H3.out.cell 1 2 rfl rfl; have sf0 : w3.frozen? ⟨w.heap.size + 1, 0, none⟩ = false := H3.out.froz 1 0 rfl; have sf1 : w3.frozen? ⟨w.heap.size + 1, 1, none⟩ = false := H3.out.froz 1 1 rfl; have sf2 : w3.frozen? ⟨w.heap.size + 1, 2, none⟩ = false := H3.out.froz 1 2 rfl; have lt : w.heap.size + 1 + 1 < w3.heap.size := H3.out.lt 2 rfl; have HZ := Lib.hid H3.out.below))
              refine bodyPost_ret (v := .tuple #[.agg #[.int .i64 p, .int .i64 c, .bool true], .int .i64 0]) (by simp [results, Try.results46, go_sem, *]) rfl ⟨rfl, ?_⟩
              repeat (first | (with_reducible exact HZ.out) | (with_reducible refine bset ?_ (by omega)) | (with_reducible refine Below.alloc ?_ (by simp; omega) _))
          · have he : setBE g ⟨p, c, false⟩ true rs = whereE g rs := by simp [setBE, hc, hl, hw]
            have hs : setBS g ⟨p, c, false⟩ true rs = ⟨0, 0, false⟩ := by rw [setBS, if_neg (by omega)]
            have f1 : (whereE g rs == 0) = false := by simp [hw]
            have f2 : (whereE g rs != 0) = true := by simp [hw]
            rw [he, hs]
            clear he hs hc hl hw
            go_enter Try.func46, Try.ntmps46
            go_wp2_with (first
              | (with_reducible show wpList _ _ _ (({ dst := _, op := .load 33 (.tmp 4), type := _, pos := _, after := _, guard := none } : Oper) :: _) _ _; refine wpList_load_gate (H0.out.gate 0 rfl) rfl (.tmp 4) rfl rfl ?_)
              | (go_at_call 22; refine (check_any g _ (Hok.out _ H0.out.below)).mono ?_; rintro e w1 ⟨rfl, hb1⟩; rw [Hc.out]; have H1 := Lib.hid (H0.out.call hb1); clear hb1)
              | (with_reducible show wpList _ _ _ (({ dst := _, op := .load 33 (.tmp 4), type := _, pos := _, after := _, guard := none } : Oper) :: _) _ _; refine wpList_load_gate (H1.out.gate 0 rfl) rfl (.tmp 4) rfl rfl ?_)
              | (with_reducible show wpList _ _ _ (({ dst := _, op := .load 43 (.tmp 5), type := _, pos := _, after := _, guard := none } : Oper) :: _) _ _; refine wpList_load_st (H1.out.blk 1 _ rfl) rfl (.tmp 5) rfl rfl ?_)
              | (go_at_call 91; refine (lost_any g ⟨p, c, false⟩ _).mono ?_; rintro e w2 ⟨rfl, hb2⟩; rw [Hl.out]; have H2 := Lib.hid (H1.out.call hb2); clear hb2; have s2 : w2.cell? ⟨w.heap.size + 1, 2, none⟩ = some (.bool false) := H2.out.cell 1 2 rfl rfl)
              | (with_reducible show wpList _ _ _ (({ dst := _, op := .load 33 (.tmp 4), type := _, pos := _, after := _, guard := none } : Oper) :: _) _ _; refine wpList_load_gate (H2.out.gate 0 rfl) rfl (.tmp 4) rfl rfl ?_)
              | (go_at_call 44; refine (sure_any g rA rC rs _ (Hok.out _ H2.out.below) (Hri.out _ H2.out.below)).mono ?_; rintro e w3 ⟨rfl, hb3⟩; clear s2; have H3 := Lib.hid (H2.out.call hb3); clear hb3; have r0 : w3.cell? ⟨w.heap.size + 1 + 1, 0, none⟩ = some (.int .i64 0) := H3.out.cell 2 0 rfl rfl; have r1 : w3.cell? ⟨w.heap.size + 1 + 1, 1, none⟩ = some (.int .i64 0) := H3.out.cell 2 1 rfl rfl; have r2 : w3.cell? ⟨w.heap.size + 1 + 1, 2, none⟩ = some (.bool false) := H3.out.cell 2 2 rfl rfl; have rf0 : w3.frozen? ⟨w.heap.size + 1 + 1, 0, none⟩ = false := H3.out.froz 2 0 rfl; have rf1 : w3.frozen? ⟨w.heap.size + 1 + 1, 1, none⟩ = false := H3.out.froz 2 1 rfl; have rf2 : w3.frozen? ⟨w.heap.size + 1 + 1, 2, none⟩ = false := H3.out.froz 2 2 rfl; have s0 : w3.cell? ⟨w.heap.size + 1, 0, none⟩ = some (.int .i64 p) := H3.out.cell 1 0 rfl rfl; have s1 : w3.cell? ⟨w.heap.size + 1, 1, none⟩ = some (.int .i64 c) := H3.out.cell 1 1 rfl rfl; have s2 : w3.cell? ⟨w.heap.size + 1, 2, none⟩ = some (.bool false) := H3.out.cell 1 2 rfl rfl; have sf0 : w3.frozen? ⟨w.heap.size + 1, 0, none⟩ = false := H3.out.froz 1 0 rfl; have sf1 : w3.frozen? ⟨w.heap.size + 1, 1, none⟩ = false := H3.out.froz 1 1 rfl; have sf2 : w3.frozen? ⟨w.heap.size + 1, 2, none⟩ = false := H3.out.froz 1 2 rfl; have lt : w.heap.size + 1 + 1 < w3.heap.size := H3.out.lt 2 rfl; have HZ := Lib.hid H3.out.below))
            refine bodyPost_ret (v := .tuple #[.agg #[.int .i64 0, .int .i64 0, .bool false], .int .i64 (whereE g rs)]) (by simp [results, Try.results46, go_sem, *]) rfl ⟨rfl, ?_⟩
            repeat (first | (with_reducible exact HZ.out) | (with_reducible refine bset ?_ (by omega)) | (with_reducible refine Below.alloc ?_ (by simp; omega) _))
    · have he : setBE g ⟨p, c, b⟩ on rs = lostE g ⟨p, c, b⟩ := by simp [setBE, hc, hl]
      have hs : setBS g ⟨p, c, b⟩ on rs = ⟨0, 0, false⟩ := by rw [setBS, if_neg (by omega)]
      have f1 : (lostE g ⟨p, c, b⟩ == 0) = false := by simp [hl]
      have f2 : (lostE g ⟨p, c, b⟩ != 0) = true := by simp [hl]
      rw [he, hs]
      clear he hs hc hl
      go_enter Try.func46, Try.ntmps46
      go_wp2_with (first
        | (with_reducible show wpList _ _ _ (({ dst := _, op := .load 33 (.tmp 4), type := _, pos := _, after := _, guard := none } : Oper) :: _) _ _; refine wpList_load_gate (H0.out.gate 0 rfl) rfl (.tmp 4) rfl rfl ?_)
        | (go_at_call 22; refine (check_any g _ (Hok.out _ H0.out.below)).mono ?_; rintro e w1 ⟨rfl, hb1⟩; rw [Hc.out]; have H1 := Lib.hid (H0.out.call hb1); clear hb1)
        | (with_reducible show wpList _ _ _ (({ dst := _, op := .load 33 (.tmp 4), type := _, pos := _, after := _, guard := none } : Oper) :: _) _ _; refine wpList_load_gate (H1.out.gate 0 rfl) rfl (.tmp 4) rfl rfl ?_)
        | (with_reducible show wpList _ _ _ (({ dst := _, op := .load 43 (.tmp 5), type := _, pos := _, after := _, guard := none } : Oper) :: _) _ _; refine wpList_load_st (H1.out.blk 1 _ rfl) rfl (.tmp 5) rfl rfl ?_)
        | (go_at_call 91; refine (lost_any g ⟨p, c, b⟩ _).mono ?_; rintro e w2 ⟨rfl, hb2⟩; have H2 := Lib.hid (H1.out.call hb2); clear hb2; have r0 : w2.cell? ⟨w.heap.size + 1 + 1, 0, none⟩ = some (.int .i64 0) := H2.out.cell 2 0 rfl rfl; have r1 : w2.cell? ⟨w.heap.size + 1 + 1, 1, none⟩ = some (.int .i64 0) := H2.out.cell 2 1 rfl rfl; have r2 : w2.cell? ⟨w.heap.size + 1 + 1, 2, none⟩ = some (.bool false) := H2.out.cell 2 2 rfl rfl; have rf0 : w2.frozen? ⟨w.heap.size + 1 + 1, 0, none⟩ = false := H2.out.froz 2 0 rfl; have rf1 : w2.frozen? ⟨w.heap.size + 1 + 1, 1, none⟩ = false := H2.out.froz 2 1 rfl; have rf2 : w2.frozen? ⟨w.heap.size + 1 + 1, 2, none⟩ = false := H2.out.froz 2 2 rfl; have s0 : w2.cell? ⟨w.heap.size + 1, 0, none⟩ = some (.int .i64 p) := H2.out.cell 1 0 rfl rfl; have s1 : w2.cell? ⟨w.heap.size + 1, 1, none⟩ = some (.int .i64 c) := H2.out.cell 1 1 rfl rfl; have s2 : w2.cell? ⟨w.heap.size + 1, 2, none⟩ = some (.bool b) := H2.out.cell 1 2 rfl rfl; have sf0 : w2.frozen? ⟨w.heap.size + 1, 0, none⟩ = false := H2.out.froz 1 0 rfl; have sf1 : w2.frozen? ⟨w.heap.size + 1, 1, none⟩ = false := H2.out.froz 1 1 rfl; have sf2 : w2.frozen? ⟨w.heap.size + 1, 2, none⟩ = false := H2.out.froz 1 2 rfl; have lt : w.heap.size + 1 + 1 < w2.heap.size := H2.out.lt 2 rfl; have HZ := Lib.hid H2.out.below))
      refine bodyPost_ret (v := .tuple #[.agg #[.int .i64 0, .int .i64 0, .bool false], .int .i64 (lostE g ⟨p, c, b⟩)]) (by simp [results, Try.results46, go_sem, *]) rfl ⟨rfl, ?_⟩
      repeat (first | (with_reducible exact HZ.out) | (with_reducible refine bset ?_ (by omega)) | (with_reducible refine Below.alloc ?_ (by simp; omega) _))
  · obtain ⟨p, c, b⟩ := s
    have he : setBE g ⟨p, c, b⟩ on rs = (checkZ g).2.2 := by simp [setBE, hc]
    have hs : setBS g ⟨p, c, b⟩ on rs = ⟨0, 0, false⟩ := by rw [setBS, if_neg (by omega)]
    have f1 : ((checkZ g).2.2 == 0) = false := by simp [hc]
    have f2 : ((checkZ g).2.2 != 0) = true := by simp [hc]
    rw [he, hs]
    clear he hs hc
    go_enter Try.func46, Try.ntmps46
    go_wp2_with (first
      | (with_reducible show wpList _ _ _ (({ dst := _, op := .load 33 (.tmp 4), type := _, pos := _, after := _, guard := none } : Oper) :: _) _ _; refine wpList_load_gate (H0.out.gate 0 rfl) rfl (.tmp 4) rfl rfl ?_)
      | (go_at_call 22; refine (check_any g _ (Hok.out _ H0.out.below)).mono ?_; rintro e w1 ⟨rfl, hb1⟩; have H1 := Lib.hid (H0.out.call hb1); clear hb1; have r0 : w1.cell? ⟨w.heap.size + 1 + 1, 0, none⟩ = some (.int .i64 0) := H1.out.cell 2 0 rfl rfl; have r1 : w1.cell? ⟨w.heap.size + 1 + 1, 1, none⟩ = some (.int .i64 0) := H1.out.cell 2 1 rfl rfl; have r2 : w1.cell? ⟨w.heap.size + 1 + 1, 2, none⟩ = some (.bool false) := H1.out.cell 2 2 rfl rfl; have rf0 : w1.frozen? ⟨w.heap.size + 1 + 1, 0, none⟩ = false := H1.out.froz 2 0 rfl; have rf1 : w1.frozen? ⟨w.heap.size + 1 + 1, 1, none⟩ = false := H1.out.froz 2 1 rfl; have rf2 : w1.frozen? ⟨w.heap.size + 1 + 1, 2, none⟩ = false := H1.out.froz 2 2 rfl; have s0 : w1.cell? ⟨w.heap.size + 1, 0, none⟩ = some (.int .i64 p) := H1.out.cell 1 0 rfl rfl; have s1 : w1.cell? ⟨w.heap.size + 1, 1, none⟩ = some (.int .i64 c) := H1.out.cell 1 1 rfl rfl; have s2 : w1.cell? ⟨w.heap.size + 1, 2, none⟩ = some (.bool b) := H1.out.cell 1 2 rfl rfl; have sf0 : w1.frozen? ⟨w.heap.size + 1, 0, none⟩ = false := H1.out.froz 1 0 rfl; have sf1 : w1.frozen? ⟨w.heap.size + 1, 1, none⟩ = false := H1.out.froz 1 1 rfl; have sf2 : w1.frozen? ⟨w.heap.size + 1, 2, none⟩ = false := H1.out.froz 1 2 rfl; have lt : w.heap.size + 1 + 1 < w1.heap.size := H1.out.lt 2 rfl; have HZ := Lib.hid H1.out.below))
    refine bodyPost_ret (v := .tuple #[.agg #[.int .i64 0, .int .i64 0, .bool false], .int .i64 (checkZ g).2.2]) (by simp [results, Try.results46, go_sem, *]) rfl ⟨rfl, ?_⟩
    repeat (first | (with_reducible exact HZ.out) | (with_reducible refine bset ?_ (by omega)) | (with_reducible refine Below.alloc ?_ (by simp; omega) _))
set_option maxRecDepth 100000 in
set_option maxHeartbeats 4000000 in
theorem rbolt_set_any (g : GateV) (s : St) (on : Bool) (rA : Option Addr) (rC : Nat) (rs : List Int) (w : World) (hok : g.Ok w) (hri : IntsAt w rA rs) :
    Calls Try.prog 47 #[g.val, s.val, .bool on, .slice rA rs.length rC] w fun e w' => e = .returned (.tuple #[(setBS g s on rs).val, .int .i64 (setBE g s on rs)]) ∧ Below w.heap.size w w' := by
  have H0 := Lib.hid (Bk.new3 w (.cells g.cells 33) (.cells s.cells 43) (.cells #[.int .i64 0, .int .i64 0, .bool false] 43))
  have Hok := Lib.hid (fun W (h : Below w.heap.size w W) => hok.below h (Nat.le_refl _))
  have Hri := Lib.hid (fun W (h : Below w.heap.size w W) => hri.below h (Nat.le_refl _))
  clear hok hri
  by_cases hc : (checkZ g).2.2 = 0
  · have Hc := Lib.hid hc
    obtain ⟨p, c, b⟩ := s
    by_cases hl : lostE g ⟨p, c, b⟩ = 0
    · have Hl := Lib.hid hl
      cases b with
      | true =>
        cases on with
        | true =>
          have he : setBE g ⟨p, c, true⟩ true rs = 5 := by simp [setBE, hc, hl]
          have hs : setBS g ⟨p, c, true⟩ true rs = ⟨0, 0, false⟩ := by rw [setBS, if_neg (by omega)]
          rw [he, hs]
          clear he hs hc hl
          go_enter Try.func47, Try.ntmps47
          go_wp2_with (first
            | (with_reducible show wpList _ _ _ (({ dst := _, op := .load 33 (.tmp 4), type := _, pos := _, after := _, guard := none } : Oper) :: _) _ _; refine wpList_load_gate (H0.out.gate 0 rfl) rfl (.tmp 4) rfl rfl ?_)
            | (go_at_call 23; refine (rcheck_any g _ (Hok.out _ H0.out.below)).mono ?_; rintro e w1 ⟨rfl, hb1⟩; rw [Hc.out]; have H1 := Lib.hid (H0.out.call hb1); clear hb1)
            | (with_reducible show wpList _ _ _ (({ dst := _, op := .load 33 (.tmp 4), type := _, pos := _, after := _, guard := none } : Oper) :: _) _ _; refine wpList_load_gate (H1.out.gate 0 rfl) rfl (.tmp 4) rfl rfl ?_)
            | (with_reducible show wpList _ _ _ (({ dst := _, op := .load 43 (.tmp 5), type := _, pos := _, after := _, guard := none } : Oper) :: _) _ _; refine wpList_load_st (H1.out.blk 1 _ rfl) rfl (.tmp 5) rfl rfl ?_)
            | (go_at_call 92; refine (rstate_any g ⟨p, c, true⟩ _).mono ?_; rintro e w2 ⟨rfl, hb2⟩; rw [Hl.out]; have H2 := Lib.hid (H1.out.call hb2); clear hb2; have r0 : w2.cell? ⟨w.heap.size + 1 + 1, 0, none⟩ = some (.int .i64 0) := H2.out.cell 2 0 rfl rfl; have r1 : w2.cell? ⟨w.heap.size + 1 + 1, 1, none⟩ = some (.int .i64 0) := H2.out.cell 2 1 rfl rfl; have r2 : w2.cell? ⟨w.heap.size + 1 + 1, 2, none⟩ = some (.bool false) := H2.out.cell 2 2 rfl rfl; have rf0 : w2.frozen? ⟨w.heap.size + 1 + 1, 0, none⟩ = false := H2.out.froz 2 0 rfl; have rf1 : w2.frozen? ⟨w.heap.size + 1 + 1, 1, none⟩ = false := H2.out.froz 2 1 rfl; have rf2 : w2.frozen? ⟨w.heap.size + 1 + 1, 2, none⟩ = false := H2.out.froz 2 2 rfl; have s0 : w2.cell? ⟨w.heap.size + 1, 0, none⟩ = some (.int .i64 p) := H2.out.cell 1 0 rfl rfl; have s1 : w2.cell? ⟨w.heap.size + 1, 1, none⟩ = some (.int .i64 c) := H2.out.cell 1 1 rfl rfl; have s2 : w2.cell? ⟨w.heap.size + 1, 2, none⟩ = some (.bool true) := H2.out.cell 1 2 rfl rfl; have sf0 : w2.frozen? ⟨w.heap.size + 1, 0, none⟩ = false := H2.out.froz 1 0 rfl; have sf1 : w2.frozen? ⟨w.heap.size + 1, 1, none⟩ = false := H2.out.froz 1 1 rfl; have sf2 : w2.frozen? ⟨w.heap.size + 1, 2, none⟩ = false := H2.out.froz 1 2 rfl; have lt : w.heap.size + 1 + 1 < w2.heap.size := H2.out.lt 2 rfl; have HZ := Lib.hid H2.out.below))
          refine bodyPost_ret (v := .tuple #[.agg #[.int .i64 0, .int .i64 0, .bool false], .int .i64 5]) (by simp [results, Try.results47, go_sem, *]) rfl ⟨rfl, ?_⟩
          repeat (first | (with_reducible exact HZ.out) | (with_reducible refine bset ?_ (by omega)) | (with_reducible refine Below.alloc ?_ (by simp; omega) _))
        | false =>
          have he : setBE g ⟨p, c, true⟩ false rs = 0 := by simp [setBE, hc, hl]
          have hs : setBS g ⟨p, c, true⟩ false rs = ⟨p, c, false⟩ := by rw [setBS, if_pos he]
          rw [he, hs]
          clear he hs hc hl
          go_enter Try.func47, Try.ntmps47
          go_wp2_with (first
            | (with_reducible show wpList _ _ _ (({ dst := _, op := .load 33 (.tmp 4), type := _, pos := _, after := _, guard := none } : Oper) :: _) _ _; refine wpList_load_gate (H0.out.gate 0 rfl) rfl (.tmp 4) rfl rfl ?_)
            | (go_at_call 23; refine (rcheck_any g _ (Hok.out _ H0.out.below)).mono ?_; rintro e w1 ⟨rfl, hb1⟩; rw [Hc.out]; have H1 := Lib.hid (H0.out.call hb1); clear hb1)
            | (with_reducible show wpList _ _ _ (({ dst := _, op := .load 33 (.tmp 4), type := _, pos := _, after := _, guard := none } : Oper) :: _) _ _; refine wpList_load_gate (H1.out.gate 0 rfl) rfl (.tmp 4) rfl rfl ?_)
            | (with_reducible show wpList _ _ _ (({ dst := _, op := .load 43 (.tmp 5), type := _, pos := _, after := _, guard := none } : Oper) :: _) _ _; refine wpList_load_st (H1.out.blk 1 _ rfl) rfl (.tmp 5) rfl rfl ?_)
            | (go_at_call 92; refine (rstate_any g ⟨p, c, true⟩ _).mono ?_; rintro e w2 ⟨rfl, hb2⟩; rw [Hl.out]; have H2 := Lib.hid (H1.out.call hb2); clear hb2; have r0 : w2.cell? ⟨w.heap.size + 1 + 1, 0, none⟩ = some (.int .i64 0) := H2.out.cell 2 0 rfl rfl; have r1 : w2.cell? ⟨w.heap.size + 1 + 1, 1, none⟩ = some (.int .i64 0) := H2.out.cell 2 1 rfl rfl; have r2 : w2.cell? ⟨w.heap.size + 1 + 1, 2, none⟩ = some (.bool false) := H2.out.cell 2 2 rfl rfl; have rf0 : w2.frozen? ⟨w.heap.size + 1 + 1, 0, none⟩ = false := H2.out.froz 2 0 rfl; have rf1 : w2.frozen? ⟨w.heap.size + 1 + 1, 1, none⟩ = false := H2.out.froz 2 1 rfl; have rf2 : w2.frozen? ⟨w.heap.size + 1 + 1, 2, none⟩ = false := H2.out.froz 2 2 rfl; have s0 : w2.cell? ⟨w.heap.size + 1, 0, none⟩ = some (.int .i64 p) := H2.out.cell 1 0 rfl rfl; have s1 : w2.cell? ⟨w.heap.size + 1, 1, none⟩ = some (.int .i64 c) := H2.out.cell 1 1 rfl rfl; have s2 : w2.cell? ⟨w.heap.size + 1, 2, none⟩ = some (.bool true) := H2.out.cell 1 2 rfl rfl; have sf0 : w2.frozen? ⟨w.heap.size + 1, 0, none⟩ = false := H2.out.froz 1 0 rfl; have sf1 : w2.frozen? ⟨w.heap.size + 1, 1, none⟩ = false := H2.out.froz 1 1 rfl; have sf2 : w2.frozen? ⟨w.heap.size + 1, 2, none⟩ = false := H2.out.froz 1 2 rfl; have lt : w.heap.size + 1 + 1 < w2.heap.size := H2.out.lt 2 rfl; have HZ := Lib.hid H2.out.below))
          refine bodyPost_ret (v := .tuple #[.agg #[.int .i64 p, .int .i64 c, .bool false], .int .i64 0]) (by simp [results, Try.results47, go_sem, *]) rfl ⟨rfl, ?_⟩
          repeat (first | (with_reducible exact HZ.out) | (with_reducible refine bset ?_ (by omega)) | (with_reducible refine Below.alloc ?_ (by simp; omega) _))
      | false =>
        cases on with
        | false =>
          have he : setBE g ⟨p, c, false⟩ false rs = 4 := by simp [setBE, hc, hl]
          have hs : setBS g ⟨p, c, false⟩ false rs = ⟨0, 0, false⟩ := by rw [setBS, if_neg (by omega)]
          rw [he, hs]
          clear he hs hc hl
          go_enter Try.func47, Try.ntmps47
          go_wp2_with (first
            | (with_reducible show wpList _ _ _ (({ dst := _, op := .load 33 (.tmp 4), type := _, pos := _, after := _, guard := none } : Oper) :: _) _ _; refine wpList_load_gate (H0.out.gate 0 rfl) rfl (.tmp 4) rfl rfl ?_)
            | (go_at_call 23; refine (rcheck_any g _ (Hok.out _ H0.out.below)).mono ?_; rintro e w1 ⟨rfl, hb1⟩; rw [Hc.out]; have H1 := Lib.hid (H0.out.call hb1); clear hb1)
            | (with_reducible show wpList _ _ _ (({ dst := _, op := .load 33 (.tmp 4), type := _, pos := _, after := _, guard := none } : Oper) :: _) _ _; refine wpList_load_gate (H1.out.gate 0 rfl) rfl (.tmp 4) rfl rfl ?_)
            | (with_reducible show wpList _ _ _ (({ dst := _, op := .load 43 (.tmp 5), type := _, pos := _, after := _, guard := none } : Oper) :: _) _ _; refine wpList_load_st (H1.out.blk 1 _ rfl) rfl (.tmp 5) rfl rfl ?_)
            | (go_at_call 92; refine (rstate_any g ⟨p, c, false⟩ _).mono ?_; rintro e w2 ⟨rfl, hb2⟩; rw [Hl.out]; have H2 := Lib.hid (H1.out.call hb2); clear hb2; have r0 : w2.cell? ⟨w.heap.size + 1 + 1, 0, none⟩ = some (.int .i64 0) := H2.out.cell 2 0 rfl rfl; have r1 : w2.cell? ⟨w.heap.size + 1 + 1, 1, none⟩ = some (.int .i64 0) := H2.out.cell 2 1 rfl rfl; have r2 : w2.cell? ⟨w.heap.size + 1 + 1, 2, none⟩ = some (.bool false) := H2.out.cell 2 2 rfl rfl; have rf0 : w2.frozen? ⟨w.heap.size + 1 + 1, 0, none⟩ = false := H2.out.froz 2 0 rfl; have rf1 : w2.frozen? ⟨w.heap.size + 1 + 1, 1, none⟩ = false := H2.out.froz 2 1 rfl; have rf2 : w2.frozen? ⟨w.heap.size + 1 + 1, 2, none⟩ = false := H2.out.froz 2 2 rfl; have s0 : w2.cell? ⟨w.heap.size + 1, 0, none⟩ = some (.int .i64 p) := H2.out.cell 1 0 rfl rfl; have s1 : w2.cell? ⟨w.heap.size + 1, 1, none⟩ = some (.int .i64 c) := H2.out.cell 1 1 rfl rfl; have s2 : w2.cell? ⟨w.heap.size + 1, 2, none⟩ = some (.bool false) := H2.out.cell 1 2 rfl rfl; have sf0 : w2.frozen? ⟨w.heap.size + 1, 0, none⟩ = false := H2.out.froz 1 0 rfl; have sf1 : w2.frozen? ⟨w.heap.size + 1, 1, none⟩ = false := H2.out.froz 1 1 rfl; have sf2 : w2.frozen? ⟨w.heap.size + 1, 2, none⟩ = false := H2.out.froz 1 2 rfl; have lt : w.heap.size + 1 + 1 < w2.heap.size := H2.out.lt 2 rfl; have HZ := Lib.hid H2.out.below))
          refine bodyPost_ret (v := .tuple #[.agg #[.int .i64 0, .int .i64 0, .bool false], .int .i64 4]) (by simp [results, Try.results47, go_sem, *]) rfl ⟨rfl, ?_⟩
          repeat (first | (with_reducible exact HZ.out) | (with_reducible refine bset ?_ (by omega)) | (with_reducible refine Below.alloc ?_ (by simp; omega) _))
        | true =>
          by_cases hw : whereE g rs = 0
          · have Hw := Lib.hid hw
            by_cases hu : sureV g rs = 0
            · have he : setBE g ⟨p, c, false⟩ true rs = 9 := by simp [setBE, hc, hl, hw, hu]
              have hs : setBS g ⟨p, c, false⟩ true rs = ⟨0, 0, false⟩ := by rw [setBS, if_neg (by omega)]
              have f1 : (sureV g rs == 0) = true := by simp [hu]
              rw [he, hs]
              clear he hs hc hl hw hu
              go_enter Try.func47, Try.ntmps47
              go_wp2_with (first
                | (with_reducible show wpList _ _ _ (({ dst := _, op := .load 33 (.tmp 4), type := _, pos := _, after := _, guard := none } : Oper) :: _) _ _; refine wpList_load_gate (H0.out.gate 0 rfl) rfl (.tmp 4) rfl rfl ?_)
                | (go_at_call 23; refine (rcheck_any g _ (Hok.out _ H0.out.below)).mono ?_; rintro e w1 ⟨rfl, hb1⟩; rw [Hc.out]; have H1 := Lib.hid (H0.out.call hb1); clear hb1)
                | (with_reducible show wpList _ _ _ (({ dst := _, op := .load 33 (.tmp 4), type := _, pos := _, after := _, guard := none } : Oper) :: _) _ _; refine wpList_load_gate (H1.out.gate 0 rfl) rfl (.tmp 4) rfl rfl ?_)
                | (with_reducible show wpList _ _ _ (({ dst := _, op := .load 43 (.tmp 5), type := _, pos := _, after := _, guard := none } : Oper) :: _) _ _; refine wpList_load_st (H1.out.blk 1 _ rfl) rfl (.tmp 5) rfl rfl ?_)
                | (go_at_call 92; refine (rstate_any g ⟨p, c, false⟩ _).mono ?_; rintro e w2 ⟨rfl, hb2⟩; rw [Hl.out]; have H2 := Lib.hid (H1.out.call hb2); clear hb2; have s2 : w2.cell? ⟨w.heap.size + 1, 2, none⟩ = some (.bool false) := H2.out.cell 1 2 rfl rfl)
                | (with_reducible show wpList _ _ _ (({ dst := _, op := .load 33 (.tmp 4), type := _, pos := _, after := _, guard := none } : Oper) :: _) _ _; refine wpList_load_gate (H2.out.gate 0 rfl) rfl (.tmp 4) rfl rfl ?_)
                | (go_at_call 45; refine (rsure_any g rA rC rs _ (Hok.out _ H2.out.below) (Hri.out _ H2.out.below)).mono ?_; rintro e w3 ⟨rfl, hb3⟩; rw [Hw.out]; clear s2; have H3 := Lib.hid (H2.out.call hb3); clear hb3; have r0 : w3.cell? ⟨w.heap.size + 1 + 1, 0, none⟩ = some (.int .i64 0) := H3.out.cell 2 0 rfl rfl; have r1 : w3.cell? ⟨w.heap.size + 1 + 1, 1, none⟩ = some (.int .i64 0) := H3.out.cell 2 1 rfl rfl; have r2 : w3.cell? ⟨w.heap.size + 1 + 1, 2, none⟩ = some (.bool false) := H3.out.cell 2 2 rfl rfl; have rf0 : w3.frozen? ⟨w.heap.size + 1 + 1, 0, none⟩ = false := H3.out.froz 2 0 rfl; have rf1 : w3.frozen? ⟨w.heap.size + 1 + 1, 1, none⟩ = false := H3.out.froz 2 1 rfl; have rf2 : w3.frozen? ⟨w.heap.size + 1 + 1, 2, none⟩ = false := H3.out.froz 2 2 rfl; have s0 : w3.cell? ⟨w.heap.size + 1, 0, none⟩ = some (.int .i64 p) := H3.out.cell 1 0 rfl rfl; have s1 : w3.cell? ⟨w.heap.size + 1, 1, none⟩ = some (.int .i64 c) := H3.out.cell 1 1 rfl rfl; have s2 : w3.cell? ⟨w.heap.size + 1, 2, none⟩ = some (.bool false) := H3.out.cell 1 2 rfl rfl; have sf0 : w3.frozen? ⟨w.heap.size + 1, 0, none⟩ = false := H3.out.froz 1 0 rfl; have sf1 : w3.frozen? ⟨w.heap.size + 1, 1, none⟩ = false := H3.out.froz 1 1 rfl; have sf2 : w3.frozen? ⟨w.heap.size + 1, 2, none⟩ = false := H3.out.froz 1 2 rfl; have lt : w.heap.size + 1 + 1 < w3.heap.size := H3.out.lt 2 rfl; have HZ := Lib.hid H3.out.below))
              refine bodyPost_ret (v := .tuple #[.agg #[.int .i64 0, .int .i64 0, .bool false], .int .i64 9]) (by simp [results, Try.results47, go_sem, *]) rfl ⟨rfl, ?_⟩
              repeat (first | (with_reducible exact HZ.out) | (with_reducible refine bset ?_ (by omega)) | (with_reducible refine Below.alloc ?_ (by simp; omega) _))
            · have he : setBE g ⟨p, c, false⟩ true rs = 0 := by simp [setBE, hc, hl, hw, hu]
              have hs : setBS g ⟨p, c, false⟩ true rs = ⟨p, c, true⟩ := by rw [setBS, if_pos he]
              have f1 : (sureV g rs == 0) = false := by simp [hu]
              rw [he, hs]
              clear he hs hc hl hw hu
              go_enter Try.func47, Try.ntmps47
              go_wp2_with (first
                | (with_reducible show wpList _ _ _ (({ dst := _, op := .load 33 (.tmp 4), type := _, pos := _, after := _, guard := none } : Oper) :: _) _ _; refine wpList_load_gate (H0.out.gate 0 rfl) rfl (.tmp 4) rfl rfl ?_)
                | (go_at_call 23; refine (rcheck_any g _ (Hok.out _ H0.out.below)).mono ?_; rintro e w1 ⟨rfl, hb1⟩; rw [Hc.out]; have H1 := Lib.hid (H0.out.call hb1); clear hb1)
                | (with_reducible show wpList _ _ _ (({ dst := _, op := .load 33 (.tmp 4), type := _, pos := _, after := _, guard := none } : Oper) :: _) _ _; refine wpList_load_gate (H1.out.gate 0 rfl) rfl (.tmp 4) rfl rfl ?_)
                | (with_reducible show wpList _ _ _ (({ dst := _, op := .load 43 (.tmp 5), type := _, pos := _, after := _, guard := none } : Oper) :: _) _ _; refine wpList_load_st (H1.out.blk 1 _ rfl) rfl (.tmp 5) rfl rfl ?_)
                | (go_at_call 92; refine (rstate_any g ⟨p, c, false⟩ _).mono ?_; rintro e w2 ⟨rfl, hb2⟩; rw [Hl.out]; have H2 := Lib.hid (H1.out.call hb2); clear hb2; have s2 : w2.cell? ⟨w.heap.size + 1, 2, none⟩ = some (.bool false) := H2.out.cell 1 2 rfl rfl)
                | (with_reducible show wpList _ _ _ (({ dst := _, op := .load 33 (.tmp 4), type := _, pos := _, after := _, guard := none } : Oper) :: _) _ _; refine wpList_load_gate (H2.out.gate 0 rfl) rfl (.tmp 4) rfl rfl ?_)
                | (go_at_call 45; refine (rsure_any g rA rC rs _ (Hok.out _ H2.out.below) (Hri.out _ H2.out.below)).mono ?_; rintro e w3 ⟨rfl, hb3⟩; rw [Hw.out]; clear s2; have H3 := Lib.hid (H2.out.call hb3); clear hb3; have r0 : w3.cell? ⟨w.heap.size + 1 + 1, 0, none⟩ = some (.int .i64 0) := H3.out.cell 2 0 rfl rfl; have r1 : w3.cell? ⟨w.heap.size + 1 + 1, 1, none⟩ = some (.int .i64 0) := H3.out.cell 2 1 rfl rfl; have r2 : w3.cell? ⟨w.heap.size + 1 + 1, 2, none⟩ = some (.bool false) := H3.out.cell 2 2 rfl rfl; have rf0 : w3.frozen? ⟨w.heap.size + 1 + 1, 0, none⟩ = false := H3.out.froz 2 0 rfl; have rf1 : w3.frozen? ⟨w.heap.size + 1 + 1, 1, none⟩ = false := H3.out.froz 2 1 rfl; have rf2 : w3.frozen? ⟨w.heap.size + 1 + 1, 2, none⟩ = false := H3.out.froz 2 2 rfl; have s0 : w3.cell? ⟨w.heap.size + 1, 0, none⟩ = some (.int .i64 p) := H3.out.cell 1 0 rfl rfl; have s1 : w3.cell? ⟨w.heap.size + 1, 1, none⟩ = some (.int .i64 c) := H3.out.cell 1 1 rfl rfl; have s2 : w3.cell? ⟨w.heap.size + 1, 2, none⟩ = some (.bool false) := H3.out.cell 1 2 rfl rfl; have sf0 : w3.frozen? ⟨w.heap.size + 1, 0, none⟩ = false := H3.out.froz 1 0 rfl; have sf1 : w3.frozen? ⟨w.heap.size + 1, 1, none⟩ = false := H3.out.froz 1 1 rfl; have sf2 : w3.frozen? ⟨w.heap.size + 1, 2, none⟩ = false := H3.out.froz 1 2 rfl; have lt : w.heap.size + 1 + 1 < w3.heap.size := H3.out.lt 2 rfl; have HZ := Lib.hid H3.out.below))
              refine bodyPost_ret (v := .tuple #[.agg #[.int .i64 p, .int .i64 c, .bool true], .int .i64 0]) (by simp [results, Try.results47, go_sem, *]) rfl ⟨rfl, ?_⟩
              repeat (first | (with_reducible exact HZ.out) | (with_reducible refine bset ?_ (by omega)) | (with_reducible refine Below.alloc ?_ (by simp; omega) _))
          · have he : setBE g ⟨p, c, false⟩ true rs = whereE g rs := by simp [setBE, hc, hl, hw]
            have hs : setBS g ⟨p, c, false⟩ true rs = ⟨0, 0, false⟩ := by rw [setBS, if_neg (by omega)]
            have f1 : (whereE g rs == 0) = false := by simp [hw]
            have f2 : (whereE g rs != 0) = true := by simp [hw]
            rw [he, hs]
            clear he hs hc hl hw
            go_enter Try.func47, Try.ntmps47
            go_wp2_with (first
              | (with_reducible show wpList _ _ _ (({ dst := _, op := .load 33 (.tmp 4), type := _, pos := _, after := _, guard := none } : Oper) :: _) _ _; refine wpList_load_gate (H0.out.gate 0 rfl) rfl (.tmp 4) rfl rfl ?_)
              | (go_at_call 23; refine (rcheck_any g _ (Hok.out _ H0.out.below)).mono ?_; rintro e w1 ⟨rfl, hb1⟩; rw [Hc.out]; have H1 := Lib.hid (H0.out.call hb1); clear hb1)
              | (with_reducible show wpList _ _ _ (({ dst := _, op := .load 33 (.tmp 4), type := _, pos := _, after := _, guard := none } : Oper) :: _) _ _; refine wpList_load_gate (H1.out.gate 0 rfl) rfl (.tmp 4) rfl rfl ?_)
              | (with_reducible show wpList _ _ _ (({ dst := _, op := .load 43 (.tmp 5), type := _, pos := _, after := _, guard := none } : Oper) :: _) _ _; refine wpList_load_st (H1.out.blk 1 _ rfl) rfl (.tmp 5) rfl rfl ?_)
              | (go_at_call 92; refine (rstate_any g ⟨p, c, false⟩ _).mono ?_; rintro e w2 ⟨rfl, hb2⟩; rw [Hl.out]; have H2 := Lib.hid (H1.out.call hb2); clear hb2; have s2 : w2.cell? ⟨w.heap.size + 1, 2, none⟩ = some (.bool false) := H2.out.cell 1 2 rfl rfl)
              | (with_reducible show wpList _ _ _ (({ dst := _, op := .load 33 (.tmp 4), type := _, pos := _, after := _, guard := none } : Oper) :: _) _ _; refine wpList_load_gate (H2.out.gate 0 rfl) rfl (.tmp 4) rfl rfl ?_)
              | (go_at_call 45; refine (rsure_any g rA rC rs _ (Hok.out _ H2.out.below) (Hri.out _ H2.out.below)).mono ?_; rintro e w3 ⟨rfl, hb3⟩; clear s2; have H3 := Lib.hid (H2.out.call hb3); clear hb3; have r0 : w3.cell? ⟨w.heap.size + 1 + 1, 0, none⟩ = some (.int .i64 0) := H3.out.cell 2 0 rfl rfl; have r1 : w3.cell? ⟨w.heap.size + 1 + 1, 1, none⟩ = some (.int .i64 0) := H3.out.cell 2 1 rfl rfl; have r2 : w3.cell? ⟨w.heap.size + 1 + 1, 2, none⟩ = some (.bool false) := H3.out.cell 2 2 rfl rfl; have rf0 : w3.frozen? ⟨w.heap.size + 1 + 1, 0, none⟩ = false := H3.out.froz 2 0 rfl; have rf1 : w3.frozen? ⟨w.heap.size + 1 + 1, 1, none⟩ = false := H3.out.froz 2 1 rfl; have rf2 : w3.frozen? ⟨w.heap.size + 1 + 1, 2, none⟩ = false := H3.out.froz 2 2 rfl; have s0 : w3.cell? ⟨w.heap.size + 1, 0, none⟩ = some (.int .i64 p) := H3.out.cell 1 0 rfl rfl; have s1 : w3.cell? ⟨w.heap.size + 1, 1, none⟩ = some (.int .i64 c) := H3.out.cell 1 1 rfl rfl; have s2 : w3.cell? ⟨w.heap.size + 1, 2, none⟩ = some (.bool false) := H3.out.cell 1 2 rfl rfl; have sf0 : w3.frozen? ⟨w.heap.size + 1, 0, none⟩ = false := H3.out.froz 1 0 rfl; have sf1 : w3.frozen? ⟨w.heap.size + 1, 1, none⟩ = false := H3.out.froz 1 1 rfl; have sf2 : w3.frozen? ⟨w.heap.size + 1, 2, none⟩ = false := H3.out.froz 1 2 rfl; have lt : w.heap.size + 1 + 1 < w3.heap.size := H3.out.lt 2 rfl; have HZ := Lib.hid H3.out.below))
            refine bodyPost_ret (v := .tuple #[.agg #[.int .i64 0, .int .i64 0, .bool false], .int .i64 (whereE g rs)]) (by simp [results, Try.results47, go_sem, *]) rfl ⟨rfl, ?_⟩
            repeat (first | (with_reducible exact HZ.out) | (with_reducible refine bset ?_ (by omega)) | (with_reducible refine Below.alloc ?_ (by simp; omega) _))
    · have he : setBE g ⟨p, c, b⟩ on rs = lostE g ⟨p, c, b⟩ := by simp [setBE, hc, hl]
      have hs : setBS g ⟨p, c, b⟩ on rs = ⟨0, 0, false⟩ := by rw [setBS, if_neg (by omega)]
      have f1 : (lostE g ⟨p, c, b⟩ == 0) = false := by simp [hl]
      have f2 : (lostE g ⟨p, c, b⟩ != 0) = true := by simp [hl]
      rw [he, hs]
      clear he hs hc hl
      go_enter Try.func47, Try.ntmps47
      go_wp2_with (first
        | (with_reducible show wpList _ _ _ (({ dst := _, op := .load 33 (.tmp 4), type := _, pos := _, after := _, guard := none } : Oper) :: _) _ _; refine wpList_load_gate (H0.out.gate 0 rfl) rfl (.tmp 4) rfl rfl ?_)
        | (go_at_call 23; refine (rcheck_any g _ (Hok.out _ H0.out.below)).mono ?_; rintro e w1 ⟨rfl, hb1⟩; rw [Hc.out]; have H1 := Lib.hid (H0.out.call hb1); clear hb1)
        | (with_reducible show wpList _ _ _ (({ dst := _, op := .load 33 (.tmp 4), type := _, pos := _, after := _, guard := none } : Oper) :: _) _ _; refine wpList_load_gate (H1.out.gate 0 rfl) rfl (.tmp 4) rfl rfl ?_)
        | (with_reducible show wpList _ _ _ (({ dst := _, op := .load 43 (.tmp 5), type := _, pos := _, after := _, guard := none } : Oper) :: _) _ _; refine wpList_load_st (H1.out.blk 1 _ rfl) rfl (.tmp 5) rfl rfl ?_)
        | (go_at_call 92; refine (rstate_any g ⟨p, c, b⟩ _).mono ?_; rintro e w2 ⟨rfl, hb2⟩; have H2 := Lib.hid (H1.out.call hb2); clear hb2; have r0 : w2.cell? ⟨w.heap.size + 1 + 1, 0, none⟩ = some (.int .i64 0) := H2.out.cell 2 0 rfl rfl; have r1 : w2.cell? ⟨w.heap.size + 1 + 1, 1, none⟩ = some (.int .i64 0) := H2.out.cell 2 1 rfl rfl; have r2 : w2.cell? ⟨w.heap.size + 1 + 1, 2, none⟩ = some (.bool false) := H2.out.cell 2 2 rfl rfl; have rf0 : w2.frozen? ⟨w.heap.size + 1 + 1, 0, none⟩ = false := H2.out.froz 2 0 rfl; have rf1 : w2.frozen? ⟨w.heap.size + 1 + 1, 1, none⟩ = false := H2.out.froz 2 1 rfl; have rf2 : w2.frozen? ⟨w.heap.size + 1 + 1, 2, none⟩ = false := H2.out.froz 2 2 rfl; have s0 : w2.cell? ⟨w.heap.size + 1, 0, none⟩ = some (.int .i64 p) := H2.out.cell 1 0 rfl rfl; have s1 : w2.cell? ⟨w.heap.size + 1, 1, none⟩ = some (.int .i64 c) := H2.out.cell 1 1 rfl rfl; have s2 : w2.cell? ⟨w.heap.size + 1, 2, none⟩ = some (.bool b) := H2.out.cell 1 2 rfl rfl; have sf0 : w2.frozen? ⟨w.heap.size + 1, 0, none⟩ = false := H2.out.froz 1 0 rfl; have sf1 : w2.frozen? ⟨w.heap.size + 1, 1, none⟩ = false := H2.out.froz 1 1 rfl; have sf2 : w2.frozen? ⟨w.heap.size + 1, 2, none⟩ = false := H2.out.froz 1 2 rfl; have lt : w.heap.size + 1 + 1 < w2.heap.size := H2.out.lt 2 rfl; have HZ := Lib.hid H2.out.below))
      refine bodyPost_ret (v := .tuple #[.agg #[.int .i64 0, .int .i64 0, .bool false], .int .i64 (lostE g ⟨p, c, b⟩)]) (by simp [results, Try.results47, go_sem, *]) rfl ⟨rfl, ?_⟩
      repeat (first | (with_reducible exact HZ.out) | (with_reducible refine bset ?_ (by omega)) | (with_reducible refine Below.alloc ?_ (by simp; omega) _))
  · obtain ⟨p, c, b⟩ := s
    have he : setBE g ⟨p, c, b⟩ on rs = (checkZ g).2.2 := by simp [setBE, hc]
    have hs : setBS g ⟨p, c, b⟩ on rs = ⟨0, 0, false⟩ := by rw [setBS, if_neg (by omega)]
    have f1 : ((checkZ g).2.2 == 0) = false := by simp [hc]
    have f2 : ((checkZ g).2.2 != 0) = true := by simp [hc]
    rw [he, hs]
    clear he hs hc
    go_enter Try.func47, Try.ntmps47
    go_wp2_with (first
      | (with_reducible show wpList _ _ _ (({ dst := _, op := .load 33 (.tmp 4), type := _, pos := _, after := _, guard := none } : Oper) :: _) _ _; refine wpList_load_gate (H0.out.gate 0 rfl) rfl (.tmp 4) rfl rfl ?_)
      | (go_at_call 23; refine (rcheck_any g _ (Hok.out _ H0.out.below)).mono ?_; rintro e w1 ⟨rfl, hb1⟩; have H1 := Lib.hid (H0.out.call hb1); clear hb1; have r0 : w1.cell? ⟨w.heap.size + 1 + 1, 0, none⟩ = some (.int .i64 0) := H1.out.cell 2 0 rfl rfl; have r1 : w1.cell? ⟨w.heap.size + 1 + 1, 1, none⟩ = some (.int .i64 0) := H1.out.cell 2 1 rfl rfl; have r2 : w1.cell? ⟨w.heap.size + 1 + 1, 2, none⟩ = some (.bool false) := H1.out.cell 2 2 rfl rfl; have rf0 : w1.frozen? ⟨w.heap.size + 1 + 1, 0, none⟩ = false := H1.out.froz 2 0 rfl; have rf1 : w1.frozen? ⟨w.heap.size + 1 + 1, 1, none⟩ = false := H1.out.froz 2 1 rfl; have rf2 : w1.frozen? ⟨w.heap.size + 1 + 1, 2, none⟩ = false := H1.out.froz 2 2 rfl; have s0 : w1.cell? ⟨w.heap.size + 1, 0, none⟩ = some (.int .i64 p) := H1.out.cell 1 0 rfl rfl; have s1 : w1.cell? ⟨w.heap.size + 1, 1, none⟩ = some (.int .i64 c) := H1.out.cell 1 1 rfl rfl; have s2 : w1.cell? ⟨w.heap.size + 1, 2, none⟩ = some (.bool b) := H1.out.cell 1 2 rfl rfl; have sf0 : w1.frozen? ⟨w.heap.size + 1, 0, none⟩ = false := H1.out.froz 1 0 rfl; have sf1 : w1.frozen? ⟨w.heap.size + 1, 1, none⟩ = false := H1.out.froz 1 1 rfl; have sf2 : w1.frozen? ⟨w.heap.size + 1, 2, none⟩ = false := H1.out.froz 1 2 rfl; have lt : w.heap.size + 1 + 1 < w1.heap.size := H1.out.lt 2 rfl; have HZ := Lib.hid H1.out.below))
    refine bodyPost_ret (v := .tuple #[.agg #[.int .i64 0, .int .i64 0, .bool false], .int .i64 (checkZ g).2.2]) (by simp [results, Try.results47, go_sem, *]) rfl ⟨rfl, ?_⟩
    repeat (first | (with_reducible exact HZ.out) | (with_reducible refine bset ?_ (by omega)) | (with_reducible refine Below.alloc ?_ (by simp; omega) _))
end Go.Proofs.Ythalanpmfhhhnaa
