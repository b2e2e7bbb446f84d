/-
  gate.at, gate.Force, gate.Falls.
-/
import Derived.Test.YthalanpmfhhhnaaOd
namespace Go.Proofs.Ythalanpmfhhhnaa
open Go.RowKit
set_option linter.unusedSimpArgs false
set_option linter.unusedVariables false

/-- The error of a gate and two levels. -/
def atE (g : GateV) (o i : Int) : Int :=
  if (checkZ g).2.2 ≠ 0 then (checkZ g).2.2 else if (outB o (-20000) 20000 || outB i (-20000) 20000) = true then 7 else 0

theorem atE_0 {g : GateV} {o i : Int} (h : atE g o i = 0) : g.Good ∧ (-20000 ≤ o ∧ o ≤ 20000) ∧ (-20000 ≤ i ∧ i ≤ 20000) := by
  unfold atE at h
  split at h
  · omega
  · rename_i h0
    split at h
    · omega
    · rename_i h2
      simp only [Bool.not_eq_true, Bool.or_eq_false_iff] at h2
      exact ⟨check_good (by omega), outB_ft h2.1, outB_ft h2.2⟩

theorem ret_pe {p : Value} {a b : Int} (h : a = b) : Ending.returned (.tuple #[p, .int .i64 a]) = Ending.returned (.tuple #[p, .int .i64 b]) := by rw [h]

set_option maxRecDepth 100000 in
set_option maxHeartbeats 1000000 in
theorem at_err (g : GateV) (o i : Int) (w : World) (hok : g.Ok w) (h : atE g o i ≠ 0) :
    Calls Try.prog 85 #[g.val, .int .i64 o, .int .i64 i] w fun e w' => e = .returned (.tuple #[.pointer none, .int .i64 (atE g o i)]) ∧ Below w.heap.size w w' := by
  have K1 := Keep.new w g
  have HK := Lib.hid K1
  have Hok := Lib.hid (hok.below K1.below (Nat.le_refl _))
  clear K1 hok
  by_cases hc : (checkZ g).2.2 = 0
  · have hb : (outB o (-20000) 20000 || outB i (-20000) 20000) = true := by
      cases hh : (outB o (-20000) 20000 || outB i (-20000) 20000) with
      | true => rfl
      | false => rw [atE, if_neg (by simp [hc]), hh] at h; simp at h
    have hr : atE g o i = 7 := by rw [atE, if_neg (by simp [hc]), if_pos hb]
    have Hr := Lib.hid hr
    have Hc := Lib.hid hc
    clear hr hc h
    by_cases h1 : outB o (-20000) 20000 = true
    · have H1 := Lib.hid hb
      clear hb
      go_enter Try.func85, Try.ntmps85
      go_wp2_with (with_reducible show wpList _ _ _ (({ dst := _, op := .load 33 (.tmp 3), type := _, pos := _, after := _, guard := none } : Oper) :: _) _ _; refine wpList_load_gate HK.out.gate rfl (.tmp 3) rfl rfl ?_)
      refine (check_any g _ Hok.out).mono ?_
      rintro e w1 ⟨rfl, hb1⟩
      have K2 := HK.out.call hb1
      have HK2 := Lib.hid K2
      rw [Hc.out]
      clear hb1 K2
      go_wp2_with (go_at_call 63; refine (dry_any _ _).mono ?_; rintro e w' ⟨rfl, rfl⟩)
      go_ret2
      exact ⟨ret_pe Hr.out.symm, HK2.out.below⟩
    · simp only [Bool.not_eq_true] at h1
      have h2 : outB i (-20000) 20000 = true := by simpa [h1] using hb
      clear hb
      go_enter Try.func85, Try.ntmps85
      go_wp2_with (with_reducible show wpList _ _ _ (({ dst := _, op := .load 33 (.tmp 3), type := _, pos := _, after := _, guard := none } : Oper) :: _) _ _; refine wpList_load_gate HK.out.gate rfl (.tmp 3) rfl rfl ?_)
      refine (check_any g _ Hok.out).mono ?_
      rintro e w1 ⟨rfl, hb1⟩
      have K2 := HK.out.call hb1
      have HK2 := Lib.hid K2
      rw [Hc.out]
      clear hb1 K2
      go_wp2_with (go_at_call 63; refine (dry_any _ _).mono ?_; rintro e w' ⟨rfl, rfl⟩)
      go_ret2
      exact ⟨ret_pe Hr.out.symm, HK2.out.below⟩
  · have hr : atE g o i = (checkZ g).2.2 := by rw [atE, if_pos hc]
    have Hr := Lib.hid hr
    have h1 : ((checkZ g).2.2 != 0) = true := by simp [hc]
    clear hr hc h
    go_enter Try.func85, Try.ntmps85
    go_wp2_with (with_reducible show wpList _ _ _ (({ dst := _, op := .load 33 (.tmp 3), type := _, pos := _, after := _, guard := none } : Oper) :: _) _ _; refine wpList_load_gate HK.out.gate rfl (.tmp 3) rfl rfl ?_)
    refine (check_any g _ Hok.out).mono ?_
    rintro e w1 ⟨rfl, hb1⟩
    have K2 := HK.out.call hb1
    have HK2 := Lib.hid K2
    clear hb1 K2
    go_wp2
    go_ret2
    exact ⟨ret_pe Hr.out.symm, HK2.out.below⟩

theorem mach_lie (W : World) (M : Nat) (hM : W.heap.size = M) (g : GateV) (s : St) (t : Stp) (net rub oil : Int) : MachIn (W.alloc (.cells (machCells g s t net rub oil) 132)) M g s t net rub oil := by
  subst hM
  exact ⟨by simp, heap_alloc_new W _⟩

set_option maxRecDepth 100000 in
set_option maxHeartbeats 1000000 in
theorem at_ok (g : GateV) (o i : Int) (w : World) (hok : g.Ok w) (h : atE g o i = 0) :
    Calls Try.prog 85 #[g.val, .int .i64 o, .int .i64 i] w fun e w' => ∃ M, (e = .returned (.tuple #[.pointer (some ⟨M, 0, none⟩), .int .i64 0]) ∧ w.heap.size ≤ M) ∧ MachIn w' M g ⟨0, 0, false⟩ ⟨0, false, o, i⟩ 0 0 0 ∧ Below w.heap.size w w' := by
  have K1 := Keep.new w g
  have HK := Lib.hid K1
  have Hok := Lib.hid (hok.below K1.below (Nat.le_refl _))
  have hc : (checkZ g).2.2 = 0 := by
    by_cases hh : (checkZ g).2.2 = 0
    · exact hh
    · rw [atE, if_pos hh] at h; exact absurd h hh
  have hb : (outB o (-20000) 20000 || outB i (-20000) 20000) = false := by
    cases hh : (outB o (-20000) 20000 || outB i (-20000) 20000) with
    | false => rfl
    | true => rw [atE, if_neg (by simp [hc]), if_pos hh] at h; simp at h
  simp only [Bool.or_eq_false_iff] at hb
  obtain ⟨h1, h2⟩ := hb
  have Hc := Lib.hid hc
  clear K1 hok h hc
  go_enter Try.func85, Try.ntmps85
  go_wp2_with (with_reducible show wpList _ _ _ (({ dst := _, op := .load 33 (.tmp 3), type := _, pos := _, after := _, guard := none } : Oper) :: _) _ _; refine wpList_load_gate HK.out.gate rfl (.tmp 3) rfl rfl ?_)
  refine (check_any g _ Hok.out).mono ?_
  rintro e w1 ⟨rfl, hb1⟩
  have K2 := HK.out.call hb1
  have HK2 := Lib.hid K2
  rw [Hc.out]
  clear hb1 K2
  go_wp2_with (first
    | (go_at_call 63; refine (dry_any _ _).mono ?_; rintro e w' ⟨rfl, rfl⟩)
    | (with_reducible show wpList _ _ _ (({ dst := _, op := .load 33 (.tmp 3), type := _, pos := _, after := _, guard := none } : Oper) :: _) _ _; refine wpList_load_gate HK2.out.gate rfl (.tmp 3) rfl rfl ?_))
  go_ret2
  exact ⟨w1.heap.size, ⟨rfl, HK2.out.below.size⟩, mach_lie w1 _ rfl g ⟨0, 0, false⟩ ⟨0, false, o, i⟩ 0 0 0, HK2.out.below.alloc HK2.out.below.size _⟩

/-- What Force returns. -/
def forceZ (g : GateV) (p o i : Int) : Int × Int × Int :=
  if atE g o i ≠ 0 then (0, 0, atE g o i) else if outB p 0 g.travel = true then (0, 0, 7) else (netZ g p o i, rubZ g p o i, 0)

set_option maxRecDepth 100000 in
set_option maxHeartbeats 1000000 in
theorem force_call (g : GateV) (p o i : Int) (w : World) (hok : g.Ok w) :
    Calls Try.prog 31 #[g.val, .int .i64 p, .int .i64 o, .int .i64 i] w fun e w' => e = .returned (.tuple #[.int .i64 (forceZ g p o i).1, .int .i64 (forceZ g p o i).2.1, .int .i64 (forceZ g p o i).2.2]) ∧ Below w.heap.size w w' := by
  have K1 := Keep.new w g
  have HK := Lib.hid K1
  have hok1 := hok.below K1.below (Nat.le_refl _)
  have Hok := Lib.hid hok1
  clear K1 hok hok1
  by_cases he : atE g o i = 0
  · have He := Lib.hid he
    by_cases hp : outB p 0 g.travel = true
    · have hr : forceZ g p o i = (0, 0, 7) := by rw [forceZ, if_neg (by simp [he]), if_pos hp]
      rw [hr]
      clear hr he
      go_enter Try.func31, Try.ntmps31
      go_wp2_with (with_reducible show wpList _ _ _ (({ dst := _, op := .load 33 (.tmp 4), type := _, pos := _, after := _, guard := none } : Oper) :: _) _ _; refine wpList_load_gate HK.out.gate rfl (.tmp 4) rfl rfl ?_)
      refine (at_ok g o i _ Hok.out He.out).mono ?_
      rintro e w1 ⟨M, ⟨rfl, hM⟩, hm, hb1⟩
      have K2 := HK.out.call hb1
      have HK2 := Lib.hid K2
      have c2 := K2.gate.cell 2 _ rfl
      clear hb1 K2 hm hM
      go_wp2_with (go_at_call 50; refine (out_any _ _ _ _).mono ?_; rintro e w' ⟨rfl, rfl⟩)
      go_ret3
      exact ⟨rfl, HK2.out.below⟩
    · have hr : forceZ g p o i = (netZ g p o i, rubZ g p o i, 0) := by rw [forceZ, if_neg (by simp [he]), if_neg hp]
      obtain ⟨hg, hlo, hli⟩ := atE_0 he
      simp only [Bool.not_eq_true] at hp
      have hpp := outB_ft hp
      rw [hr]
      have Hg := Lib.hid hg
      have Hlo := Lib.hid hlo
      have Hli := Lib.hid hli
      have Hpp := Lib.hid hpp
      clear hr he hg hlo hli hpp
      go_enter Try.func31, Try.ntmps31
      go_wp2_with (with_reducible show wpList _ _ _ (({ dst := _, op := .load 33 (.tmp 4), type := _, pos := _, after := _, guard := none } : Oper) :: _) _ _; refine wpList_load_gate HK.out.gate rfl (.tmp 4) rfl rfl ?_)
      refine (at_ok g o i _ Hok.out He.out).mono ?_
      rintro e w1 ⟨M, ⟨rfl, hM⟩, hm, hb1⟩
      have K2 := HK.out.call hb1
      have HK2 := Lib.hid K2
      have Hm := Lib.hid hm
      have Hown := Lib.hid (Hok.out.own.below hb1 (Nat.le_refl _))
      have c2 := K2.gate.cell 2 _ rfl
      clear hb1 K2 hm hM
      go_wp2_with (go_at_call 50; refine (out_any _ _ _ _).mono ?_; rintro e w' ⟨rfl, rfl⟩)
      refine (forces_any M g ⟨0, 0, false⟩ ⟨0, false, o, i⟩ 0 0 0 p _ Hm.out Hown.out Hg.out Hpp.out.1 Hpp.out.2 Hlo.out Hli.out).mono ?_
      rintro e w2 ⟨rfl, n, rfl⟩
      go_wp2
      go_ret3
      exact ⟨rfl, below_drewN HK2.out.below n⟩
  · have hr : forceZ g p o i = (0, 0, atE g o i) := by rw [forceZ, if_pos he]
    have h1 : (atE g o i != 0) = true := by simp [he]
    have He := Lib.hid he
    rw [hr]
    clear hr he
    go_enter Try.func31, Try.ntmps31
    go_wp2_with (with_reducible show wpList _ _ _ (({ dst := _, op := .load 33 (.tmp 4), type := _, pos := _, after := _, guard := none } : Oper) :: _) _ _; refine wpList_load_gate HK.out.gate rfl (.tmp 4) rfl rfl ?_)
    refine (at_err g o i _ Hok.out He.out).mono ?_
    rintro e w1 ⟨rfl, hb1⟩
    have K2 := HK.out.call hb1
    have HK2 := Lib.hid K2
    clear hb1 K2
    go_wp2
    go_ret3
    exact ⟨rfl, HK2.out.below⟩

/-- The first position from p on, of n, at which the force is not above the friction; -1. -/
def fallFrom (g : GateV) (o i : Int) : Nat → Int → Int
  | 0, _ => -1
  | n + 1, p => if netZ g p o i ≤ rubZ g p o i then p else fallFrom g o i n (p + 1)
/-- What Falls returns. -/
def fallsZ (g : GateV) (o i : Int) : Int × Int := if atE g o i ≠ 0 then (0, atE g o i) else (fallFrom g o i g.travel.toNat 0, 0)

set_option maxRecDepth 100000 in
set_option maxHeartbeats 1000000 in
theorem falls_any (g : GateV) (o i : Int) (w : World) (hok : g.Ok w) :
    Calls Try.prog 33 #[g.val, .int .i64 o, .int .i64 i] w fun e w' => e = .returned (.tuple #[.int .i64 (fallsZ g o i).1, .int .i64 (fallsZ g o i).2]) ∧ Below w.heap.size w w' := by
  have K1 := Keep.new w g
  have HK := Lib.hid K1
  have hok1 := hok.below K1.below (Nat.le_refl _)
  have Hok := Lib.hid hok1
  clear K1 hok hok1
  by_cases he : atE g o i = 0
  · have He := Lib.hid he
    have hr : fallsZ g o i = (fallFrom g o i g.travel.toNat 0, 0) := by rw [fallsZ, if_neg (by simp [he])]
    obtain ⟨hg, hlo, hli⟩ := atE_0 he
    have htr := hg.travel
    obtain ⟨ht1, ht2⟩ := htr
    rw [hr]
    have Hg := Lib.hid hg
    have Hlo := Lib.hid hlo
    have Hli := Lib.hid hli
    clear hr he hg hlo hli
    go_enter Try.func33, Try.ntmps33
    go_wp2_with (with_reducible show wpList _ _ _ (({ dst := _, op := .load 33 (.tmp 3), type := _, pos := _, after := _, guard := none } : Oper) :: _) _ _; refine wpList_load_gate HK.out.gate rfl (.tmp 3) rfl rfl ?_)
    refine (at_ok g o i _ Hok.out He.out).mono ?_
    rintro e w1 ⟨M, ⟨rfl, hM⟩, hm, hb1⟩
    have K2 := HK.out.call hb1
    have HK2 := Lib.hid K2
    have Hm := Lib.hid hm
    have Hown := Lib.hid (Hok.out.own.below hb1 (Nat.le_refl _))
    have c2 := K2.gate.cell 2 _ rfl
    clear hb1 K2 hm hM
    go_wp2
    go_loopw [25] (fun i' wr => ∃ k : Nat, (k : Int) ≤ g.travel ∧ i' = .int .i64 k ∧ fallFrom g o i (g.travel.toNat - k) k = fallFrom g o i g.travel.toNat 0 ∧ ∃ n, wr = w1.drewN n) (fun i' _ => g.travel.toNat - (intOf i').toNat)
    case atStart => exact ⟨0, by omega, rfl, rfl, 0, rfl⟩
    case round =>
      obtain ⟨k, hk, rfl, hix, n, rfl⟩ := hrel
      have Hix := Lib.hid hix
      clear hix
      by_cases hlt : (k : Int) < g.travel
      · have hs : fallFrom g o i (g.travel.toNat - k) k = if netZ g k o i ≤ rubZ g k o i then (k : Int) else fallFrom g o i (g.travel.toNat - (k + 1)) ((k : Int) + 1) := by
          rw [show g.travel.toNat - k = (g.travel.toNat - (k + 1)) + 1 from by omega, fallFrom]
        have Hs := Lib.hid hs
        clear hs
        by_cases hn : netZ g k o i ≤ rubZ g k o i
        all_goals
          go_wp2_with (go_at_call 86; refine (forces_any M g ⟨0, 0, false⟩ ⟨0, false, o, i⟩ 0 0 0 k _ (Hm.out.drewN n) (Hown.out.below (below_drewN (Below.refl _ _) n) (Nat.le_refl _)) Hg.out (by omega) (by omega) Hlo.out Hli.out).mono ?_; rintro e w2 ⟨rfl, n2, rfl⟩)
          first
            | (go_ret2
               exact ⟨ret2 (by rw [← Hix.out, Hs.out, if_pos hn]), by first | exact below_drewN HK2.out.below _ | exact below_drewN (below_drewN HK2.out.below _) _⟩)
            | (go_roundw
               case rel => exact ⟨k + 1, by omega, by go_num, by rw [← Hix.out, Hs.out, if_neg (by omega)]; rfl, by first | exact ⟨_, rfl⟩ | (simp only [World.drewN_drewN]; exact ⟨_, rfl⟩)⟩
               case measure => simp [intOf]; omega)
      · have hs : fallFrom g o i (g.travel.toNat - k) k = -1 := by
          rw [show g.travel.toNat - k = 0 from by omega, fallFrom]
        have Hs := Lib.hid hs
        clear hs
        go_wp2
        go_ret2
        exact ⟨ret2 (by rw [← Hix.out, Hs.out]), below_drewN HK2.out.below n⟩
  · have hr : fallsZ g o i = (0, atE g o i) := by rw [fallsZ, if_pos he]
    have h1 : (atE g o i != 0) = true := by simp [he]
    have He := Lib.hid he
    rw [hr]
    clear hr he
    go_enter Try.func33, Try.ntmps33
    go_wp2_with (with_reducible show wpList _ _ _ (({ dst := _, op := .load 33 (.tmp 3), type := _, pos := _, after := _, guard := none } : Oper) :: _) _ _; refine wpList_load_gate HK.out.gate rfl (.tmp 3) rfl rfl ?_)
    refine (at_err g o i _ Hok.out He.out).mono ?_
    rintro e w1 ⟨rfl, hb1⟩
    have K2 := HK.out.call hb1
    have HK2 := Lib.hid K2
    clear hb1 K2
    go_wp2
    go_ret2
    exact ⟨rfl, HK2.out.below⟩
end Go.Proofs.Ythalanpmfhhhnaa
