/-
  The reference's Force and Falls.
-/
import Derived.Test.YthalanpmfhhhnaaRn
import Derived.Test.YthalanpmfhhhnaaAt
namespace Go.Proofs.Ythalanpmfhhhnaa
open Go.RowKit
set_option linter.unusedSimpArgs false
set_option linter.unusedVariables false

theorem forceZ_bad {g : GateV} {p o i : Int} (hc : (checkZ g).2.2 ≠ 0) : forceZ g p o i = (0, 0, (checkZ g).2.2) := by
  have h : atE g o i = (checkZ g).2.2 := by rw [atE, if_pos hc]
  rw [forceZ, h, if_pos hc]
theorem forceZ_7 {g : GateV} {p o i : Int} (hc : (checkZ g).2.2 = 0) (h : outB p 0 g.travel = true ∨ outB o (-20000) 20000 = true ∨ outB i (-20000) 20000 = true) : forceZ g p o i = (0, 0, 7) := by
  unfold forceZ atE
  rw [if_neg (show ¬ (checkZ g).2.2 ≠ 0 by simp [hc])]
  by_cases hb : (outB o (-20000) 20000 || outB i (-20000) 20000) = true
  · rw [if_pos hb, if_pos (by decide)]
  · rw [if_neg hb, if_neg (by decide), if_pos]
    rcases h with h | h | h
    · exact h
    · simp [h] at hb
    · simp [h] at hb
theorem forceZ_ok {g : GateV} {p o i : Int} (hc : (checkZ g).2.2 = 0) (h1 : outB p 0 g.travel = false) (h2 : outB o (-20000) 20000 = false) (h3 : outB i (-20000) 20000 = false) : forceZ g p o i = (netZ g p o i, rubZ g p o i, 0) := by
  have h : atE g o i = 0 := by rw [atE, if_neg (by simp [hc]), h2, h3]; rfl
  rw [forceZ, h, if_neg (by decide), if_neg (by simp [h1])]
theorem fallsZ_bad {g : GateV} {o i : Int} (hc : (checkZ g).2.2 ≠ 0) : fallsZ g o i = (0, (checkZ g).2.2) := by
  have h : atE g o i = (checkZ g).2.2 := by rw [atE, if_pos hc]
  rw [fallsZ, h, if_pos hc]
theorem fallsZ_7 {g : GateV} {o i : Int} (hc : (checkZ g).2.2 = 0) (h : outB o (-20000) 20000 = true ∨ outB i (-20000) 20000 = true) : fallsZ g o i = (0, 7) := by
  have hb : (outB o (-20000) 20000 || outB i (-20000) 20000) = true := by rcases h with h | h <;> simp [h]
  have h : atE g o i = 7 := by rw [atE, if_neg (by simp [hc]), if_pos hb]
  rw [fallsZ, h, if_pos (by decide)]
theorem fallsZ_ok {g : GateV} {o i : Int} (hc : (checkZ g).2.2 = 0) (h2 : outB o (-20000) 20000 = false) (h3 : outB i (-20000) 20000 = false) : fallsZ g o i = (fallFrom g o i g.travel.toNat 0, 0) := by
  have h : atE g o i = 0 := by rw [atE, if_neg (by simp [hc]), h2, h3]; rfl
  rw [fallsZ, h, if_neg (by decide)]

set_option maxRecDepth 100000 in
set_option maxHeartbeats 4000000 in
theorem rforce_call (g : GateV) (p o i : Int) (w : World) (hok : g.Ok w) :
    Calls Try.prog 32 #[g.val, .int .i64 p, .int .i64 o, .int .i64 i] w fun e w' => e = .returned (.tuple #[.int .i64 (forceZ g p o i).1, .int .i64 (forceZ g p o i).2.1, .int .i64 (forceZ g p o i).2.2]) ∧ Below w.heap.size w w' := by
  have hk := Keep.new w g
  have HK := Lib.hid hk
  have Hok := Lib.hid (hok.below hk.below (Nat.le_refl _))
  obtain ⟨Z, hZ⟩ : ∃ Z, Z = forceZ g p o i := ⟨_, rfl⟩
  rw [← hZ]
  clear hok hk
  by_cases hc : (checkZ g).2.2 = 0
  · have Hc := Lib.hid hc
    by_cases h1 : outB p 0 g.travel = true
    · have Hr := Lib.hid (hZ.trans (forceZ_7 hc (.inl h1)))
      clear hZ hc
      go_enter Try.func32, Try.ntmps32
      go_wp2_with (first
        | (with_reducible show wpList _ _ _ (({ dst := _, op := .load 33 (.tmp 4), type := _, pos := _, after := _, guard := none } : Oper) :: _) _ _; refine wpList_load_gate HK.out.gate rfl (.tmp 4) rfl rfl ?_)
        | (go_at_call 23; refine (rcheck_any g _ Hok.out).mono ?_; rintro e w1 ⟨rfl, hb1⟩; rw [Hc.out]; have K2 := HK.out.call hb1; have c2 := K2.gate.cell 2 _ rfl; have HK2 := Lib.hid K2; clear hb1 K2)
        | (go_at_call 56; refine (in3_any _ _ _ _).mono ?_; rintro e w' ⟨rfl, rfl⟩)
        | (go_at_call 71; refine (level_any _ _).mono ?_; rintro e w' ⟨rfl, rfl⟩))
      go_ret3
      exact ⟨ret3 (by rw [Hr.out]), HK2.out.below⟩
    · simp only [Bool.not_eq_true] at h1
      by_cases h2 : outB o (-20000) 20000 = true
      · have Hr := Lib.hid (hZ.trans (forceZ_7 hc (.inr (.inl h2))))
        clear hZ hc
        go_enter Try.func32, Try.ntmps32
        go_wp2_with (first
          | (with_reducible show wpList _ _ _ (({ dst := _, op := .load 33 (.tmp 4), type := _, pos := _, after := _, guard := none } : Oper) :: _) _ _; refine wpList_load_gate HK.out.gate rfl (.tmp 4) rfl rfl ?_)
          | (go_at_call 23; refine (rcheck_any g _ Hok.out).mono ?_; rintro e w1 ⟨rfl, hb1⟩; rw [Hc.out]; have K2 := HK.out.call hb1; have c2 := K2.gate.cell 2 _ rfl; have HK2 := Lib.hid K2; clear hb1 K2)
          | (go_at_call 56; refine (in3_any _ _ _ _).mono ?_; rintro e w' ⟨rfl, rfl⟩)
          | (go_at_call 71; refine (level_any _ _).mono ?_; rintro e w' ⟨rfl, rfl⟩))
        go_ret3
        exact ⟨ret3 (by rw [Hr.out]), HK2.out.below⟩
      · simp only [Bool.not_eq_true] at h2
        by_cases h3 : outB i (-20000) 20000 = true
        · have Hr := Lib.hid (hZ.trans (forceZ_7 hc (.inr (.inr h3))))
          clear hZ hc
          go_enter Try.func32, Try.ntmps32
          go_wp2_with (first
            | (with_reducible show wpList _ _ _ (({ dst := _, op := .load 33 (.tmp 4), type := _, pos := _, after := _, guard := none } : Oper) :: _) _ _; refine wpList_load_gate HK.out.gate rfl (.tmp 4) rfl rfl ?_)
            | (go_at_call 23; refine (rcheck_any g _ Hok.out).mono ?_; rintro e w1 ⟨rfl, hb1⟩; rw [Hc.out]; have K2 := HK.out.call hb1; have c2 := K2.gate.cell 2 _ rfl; have HK2 := Lib.hid K2; clear hb1 K2)
            | (go_at_call 56; refine (in3_any _ _ _ _).mono ?_; rintro e w' ⟨rfl, rfl⟩)
            | (go_at_call 71; refine (level_any _ _).mono ?_; rintro e w' ⟨rfl, rfl⟩))
          go_ret3
          exact ⟨ret3 (by rw [Hr.out]), HK2.out.below⟩
        · simp only [Bool.not_eq_true] at h3
          have Hr := Lib.hid (hZ.trans (forceZ_ok hc h1 h2 h3))
          have Hf := Lib.hid (fun W h => rforces_any g p o i W h (check_good hc) (outB_ft h1).1 (outB_ft h1).2 (outB_ft h2) (outB_ft h3))
          clear hZ hc
          go_enter Try.func32, Try.ntmps32
          go_wp2_with (first
            | (with_reducible show wpList _ _ _ (({ dst := _, op := .load 33 (.tmp 4), type := _, pos := _, after := _, guard := none } : Oper) :: _) _ _; refine wpList_load_gate HK.out.gate rfl (.tmp 4) rfl rfl ?_)
            | (go_at_call 23; refine (rcheck_any g _ Hok.out).mono ?_; rintro e w1 ⟨rfl, hb1⟩; rw [Hc.out]; have K2 := HK.out.call hb1; have c2 := K2.gate.cell 2 _ rfl; have HK2 := Lib.hid K2; have Hown := Lib.hid (Hok.out.own.below hb1 (Nat.le_refl _)); clear hb1 K2)
            | (go_at_call 56; refine (in3_any _ _ _ _).mono ?_; rintro e w' ⟨rfl, rfl⟩)
            | (go_at_call 71; refine (level_any _ _).mono ?_; rintro e w' ⟨rfl, rfl⟩)
            | (with_reducible show wpList _ _ _ (({ dst := _, op := .load 33 (.tmp 4), type := _, pos := _, after := _, guard := none } : Oper) :: _) _ _; refine wpList_load_gate HK2.out.gate rfl (.tmp 4) rfl rfl ?_)
            | (go_at_call 87; refine (Hf.out _ Hown.out).mono ?_; rintro e w2 ⟨rfl, hb2⟩; have HK3 := Lib.hid (HK2.out.call hb2); clear hb2))
          go_ret3
          exact ⟨ret3 (by rw [Hr.out]), HK3.out.below⟩
  · have Hr := Lib.hid (hZ.trans (forceZ_bad hc))
    have hne : ((checkZ g).2.2 == 0) = false := by simp [hc]
    have hne2 : ((checkZ g).2.2 != 0) = true := by simp [hc]
    clear hZ hc
    go_enter Try.func32, Try.ntmps32
    go_wp2_with (first
      | (with_reducible show wpList _ _ _ (({ dst := _, op := .load 33 (.tmp 4), type := _, pos := _, after := _, guard := none } : Oper) :: _) _ _; refine wpList_load_gate HK.out.gate rfl (.tmp 4) rfl rfl ?_)
      | (go_at_call 23; refine (rcheck_any g _ Hok.out).mono ?_; rintro e w1 ⟨rfl, hb1⟩; have HK2 := Lib.hid (HK.out.call hb1); clear hb1))
    go_ret3
    exact ⟨ret3 (by rw [Hr.out]), HK2.out.below⟩

set_option maxRecDepth 100000 in
set_option maxHeartbeats 4000000 in
theorem rfalls_any (g : GateV) (o i : Int) (w : World) (hok : g.Ok w) :
    Calls Try.prog 34 #[g.val, .int .i64 o, .int .i64 i] w fun e w' => e = .returned (.tuple #[.int .i64 (fallsZ g o i).1, .int .i64 (fallsZ g o i).2]) ∧ Below w.heap.size w w' := by
  have hk := Keep.new w g
  have HK := Lib.hid hk
  have Hok0 := Lib.hid hok
  have Hok := Lib.hid (hok.below hk.below (Nat.le_refl _))
  obtain ⟨Z, hZ⟩ : ∃ Z, Z = fallsZ g o i := ⟨_, rfl⟩
  rw [← hZ]
  clear hok hk
  by_cases hc : (checkZ g).2.2 = 0
  · have Hc := Lib.hid hc
    by_cases h2 : outB o (-20000) 20000 = true
    · have Hr := Lib.hid (hZ.trans (fallsZ_7 hc (.inl h2)))
      clear hZ hc
      go_enter Try.func34, Try.ntmps34
      go_wp2_with (first
        | (with_reducible show wpList _ _ _ (({ dst := _, op := .load 33 (.tmp 3), type := _, pos := _, after := _, guard := none } : Oper) :: _) _ _; refine wpList_load_gate HK.out.gate rfl (.tmp 3) rfl rfl ?_)
        | (go_at_call 23; refine (rcheck_any g _ Hok.out).mono ?_; rintro e w1 ⟨rfl, hb1⟩; rw [Hc.out]; have HK2 := Lib.hid (HK.out.call hb1); clear hb1)
        | (go_at_call 71; refine (level_any _ _).mono ?_; rintro e w' ⟨rfl, rfl⟩))
      go_ret2
      exact ⟨ret2 (by rw [Hr.out]), HK2.out.below⟩
    · simp only [Bool.not_eq_true] at h2
      by_cases h3 : outB i (-20000) 20000 = true
      · have Hr := Lib.hid (hZ.trans (fallsZ_7 hc (.inr h3)))
        clear hZ hc
        go_enter Try.func34, Try.ntmps34
        go_wp2_with (first
          | (with_reducible show wpList _ _ _ (({ dst := _, op := .load 33 (.tmp 3), type := _, pos := _, after := _, guard := none } : Oper) :: _) _ _; refine wpList_load_gate HK.out.gate rfl (.tmp 3) rfl rfl ?_)
          | (go_at_call 23; refine (rcheck_any g _ Hok.out).mono ?_; rintro e w1 ⟨rfl, hb1⟩; rw [Hc.out]; have HK2 := Lib.hid (HK.out.call hb1); clear hb1)
          | (go_at_call 71; refine (level_any _ _).mono ?_; rintro e w' ⟨rfl, rfl⟩))
        go_ret2
        exact ⟨ret2 (by rw [Hr.out]), HK2.out.below⟩
      · simp only [Bool.not_eq_true] at h3
        have Hr := Lib.hid (hZ.trans (fallsZ_ok hc h2 h3))
        have hg := check_good hc
        obtain ⟨ht1, ht2⟩ := hg.travel
        have Hf := Lib.hid (fun (p : Int) W h (h0 : 0 ≤ p) (h1 : p ≤ g.travel) => rforces_any g p o i W h hg h0 h1 (outB_ft h2) (outB_ft h3))
        clear hZ hc hg
        go_enter Try.func34, Try.ntmps34
        go_wp2_with (first
          | (with_reducible show wpList _ _ _ (({ dst := _, op := .load 33 (.tmp 3), type := _, pos := _, after := _, guard := none } : Oper) :: _) _ _; refine wpList_load_gate HK.out.gate rfl (.tmp 3) rfl rfl ?_)
          | (go_at_call 23; refine (rcheck_any g _ Hok.out).mono ?_; rintro e w1 ⟨rfl, hb1⟩; rw [Hc.out]; have HK2 := Lib.hid (HK.out.call hb1); clear hb1)
          | (go_at_call 71; refine (level_any _ _).mono ?_; rintro e w' ⟨rfl, rfl⟩))
        go_loopw [11] (fun i' wr => ∃ k : Nat, (k : Int) ≤ g.travel ∧ i' = .int .i64 k ∧ fallFrom g o i (g.travel.toNat - k) k = fallFrom g o i g.travel.toNat 0 ∧ Keep w w.heap.size g wr) (fun i' _ => g.travel.toNat - (intOf i').toNat)
        case atStart => exact ⟨0, by omega, rfl, rfl, HK2.out⟩
        case round =>
          obtain ⟨k, hk, rfl, hix, hkp⟩ := hrel
          have Hix := Lib.hid hix
          have Hkp := Lib.hid hkp
          have c2 := hkp.gate.cell 2 _ rfl
          have Hown := Lib.hid ((Hok0.out.below hkp.below (Nat.le_refl _)).own)
          clear hix hkp
          by_cases hlt : (k : Int) < g.travel
          · have hs : fallFrom g o i (g.travel.toNat - k) k = if netZ g k o i ≤ rubZ g k o i then (k : Int) else fallFrom g o i (g.travel.toNat - (k + 1)) ((k : Int) + 1) := by
              rw [show g.travel.toNat - k = (g.travel.toNat - (k + 1)) + 1 from by omega, fallFrom]
            have Hs := Lib.hid hs
            clear hs
            by_cases hn : netZ g k o i ≤ rubZ g k o i
            all_goals
              go_wp2_with (first
                | (with_reducible show wpList _ _ _ (({ dst := _, op := .load 33 (.tmp 3), type := _, pos := _, after := _, guard := none } : Oper) :: _) _ _; refine wpList_load_gate Hkp.out.gate rfl (.tmp 3) rfl rfl ?_)
                | (go_at_call 87; refine (Hf.out _ _ Hown.out (by omega) (by omega)).mono ?_; rintro e w3 ⟨rfl, hb3⟩; have HK3 := Lib.hid (Hkp.out.call hb3); clear hb3))
              first
                | (go_ret2
                   exact ⟨ret2 (by rw [Hr.out, ← Hix.out, Hs.out, if_pos hn]), HK3.out.below⟩)
                | (go_roundw
                   case rel => exact ⟨k + 1, by omega, by go_num, by rw [← Hix.out, Hs.out, if_neg (by omega)]; rfl, HK3.out⟩
                   case measure => simp [intOf]; omega)
          · have hs : fallFrom g o i (g.travel.toNat - k) k = -1 := by
              rw [show g.travel.toNat - k = 0 from by omega, fallFrom]
            have Hs := Lib.hid hs
            clear hs
            go_wp2
            go_ret2
            exact ⟨ret2 (by rw [Hr.out, ← Hix.out, Hs.out]), Hkp.out.below⟩
  · have Hr := Lib.hid (hZ.trans (fallsZ_bad hc))
    have hne : ((checkZ g).2.2 == 0) = false := by simp [hc]
    have hne2 : ((checkZ g).2.2 != 0) = true := by simp [hc]
    clear hZ hc
    go_enter Try.func34, Try.ntmps34
    go_wp2_with (first
      | (with_reducible show wpList _ _ _ (({ dst := _, op := .load 33 (.tmp 3), type := _, pos := _, after := _, guard := none } : Oper) :: _) _ _; refine wpList_load_gate HK.out.gate rfl (.tmp 3) rfl rfl ?_)
      | (go_at_call 23; refine (rcheck_any g _ Hok.out).mono ?_; rintro e w1 ⟨rfl, hb1⟩; have HK2 := Lib.hid (HK.out.call hb1); clear hb1))
    go_ret2
    exact ⟨ret2 (by rw [Hr.out]), HK2.out.below⟩
end Go.Proofs.Ythalanpmfhhhnaa
