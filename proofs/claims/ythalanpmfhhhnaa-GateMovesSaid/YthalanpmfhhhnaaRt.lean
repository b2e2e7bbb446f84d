/-
  The reference's Step and Time.
-/
import Derived.Test.YthalanpmfhhhnaaRn
import Derived.Test.YthalanpmfhhhnaaHm
namespace Go.Proofs.Ythalanpmfhhhnaa
open Go.RowKit
set_option linter.unusedSimpArgs false
set_option linter.unusedVariables false

theorem order_of {t : Stp} (h : 0 ≤ t.order ∧ t.order ≤ 2) : t.order = 0 ∨ t.order = 1 ∨ t.order = 2 := by omega

attribute [local go_sem ↓] loadAt_gate
attribute [local go_sem] run_gateLoad

set_option maxRecDepth 100000 in
set_option maxHeartbeats 4000000 in
theorem rtime_any (g : GateV) (s : St) (o i : Int) (power : Bool) (w : World) (hok : g.Ok w) :
    Calls Try.prog 39 #[g.val, s.val, .int .i64 o, .int .i64 i, .bool power] w fun e w' => e = .returned (.tuple #[.int .i64 (timeZ g s o i power).1, .int .i64 (timeZ g s o i power).2]) ∧ Below w.heap.size w w' := by
  have htw := Tw.new w g s ⟨1, power, o, i⟩
  have Htw := Lib.hid htw
  have Hok := Lib.hid (hok.below htw.below (Nat.le_refl _))
  have Hok0 := Lib.hid hok
  clear hok htw
  by_cases hc : (checkZ g).2.2 = 0
  · by_cases ho : oddE g s ⟨1, power, o, i⟩ = 0
    · obtain ⟨hs, ht, _⟩ := oddE_0 ho
      have hr : timeZ g s o i power = timeFrom g ⟨1, power, o, i⟩ 2001 s 0 := by rw [timeZ, if_neg (by simp [hc]), if_neg (by simp [ho])]
      rw [hr]
      have Hc := Lib.hid hc
      have Ho := Lib.hid ho
      have Hs := Lib.hid hs
      have Ht := Lib.hid ht
      have Hg := Lib.hid (check_good hc)
      clear hr hc ho hs ht
      go_enter Try.func39, Try.ntmps39
      go_wp2_with (first
        | (with_reducible show wpList _ _ _ (({ dst := _, op := .load 33 (.tmp 5), type := _, pos := _, after := _, guard := none } : Oper) :: _) _ _; refine wpList_load_gate Htw.out.gate rfl (.tmp 5) rfl rfl ?_)
        | (go_at_call 23; refine (rcheck_any g _ Hok.out).mono ?_; rintro e w1 ⟨rfl, hb1⟩; have B1 := Lib.hid (Htw.out.call hb1); rw [Hc.out]; clear hb1)
        | (with_reducible show wpList _ _ _ (({ dst := _, op := .load 33 (.tmp 5), type := _, pos := _, after := _, guard := none } : Oper) :: _) _ _; refine wpList_load_gate B1.out.gate rfl (.tmp 5) rfl rfl ?_)
        | (with_reducible show wpList _ _ _ (({ dst := _, op := .load 43 (.tmp 6), type := _, pos := _, after := _, guard := none } : Oper) :: _) _ _; refine wpList_load_st B1.out.st rfl (.tmp 6) rfl rfl ?_)
        | (with_reducible show wpList _ _ _ (({ dst := _, op := .load 45 (.tmp 12), type := _, pos := _, after := _, guard := none } : Oper) :: _) _ _; refine wpList_load_stp B1.out.step rfl (.tmp 12) rfl rfl ?_)
        | (go_at_call 79; refine (rvalid_any g s ⟨1, power, o, i⟩ _).mono ?_; rintro e w2 ⟨rfl, hb2⟩; have B2 := Lib.hid (B1.out.call hb2); rw [Ho.out]; clear hb2))
      go_loopw [16] (fun i' wr => ∃ (k : Nat) (sk : St), k ≤ 2001 ∧ i' = .int .i64 k ∧ timeFrom g ⟨1, power, o, i⟩ (2001 - k) sk k = timeFrom g ⟨1, power, o, i⟩ 2001 s 0 ∧ sk.Ok g ∧ Tw w wr g sk ⟨1, power, o, i⟩) (fun i' _ => 2001 - (intOf i').toNat)
      case atStart => exact ⟨0, s, Nat.zero_le _, rfl, rfl, Hs.out, B2.out⟩
      case round =>
        obtain ⟨k, sk, hk, rfl, hix, hsk, htw⟩ := hrel
        have Hix := Lib.hid hix
        have Hsk := Lib.hid hsk
        have Hw := Lib.hid htw
        have s0 : wr.cell? ⟨w.heap.size + 1, 0, none⟩ = some (.int .i64 sk.pos) := (cell_of_row _ _ 0 _ _ _ htw.st).trans rfl
        have g2 : wr.cell? ⟨w.heap.size, 2, none⟩ = some (.int .i64 g.travel) := htw.gate.cell 2 _ rfl
        clear hix hsk htw
        by_cases hlt : k < 2001
        · have hs : timeFrom g ⟨1, power, o, i⟩ (2001 - k) sk k = if sk.pos = g.travel then ((k : Int), 0) else timeFrom g ⟨1, power, o, i⟩ (2001 - (k + 1)) (aloneZ g sk ⟨1, power, o, i⟩).1 ((k : Int) + 1) := by
            rw [show 2001 - k = (2001 - (k + 1)) + 1 from by omega, timeFrom]
          have Hss := Lib.hid hs
          clear hs
          have hdl : decide ((k : Int) ≤ 2000) = true := by simp; omega
          by_cases hp : sk.pos = g.travel
          · have Hp := Lib.hid hp
            have hp2 : (sk.pos == g.travel) = true := by simp [hp]
            clear hp
            go_wp2
            go_ret2
            exact ⟨ret2 (by rw [← Hix.out, Hss.out, if_pos Hp.out]), Hw.out.below⟩
          · have Hp := Lib.hid hp
            have hp2 : (sk.pos == g.travel) = false := by simp [hp]
            clear hp
            have T0 := TgS.new wr
            have hkW : ∀ W, TgS wr W → Tw w W g sk ⟨1, power, o, i⟩ := fun W h => Hw.out.call h.below
            have hg0 : ∀ W, TgS wr W → IsGate W w.heap.size := fun W h => ⟨g, (hkW W h).gate⟩
            have hg1 : ∀ W, TgS wr W → rowOf W w.heap.size = g.val := fun W h => rowOf_gate (hkW W h).gate
            have hs0 : ∀ W, TgS wr W → W.cell? ⟨w.heap.size + 1, 0, none⟩ = some (.int .i64 sk.pos) := fun W h => (cell_of_row _ _ 0 _ _ _ (hkW W h).st).trans rfl
            have hs1 : ∀ W, TgS wr W → W.cell? ⟨w.heap.size + 1, 1, none⟩ = some (.int .i64 sk.charge) := fun W h => (cell_of_row _ _ 1 _ _ _ (hkW W h).st).trans rfl
            have hs2 : ∀ W, TgS wr W → W.cell? ⟨w.heap.size + 1, 2, none⟩ = some (.bool sk.bolted) := fun W h => (cell_of_row _ _ 2 _ _ _ (hkW W h).st).trans rfl
            have ht0 : ∀ W, TgS wr W → W.cell? ⟨w.heap.size + 1 + 1, 0, none⟩ = some (.int .i64 1) := fun W h => (cell_of_row _ _ 0 _ _ _ (hkW W h).step).trans rfl
            have ht1 : ∀ W, TgS wr W → W.cell? ⟨w.heap.size + 1 + 1, 1, none⟩ = some (.bool power) := fun W h => (cell_of_row _ _ 1 _ _ _ (hkW W h).step).trans rfl
            have ht2 : ∀ W, TgS wr W → W.cell? ⟨w.heap.size + 1 + 1, 2, none⟩ = some (.int .i64 o) := fun W h => (cell_of_row _ _ 2 _ _ _ (hkW W h).step).trans rfl
            have ht3 : ∀ W, TgS wr W → W.cell? ⟨w.heap.size + 1 + 1, 3, none⟩ = some (.int .i64 i) := fun W h => (cell_of_row _ _ 3 _ _ _ (hkW W h).step).trans rfl
            have hf0 : ∀ W, TgS wr W → W.frozen? ⟨w.heap.size + 1, 0, none⟩ = false := fun W h => frozen_of_row _ _ 0 _ _ (hkW W h).st
            have hf1 : ∀ W, TgS wr W → W.frozen? ⟨w.heap.size + 1, 1, none⟩ = false := fun W h => frozen_of_row _ _ 1 _ _ (hkW W h).st
            have hf2 : ∀ W, TgS wr W → W.frozen? ⟨w.heap.size + 1, 2, none⟩ = false := fun W h => frozen_of_row _ _ 2 _ _ (hkW W h).st
            obtain ⟨x, y, hd⟩ : ∃ x y, aloneZ g sk ⟨1, power, o, i⟩ = (x, y) := ⟨_, _, rfl⟩
            have hokx := aloneZ_ok (t := ⟨1, power, o, i⟩) Hg.out Hsk.out
            rw [hd] at hokx
            have hst : ∀ W, TgS wr W → Calls Try.prog 89 #[g.val, sk.val, .agg #[.int .i64 1, .bool power, .int .i64 o, .int .i64 i], .int .i64 (boltE sk ⟨1, power, o, i⟩)] W fun e w' => e = .returned (.tuple #[x.val, y.val]) ∧ Below W.heap.size W w' := fun W hW => by
              have h := rstepped_any g sk ⟨1, power, o, i⟩ (boltE sk ⟨1, power, o, i⟩) W Hg.out (Hok0.out.below (hkW W hW).below (Nat.le_refl _)).own Hsk.out Ht.out (.inr (.inl rfl))
              have e : doZ g sk ⟨1, power, o, i⟩ (boltE sk ⟨1, power, o, i⟩) = (x, y) := hd
              rw [e] at h
              exact h
            have HkW := Lib.hid hkW
            have Hst := Lib.hid hst
            have Hd := Lib.hid hd
            have Hokx := Lib.hid hokx
            clear hkW hst hd hokx
            go_wp2
            refine wp_region_M (fun w' => TgS wr w') 10 (by kernel_rfl) T0.drew (fun hHeld => ?_)
            refine anyM_take (i := 0) (v := g.val) rfl (by kernel_rfl) (by kernel_rfl) (by kernel_rfl) (by kernel_rfl) (fun _ _ _ h => h) (Or.inl ⟨by rfl, fun w hSw => by (try dsimp only at hSw); go_simp⟩) hHeld ?_; try simp only [Act.put, List.setIfInBounds_toArray, List.set_cons_zero, List.set_cons_succ]
            refine anyM_take (i := 1) (v := sk.val) rfl (by kernel_rfl) (by kernel_rfl) (by kernel_rfl) (by kernel_rfl) (fun _ _ _ h => h) (Or.inl ⟨by rfl, fun w hSw => by (try dsimp only at hSw); go_simp⟩) hHeld ?_; try simp only [Act.put, List.setIfInBounds_toArray, List.set_cons_zero, List.set_cons_succ]
            refine anyM_take (i := 2) (v := (Stp.mk 1 power o i).val) rfl (by kernel_rfl) (by kernel_rfl) (by kernel_rfl) (by kernel_rfl) (fun _ _ _ h => h) (Or.inl ⟨by rfl, fun w hSw => by (try dsimp only at hSw); go_simp⟩) hHeld ?_; try simp only [Act.put, List.setIfInBounds_toArray, List.set_cons_zero, List.set_cons_succ]
            refine anyM_take (i := 3) (v := sk.val) rfl (by kernel_rfl) (by kernel_rfl) (by kernel_rfl) (by kernel_rfl) (fun _ _ _ h => h) (Or.inl ⟨by rfl, fun w hSw => by (try dsimp only at hSw); go_simp⟩) hHeld ?_; try simp only [Act.put, List.setIfInBounds_toArray, List.set_cons_zero, List.set_cons_succ]
            refine anyM_take (i := 4) (v := (Stp.mk 1 power o i).val) rfl (by kernel_rfl) (by kernel_rfl) (by kernel_rfl) (by kernel_rfl) (fun _ _ _ h => h) (Or.inl ⟨by rfl, fun w hSw => by (try dsimp only at hSw); go_simp⟩) hHeld ?_; try simp only [Act.put, List.setIfInBounds_toArray, List.set_cons_zero, List.set_cons_succ]
            refine anyM_one (i := 5) (by kernel_rfl) rfl (fun K hK => ?_); go_simp; go_at_call 90; refine (rbolted_any sk ⟨1, power, o, i⟩ _).mono ?_; rintro e w4 ⟨rfl, hbA⟩; refine hK.out _ _ (.inr (TgS.call hHeld hbA)) (fun hS => ?_)
            clear hK K hHeld hbA
            have hHeld := hS.resolve_left (by simp)
            clear hS
            try simp only [Act.put, List.setIfInBounds_toArray, List.set_cons_zero, List.set_cons_succ]
            refine anyM_one (i := 6) (by kernel_rfl) rfl (fun K hK => ?_); go_simp; go_at_call 89; refine (Hst.out _ hHeld).mono ?_; rintro e w5 ⟨rfl, hbB⟩; refine hK.out _ _ (.inr (TgS.call hHeld hbB)) (fun hS => ?_)
            clear hK K hHeld hbB
            have hHeld := hS.resolve_left (by simp)
            clear hS
            try simp only [Act.put, List.setIfInBounds_toArray, List.set_cons_zero, List.set_cons_succ]
            refine anyM_takeY (i := 7) (v := .tuple #[x.val, y.val]) rfl (by kernel_rfl) (by kernel_rfl) (by kernel_rfl) (by kernel_rfl) (fun _ _ _ h => h) (Or.inl ⟨by rfl, fun w => by go_simp⟩) hHeld ?_; try simp only [Act.put, List.setIfInBounds_toArray, List.set_cons_zero, List.set_cons_succ]
            refine anyM_takeY (i := 8) (v := x.val) rfl (by kernel_rfl) (by kernel_rfl) (by kernel_rfl) (by kernel_rfl) (fun _ _ _ h => h) (Or.inl ⟨by rfl, fun w => by go_simp⟩) hHeld ?_; try simp only [Act.put, List.setIfInBounds_toArray, List.set_cons_zero, List.set_cons_succ]
            refine anyM_takeY (i := 9) (v := y.val) rfl (by kernel_rfl) (by kernel_rfl) (by kernel_rfl) (by kernel_rfl) (fun _ _ _ h => h) (Or.inl ⟨by rfl, fun w => by go_simp⟩) hHeld ?_; try simp only [Act.put, List.setIfInBounds_toArray, List.set_cons_zero, List.set_cons_succ]
            have HT := Lib.hid (HkW.out _ hHeld)
            refine anyM_one (i := 10) (by kernel_rfl) rfl (fun K hK => ?_); go_simp; refine hK.out _ _ (.inl (by kernel_rfl)) (fun hS => ?_)
            clear hK K hS hHeld
            try simp only [Act.put, List.setIfInBounds_toArray, List.set_cons_zero, List.set_cons_succ]
            refine anyM_done (by kernel_rfl) ?_ _
            clear hg0 hg1 hs0 hs1 hs2 ht0 ht1 ht2 ht3 hf0 hf1 hf2 Hst HkW
            go_wp2
            go_roundw
            case rel => exact ⟨k + 1, x, by omega, by go_num, by have h1 := Hd.out; rw [← Hix.out, Hss.out, if_neg Hp.out, h1]; rfl, Hokx.out, HT.out.store x⟩
            case measure => simp [intOf]; omega
        · have hs : timeFrom g ⟨1, power, o, i⟩ (2001 - k) sk k = (0, 9) := by
            rw [show 2001 - k = 0 from by omega, timeFrom]
          have Hss := Lib.hid hs
          clear hs
          have hdl : decide ((k : Int) ≤ 2000) = false := by simp; omega
          go_wp2
          go_ret2
          exact ⟨ret2 (by rw [← Hix.out, Hss.out]), Hw.out.below⟩
    · have hr : timeZ g s o i power = (0, oddE g s ⟨1, power, o, i⟩) := by rw [timeZ, if_neg (by simp [hc]), if_pos ho]
      rw [hr]
      have Hc := Lib.hid hc
      have h1 : (oddE g s ⟨1, power, o, i⟩ != 0) = true := by simp [ho]
      clear hr hc ho
      go_enter Try.func39, Try.ntmps39
      go_wp2_with (first
        | (with_reducible show wpList _ _ _ (({ dst := _, op := .load 33 (.tmp 5), type := _, pos := _, after := _, guard := none } : Oper) :: _) _ _; refine wpList_load_gate Htw.out.gate rfl (.tmp 5) rfl rfl ?_)
        | (go_at_call 23; refine (rcheck_any g _ Hok.out).mono ?_; rintro e w1 ⟨rfl, hb1⟩; have B1 := Lib.hid (Htw.out.call hb1); rw [Hc.out]; clear hb1)
        | (with_reducible show wpList _ _ _ (({ dst := _, op := .load 33 (.tmp 5), type := _, pos := _, after := _, guard := none } : Oper) :: _) _ _; refine wpList_load_gate B1.out.gate rfl (.tmp 5) rfl rfl ?_)
        | (with_reducible show wpList _ _ _ (({ dst := _, op := .load 43 (.tmp 6), type := _, pos := _, after := _, guard := none } : Oper) :: _) _ _; refine wpList_load_st B1.out.st rfl (.tmp 6) rfl rfl ?_)
        | (with_reducible show wpList _ _ _ (({ dst := _, op := .load 45 (.tmp 12), type := _, pos := _, after := _, guard := none } : Oper) :: _) _ _; refine wpList_load_stp B1.out.step rfl (.tmp 12) rfl rfl ?_)
        | (go_at_call 79; refine (rvalid_any g s ⟨1, power, o, i⟩ _).mono ?_; rintro e w2 ⟨rfl, hb2⟩; have B2 := Lib.hid (B1.out.call hb2); clear hb2))
      go_ret2
      exact ⟨rfl, B2.out.below⟩
  · have hr : timeZ g s o i power = (0, (checkZ g).2.2) := by rw [timeZ, if_pos hc]
    rw [hr]
    have h1 : ((checkZ g).2.2 == 0) = false := by simp [hc]
    have h2 : ((checkZ g).2.2 != 0) = true := by simp [hc]
    clear hr hc
    go_enter Try.func39, Try.ntmps39
    go_wp2_with (first
      | (with_reducible show wpList _ _ _ (({ dst := _, op := .load 33 (.tmp 5), type := _, pos := _, after := _, guard := none } : Oper) :: _) _ _; refine wpList_load_gate Htw.out.gate rfl (.tmp 5) rfl rfl ?_)
      | (go_at_call 23; refine (rcheck_any g _ Hok.out).mono ?_; rintro e w1 ⟨rfl, hb1⟩; have B1 := Lib.hid (Htw.out.call hb1); clear hb1))
    go_ret2
    exact ⟨rfl, B1.out.below⟩
end Go.Proofs.Ythalanpmfhhhnaa
