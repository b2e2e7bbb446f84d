/-
  The reference's Step.
-/
import Derived.Test.YthalanpmfhhhnaaRn
namespace Go.Proofs.Ythalanpmfhhhnaa
open Go.RowKit
set_option linter.unusedSimpArgs false
set_option linter.unusedVariables false
attribute [local go_sem ↓] loadAt_gate
attribute [local go_sem] run_gateLoad

set_option maxRecDepth 100000 in
set_option maxHeartbeats 4000000 in
theorem rstep_any (g : GateV) (s : St) (t : Stp) (w : World) (hok : g.Ok w) :
    Calls Try.prog 40 #[g.val, s.val, t.val] w fun e w' => e = .returned (.tuple #[(stepZ g s t).1.val, (stepZ g s t).2.1.val, .int .i64 (stepZ g s t).2.2]) ∧ Below w.heap.size w w' := by
  have Hbx := Lib.hid (Bx.new w g s t)
  have Hok := Lib.hid (hok.below (doW5_below g s t w) (Nat.le_refl _))
  clear hok
  by_cases hc : (checkZ g).2.2 = 0
  · by_cases ho : oddE g s t = 0
    · obtain ⟨hs, ht, hor⟩ := oddE_0 ho
      have hr : stepZ g s t = ((aloneZ g s t).1, (aloneZ g s t).2, 0) := by rw [stepZ, if_neg (by simp [hc]), if_neg (by simp [ho])]
      rw [hr]
      obtain ⟨x, y, hd⟩ : ∃ x y, aloneZ g s t = (x, y) := ⟨_, _, rfl⟩
      have hst : ∀ W, g.Ok W → Calls Try.prog 89 #[g.val, s.val, t.val, .int .i64 (boltE s t)] W fun e w' => e = .returned (.tuple #[x.val, y.val]) ∧ Below W.heap.size W w' := fun W hW => by
        have h := rstepped_any g s t (boltE s t) W (check_good hc) hW.own hs ht (by omega)
        have e : doZ g s t (boltE s t) = (x, y) := hd
        rw [e] at h
        exact h
      rw [hd]
      have Hst := Lib.hid hst
      have Hc := Lib.hid hc
      have Ho := Lib.hid ho
      clear hr hc ho hs ht hst hd hor
      go_enter Try.func40, Try.ntmps40
      go_wp2_with (first
        | (with_reducible show wpList _ _ _ (({ dst := _, op := .load 33 (.tmp 3), type := _, pos := _, after := _, guard := none } : Oper) :: _) _ _; refine wpList_load_gate Hbx.out.gate rfl (.tmp 3) rfl rfl ?_)
        | (go_at_call 23; refine (rcheck_any g _ Hok.out).mono ?_; rintro e w1 ⟨rfl, hb1⟩; have B1 := Lib.hid (Hbx.out.call hb1); have Ok1 := Lib.hid (Hok.out.below hb1 (Nat.le_refl _)); rw [Hc.out]; clear hb1)
        | (with_reducible show wpList _ _ _ (({ dst := _, op := .load 33 (.tmp 3), type := _, pos := _, after := _, guard := none } : Oper) :: _) _ _; refine wpList_load_gate B1.out.gate rfl (.tmp 3) rfl rfl ?_)
        | (with_reducible show wpList _ _ _ (({ dst := _, op := .load 43 (.tmp 4), type := _, pos := _, after := _, guard := none } : Oper) :: _) _ _; refine wpList_load_st B1.out.st rfl (.tmp 4) rfl rfl ?_)
        | (with_reducible show wpList _ _ _ (({ dst := _, op := .load 45 (.tmp 5), type := _, pos := _, after := _, guard := none } : Oper) :: _) _ _; refine wpList_load_stp B1.out.step rfl (.tmp 5) rfl rfl ?_)
        | (go_at_call 79; refine (rvalid_any g s t _).mono ?_; rintro e w2 ⟨rfl, hb2⟩; have B2 := Lib.hid (B1.out.call hb2); have Ok2 := Lib.hid (Ok1.out.below hb2 (Nat.le_refl _)); rw [Ho.out]; clear hb2))
      try simp only [Act.put]
      go_cut [12, 13] (fun p q wx => ∃ P Q : Nat, p = .pointer (some ⟨P, 0, none⟩) ∧ q = .pointer (some ⟨Q, 0, none⟩) ∧ w2.heap.size ≤ P ∧ w2.heap.size ≤ Q ∧ P < wx.heap.size ∧ Q < wx.heap.size ∧ Below w2.heap.size w2 wx ∧ (wx.cell? ⟨P, 0, none⟩ = some (.int .i64 x.pos) ∧ wx.cell? ⟨P, 1, none⟩ = some (.int .i64 x.charge) ∧ wx.cell? ⟨P, 2, none⟩ = some (.bool x.bolted)) ∧ (wx.cell? ⟨Q, 0, none⟩ = some (.int .i64 y.refused) ∧ wx.cell? ⟨Q, 1, none⟩ = some (.int .i64 y.moved) ∧ wx.cell? ⟨Q, 2, none⟩ = some (.int .i64 y.oil)))
      case first =>
        have T0 := TgS.new w2
        have hkW : ∀ W, TgS w2 W → Bx w W g s t := fun W h => B2.out.call h.below
        have hkO : ∀ W, TgS w2 W → g.Ok W := fun W h => Ok2.out.below h.below (Nat.le_refl _)
        have hg0 : ∀ W, TgS w2 W → IsGate W w.heap.size := fun W h => ⟨g, (hkW W h).gate⟩
        have hg1 : ∀ W, TgS w2 W → rowOf W w.heap.size = g.val := fun W h => rowOf_gate (hkW W h).gate
        have hs0 : ∀ W, TgS w2 W → W.cell? ⟨w.heap.size + 1, 0, none⟩ = some (.int .i64 s.pos) := fun W h => (cell_of_row _ _ 0 _ _ _ (hkW W h).st).trans rfl
        have hs1 : ∀ W, TgS w2 W → W.cell? ⟨w.heap.size + 1, 1, none⟩ = some (.int .i64 s.charge) := fun W h => (cell_of_row _ _ 1 _ _ _ (hkW W h).st).trans rfl
        have hs2 : ∀ W, TgS w2 W → W.cell? ⟨w.heap.size + 1, 2, none⟩ = some (.bool s.bolted) := fun W h => (cell_of_row _ _ 2 _ _ _ (hkW W h).st).trans rfl
        have ht0 : ∀ W, TgS w2 W → W.cell? ⟨w.heap.size + 1 + 1, 0, none⟩ = some (.int .i64 t.order) := fun W h => (cell_of_row _ _ 0 _ _ _ (hkW W h).step).trans rfl
        have ht1 : ∀ W, TgS w2 W → W.cell? ⟨w.heap.size + 1 + 1, 1, none⟩ = some (.bool t.power) := fun W h => (cell_of_row _ _ 1 _ _ _ (hkW W h).step).trans rfl
        have ht2 : ∀ W, TgS w2 W → W.cell? ⟨w.heap.size + 1 + 1, 2, none⟩ = some (.int .i64 t.outer) := fun W h => (cell_of_row _ _ 2 _ _ _ (hkW W h).step).trans rfl
        have ht3 : ∀ W, TgS w2 W → W.cell? ⟨w.heap.size + 1 + 1, 3, none⟩ = some (.int .i64 t.inner) := fun W h => (cell_of_row _ _ 3 _ _ _ (hkW W h).step).trans rfl
        have HkW := Lib.hid hkW
        have HkO := Lib.hid hkO
        have hz5 := B2.out.size
        clear hkW hkO
        go_region_held3 (fun w' => TgS w2 w')
          (first
            | with_reducible exact tB
            | with_reducible exact tA
            | with_reducible assumption
            | ((repeat (first | (with_reducible exact T0) | (with_reducible refine TgS.drew ?_) | (with_reducible refine TgS.alloc ?_ _) | (with_reducible refine TgS.set ?_ (by omega) _) | (with_reducible exact tB) | (with_reducible exact tA) | (with_reducible assumption))); done))
          (first
            | (go_at_call 90; refine (rbolted_any s t _).mono ?_; rintro e w' ⟨rfl, hbA⟩; have tA := TgS.call (by assumption) hbA; have ssA := tA.below.size; have szA := hbA.size; have hcA := below_cellR hbA; have hfA := below_frozenR hbA; have hlA := below_ltR hbA; (try simp only [World.size_alloc, drew_size] at szA hcA hfA hlA))
            | (go_at_call 89; refine (Hst.out _ (HkO.out _ (by assumption))).mono ?_; rintro e w' ⟨rfl, hbB⟩; have tB := TgS.call (by assumption) hbB; have ssB := tB.below.size; have szB := hbB.size; have hcB := below_cellR hbB; have hfB := below_frozenR hbB; have hlB := below_ltR hbB; (try simp only [World.size_alloc, drew_size] at szB hcB hfB hlB); have hlC := fun (b : Nat) hb => hlB b (Nat.lt_of_lt_of_le (hlA b hb) (by omega)); (first | have hcC := fun (b o : Nat) hb => (hcB b o (hlA b hb)).trans (hcA b o hb) | have hcC := fun (b o : Nat) hb => (hcB b o (Nat.lt_succ_of_lt (hlA b hb))).trans ((World.cell?_alloc_lt _ _ _ (hlA b hb)).trans (hcA b o hb)) | skip); (first | have hfC := fun (b o : Nat) hb => (hfB b o (hlA b hb)).trans (hfA b o hb) | have hfC := fun (b o : Nat) hb => (hfB b o (Nat.lt_succ_of_lt (hlA b hb))).trans ((World.frozen?_alloc_past _ _ _ (hlA b hb)).trans (hfA b o hb)) | skip)))
        all_goals
          have htop : Below w2.heap.size w2 _ := TgS.below (by assumption)
          have Htop := Lib.hid htop
          clear htop
          go_wp2_with fail
          go_meet
          refine ⟨_, _, rfl, rfl, ?_, ?_, ?_, ?_, Htop.out, ?_⟩
        all_goals first
          | omega
          | (simp; done)
          | (simp; omega)
          | (simp [go_sem, World.setCell]; omega)
          | ((with_reducible apply ends1); (focus (repeat (first | ((with_reducible refine blk_new ?_); simp; done) | ((with_reducible refine blk_new ?_); simp [World.setCell]; done) | (with_reducible refine blk_drew ?_) | (with_reducible refine blk_old ?_) | (with_reducible apply blk_set3) | (with_reducible refine blk_set_other (by first | omega | (simp; omega)) ?_) | (with_reducible refine blk_below hbB ?_) | (with_reducible refine blk_below hbA ?_)))); (focus (repeat (first | ((with_reducible refine blk_new ?_); simp; done) | ((with_reducible refine blk_new ?_); simp [World.setCell]; done) | (with_reducible refine blk_drew ?_) | (with_reducible refine blk_old ?_) | (with_reducible apply blk_set3) | (with_reducible refine blk_set_other (by first | omega | (simp; omega)) ?_) | (with_reducible refine blk_below hbB ?_) | (with_reducible refine blk_below hbA ?_)))); (focus (first | omega | (simp; done) | (simp; omega))))
          | ((with_reducible apply ends2); (focus (repeat (first | ((with_reducible refine blk_new ?_); simp; done) | ((with_reducible refine blk_new ?_); simp [World.setCell]; done) | (with_reducible refine blk_drew ?_) | (with_reducible refine blk_old ?_) | (with_reducible apply blk_set3) | (with_reducible refine blk_set_other (by first | omega | (simp; omega)) ?_) | (with_reducible refine blk_below hbB ?_) | (with_reducible refine blk_below hbA ?_)))); (focus (repeat (first | ((with_reducible refine blk_new ?_); simp; done) | ((with_reducible refine blk_new ?_); simp [World.setCell]; done) | (with_reducible refine blk_drew ?_) | (with_reducible refine blk_old ?_) | (with_reducible apply blk_set3) | (with_reducible refine blk_set_other (by first | omega | (simp; omega)) ?_) | (with_reducible refine blk_below hbB ?_) | (with_reducible refine blk_below hbA ?_)))); (focus (first | omega | (simp; done) | (simp; omega))))
          | ((with_reducible apply And.intro); (focus ((with_reducible apply cells3); (focus (repeat (first | ((with_reducible refine blk_new ?_); simp; done) | ((with_reducible refine blk_new ?_); simp [World.setCell]; done) | (with_reducible refine blk_drew ?_) | (with_reducible refine blk_old ?_) | (with_reducible apply blk_set3) | (with_reducible refine blk_set_other (by first | omega | (simp; omega)) ?_) | (with_reducible refine blk_below hbB ?_) | (with_reducible refine blk_below hbA ?_)))))); (focus ((with_reducible apply cells3); (focus (repeat (first | ((with_reducible refine blk_new ?_); simp; done) | ((with_reducible refine blk_new ?_); simp [World.setCell]; done) | (with_reducible refine blk_drew ?_) | (with_reducible refine blk_old ?_) | (with_reducible apply blk_set3) | (with_reducible refine blk_set_other (by first | omega | (simp; omega)) ?_) | (with_reducible refine blk_below hbB ?_) | (with_reducible refine blk_below hbA ?_)))))))
      case rest =>
        obtain ⟨P, Q, rfl, rfl, hP, hQ, hPl, hQl, hbx, ⟨p0, p1, p2⟩, q0, q1, q2⟩ := hcut
        have B3 := B2.out.call hbx
        have HB3 := Lib.hid B3.below
        have hsz := B3.size
        have a0 := (cell_of_row _ _ 0 _ _ _ B3.r1).trans rfl
        have a1 := (cell_of_row _ _ 1 _ _ _ B3.r1).trans rfl
        have a2 := (cell_of_row _ _ 2 _ _ _ B3.r1).trans rfl
        have af0 := frozen_of_row _ _ 0 _ _ B3.r1
        have af1 := frozen_of_row _ _ 1 _ _ B3.r1
        have af2 := frozen_of_row _ _ 2 _ _ B3.r1
        have b0 := (cell_of_row _ _ 0 _ _ _ B3.r2).trans rfl
        have b1 := (cell_of_row _ _ 1 _ _ _ B3.r2).trans rfl
        have b2 := (cell_of_row _ _ 2 _ _ _ B3.r2).trans rfl
        have bf0 := frozen_of_row _ _ 0 _ _ B3.r2
        have bf1 := frozen_of_row _ _ 1 _ _ B3.r2
        have bf2 := frozen_of_row _ _ 2 _ _ B3.r2
        have z2 := B2.out.size
        have n1 : ¬ w.heap.size + 1 + 1 + 1 = P := by omega
        have n2 : ¬ w.heap.size + 1 + 1 + 1 = Q := by omega
        have n3 : ¬ w.heap.size + 1 + 1 + 1 + 1 = P := by omega
        have n4 : ¬ w.heap.size + 1 + 1 + 1 + 1 = Q := by omega
        have m1 : ¬ P = w.heap.size + 1 + 1 + 1 := by omega
        have m2 : ¬ Q = w.heap.size + 1 + 1 + 1 := by omega
        have m3 : ¬ P = w.heap.size + 1 + 1 + 1 + 1 := by omega
        have m4 : ¬ Q = w.heap.size + 1 + 1 + 1 + 1 := by omega
        clear B3 hbx hP hQ
        go_wp2
        go_region
        all_goals
          go_wp2
          refine bodyPost_ret (v := .tuple #[x.val, y.val, .int .i64 0]) (by simp [results, Try.results40, go_sem, *]) rfl ⟨rfl, ?_⟩
          repeat (first | (with_reducible exact HB3.out) | (with_reducible refine Below.drew ?_) | (with_reducible refine balloc ?_) | (with_reducible refine bset ?_ (by omega)))
    · have hr : stepZ g s t = (⟨0, 0, false⟩, ⟨0, 0, 0⟩, oddE g s t) := by rw [stepZ, if_neg (by simp [hc]), if_pos ho]
      rw [hr]
      have Hc := Lib.hid hc
      have h1 : (oddE g s t != 0) = true := by simp [ho]
      clear hr hc ho
      go_enter Try.func40, Try.ntmps40
      go_wp2_with (first
        | (with_reducible show wpList _ _ _ (({ dst := _, op := .load 33 (.tmp 3), type := _, pos := _, after := _, guard := none } : Oper) :: _) _ _; refine wpList_load_gate Hbx.out.gate rfl (.tmp 3) rfl rfl ?_)
        | (go_at_call 23; refine (rcheck_any g _ Hok.out).mono ?_; rintro e w1 ⟨rfl, hb1⟩; have B1 := Lib.hid (Hbx.out.call hb1); rw [Hc.out]; clear hb1)
        | (with_reducible show wpList _ _ _ (({ dst := _, op := .load 33 (.tmp 3), type := _, pos := _, after := _, guard := none } : Oper) :: _) _ _; refine wpList_load_gate B1.out.gate rfl (.tmp 3) rfl rfl ?_)
        | (with_reducible show wpList _ _ _ (({ dst := _, op := .load 43 (.tmp 4), type := _, pos := _, after := _, guard := none } : Oper) :: _) _ _; refine wpList_load_st B1.out.st rfl (.tmp 4) rfl rfl ?_)
        | (with_reducible show wpList _ _ _ (({ dst := _, op := .load 45 (.tmp 5), type := _, pos := _, after := _, guard := none } : Oper) :: _) _ _; refine wpList_load_stp B1.out.step rfl (.tmp 5) rfl rfl ?_)
        | (go_at_call 79; refine (rvalid_any g s t _).mono ?_; rintro e w2 ⟨rfl, hb2⟩; have B2 := B1.out.call hb2; have HB2 := Lib.hid B2.below; have a0 := (cell_of_row _ _ 0 _ _ _ B2.r1).trans rfl; have a1 := (cell_of_row _ _ 1 _ _ _ B2.r1).trans rfl; have a2 := (cell_of_row _ _ 2 _ _ _ B2.r1).trans rfl; have af0 := frozen_of_row _ _ 0 _ _ B2.r1; have af1 := frozen_of_row _ _ 1 _ _ B2.r1; have af2 := frozen_of_row _ _ 2 _ _ B2.r1; have b0 := (cell_of_row _ _ 0 _ _ _ B2.r2).trans rfl; have b1 := (cell_of_row _ _ 1 _ _ _ B2.r2).trans rfl; have b2 := (cell_of_row _ _ 2 _ _ _ B2.r2).trans rfl; have bf0 := frozen_of_row _ _ 0 _ _ B2.r2; have bf1 := frozen_of_row _ _ 1 _ _ B2.r2; have bf2 := frozen_of_row _ _ 2 _ _ B2.r2; clear hb2 B2))
      refine bodyPost_ret (v := .tuple #[(St.mk 0 0 false).val, (Mvd.mk 0 0 0).val, .int .i64 (oddE g s t)]) (by simp [results, Try.results40, go_sem, *]) rfl ⟨rfl, ?_⟩
      repeat (first | (with_reducible exact HB2.out) | (with_reducible refine Below.drew ?_) | (with_reducible refine balloc ?_) | (with_reducible refine bset ?_ (by omega)))
  · have hr : stepZ g s t = (⟨0, 0, false⟩, ⟨0, 0, 0⟩, (checkZ g).2.2) := by rw [stepZ, if_pos hc]
    rw [hr]
    have h1 : ((checkZ g).2.2 != 0) = true := by simp [hc]
    have h2 : ((checkZ g).2.2 == 0) = false := by simp [hc]
    clear hr hc
    go_enter Try.func40, Try.ntmps40
    go_wp2_with (first
      | (with_reducible show wpList _ _ _ (({ dst := _, op := .load 33 (.tmp 3), type := _, pos := _, after := _, guard := none } : Oper) :: _) _ _; refine wpList_load_gate Hbx.out.gate rfl (.tmp 3) rfl rfl ?_)
      | (go_at_call 23; refine (rcheck_any g _ Hok.out).mono ?_; rintro e w1 ⟨rfl, hb1⟩; have B2 := Hbx.out.call hb1; have HB2 := Lib.hid B2.below; have a0 := (cell_of_row _ _ 0 _ _ _ B2.r1).trans rfl; have a1 := (cell_of_row _ _ 1 _ _ _ B2.r1).trans rfl; have a2 := (cell_of_row _ _ 2 _ _ _ B2.r1).trans rfl; have af0 := frozen_of_row _ _ 0 _ _ B2.r1; have af1 := frozen_of_row _ _ 1 _ _ B2.r1; have af2 := frozen_of_row _ _ 2 _ _ B2.r1; have b0 := (cell_of_row _ _ 0 _ _ _ B2.r2).trans rfl; have b1 := (cell_of_row _ _ 1 _ _ _ B2.r2).trans rfl; have b2 := (cell_of_row _ _ 2 _ _ _ B2.r2).trans rfl; have bf0 := frozen_of_row _ _ 0 _ _ B2.r2; have bf1 := frozen_of_row _ _ 1 _ _ B2.r2; have bf2 := frozen_of_row _ _ 2 _ _ B2.r2; clear hb1 B2))
    refine bodyPost_ret (v := .tuple #[(St.mk 0 0 false).val, (Mvd.mk 0 0 0).val, .int .i64 (checkZ g).2.2]) (by simp [results, Try.results40, go_sem, *]) rfl ⟨rfl, ?_⟩
    repeat (first | (with_reducible exact HB2.out) | (with_reducible refine Below.drew ?_) | (with_reducible refine balloc ?_) | (with_reducible refine bset ?_ (by omega)))
end Go.Proofs.Ythalanpmfhhhnaa
