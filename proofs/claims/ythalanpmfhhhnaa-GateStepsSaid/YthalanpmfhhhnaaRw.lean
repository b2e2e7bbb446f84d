/-
  The reference's Run: steps one after the other.
-/
import Derived.Test.YthalanpmfhhhnaaRt
import Derived.Test.YthalanpmfhhhnaaRu
namespace Go.Proofs.Ythalanpmfhhhnaa
open Go.RowKit
set_option linter.unusedSimpArgs false
set_option linter.unusedVariables false
attribute [local go_sem ↓] loadAt_gate
attribute [local go_sem] run_gateLoad

set_option maxRecDepth 100000 in
set_option maxHeartbeats 8000000 in
theorem rrun_ok (g : GateV) (s : St) (tA : Option Addr) (tC : Nat) (l : List Stp) (w : World) (hok : g.Ok w) (hms : StpsAt w tA l) (hc : (checkZ g).2.2 = 0) (hlen : l.length ≤ 2000) (hl : lostE g s = 0) :
    Calls Try.prog 42 #[g.val, s.val, .slice tA l.length tC] w fun e w' => ∃ v, e = .returned (.tuple #[v, .int .i64 (runE g s l)]) ∧
      (runE g s l = 0 → w'.ownsRow w.heap.size 43 3 v l.length (stRow (runF g s l) l.length)) ∧ (runE g s l ≠ 0 → v = .slice none 0 0) ∧ Below w.heap.size w w' := by
  have hru := RuW.new w g s
  have Hru := Lib.hid hru
  have Hok := Lib.hid (hok.below hru.below (Nat.le_refl _))
  have Hok0 := Lib.hid hok
  have Hms := Lib.hid hms
  have Hs := Lib.hid (lostE_0 hl)
  have Hg := Lib.hid (check_good hc)
  have Hc := Lib.hid hc
  have Hl := Lib.hid hl
  have hr : runE g s l = nzFirst (runOdd g s l) l.length 0 := by rw [runE, if_neg (by simp [hc]), if_neg (by omega), if_neg (by simp [hl])]
  obtain ⟨r, hre⟩ : ∃ r, r = runE g s l := ⟨_, rfl⟩
  rw [← hre] at hr ⊢
  have Hr := Lib.hid hr
  have hgt : decide ((l.length : Int) > 2000) = false := by simp; omega
  clear hru hok hms hl hc hr hre
  go_enter Try.func42, Try.ntmps42
  go_wp2_with (first
    | (with_reducible show wpList _ _ _ (({ dst := _, op := .load 33 (.tmp 3), type := _, pos := _, after := _, guard := none } : Oper) :: _) _ _; refine wpList_load_gate Hru.out.gate rfl (.tmp 3) rfl rfl ?_)
    | (go_at_call 23; refine (rcheck_any g _ Hok.out).mono ?_; rintro e w1 ⟨rfl, hb1⟩; rw [Hc.out]; have H1 := Lib.hid (Hru.out.call hb1); clear hb1)
    | (with_reducible show wpList _ _ _ (({ dst := _, op := .load 33 (.tmp 3), type := _, pos := _, after := _, guard := none } : Oper) :: _) _ _; refine wpList_load_gate H1.out.gate rfl (.tmp 3) rfl rfl ?_)
    | (with_reducible show wpList _ _ _ (({ dst := _, op := .load 43 (.tmp 4), type := _, pos := _, after := _, guard := none } : Oper) :: _) _ _; refine wpList_load_st H1.out.st rfl (.tmp 4) rfl rfl ?_)
    | (go_at_call 92; refine (rstate_any g s _).mono ?_; rintro e w2 ⟨rfl, hb2⟩; rw [Hl.out]; have H2 := Lib.hid (H1.out.call hb2); clear hb2))
  go_loopw [10, 11, 12] (fun z v j wr => (∃ k : Nat, k ≤ l.length ∧ z = .int .i64 0 ∧ j = .int .i64 k ∧ RuW w g (aft g s l k) wr ∧ wr.ownsRow (w.heap.size + 2) 43 3 v k (stRow (runF g s l) k) ∧ (aft g s l k).Ok g ∧ nzFirst (runOdd g s l) (l.length - k) k = r) ∨
      (∃ k : Nat, (k ≤ l.length ∧ r ≠ 0) ∧ z = .int .i64 r ∧ j = .int .i64 k ∧ Below w.heap.size w wr)) (fun _ _ j _ => l.length - (intOf j).toNat)
  case atStart => exact .inl ⟨0, Nat.zero_le _, rfl, rfl, H2.out, World.ownsRow_nil _ _ _ _, Hs.out, Hr.out.symm⟩
  case round =>
    rcases hrel with ⟨k, hk, rfl, rfl, hru, hown, hsk, hix⟩ | ⟨k, ⟨hk, hr0⟩, rfl, rfl, hbl⟩
    · have Hru2 := Lib.hid hru
      have Hown := Lib.hid hown
      have Hsk := Lib.hid hsk
      have Hix := Lib.hid hix
      clear hru hown hsk hix
      by_cases hlt : k < l.length
      · have hoe := runOdd_eq (g := g) (s := s) hlt
        have hsu := aft_succ (g := g) (s := s) hlt
        obtain ⟨tb, tof, hta, htb, htl⟩ : ∃ b off, tA = some ⟨b, off, none⟩ ∧ _ := by
          rcases Hms.out.2 with h | h
          · exact absurd hlt (by rw [h]; simp)
          · exact h
        subst hta
        have Htl := Lib.hid (htl k hlt)
        have Hoe := Lib.hid hoe
        have Hsu := Lib.hid hsu
        clear htl hoe hsu
        revert Hoe Hsu Htl
        generalize l[k] = t
        intro Htl Hoe Hsu
        revert Hru2 Hsk Hoe Hsu
        generalize aft g s l k = x
        intro Hru2 Hsk Hoe Hsu
        have j1 : (0 : Int) ≤ (k : Int) := by omega
        have j2 : (k : Int) < (l.length : Int) := by omega
        have T0 := TgS.new wr
        have hkW : ∀ W, TgS wr W → RuW w g x W := fun W h => Hru2.out.call h.below
        have hg0 : ∀ W, TgS wr W → IsGate W w.heap.size := fun W h => ⟨g, (hkW W h).gate⟩
        have hg1 : ∀ W, TgS wr W → rowOf W w.heap.size = g.val := fun W h => rowOf_gate (hkW W h).gate
        have hs0 : ∀ W, TgS wr W → W.cell? ⟨w.heap.size + 1, 0, none⟩ = some (.int .i64 x.pos) := fun W h => (cell_of_row _ _ 0 _ _ _ (hkW W h).st).trans rfl
        have hs1 : ∀ W, TgS wr W → W.cell? ⟨w.heap.size + 1, 1, none⟩ = some (.int .i64 x.charge) := fun W h => (cell_of_row _ _ 1 _ _ _ (hkW W h).st).trans rfl
        have hs2 : ∀ W, TgS wr W → W.cell? ⟨w.heap.size + 1, 2, none⟩ = some (.bool x.bolted) := fun W h => (cell_of_row _ _ 2 _ _ _ (hkW W h).st).trans rfl
        have ht0 : ∀ W, TgS wr W → W.cell? ⟨tb, tof + k * 4, none⟩ = some (.int .i64 t.order) := fun W h => ((hkW W h).below.cell (p := ⟨tb, tof + k * 4, none⟩) htb).trans Htl.out.1
        have ht1 : ∀ W, TgS wr W → W.cell? ⟨tb, tof + k * 4 + 1, none⟩ = some (.bool t.power) := fun W h => ((hkW W h).below.cell (p := ⟨tb, tof + k * 4 + 1, none⟩) htb).trans Htl.out.2.1
        have ht2 : ∀ W, TgS wr W → W.cell? ⟨tb, tof + k * 4 + 2, none⟩ = some (.int .i64 t.outer) := fun W h => ((hkW W h).below.cell (p := ⟨tb, tof + k * 4 + 2, none⟩) htb).trans Htl.out.2.2.1
        have ht3 : ∀ W, TgS wr W → W.cell? ⟨tb, tof + k * 4 + 3, none⟩ = some (.int .i64 t.inner) := fun W h => ((hkW W h).below.cell (p := ⟨tb, tof + k * 4 + 3, none⟩) htb).trans Htl.out.2.2.2
        have HkW := Lib.hid hkW
        clear hkW
        go_wp2
        go_region_held3 (fun w' => TgS wr w')
          (first
            | with_reducible exact tA
            | with_reducible assumption
            | ((repeat (first | (with_reducible exact T0) | (with_reducible refine TgS.drew ?_) | (with_reducible exact tA) | (with_reducible assumption))); done))
          (first
            | (go_at_call 79; refine (rvalid_any g x t _).mono ?_; rintro e w' ⟨rfl, hbA⟩; have tA := TgS.call (by assumption) hbA))
        have HO3 := Lib.hid (row_below Hown.out tA.below)
        have T3 := Lib.hid tA
        by_cases ho : oddE g x t = 0
        · obtain ⟨_, hlv, hor⟩ := oddE_0 ho
          obtain ⟨y, m, hd⟩ : ∃ y m, aloneZ g x t = (y, m) := ⟨_, _, rfl⟩
          have hyk : y.Ok g := by
            have h := aloneZ_ok (t := t) Hg.out Hsk.out
            rw [hd] at h
            exact h
          have hst : ∀ W, TgS wr W → Calls Try.prog 89 #[g.val, x.val, t.val, .int .i64 (boltE x t)] W fun e w' => e = .returned (.tuple #[y.val, m.val]) ∧ Below W.heap.size W w' := fun W hW => by
            have h := rstepped_any g x t (boltE x t) W Hg.out (Hok0.out.below (HkW.out W hW).below (Nat.le_refl _)).own Hsk.out hlv (by omega)
            have e : doZ g x t (boltE x t) = (y, m) := hd
            rw [e] at h
            exact h
          have hstep := nzFirst_step (f := runOdd g s l) (n := l.length) hlt (by rw [Hoe.out]; exact ho)
          rw [Hix.out] at hstep
          have Hst := Lib.hid hst
          have Hstep := Lib.hid hstep
          have Hyk := Lib.hid hyk
          have Hd := Lib.hid hd
          have hf0 : ∀ W, TgS wr W → W.frozen? ⟨w.heap.size + 1, 0, none⟩ = false := fun W h => frozen_of_row _ _ 0 _ _ (HkW.out W h).st
          have hf1 : ∀ W, TgS wr W → W.frozen? ⟨w.heap.size + 1, 1, none⟩ = false := fun W h => frozen_of_row _ _ 1 _ _ (HkW.out W h).st
          have hf2 : ∀ W, TgS wr W → W.frozen? ⟨w.heap.size + 1, 2, none⟩ = false := fun W h => frozen_of_row _ _ 2 _ _ (HkW.out W h).st
          obtain ⟨i1, hi1, hz1, hs1', hb1⟩ := info_parts A.stInfo
          rw [ho]
          clear ho hlv hor hst hstep hyk hd tA hbA
          go_wp2
          refine wp_region_M (fun w' => TgS wr w') 16 (by kernel_rfl) T3.out.drew (fun hHeld => ?_)
          refine anyM_take (i := 0) (v := g.val) rfl (by kernel_rfl) (by kernel_rfl) (by kernel_rfl) (by kernel_rfl) (fun _ _ _ h => h) (Or.inl ⟨by rfl, fun w hSw => by (try dsimp only at hSw); go_simp⟩) hHeld ?_; try simp only [Act.put, List.setIfInBounds_toArray, List.set_cons_zero, List.set_cons_succ]
          refine anyM_take (i := 1) (v := x.val) rfl (by kernel_rfl) (by kernel_rfl) (by kernel_rfl) (by kernel_rfl) (fun _ _ _ h => h) (Or.inl ⟨by rfl, fun w hSw => by (try dsimp only at hSw); go_simp⟩) hHeld ?_; try simp only [Act.put, List.setIfInBounds_toArray, List.set_cons_zero, List.set_cons_succ]
          refine anyM_takeY (i := 2) (v := .slice (some ⟨tb, tof, none⟩) l.length tC) rfl (by kernel_rfl) (by kernel_rfl) (by kernel_rfl) (by kernel_rfl) (fun _ _ _ h => h) (Or.inl ⟨by rfl, fun w => by go_simp⟩) hHeld ?_; try simp only [Act.put, List.setIfInBounds_toArray, List.set_cons_zero, List.set_cons_succ]
          refine anyM_takeY (i := 3) (v := .int .i64 k) rfl (by kernel_rfl) (by kernel_rfl) (by kernel_rfl) (by kernel_rfl) (fun _ _ _ h => h) (Or.inl ⟨by rfl, fun w => by go_simp⟩) hHeld ?_; try simp only [Act.put, List.setIfInBounds_toArray, List.set_cons_zero, List.set_cons_succ]
          refine anyM_takeY (i := 4) (v := .pointer (some ⟨tb, tof + k * 4, none⟩)) rfl (by kernel_rfl) (by kernel_rfl) (by kernel_rfl) (by kernel_rfl) (fun _ _ _ h => h) (Or.inl ⟨by rfl, fun w => by go_simp⟩) hHeld ?_; try simp only [Act.put, List.setIfInBounds_toArray, List.set_cons_zero, List.set_cons_succ]
          refine anyM_take (i := 5) (v := t.val) rfl (by kernel_rfl) (by kernel_rfl) (by kernel_rfl) (by kernel_rfl) (fun _ _ _ h => h) (Or.inl ⟨by rfl, fun w hSw => by (try dsimp only at hSw); go_simp⟩) hHeld ?_; try simp only [Act.put, List.setIfInBounds_toArray, List.set_cons_zero, List.set_cons_succ]
          refine anyM_take (i := 6) (v := x.val) rfl (by kernel_rfl) (by kernel_rfl) (by kernel_rfl) (by kernel_rfl) (fun _ _ _ h => h) (Or.inl ⟨by rfl, fun w hSw => by (try dsimp only at hSw); go_simp⟩) hHeld ?_; try simp only [Act.put, List.setIfInBounds_toArray, List.set_cons_zero, List.set_cons_succ]
          refine anyM_takeY (i := 7) (v := .slice (some ⟨tb, tof, none⟩) l.length tC) rfl (by kernel_rfl) (by kernel_rfl) (by kernel_rfl) (by kernel_rfl) (fun _ _ _ h => h) (Or.inl ⟨by rfl, fun w => by go_simp⟩) hHeld ?_; try simp only [Act.put, List.setIfInBounds_toArray, List.set_cons_zero, List.set_cons_succ]
          refine anyM_takeY (i := 8) (v := .int .i64 k) rfl (by kernel_rfl) (by kernel_rfl) (by kernel_rfl) (by kernel_rfl) (fun _ _ _ h => h) (Or.inl ⟨by rfl, fun w => by go_simp⟩) hHeld ?_; try simp only [Act.put, List.setIfInBounds_toArray, List.set_cons_zero, List.set_cons_succ]
          refine anyM_takeY (i := 9) (v := .pointer (some ⟨tb, tof + k * 4, none⟩)) rfl (by kernel_rfl) (by kernel_rfl) (by kernel_rfl) (by kernel_rfl) (fun _ _ _ h => h) (Or.inl ⟨by rfl, fun w => by go_simp⟩) hHeld ?_; try simp only [Act.put, List.setIfInBounds_toArray, List.set_cons_zero, List.set_cons_succ]
          refine anyM_take (i := 10) (v := t.val) rfl (by kernel_rfl) (by kernel_rfl) (by kernel_rfl) (by kernel_rfl) (fun _ _ _ h => h) (Or.inl ⟨by rfl, fun w hSw => by (try dsimp only at hSw); go_simp⟩) hHeld ?_; try simp only [Act.put, List.setIfInBounds_toArray, List.set_cons_zero, List.set_cons_succ]
          refine anyM_one (i := 11) (by kernel_rfl) rfl (fun K hK => ?_); go_simp; go_at_call 90; refine (rbolted_any x t _).mono ?_; rintro e w4 ⟨rfl, hbA⟩; refine hK.out _ _ (.inr (TgS.call hHeld hbA)) (fun hS => ?_)
          have HO4 := Lib.hid (row_below (HO3.out.mono (Nat.le_refl _)) ((Below.refl _ _).drew.trans hbA))
          clear hK K hHeld hbA
          have hHeld := hS.resolve_left (by simp)
          clear hS
          try simp only [Act.put, List.setIfInBounds_toArray, List.set_cons_zero, List.set_cons_succ]
          refine anyM_one (i := 12) (by kernel_rfl) rfl (fun K hK => ?_); go_simp; go_at_call 89; refine (Hst.out _ hHeld).mono ?_; rintro e w5 ⟨rfl, hbB⟩; refine hK.out _ _ (.inr (TgS.call hHeld hbB)) (fun hS => ?_)
          have HO5 := Lib.hid (row_below HO4.out hbB)
          clear hK K hHeld hbB
          have hHeld := hS.resolve_left (by simp)
          clear hS
          try simp only [Act.put, List.setIfInBounds_toArray, List.set_cons_zero, List.set_cons_succ]
          refine anyM_takeY (i := 13) (v := .tuple #[y.val, m.val]) rfl (by kernel_rfl) (by kernel_rfl) (by kernel_rfl) (by kernel_rfl) (fun _ _ _ h => h) (Or.inl ⟨by rfl, fun w => by go_simp⟩) hHeld ?_; try simp only [Act.put, List.setIfInBounds_toArray, List.set_cons_zero, List.set_cons_succ]
          refine anyM_takeY (i := 14) (v := y.val) rfl (by kernel_rfl) (by kernel_rfl) (by kernel_rfl) (by kernel_rfl) (fun _ _ _ h => h) (Or.inl ⟨by rfl, fun w => by go_simp⟩) hHeld ?_; try simp only [Act.put, List.setIfInBounds_toArray, List.set_cons_zero, List.set_cons_succ]
          refine anyM_takeY (i := 15) (v := m.val) rfl (by kernel_rfl) (by kernel_rfl) (by kernel_rfl) (by kernel_rfl) (fun _ _ _ h => h) (Or.inl ⟨by rfl, fun w => by go_simp⟩) hHeld ?_; try simp only [Act.put, List.setIfInBounds_toArray, List.set_cons_zero, List.set_cons_succ]
          have HT := Lib.hid (HkW.out _ hHeld)
          refine anyM_one (i := 16) (by kernel_rfl) rfl (fun K hK => ?_); go_simp; refine hK.out _ _ (.inl (by kernel_rfl)) (fun hS => ?_)
          clear hK K hS hHeld
          try simp only [Act.put, List.setIfInBounds_toArray, List.set_cons_zero, List.set_cons_succ]
          refine anyM_done (by kernel_rfl) ?_ _
          clear hg0 hg1 hs0 hs1 hs2 ht0 ht1 ht2 ht3 hf0 hf1 hf2 T0 Hst HkW
          have hru5 := HT.out.store y
          have hlt5 := HT.out.lt
          have ho5 := row_blk (W := (((w5.setCell ⟨w.heap.size + 1, 0, none⟩ (.int .i64 y.pos)).setCell ⟨w.heap.size + 1, 1, none⟩ (.int .i64 y.charge)).setCell ⟨w.heap.size + 1, 2, none⟩ (.bool y.bolted))) HO5.out (fun b hb _ => ((heap_setCell_other _ ⟨w.heap.size + 1, 2, none⟩ b _ (by show b ≠ w.heap.size + 1; omega)).trans (heap_setCell_other _ ⟨w.heap.size + 1, 1, none⟩ b _ (by show b ≠ w.heap.size + 1; omega))).trans (heap_setCell_other _ ⟨w.heap.size + 1, 0, none⟩ b _ (by show b ≠ w.heap.size + 1; omega)))
          have hz5 : (((w5.setCell ⟨w.heap.size + 1, 0, none⟩ (.int .i64 y.pos)).setCell ⟨w.heap.size + 1, 1, none⟩ (.int .i64 y.charge)).setCell ⟨w.heap.size + 1, 2, none⟩ (.bool y.bolted)).heap.size = w5.heap.size := by simp [World.setCell]
          obtain ⟨V, hV⟩ : ∃ V, V = (((w5.setCell ⟨w.heap.size + 1, 0, none⟩ (.int .i64 y.pos)).setCell ⟨w.heap.size + 1, 1, none⟩ (.int .i64 y.charge)).setCell ⟨w.heap.size + 1, 2, none⟩ (.bool y.bolted)) := ⟨_, rfl⟩
          rw [← hV] at hru5 ho5 hz5 ⊢
          have HRV := Lib.hid hru5
          have HOV := Lib.hid ho5
          have hzV : w.heap.size + 1 < V.heap.size := by omega
          clear hV hru5 ho5 hz5 hlt5
          go_wp2_with (first
            | (with_reducible show wpList _ _ _ (({ dst := _, op := .load 43 (.tmp 4), type := _, pos := _, after := _, guard := none } : Oper) :: _) _ _; refine wpList_load_st HRV.out.st rfl (.tmp 4) rfl rfl ?_)
            | (at_builtin; refine wpList_append_lies _ rfl (.tmp 66) (.tmp 68) 36 rfl (w.heap.size + 2) 43 i1 _ 3 24 Try.underlying36 hi1 hz1 hs1' hb1 rfl (by decide) u11 k (stRow (runF g s l) k) rfl (HOV.out.alloc _) ⟨_, 0, none⟩ 1 1 y.cells.toList rfl rfl (World.news_of_block (cs := y.cells) (t := 43) (fr := (0, 0)) (blk_new rfl)) (one_st y) (by decide) (by unfold maxLen; omega) (by omega) (by simp; omega) _ rfl ?_; intro gX cX wX ownX grX atX ltX; have HoX := Lib.hid ownX; have HgX := Lib.hid grX; clear ownX grX atX ltX))
          have hay : aft g s l (k + 1) = y := by rw [Hsu.out, Hd.out]
          have hrow : stRow (runF g s l) (k + 1) = stRow (runF g s l) k ++ y.cells.toList := by
            rw [stRow_succ]
            show _ ++ (aft g s l (k + 1)).cells.toList = _
            rw [hay]
          have hRX := (HRV.out.alloc (.cells y.cells 43)).grown HgX.out (fun b hb => (Hown.out.lt b hb).1)
          have HRX := Lib.hid hRX
          have Hrow := Lib.hid hrow
          have Hay := Lib.hid hay
          clear hRX hrow hay
          go_roundw
          case rel => exact .inl ⟨k + 1, by omega, rfl, by go_num, by rw [Hay.out]; exact HRX.out, by rw [Hrow.out]; exact HoX.out, by rw [Hay.out]; exact Hyk.out, Hstep.out.symm⟩
          case measure => simp [intOf]; omega
        · have hhit := nzFirst_hit (f := runOdd g s l) (n := l.length) hlt (by rw [Hoe.out]; exact ho)
          rw [Hix.out, Hoe.out] at hhit
          have Hhit := Lib.hid hhit
          have hne : (oddE g x t == 0) = false := by simp [ho]
          have Hno := Lib.hid ho
          have H3 := Lib.hid (HkW.out _ tA)
          clear hhit ho tA hbA hg0 hg1 hs0 hs1 hs2 ht0 ht1 ht2 ht3 T0
          go_wp2
          go_roundw
          case rel => exact .inr ⟨k + 1, ⟨by omega, by rw [Hhit.out]; exact Hno.out⟩, by rw [Hhit.out], by go_num, H3.out.below⟩
          case measure => simp [intOf]; omega
      · have hke : k = l.length := by omega
        subst hke
        have hz := nzFirst_out (f := runOdd g s l) (n := l.length) (k := l.length) (Nat.le_refl _)
        rw [Hix.out] at hz
        have Hz := Lib.hid hz
        clear hz
        go_wp2
        refine bodyPost_ret (v := .tuple #[u11, .int .i64 r]) (by have hz := Hz.out; simp [results, Try.results42, go_sem, *]) rfl ⟨u11, rfl, fun _ => Hown.out.mono (by omega), fun h => absurd Hz.out h, Hru2.out.below⟩
    · have h1 : (r == 0) = false := by simp [hr0]
      have h2 : (r != 0) = true := by simp [hr0]
      have Hr0 := Lib.hid hr0
      clear hr0
      by_cases hlt : k < l.length
      all_goals
        go_wp2
        go_ret2
        exact ⟨_, rfl, fun h => absurd h Hr0.out, fun _ => rfl, hbl⟩
set_option maxRecDepth 100000 in
set_option maxHeartbeats 2000000 in
theorem rrun_any (g : GateV) (s : St) (tA : Option Addr) (tC : Nat) (l : List Stp) (w : World) (hok : g.Ok w) (hms : StpsAt w tA l) :
    Calls Try.prog 42 #[g.val, s.val, .slice tA l.length tC] w fun e w' => ∃ v, e = .returned (.tuple #[v, .int .i64 (runE g s l)]) ∧
      (runE g s l = 0 → w'.ownsRow w.heap.size 43 3 v l.length (stRow (runF g s l) l.length)) ∧ (runE g s l ≠ 0 → v = .slice none 0 0) ∧ Below w.heap.size w w' := by
  by_cases hgood : (checkZ g).2.2 = 0 ∧ l.length ≤ 2000 ∧ lostE g s = 0
  · exact rrun_ok g s tA tC l w hok hms hgood.1 hgood.2.1 hgood.2.2
  · have hru := RuW.new w g s
    have Hru := Lib.hid hru
    have Hok := Lib.hid (hok.below hru.below (Nat.le_refl _))
    have hsm := hms.1
    unfold maxLen at hsm
    clear hru hok
    by_cases hc : (checkZ g).2.2 = 0
    · have Hc := Lib.hid hc
      by_cases hlen : l.length ≤ 2000
      · have hl : lostE g s ≠ 0 := fun h => hgood ⟨hc, hlen, h⟩
        have hr : runE g s l = lostE g s := by rw [runE, if_neg (by simp [hc]), if_neg (by omega), if_pos hl]
        have Hl := Lib.hid hl
        rw [hr]
        have h1 : (lostE g s != 0) = true := by simp [hl]
        have h2 : (lostE g s == 0) = false := by simp [hl]
        have hgt : decide ((l.length : Int) > 2000) = false := by simp; omega
        clear hms hr hc hl hgood
        rcases Nat.eq_zero_or_pos l.length with hz | hz
        all_goals
          go_enter Try.func42, Try.ntmps42
          go_wp2_with (first
            | (with_reducible show wpList _ _ _ (({ dst := _, op := .load 33 (.tmp 3), type := _, pos := _, after := _, guard := none } : Oper) :: _) _ _; refine wpList_load_gate Hru.out.gate rfl (.tmp 3) rfl rfl ?_)
            | (go_at_call 23; refine (rcheck_any g _ Hok.out).mono ?_; rintro e w1 ⟨rfl, hb1⟩; rw [Hc.out]; have H1 := Lib.hid (Hru.out.call hb1); clear hb1)
            | (with_reducible show wpList _ _ _ (({ dst := _, op := .load 33 (.tmp 3), type := _, pos := _, after := _, guard := none } : Oper) :: _) _ _; refine wpList_load_gate H1.out.gate rfl (.tmp 3) rfl rfl ?_)
            | (with_reducible show wpList _ _ _ (({ dst := _, op := .load 43 (.tmp 4), type := _, pos := _, after := _, guard := none } : Oper) :: _) _ _; refine wpList_load_st H1.out.st rfl (.tmp 4) rfl rfl ?_)
            | (go_at_call 92; refine (rstate_any g s _).mono ?_; rintro e w2 ⟨rfl, hb2⟩; have H2 := Lib.hid (H1.out.call hb2); clear hb2))
          go_loopw [10, 12] (fun z j wr => z = .int .i64 (lostE g s) ∧ j = .int .i64 0 ∧ Below w.heap.size w wr) (fun _ _ _ => 0)
          case atStart => exact ⟨rfl, rfl, H2.out.below⟩
          case round =>
            obtain ⟨rfl, rfl, hbl⟩ := hrel
            go_wp2
            go_ret2
            exact ⟨_, rfl, fun h => absurd h Hl.out, fun _ => rfl, hbl⟩
      · have hr : runE g s l = 3 := by rw [runE, if_neg (by simp [hc]), if_pos (by omega)]
        rw [hr]
        have hgt : decide ((l.length : Int) > 2000) = true := by simp; omega
        have hz : 0 < l.length := by omega
        clear hms hr hc hgood hlen
        go_enter Try.func42, Try.ntmps42
        go_wp2_with (first
          | (with_reducible show wpList _ _ _ (({ dst := _, op := .load 33 (.tmp 3), type := _, pos := _, after := _, guard := none } : Oper) :: _) _ _; refine wpList_load_gate Hru.out.gate rfl (.tmp 3) rfl rfl ?_)
          | (go_at_call 23; refine (rcheck_any g _ Hok.out).mono ?_; rintro e w1 ⟨rfl, hb1⟩; rw [Hc.out]; have H1 := Lib.hid (Hru.out.call hb1); clear hb1))
        go_loopw [10, 12] (fun z j wr => z = .int .i64 (3) ∧ j = .int .i64 0 ∧ Below w.heap.size w wr) (fun _ _ _ => 0)
        case atStart => exact ⟨rfl, rfl, H1.out.below⟩
        case round =>
          obtain ⟨rfl, rfl, hbl⟩ := hrel
          go_wp2
          go_ret2
          exact ⟨_, rfl, fun h => absurd h (by decide), fun _ => rfl, hbl⟩
    · have hr : runE g s l = (checkZ g).2.2 := by rw [runE, if_pos hc]
      rw [hr]
      have h1 : ((checkZ g).2.2 != 0) = true := by simp [hc]
      have h2 : ((checkZ g).2.2 == 0) = false := by simp [hc]
      have Hl := Lib.hid hc
      clear hms hr hgood hc
      rcases Nat.eq_zero_or_pos l.length with hz | hz
      all_goals
        go_enter Try.func42, Try.ntmps42
        go_wp2_with (first
          | (with_reducible show wpList _ _ _ (({ dst := _, op := .load 33 (.tmp 3), type := _, pos := _, after := _, guard := none } : Oper) :: _) _ _; refine wpList_load_gate Hru.out.gate rfl (.tmp 3) rfl rfl ?_)
          | (go_at_call 23; refine (rcheck_any g _ Hok.out).mono ?_; rintro e w1 ⟨rfl, hb1⟩; have H1 := Lib.hid (Hru.out.call hb1); clear hb1))
        go_loopw [10, 12] (fun z j wr => z = .int .i64 ((checkZ g).2.2) ∧ j = .int .i64 0 ∧ Below w.heap.size w wr) (fun _ _ _ => 0)
        case atStart => exact ⟨rfl, rfl, H1.out.below⟩
        case round =>
          obtain ⟨rfl, rfl, hbl⟩ := hrel
          go_wp2
          go_ret2
          exact ⟨_, rfl, fun h => absurd h Hl.out, fun _ => rfl, hbl⟩
end Go.Proofs.Ythalanpmfhhhnaa
