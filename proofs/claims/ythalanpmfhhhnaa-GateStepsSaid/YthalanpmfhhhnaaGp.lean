/-
  The walk of GateSteps: it returns true.
-/
import Derived.Test.YthalanpmfhhhnaaRv
import Derived.Test.YthalanpmfhhhnaaRw
import Derived.Test.YthalanpmfhhhnaaRx
import Derived.Test.YthalanpmfhhhnaaAw
namespace Go.Proofs.Ythalanpmfhhhnaa
open Go.RowKit
set_option linter.unusedSimpArgs false
set_option linter.unusedVariables false
attribute [local go_sem ↓] loadAt_gate
attribute [local go_sem] run_gateLoad

set_option maxRecDepth 100000 in
set_option maxHeartbeats 8000000 in
theorem gsteps_any (g : GateV) (s : St) (tA : Option Addr) (tC : Nat) (l : List Stp) (w : World) (hok : g.Ok w) (hms : StpsAt w tA l) :
    Calls Try.prog 14 #[g.val, s.val, .slice tA l.length tC] w fun e w' => e = .returned (.bool true) ∧ Below w.heap.size w w' := by
  have hb0 := Bk.new2 w (.cells g.cells 33) (.cells s.cells 43)
  have HB := Lib.hid hb0
  have Hok := Lib.hid (fun W (h : Below w.heap.size w W) => hok.below h (Nat.le_refl _))
  have Hms := Lib.hid (fun W (h : Below w.heap.size w W) => hms.below h (Nat.le_refl _))
  have Hm0 := Lib.hid hms
  have hsm := hms.1
  unfold maxLen at hsm
  clear hb0 hok hms
  go_enter Try.func14, Try.ntmps14
  go_upto_region 1 with (fail)
  obtain ⟨W, hW⟩ : ∃ W, W = (w.alloc (.cells g.cells 33)).alloc (.cells s.cells 43) := ⟨_, rfl⟩
  rw [← hW] at HB ⊢
  clear hW
  go_wp2
  go_loopw [7] (fun j wr => ∃ k : Nat, k ≤ l.length ∧ j = .int .i64 k ∧ Bk w [.cells g.cells 33, .cells s.cells 43] wr) (fun j _ => l.length - (intOf j).toNat)
  case atStart => exact ⟨0, Nat.zero_le _, rfl, HB.out⟩
  case round =>
    obtain ⟨k, hk, rfl, hbk⟩ := hrel
    have Hbk := Lib.hid hbk
    clear hbk
    by_cases hgo : k < l.length ∧ k < 20
    · obtain ⟨hlt, h20⟩ := hgo
      obtain ⟨tb, tof, rfl, htb, htl⟩ : ∃ b off, tA = some ⟨b, off, none⟩ ∧ _ := by
        rcases Hm0.out.2 with h | h
        · exact absurd hlt (by rw [h]; simp)
        · exact h
      have Htl := Lib.hid (htl k hlt)
      have hd20 : decide ((k : Int) < 20) = true := by simp; omega
      clear htl
      revert Htl
      generalize l[k] = t
      intro Htl
      obtain ⟨y, m, ez, hst⟩ : ∃ y m ez, stepZ g s t = (y, m, ez) := ⟨_, _, _, rfl⟩
      have Hst := Lib.hid hst
      have j1 : (0 : Int) ≤ (k : Int) := by omega
      have j2 : (k : Int) < (l.length : Int) := by omega
      clear hst
      go_wp2
      try simp only [Act.put]
      go_cut [8, 9, 10] (fun p q z wx => ∃ P Q : Nat, p = .pointer (some ⟨P, 0, none⟩) ∧ q = .pointer (some ⟨Q, 0, none⟩) ∧ z = .int .i64 ez ∧ P < wx.heap.size ∧ Q < wx.heap.size ∧ Below wr.heap.size wr wx ∧ (wx.cell? ⟨P, 0, none⟩ = some (.int .i64 y.pos) ∧ wx.cell? ⟨P, 1, none⟩ = some (.int .i64 y.charge) ∧ wx.cell? ⟨P, 2, none⟩ = some (.bool y.bolted)) ∧ (wx.cell? ⟨Q, 0, none⟩ = some (.int .i64 m.refused) ∧ wx.cell? ⟨Q, 1, none⟩ = some (.int .i64 m.moved) ∧ wx.cell? ⟨Q, 2, none⟩ = some (.int .i64 m.oil)))
      case first =>
        have T0 := TgS.new wr
        have hkW : ∀ V, TgS wr V → Bk w [.cells g.cells 33, .cells s.cells 43] V := fun V h => Hbk.out.call h.below
        have hg0 : ∀ V, TgS wr V → IsGate V w.heap.size := fun V h => ⟨g, (hkW V h).gate 0 rfl⟩
        have hg1 : ∀ V, TgS wr V → rowOf V w.heap.size = g.val := fun V h => rowOf_gate ((hkW V h).gate 0 rfl)
        have hs0 : ∀ V, TgS wr V → V.cell? ⟨w.heap.size + 1, 0, none⟩ = some (.int .i64 s.pos) := fun V h => (hkW V h).cell 1 0 rfl rfl
        have hs1 : ∀ V, TgS wr V → V.cell? ⟨w.heap.size + 1, 1, none⟩ = some (.int .i64 s.charge) := fun V h => (hkW V h).cell 1 1 rfl rfl
        have hs2 : ∀ V, TgS wr V → V.cell? ⟨w.heap.size + 1, 2, none⟩ = some (.bool s.bolted) := fun V h => (hkW V h).cell 1 2 rfl rfl
        have ht0 : ∀ V, TgS wr V → V.cell? ⟨tb, tof + k * 4, none⟩ = some (.int .i64 t.order) := fun V h => ((hkW V h).below.cell (p := ⟨tb, tof + k * 4, none⟩) htb).trans Htl.out.1
        have ht1 : ∀ V, TgS wr V → V.cell? ⟨tb, tof + k * 4 + 1, none⟩ = some (.bool t.power) := fun V h => ((hkW V h).below.cell (p := ⟨tb, tof + k * 4 + 1, none⟩) htb).trans Htl.out.2.1
        have ht2 : ∀ V, TgS wr V → V.cell? ⟨tb, tof + k * 4 + 2, none⟩ = some (.int .i64 t.outer) := fun V h => ((hkW V h).below.cell (p := ⟨tb, tof + k * 4 + 2, none⟩) htb).trans Htl.out.2.2.1
        have ht3 : ∀ V, TgS wr V → V.cell? ⟨tb, tof + k * 4 + 3, none⟩ = some (.int .i64 t.inner) := fun V h => ((hkW V h).below.cell (p := ⟨tb, tof + k * 4 + 3, none⟩) htb).trans Htl.out.2.2.2
        have hok : ∀ V, TgS wr V → g.Ok V := fun V h => Hok.out V (hkW V h).below
        have HO := Lib.hid hok
        clear hkW hok
        go_region_held3 (fun w' => TgS wr w')
          (first
            | with_reducible exact tB
            | with_reducible assumption
            | ((repeat (first | (with_reducible exact T0) | (with_reducible refine TgS.drew ?_) | (with_reducible refine TgS.alloc ?_ _) | (with_reducible refine TgS.set ?_ (by omega) _) | (with_reducible exact tB) | (with_reducible assumption))); done))
          (first
            | (go_at_call 27; refine ((step_any g s t _ (HO.out _ (by assumption)))).mono ?_; rintro e w' ⟨rfl, hbB⟩; rw [Hst.out]; have tB := TgS.call (by assumption) hbB; have ssB := tB.below.size; have szB := hbB.size; have hcB := below_cellR hbB; have hfB := below_frozenR hbB; have hlB := below_ltR hbB; (try simp only [World.size_alloc, drew_size] at szB hcB hfB hlB)))
        all_goals
          have htop : Below wr.heap.size wr _ := TgS.below (by assumption)
          have Htop := Lib.hid htop
          clear htop
          go_wp2_with fail
          go_meet
          refine ⟨_, _, rfl, rfl, rfl, ?_, ?_, Htop.out, ?_⟩
        all_goals first
          | omega
          | (simp; done)
          | (simp; omega)
          | (simp [go_sem, World.setCell]; omega)
          | ((with_reducible apply ends1); (focus (repeat (first | ((with_reducible refine blk_new ?_); simp; done) | ((with_reducible refine blk_new ?_); simp [World.setCell]; done) | (with_reducible refine blk_drew ?_) | (with_reducible refine blk_old ?_) | (with_reducible apply blk_set3) | (with_reducible refine blk_set_other (by first | omega | (simp; omega)) ?_) | (with_reducible refine blk_below hbB ?_)))); (focus (repeat (first | ((with_reducible refine blk_new ?_); simp; done) | ((with_reducible refine blk_new ?_); simp [World.setCell]; done) | (with_reducible refine blk_drew ?_) | (with_reducible refine blk_old ?_) | (with_reducible apply blk_set3) | (with_reducible refine blk_set_other (by first | omega | (simp; omega)) ?_) | (with_reducible refine blk_below hbB ?_)))); (focus (first | omega | (simp; done) | (simp; omega))))
          | ((with_reducible apply ends2); (focus (repeat (first | ((with_reducible refine blk_new ?_); simp; done) | ((with_reducible refine blk_new ?_); simp [World.setCell]; done) | (with_reducible refine blk_drew ?_) | (with_reducible refine blk_old ?_) | (with_reducible apply blk_set3) | (with_reducible refine blk_set_other (by first | omega | (simp; omega)) ?_) | (with_reducible refine blk_below hbB ?_)))); (focus (repeat (first | ((with_reducible refine blk_new ?_); simp; done) | ((with_reducible refine blk_new ?_); simp [World.setCell]; done) | (with_reducible refine blk_drew ?_) | (with_reducible refine blk_old ?_) | (with_reducible apply blk_set3) | (with_reducible refine blk_set_other (by first | omega | (simp; omega)) ?_) | (with_reducible refine blk_below hbB ?_)))); (focus (first | omega | (simp; done) | (simp; omega))))
          | ((with_reducible apply And.intro); (focus ((with_reducible apply cells3); (focus (repeat (first | ((with_reducible refine blk_new ?_); simp; done) | ((with_reducible refine blk_new ?_); simp [World.setCell]; done) | (with_reducible refine blk_drew ?_) | (with_reducible refine blk_old ?_) | (with_reducible apply blk_set3) | (with_reducible refine blk_set_other (by first | omega | (simp; omega)) ?_) | (with_reducible refine blk_below hbB ?_)))))); (focus ((with_reducible apply cells3); (focus (repeat (first | ((with_reducible refine blk_new ?_); simp; done) | ((with_reducible refine blk_new ?_); simp [World.setCell]; done) | (with_reducible refine blk_drew ?_) | (with_reducible refine blk_old ?_) | (with_reducible apply blk_set3) | (with_reducible refine blk_set_other (by first | omega | (simp; omega)) ?_) | (with_reducible refine blk_below hbB ?_)))))))
      case rest =>
        obtain ⟨P1, Q1, rfl, rfl, rfl, hP1, hQ1, hb1, hp, hq⟩ := hcut
        have HB1 := Lib.hid (Hbk.out.call hb1)
        have Hp := Lib.hid hp
        have Hq := Lib.hid hq
        have HP1 := Lib.hid hP1
        have HQ1 := Lib.hid hQ1
        clear hb1 hp hq hP1 hQ1
        obtain ⟨wd, hwd⟩ : ∃ wd, wd = wc := ⟨_, rfl⟩
        subst hwd
        clear Hbk
        have Hbk := HB1
        go_wp2
        try simp only [Act.put]
        go_cut [11, 12, 13] (fun p q z wx => ∃ P Q : Nat, p = .pointer (some ⟨P, 0, none⟩) ∧ q = .pointer (some ⟨Q, 0, none⟩) ∧ z = .int .i64 ez ∧ P < wx.heap.size ∧ Q < wx.heap.size ∧ Below wd.heap.size wd wx ∧ (wx.cell? ⟨P, 0, none⟩ = some (.int .i64 y.pos) ∧ wx.cell? ⟨P, 1, none⟩ = some (.int .i64 y.charge) ∧ wx.cell? ⟨P, 2, none⟩ = some (.bool y.bolted)) ∧ (wx.cell? ⟨Q, 0, none⟩ = some (.int .i64 m.refused) ∧ wx.cell? ⟨Q, 1, none⟩ = some (.int .i64 m.moved) ∧ wx.cell? ⟨Q, 2, none⟩ = some (.int .i64 m.oil)))
        case first =>
          have T0 := TgS.new wd
          have hkW : ∀ V, TgS wd V → Bk w [.cells g.cells 33, .cells s.cells 43] V := fun V h => Hbk.out.call h.below
          have hg0 : ∀ V, TgS wd V → IsGate V w.heap.size := fun V h => ⟨g, (hkW V h).gate 0 rfl⟩
          have hg1 : ∀ V, TgS wd V → rowOf V w.heap.size = g.val := fun V h => rowOf_gate ((hkW V h).gate 0 rfl)
          have hs0 : ∀ V, TgS wd V → V.cell? ⟨w.heap.size + 1, 0, none⟩ = some (.int .i64 s.pos) := fun V h => (hkW V h).cell 1 0 rfl rfl
          have hs1 : ∀ V, TgS wd V → V.cell? ⟨w.heap.size + 1, 1, none⟩ = some (.int .i64 s.charge) := fun V h => (hkW V h).cell 1 1 rfl rfl
          have hs2 : ∀ V, TgS wd V → V.cell? ⟨w.heap.size + 1, 2, none⟩ = some (.bool s.bolted) := fun V h => (hkW V h).cell 1 2 rfl rfl
          have ht0 : ∀ V, TgS wd V → V.cell? ⟨tb, tof + k * 4, none⟩ = some (.int .i64 t.order) := fun V h => ((hkW V h).below.cell (p := ⟨tb, tof + k * 4, none⟩) htb).trans Htl.out.1
          have ht1 : ∀ V, TgS wd V → V.cell? ⟨tb, tof + k * 4 + 1, none⟩ = some (.bool t.power) := fun V h => ((hkW V h).below.cell (p := ⟨tb, tof + k * 4 + 1, none⟩) htb).trans Htl.out.2.1
          have ht2 : ∀ V, TgS wd V → V.cell? ⟨tb, tof + k * 4 + 2, none⟩ = some (.int .i64 t.outer) := fun V h => ((hkW V h).below.cell (p := ⟨tb, tof + k * 4 + 2, none⟩) htb).trans Htl.out.2.2.1
          have ht3 : ∀ V, TgS wd V → V.cell? ⟨tb, tof + k * 4 + 3, none⟩ = some (.int .i64 t.inner) := fun V h => ((hkW V h).below.cell (p := ⟨tb, tof + k * 4 + 3, none⟩) htb).trans Htl.out.2.2.2
          have hok : ∀ V, TgS wd V → g.Ok V := fun V h => Hok.out V (hkW V h).below
          have HO := Lib.hid hok
          clear hkW hok
          go_region_held3 (fun w' => TgS wd w')
            (first
              | with_reducible exact tB
              | with_reducible assumption
              | ((repeat (first | (with_reducible exact T0) | (with_reducible refine TgS.drew ?_) | (with_reducible refine TgS.alloc ?_ _) | (with_reducible refine TgS.set ?_ (by omega) _) | (with_reducible exact tB) | (with_reducible assumption))); done))
            (first
              | (go_at_call 40; refine ((rstep_any g s t _ (HO.out _ (by assumption)))).mono ?_; rintro e w' ⟨rfl, hbB⟩; rw [Hst.out]; have tB := TgS.call (by assumption) hbB; have ssB := tB.below.size; have szB := hbB.size; have hcB := below_cellR hbB; have hfB := below_frozenR hbB; have hlB := below_ltR hbB; (try simp only [World.size_alloc, drew_size] at szB hcB hfB hlB)))
          all_goals
            have htop : Below wd.heap.size wd _ := TgS.below (by assumption)
            have Htop := Lib.hid htop
            clear htop
            go_wp2_with fail
            go_meet
            refine ⟨_, _, rfl, rfl, rfl, ?_, ?_, Htop.out, ?_⟩
          all_goals first
            | omega
            | (simp; done)
            | (simp; omega)
            | (simp [go_sem, World.setCell]; omega)
            | ((with_reducible apply ends1); (focus (repeat (first | ((with_reducible refine blk_new ?_); simp; done) | ((with_reducible refine blk_new ?_); simp [World.setCell]; done) | (with_reducible refine blk_drew ?_) | (with_reducible refine blk_old ?_) | (with_reducible apply blk_set3) | (with_reducible refine blk_set_other (by first | omega | (simp; omega)) ?_) | (with_reducible refine blk_below hbB ?_)))); (focus (repeat (first | ((with_reducible refine blk_new ?_); simp; done) | ((with_reducible refine blk_new ?_); simp [World.setCell]; done) | (with_reducible refine blk_drew ?_) | (with_reducible refine blk_old ?_) | (with_reducible apply blk_set3) | (with_reducible refine blk_set_other (by first | omega | (simp; omega)) ?_) | (with_reducible refine blk_below hbB ?_)))); (focus (first | omega | (simp; done) | (simp; omega))))
            | ((with_reducible apply ends2); (focus (repeat (first | ((with_reducible refine blk_new ?_); simp; done) | ((with_reducible refine blk_new ?_); simp [World.setCell]; done) | (with_reducible refine blk_drew ?_) | (with_reducible refine blk_old ?_) | (with_reducible apply blk_set3) | (with_reducible refine blk_set_other (by first | omega | (simp; omega)) ?_) | (with_reducible refine blk_below hbB ?_)))); (focus (repeat (first | ((with_reducible refine blk_new ?_); simp; done) | ((with_reducible refine blk_new ?_); simp [World.setCell]; done) | (with_reducible refine blk_drew ?_) | (with_reducible refine blk_old ?_) | (with_reducible apply blk_set3) | (with_reducible refine blk_set_other (by first | omega | (simp; omega)) ?_) | (with_reducible refine blk_below hbB ?_)))); (focus (first | omega | (simp; done) | (simp; omega))))
            | ((with_reducible apply And.intro); (focus ((with_reducible apply cells3); (focus (repeat (first | ((with_reducible refine blk_new ?_); simp; done) | ((with_reducible refine blk_new ?_); simp [World.setCell]; done) | (with_reducible refine blk_drew ?_) | (with_reducible refine blk_old ?_) | (with_reducible apply blk_set3) | (with_reducible refine blk_set_other (by first | omega | (simp; omega)) ?_) | (with_reducible refine blk_below hbB ?_)))))); (focus ((with_reducible apply cells3); (focus (repeat (first | ((with_reducible refine blk_new ?_); simp; done) | ((with_reducible refine blk_new ?_); simp [World.setCell]; done) | (with_reducible refine blk_drew ?_) | (with_reducible refine blk_old ?_) | (with_reducible apply blk_set3) | (with_reducible refine blk_set_other (by first | omega | (simp; omega)) ?_) | (with_reducible refine blk_below hbB ?_)))))))
        case rest =>
          obtain ⟨P2, Q2, rfl, rfl, rfl, hP2, hQ2, hb2, ⟨u0, u1, u2⟩, v0, v1, v2⟩ := hcut
          have HB2 := Lib.hid (HB1.out.call hb2)
          have a0 := (hb2.cell (p := ⟨P1, 0, none⟩) HP1.out).trans Hp.out.1
          have a1 := (hb2.cell (p := ⟨P1, 1, none⟩) HP1.out).trans Hp.out.2.1
          have a2 := (hb2.cell (p := ⟨P1, 2, none⟩) HP1.out).trans Hp.out.2.2
          have b0 := (hb2.cell (p := ⟨Q1, 0, none⟩) HQ1.out).trans Hq.out.1
          have b1 := (hb2.cell (p := ⟨Q1, 1, none⟩) HQ1.out).trans Hq.out.2.1
          have b2 := (hb2.cell (p := ⟨Q1, 2, none⟩) HQ1.out).trans Hq.out.2.2
          clear hb2
          go_wp2
          go_roundw
          case rel => exact ⟨k + 1, by omega, by go_num, HB2.out⟩
          case measure => simp [intOf]; omega
    · have hru : Calls Try.prog 41 #[g.val, s.val, .slice tA l.length tC] wr fun e w' => ∃ (a : Option Addr) (c : Nat), (e = .returned (.tuple #[.slice a (if runE g s l = 0 then l.length else 0) c, .int .i64 (runE g s l)]) ∧ StsAt w' a (if runE g s l = 0 then stList (runF g s l) l.length else [])) ∧ Below wr.heap.size wr w' := by
        refine (run_any g s tA tC l wr (Hok.out wr Hbk.out.below) (Hms.out wr Hbk.out.below)).mono ?_
        rintro e w' ⟨v, rfl, h1, h2, hb⟩
        by_cases hz : runE g s l = 0
        · obtain ⟨a, c, rfl, hs⟩ := sts_of_row Hm0.out.1 (h1 hz)
          exact ⟨a, c, ⟨by rw [if_pos hz], by rw [if_pos hz]; exact hs⟩, hb⟩
        · rw [h2 hz]
          exact ⟨none, 0, ⟨by rw [if_neg hz], by rw [if_neg hz]; exact ⟨by simp, .inl rfl⟩⟩, hb⟩
      have hrr : ∀ V, Below w.heap.size w V → Calls Try.prog 42 #[g.val, s.val, .slice tA l.length tC] V fun e w' => ∃ (a : Option Addr) (c : Nat), (e = .returned (.tuple #[.slice a (if runE g s l = 0 then l.length else 0) c, .int .i64 (runE g s l)]) ∧ StsAt w' a (if runE g s l = 0 then stList (runF g s l) l.length else [])) ∧ Below V.heap.size V w' := fun V hV => by
        refine (rrun_any g s tA tC l V (Hok.out V hV) (Hms.out V hV)).mono ?_
        rintro e w' ⟨v, rfl, h1, h2, hb⟩
        by_cases hz : runE g s l = 0
        · obtain ⟨a, c, rfl, hs⟩ := sts_of_row Hm0.out.1 (h1 hz)
          exact ⟨a, c, ⟨by rw [if_pos hz], by rw [if_pos hz]; exact hs⟩, hb⟩
        · rw [h2 hz]
          exact ⟨none, 0, ⟨by rw [if_neg hz], by rw [if_neg hz]; exact ⟨by simp, .inl rfl⟩⟩, hb⟩
      obtain ⟨L, hL⟩ : ∃ L, L = (if runE g s l = 0 then stList (runF g s l) l.length else []) := ⟨_, rfl⟩
      have hln : (if runE g s l = 0 then l.length else 0) = L.length := by
        rw [hL]; split
        · rw [stList_len]
        · rfl
      rw [← hL, hln] at hru hrr
      have Hru := Lib.hid hru
      have Hrr := Lib.hid hrr
      have hgd : ¬ k < l.length ∨ ¬ k < 20 := by omega
      clear hru hrr hL hln hgo
      generalize runE g s l = E at *
      rcases Nat.lt_or_ge k l.length with hlt | hge
      · have hd20 : decide ((k : Int) < 20) = false := by simp; omega
        clear hgd
        go_wp2_with (first
          | (with_reducible show wpList _ _ _ (({ dst := _, op := .load 33 (.tmp 3), type := _, pos := _, after := _, guard := none } : Oper) :: _) _ _; refine wpList_load_gate (Hbk.out.gate 0 rfl) rfl (.tmp 3) rfl rfl ?_)
          | (with_reducible show wpList _ _ _ (({ dst := _, op := .load 43 (.tmp 4), type := _, pos := _, after := _, guard := none } : Oper) :: _) _ _; refine wpList_load_st (Hbk.out.blk 1 _ rfl) rfl (.tmp 4) rfl rfl ?_)
          | (go_at_call 41; refine (Hru.out).mono ?_; rintro e w1 ⟨aL, cL, ⟨rfl, hsL⟩, hb1⟩; have HB1 := Lib.hid (Hbk.out.call hb1); have HsL := Lib.hid hsL; clear hb1 hsL)
          | (with_reducible show wpList _ _ _ (({ dst := _, op := .load 33 (.tmp 3), type := _, pos := _, after := _, guard := none } : Oper) :: _) _ _; refine wpList_load_gate (HB1.out.gate 0 rfl) rfl (.tmp 3) rfl rfl ?_)
          | (with_reducible show wpList _ _ _ (({ dst := _, op := .load 43 (.tmp 4), type := _, pos := _, after := _, guard := none } : Oper) :: _) _ _; refine wpList_load_st (HB1.out.blk 1 _ rfl) rfl (.tmp 4) rfl rfl ?_)
          | (go_at_call 42; refine (Hrr.out _ HB1.out.below).mono ?_; rintro e w2 ⟨aR, cR, ⟨rfl, hsR⟩, hb2⟩; have HB2 := Lib.hid (HB1.out.call hb2); have HsR := Lib.hid hsR; have HsL2 := Lib.hid (HsL.out.below hb2 (Nat.le_refl _)); clear hb2 hsR)
          | (go_at_call 37; refine (states_same _ _ _ _ L _ HsL2.out HsR.out).mono ?_; rintro e w3 ⟨rfl, hb3⟩; have HB3 := Lib.hid (HB2.out.call hb3); clear hb3)
          | (go_at_call 24; refine (awake_any _).mono ?_; rintro e w5 ⟨rfl, hb5⟩; have HB5 := Lib.hid (HB3.out.call hb5); clear hb5))
        go_ret
        exact ⟨rfl, HB5.out.below⟩
      · clear hgd
        go_wp2_with (first
          | (with_reducible show wpList _ _ _ (({ dst := _, op := .load 33 (.tmp 3), type := _, pos := _, after := _, guard := none } : Oper) :: _) _ _; refine wpList_load_gate (Hbk.out.gate 0 rfl) rfl (.tmp 3) rfl rfl ?_)
          | (with_reducible show wpList _ _ _ (({ dst := _, op := .load 43 (.tmp 4), type := _, pos := _, after := _, guard := none } : Oper) :: _) _ _; refine wpList_load_st (Hbk.out.blk 1 _ rfl) rfl (.tmp 4) rfl rfl ?_)
          | (go_at_call 41; refine (Hru.out).mono ?_; rintro e w1 ⟨aL, cL, ⟨rfl, hsL⟩, hb1⟩; have HB1 := Lib.hid (Hbk.out.call hb1); have HsL := Lib.hid hsL; clear hb1 hsL)
          | (with_reducible show wpList _ _ _ (({ dst := _, op := .load 33 (.tmp 3), type := _, pos := _, after := _, guard := none } : Oper) :: _) _ _; refine wpList_load_gate (HB1.out.gate 0 rfl) rfl (.tmp 3) rfl rfl ?_)
          | (with_reducible show wpList _ _ _ (({ dst := _, op := .load 43 (.tmp 4), type := _, pos := _, after := _, guard := none } : Oper) :: _) _ _; refine wpList_load_st (HB1.out.blk 1 _ rfl) rfl (.tmp 4) rfl rfl ?_)
          | (go_at_call 42; refine (Hrr.out _ HB1.out.below).mono ?_; rintro e w2 ⟨aR, cR, ⟨rfl, hsR⟩, hb2⟩; have HB2 := Lib.hid (HB1.out.call hb2); have HsR := Lib.hid hsR; have HsL2 := Lib.hid (HsL.out.below hb2 (Nat.le_refl _)); clear hb2 hsR)
          | (go_at_call 37; refine (states_same _ _ _ _ L _ HsL2.out HsR.out).mono ?_; rintro e w3 ⟨rfl, hb3⟩; have HB3 := Lib.hid (HB2.out.call hb3); clear hb3)
          | (go_at_call 24; refine (awake_any _).mono ?_; rintro e w5 ⟨rfl, hb5⟩; have HB5 := Lib.hid (HB3.out.call hb5); clear hb5))
        go_ret
        exact ⟨rfl, HB5.out.below⟩
end Go.Proofs.Ythalanpmfhhhnaa
