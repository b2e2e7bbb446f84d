/-
  The walk of GateAgain: it returns true.
-/
import Derived.Test.YthalanpmfhhhnaaYq
import Derived.Test.YthalanpmfhhhnaaRx
import Derived.Test.YthalanpmfhhhnaaTh
import Derived.Test.YthalanpmfhhhnaaGm
import Derived.Test.YthalanpmfhhhnaaAp
import Derived.Test.YthalanpmfhhhnaaAw
import Derived.Deep.AppendLies
import Derived.Deep.RegionHeld3
namespace Go.Proofs.Ythalanpmfhhhnaa
open Go.RowKit
set_option linter.unusedSimpArgs false
set_option linter.unusedVariables false
attribute [local go_sem ↓] loadAt_gate
attribute [local go_sem] run_gateLoad

/-- What the walk is told: the lists, and what the calls return. -/
structure AgainIn (w : World) (g : GateV) (s u y : St) (m : Mvd) (t : Stp) (tb tof n h tC : Nat) (A L1 L2 : List St) : Prop where
  h0 : h < n
  n1 : n ≤ 2000
  hn : ((n : Int)) / 2 = (h : Int)
  hcp : n ≤ tC
  hcp2 : tC ≤ maxLen
  htb : tb < w.heap.size
  t0 : w.cell? ⟨tb, tof, none⟩ = some (.int .i64 t.order)
  t1 : w.cell? ⟨tb, tof + 1, none⟩ = some (.bool t.power)
  t2 : w.cell? ⟨tb, tof + 2, none⟩ = some (.int .i64 t.outer)
  t3 : w.cell? ⟨tb, tof + 3, none⟩ = some (.int .i64 t.inner)
  la : A.length = n
  l1 : L1.length = h
  l2 : L2.length = n - h
  happ : A = L1 ++ L2
  hfst : ∀ k (h : k < A.length), k = 0 → A[k] = y
  hlast : ∀ k (h : k < L1.length), k + 1 = L1.length → L1[k] = u
  hnone : h = 0 → u = s
  c1 : ∀ W, Below w.heap.size w W → Calls Try.prog 41 #[g.val, s.val, .slice (some ⟨tb, tof, none⟩) n tC] W fun e w' => ∃ (a : Option Addr) (c : Nat), (e = .returned (.tuple #[.slice a n c, .int .i64 0]) ∧ StsAt w' a A) ∧ Below W.heap.size W w'
  c2 : ∀ W, Below w.heap.size w W → Calls Try.prog 41 #[g.val, s.val, .slice (some ⟨tb, tof, none⟩) h tC] W fun e w' => ∃ (a : Option Addr) (c : Nat), (e = .returned (.tuple #[.slice a h c, .int .i64 0]) ∧ StsAt w' a L1) ∧ Below W.heap.size W w'
  c3 : ∀ W, Below w.heap.size w W → Calls Try.prog 41 #[g.val, u.val, .slice (some ⟨tb, tof + h * 4, none⟩) (n - h) (tC - h)] W fun e w' => ∃ (a : Option Addr) (c : Nat), (e = .returned (.tuple #[.slice a (n - h) c, .int .i64 0]) ∧ StsAt w' a L2) ∧ Below W.heap.size W w'
  c4 : ∀ W, Below w.heap.size w W → Calls Try.prog 27 #[g.val, s.val, t.val] W fun e w' => e = .returned (.tuple #[y.val, m.val, .int .i64 0]) ∧ Below W.heap.size W w'

theorem own_empty {w : World} {g : Nat} (h : w.heap[g]? = some (.cells #[] 43 (0, 0))) : w.ownsRow g 43 3 (.slice (some ⟨g, 0, none⟩) 0 0) 0 [] :=
  ⟨rfl, .inr ⟨g, 0, #[], rfl, Nat.le_refl _, h, Nat.le_refl _, Nat.zero_le _, rfl, rfl⟩⟩
theorem TgS.grown {wr W W' : World} {row : Option Nat} (h : TgS wr W) (hg : W.grownBy W' row) (hr : ∀ b, row = some b → wr.heap.size ≤ b) : TgS wr W' := ⟨h.below.grown hg h.below.size hr⟩
theorem sts_row {w : World} {a : Option Addr} {l : List St} (h : StsAt w a l) (hl : 0 < l.length) : ∃ b off, a = some ⟨b, off, none⟩ ∧ b < w.heap.size ∧ ∀ k, (hk : k < l.length) → w.cell? ⟨b, off + k * 3, none⟩ = some (.int .i64 l[k].pos) ∧ w.cell? ⟨b, off + k * 3 + 1, none⟩ = some (.int .i64 l[k].charge) ∧ w.cell? ⟨b, off + k * 3 + 2, none⟩ = some (.bool l[k].bolted) := by
  rcases h.2 with h | h
  · rw [h] at hl; exact absurd hl (by simp)
  · exact h

set_option maxRecDepth 100000 in
set_option maxHeartbeats 16000000 in
theorem gagain_good (w : World) (g : GateV) (s u y : St) (m : Mvd) (t : Stp) (tb tof n h tC : Nat) (A L1 L2 : List St) (HI : Hid (AgainIn w g s u y m t tb tof n h tC A L1 L2)) :
    Calls Try.prog 15 #[g.val, s.val, .slice (some ⟨tb, tof, none⟩) n tC] w fun e w' => e = .returned (.bool true) ∧ Below w.heap.size w w' := by
  have h0 := HI.out.h0
  have n1 := HI.out.n1
  have hdv2 : ((n : Int)) / 2 = (h : Int) := HI.out.hn
  have hcap := HI.out.hcp
  have hcap2 := HI.out.hcp2
  unfold maxLen at hcap2
  have H0 := Lib.hid (Bk.new2 w (.cells g.cells 33) (.cells s.cells 43))
  have e1 : ((n : Int) == 0) = false := by simp; omega
  go_enter Try.func15, Try.ntmps15
  go_wp2_with (first
    | (with_reducible show wpList _ _ _ (({ dst := _, op := .load 33 (.tmp 3), type := _, pos := _, after := _, guard := none } : Oper) :: _) _ _; refine wpList_load_gate (H0.out.gate 0 rfl) rfl (.tmp 3) rfl rfl ?_)
    | (with_reducible show wpList _ _ _ (({ dst := _, op := .load 43 (.tmp 4), type := _, pos := _, after := _, guard := none } : Oper) :: _) _ _; refine wpList_load_st (H0.out.blk 1 _ rfl) rfl (.tmp 4) rfl rfl ?_)
    | (go_at_call 41; refine (HI.out.c1 _ H0.out.below).mono ?_; rintro e w1 ⟨aA, cA, ⟨rfl, hs⟩, hb1⟩; have H1 := Lib.hid (H0.out.call hb1); have HA := Lib.hid hs; clear hb1 hs))
  clear hdv2
  have T0 := TgS.new w1
  have i1 : (0 : Int) ≤ (h : Int) := by omega
  have i2 : (h : Int) ≤ (tC : Int) := by omega
  have i3 : (h : Int) ≤ (n : Int) := by omega
  have hkW : ∀ V, TgS w1 V → Bk w [.cells g.cells 33, .cells s.cells 43] V := fun V h => H1.out.call h.below
  have hg0 : ∀ V, TgS w1 V → IsGate V w.heap.size := fun V h => ⟨g, (hkW V h).gate 0 rfl⟩
  have hg1 : ∀ V, TgS w1 V → rowOf V w.heap.size = g.val := fun V h => rowOf_gate ((hkW V h).gate 0 rfl)
  have hs0 : ∀ V, TgS w1 V → V.cell? ⟨w.heap.size + 1, 0, none⟩ = some (.int .i64 s.pos) := fun V h => (hkW V h).cell 1 0 rfl rfl
  have hs1 : ∀ V, TgS w1 V → V.cell? ⟨w.heap.size + 1, 1, none⟩ = some (.int .i64 s.charge) := fun V h => (hkW V h).cell 1 1 rfl rfl
  have hs2 : ∀ V, TgS w1 V → V.cell? ⟨w.heap.size + 1, 2, none⟩ = some (.bool s.bolted) := fun V h => (hkW V h).cell 1 2 rfl rfl
  have hrun : ∀ V, TgS w1 V → Calls Try.prog 41 #[g.val, s.val, .slice (some ⟨tb, tof, none⟩) h tC] V fun e w' => ∃ (a : Option Addr) (c : Nat), (e = .returned (.tuple #[.slice a h c, .int .i64 0]) ∧ StsAt w' a L1) ∧ Below V.heap.size V w' := fun V hV => HI.out.c2 V (hkW V hV).below
  have Hrun := Lib.hid hrun
  clear hkW hrun
  go_region_held3 (fun w' => TgS w1 w')
    (first
      | with_reducible exact tB
      | with_reducible assumption
      | ((repeat (first | (with_reducible exact T0) | (with_reducible refine TgS.drew ?_) | (with_reducible refine TgS.alloc ?_ _) | (with_reducible refine TgS.set ?_ (by omega) _) | (with_reducible exact tB) | (with_reducible assumption))); done))
    (first
      | (go_at_call 41; refine (Hrun.out _ (by assumption)).mono ?_; rintro e w' ⟨aB, cB, ⟨rfl, hsB⟩, hbB⟩; have tB := TgS.call (by assumption) hbB))
  have HW2 := Lib.hid (H1.out.call tB.below)
  have HA2 := Lib.hid (HA.out.below tB.below (Nat.le_refl _))
  have HL1 := Lib.hid hsB
  obtain ⟨w2, hw2⟩ : ∃ w2, w2 = w' := ⟨_, rfl⟩
  subst hw2
  clear hg0 hg1 hs0 hs1 hs2 tB hbB hsB T0
  go_upto_if 71 with (first
    | (with_reducible show wpList _ _ _ (({ dst := _, op := .load 43 (.tmp 4), type := _, pos := _, after := _, guard := none } : Oper) :: _) _ _; refine wpList_load_st (HW2.out.blk 1 _ rfl) rfl (.tmp 4) rfl rfl ?_))
  obtain ⟨V, hV⟩ : ∃ V, V = w2.alloc (.cells s.cells 43) := ⟨_, rfl⟩
  obtain ⟨P, hP⟩ : ∃ P, P = w2.heap.size := ⟨_, rfl⟩
  have hVP : V.heap[P]? = some (.cells s.cells 43 (0, 0)) := by rw [hV, hP]; exact blk_new rfl
  have hbV : Below w2.heap.size w2 V := by rw [hV]; exact (Below.refl _ _).alloc (Nat.le_refl _) _
  rw [← hP]
  rw [show w2.alloc (.cells #[.int .i64 s.pos, .int .i64 s.charge, .bool s.bolted] 43) = V from hV.symm]
  have HVP := Lib.hid hVP
  have HWV := Lib.hid (HW2.out.call hbV)
  have HAV := Lib.hid (HA2.out.below hbV (Nat.le_refl _))
  have HLV := Lib.hid (HL1.out.below hbV (Nat.le_refl _))
  have hwP : w.heap.size + 1 < P := by rw [hP]; exact HW2.out.lt 1 rfl
  have hPb : ∀ b, b < w2.heap.size → b < P := fun b hb => by omega
  have HPb := Lib.hid hPb
  have HPe := Lib.hid hP
  have HbV := Lib.hid hbV
  clear hV hVP hbV hPb hP
  go_cut [] (fun wx => TwK V (some P) none wx ∧ wx.heap[P]? = some (.cells u.cells 43 (0, 0)))
  case first =>
    have T0 := TwK.new V (some P) none
    by_cases hz : h = 0
    · have hun := HI.out.hnone hz
      have d0 : decide (0 < (h : Int)) = false := by simp; omega
      have Hend := Lib.hid (show TwK V (some P) none V ∧ V.heap[P]? = some (.cells u.cells 43 (0, 0)) by rw [hun]; exact ⟨T0, HVP.out⟩)
      clear hun T0
      go_wp2
      go_meet
      exact Hend.out
    · have d0 : decide (0 < (h : Int)) = true := by simp; omega
      obtain ⟨j, hj⟩ : ∃ j : Nat, h = j + 1 := ⟨h - 1, by omega⟩
      have hj1 : (h : Int) - 1 = (j : Int) := by omega
      have hjl : j < L1.length := by rw [HI.out.l1]; omega
      have hlast := HI.out.hlast j hjl (by rw [HI.out.l1]; omega)
      obtain ⟨sb, so, rfl, hsb, hsl⟩ := sts_row HL1.out (by rw [HI.out.l1]; omega)
      have hsb2 : sb < P := HPb.out sb hsb
      obtain ⟨sb', so', hab, hsb', hsl'⟩ := sts_row HLV.out (by rw [HI.out.l1]; omega)
      injection hab with hab
      injection hab with hab1 hab2
      subst hab1 hab2
      obtain ⟨z0, z1, z2⟩ := hsl' j hjl
      rw [hlast] at z0 z1 z2
      have p0 := bcl HVP.out 0 _ rfl
      have p1 := bcl HVP.out 1 _ rfl
      have p2 := bcl HVP.out 2 _ rfl
      have pf0 := frozen_of_row _ _ 0 _ _ HVP.out
      have pf1 := frozen_of_row _ _ 1 _ _ HVP.out
      have pf2 := frozen_of_row _ _ 2 _ _ HVP.out
      have j1 : (0 : Int) ≤ (j : Int) := by omega
      have j2 : (j : Int) < (h : Int) := by omega
      have T1 := Lib.hid (((T0.set (.int .i64 u.pos) (o := 0)).set (.int .i64 u.charge) (o := 1)).set (.bool u.bolted) (o := 2))
      have HB := Lib.hid (blk_set3 (a0 := .int .i64 u.pos) (a1 := .int .i64 u.charge) (a2 := .bool u.bolted) HVP.out)
      clear hsl hsl' hlast hz T0 hj
      go_wp2
      go_meet
      exact ⟨T1.out, HB.out⟩
  case rest =>
    obtain ⟨hT, hPc⟩ := hcut
    have hbP : Below P V wc := hT.below (fun b hb => by cases hb; exact Nat.le_refl _) (fun b hb => by cases hb) (Nat.le_of_lt (Array.getElem?_eq_some_iff.1 HVP.out).1)
    have hb2 : Below w2.heap.size w2 wc := HbV.out.trans (by rw [← HPe.out]; exact hbP)
    have HC := Lib.hid (HW2.out.call hb2)
    have HAC := Lib.hid (HA2.out.below hb2 (Nat.le_refl _))
    have HLC := Lib.hid (HL1.out.below hb2 (Nat.le_refl _))
    have HPc := Lib.hid hPc
    have lP := (Array.getElem?_eq_some_iff.1 hPc).1
    have T0 := TgS.new wc
    have hkW : ∀ V, TgS wc V → Bk w [.cells g.cells 33, .cells s.cells 43] V := fun V h => HC.out.call h.below
    have hg0 : ∀ V, TgS wc V → IsGate V w.heap.size := fun V h => ⟨g, (hkW V h).gate 0 rfl⟩
    have hg1 : ∀ V, TgS wc V → rowOf V w.heap.size = g.val := fun V h => rowOf_gate ((hkW V h).gate 0 rfl)
    have hu0 : ∀ V, TgS wc V → V.cell? ⟨P, 0, none⟩ = some (.int .i64 u.pos) := fun V h => bcl (blk_below h.below HPc.out) 0 _ rfl
    have hu1 : ∀ V, TgS wc V → V.cell? ⟨P, 1, none⟩ = some (.int .i64 u.charge) := fun V h => bcl (blk_below h.below HPc.out) 1 _ rfl
    have hu2 : ∀ V, TgS wc V → V.cell? ⟨P, 2, none⟩ = some (.bool u.bolted) := fun V h => bcl (blk_below h.below HPc.out) 2 _ rfl
    have hrun : ∀ V, TgS wc V → Calls Try.prog 41 #[g.val, u.val, .slice (some ⟨tb, tof + h * 4, none⟩) (n - h) (tC - h)] V fun e w' => ∃ (a : Option Addr) (c : Nat), (e = .returned (.tuple #[.slice a (n - h) c, .int .i64 0]) ∧ StsAt w' a L2) ∧ Below V.heap.size V w' := fun V hV => HI.out.c3 V (hkW V hV).below
    have Hrun := Lib.hid hrun
    have i4 : (n : Int) ≤ (tC : Int) := by omega
    have ne1 : (tC = h) = False := by simp; omega
    clear hkW hrun hT hbP hb2 hPc
    go_wp2
    go_region_held3 (fun w' => TgS wc w')
      (first
      | with_reducible exact tB
      | with_reducible assumption
      | ((repeat (first | (with_reducible exact T0) | (with_reducible refine TgS.drew ?_) | (with_reducible refine TgS.alloc ?_ _) | (with_reducible refine TgS.set ?_ (by omega) _) | (with_reducible exact tB) | (with_reducible assumption))); done))
      (first
        | (go_at_call 41; refine (Hrun.out _ (by assumption)).mono ?_; rintro e w' ⟨aD, cD, ⟨rfl, hsD⟩, hbB⟩; have tB := TgS.call (by assumption) hbB))
    have HE := Lib.hid (HC.out.call tB.below)
    have HAE := Lib.hid (HAC.out.below tB.below (Nat.le_refl _))
    have HLE := Lib.hid (HLC.out.below tB.below (Nat.le_refl _))
    have HLD := Lib.hid hsD
    obtain ⟨wd, hwd⟩ : ∃ wd, wd = w' := ⟨_, rfl⟩
    subst hwd
    clear hg0 hg1 hu0 hu1 hu2 tB hbB hsD T0 ne1 lP
    go_wp2
    try simp only [Act.put]
    go_cut [13, 14, 15] (fun p q z wx => ∃ P Q : Nat, p = .pointer (some ⟨P, 0, none⟩) ∧ q = .pointer (some ⟨Q, 0, none⟩) ∧ z = .int .i64 0 ∧ P < wx.heap.size ∧ Q < wx.heap.size ∧ Below wd.heap.size wd wx ∧ (wx.cell? ⟨P, 0, none⟩ = some (.int .i64 y.pos) ∧ wx.cell? ⟨P, 1, none⟩ = some (.int .i64 y.charge) ∧ wx.cell? ⟨P, 2, none⟩ = some (.bool y.bolted)) ∧ (wx.cell? ⟨Q, 0, none⟩ = some (.int .i64 m.refused) ∧ wx.cell? ⟨Q, 1, none⟩ = some (.int .i64 m.moved) ∧ wx.cell? ⟨Q, 2, none⟩ = some (.int .i64 m.oil)))
    case first =>
      have T0 := TgS.new wd
      have htb := HI.out.htb
      have n0 : (0 : Int) < (n : Int) := by omega
      have n00 : 0 < n := by omega
      have hkW : ∀ V, TgS wd V → Bk w [.cells g.cells 33, .cells s.cells 43] V := fun V h => HE.out.call h.below
      have hg0 : ∀ V, TgS wd V → IsGate V w.heap.size := fun V h => ⟨g, (hkW V h).gate 0 rfl⟩
      have hg1 : ∀ V, TgS wd V → rowOf V w.heap.size = g.val := fun V h => rowOf_gate ((hkW V h).gate 0 rfl)
      have hs0 : ∀ V, TgS wd V → V.cell? ⟨w.heap.size + 1, 0, none⟩ = some (.int .i64 s.pos) := fun V h => (hkW V h).cell 1 0 rfl rfl
      have hs1 : ∀ V, TgS wd V → V.cell? ⟨w.heap.size + 1, 1, none⟩ = some (.int .i64 s.charge) := fun V h => (hkW V h).cell 1 1 rfl rfl
      have hs2 : ∀ V, TgS wd V → V.cell? ⟨w.heap.size + 1, 2, none⟩ = some (.bool s.bolted) := fun V h => (hkW V h).cell 1 2 rfl rfl
      have ht0 : ∀ V, TgS wd V → V.cell? ⟨tb, tof, none⟩ = some (.int .i64 t.order) := fun V h => ((hkW V h).below.cell (p := ⟨tb, tof, none⟩) htb).trans HI.out.t0
      have ht1 : ∀ V, TgS wd V → V.cell? ⟨tb, tof + 1, none⟩ = some (.bool t.power) := fun V h => ((hkW V h).below.cell (p := ⟨tb, tof + 1, none⟩) htb).trans HI.out.t1
      have ht2 : ∀ V, TgS wd V → V.cell? ⟨tb, tof + 2, none⟩ = some (.int .i64 t.outer) := fun V h => ((hkW V h).below.cell (p := ⟨tb, tof + 2, none⟩) htb).trans HI.out.t2
      have ht3 : ∀ V, TgS wd V → V.cell? ⟨tb, tof + 3, none⟩ = some (.int .i64 t.inner) := fun V h => ((hkW V h).below.cell (p := ⟨tb, tof + 3, none⟩) htb).trans HI.out.t3
      have hst : ∀ V, TgS wd V → Calls Try.prog 27 #[g.val, s.val, t.val] V fun e w' => e = .returned (.tuple #[y.val, m.val, .int .i64 0]) ∧ Below V.heap.size V w' := fun V hV => HI.out.c4 V (hkW V hV).below
      have Hst := Lib.hid hst
      clear hkW hst
      go_region_held3 (fun w' => TgS wd w')
        (first
        | with_reducible exact tB
        | with_reducible assumption
        | ((repeat (first | (with_reducible exact T0) | (with_reducible refine TgS.drew ?_) | (with_reducible refine TgS.alloc ?_ _) | (with_reducible refine TgS.set ?_ (by omega) _) | (with_reducible exact tB) | (with_reducible assumption))); done))
        (first
          | (go_at_call 27; refine (Hst.out _ (by assumption)).mono ?_; rintro e w' ⟨rfl, hbB⟩; have tB := TgS.call (by assumption) hbB; have ssB := tB.below.size; have szB := hbB.size; have hcB := below_cellR hbB; have hfB := below_frozenR hbB; have hlB := below_ltR hbB; (try simp only [World.size_alloc, drew_size] at szB hcB hfB hlB)))
      all_goals
        have htop : Below wd.heap.size wd _ := TgS.below (by assumption)
        have Htop := Lib.hid htop
        clear htop
        go_wp2_with fail
        go_meet
        refine ⟨_, _, rfl, rfl, rfl, ?_, ?_, Htop.out, ?_⟩
      all_goals first
        | omega
        | (simp; done)
        | (simp; omega)
        | (simp [go_sem, World.setCell]; omega)
        | ((with_reducible apply ends1); (focus (repeat (first | ((with_reducible refine blk_new ?_); simp; done) | ((with_reducible refine blk_new ?_); simp [World.setCell]; done) | (with_reducible refine blk_drew ?_) | (with_reducible refine blk_old ?_) | (with_reducible apply blk_set3) | (with_reducible refine blk_set_other (by first | omega | (simp; omega)) ?_) | (with_reducible refine blk_below hbB ?_)))); (focus (repeat (first | ((with_reducible refine blk_new ?_); simp; done) | ((with_reducible refine blk_new ?_); simp [World.setCell]; done) | (with_reducible refine blk_drew ?_) | (with_reducible refine blk_old ?_) | (with_reducible apply blk_set3) | (with_reducible refine blk_set_other (by first | omega | (simp; omega)) ?_) | (with_reducible refine blk_below hbB ?_)))); (focus (first | omega | (simp; done) | (simp; omega))))
        | ((with_reducible apply ends2); (focus (repeat (first | ((with_reducible refine blk_new ?_); simp; done) | ((with_reducible refine blk_new ?_); simp [World.setCell]; done) | (with_reducible refine blk_drew ?_) | (with_reducible refine blk_old ?_) | (with_reducible apply blk_set3) | (with_reducible refine blk_set_other (by first | omega | (simp; omega)) ?_) | (with_reducible refine blk_below hbB ?_)))); (focus (repeat (first | ((with_reducible refine blk_new ?_); simp; done) | ((with_reducible refine blk_new ?_); simp [World.setCell]; done) | (with_reducible refine blk_drew ?_) | (with_reducible refine blk_old ?_) | (with_reducible apply blk_set3) | (with_reducible refine blk_set_other (by first | omega | (simp; omega)) ?_) | (with_reducible refine blk_below hbB ?_)))); (focus (first | omega | (simp; done) | (simp; omega))))
        | ((with_reducible apply And.intro); (focus ((with_reducible apply cells3); (focus (repeat (first | ((with_reducible refine blk_new ?_); simp; done) | ((with_reducible refine blk_new ?_); simp [World.setCell]; done) | (with_reducible refine blk_drew ?_) | (with_reducible refine blk_old ?_) | (with_reducible apply blk_set3) | (with_reducible refine blk_set_other (by first | omega | (simp; omega)) ?_) | (with_reducible refine blk_below hbB ?_)))))); (focus ((with_reducible apply cells3); (focus (repeat (first | ((with_reducible refine blk_new ?_); simp; done) | ((with_reducible refine blk_new ?_); simp [World.setCell]; done) | (with_reducible refine blk_drew ?_) | (with_reducible refine blk_old ?_) | (with_reducible apply blk_set3) | (with_reducible refine blk_set_other (by first | omega | (simp; omega)) ?_) | (with_reducible refine blk_below hbB ?_)))))))
    case rest =>
      obtain ⟨P3, Q3, rfl, rfl, rfl, hP3, hQ3, hb3, ⟨y0, y1, y2⟩, _⟩ := hcut
      have HF := Lib.hid (HE.out.call hb3)
      have HAF := Lib.hid (HAE.out.below hb3 (Nat.le_refl _))
      have HLF := Lib.hid (HLE.out.below hb3 (Nat.le_refl _))
      have HLG := Lib.hid (HLD.out.below hb3 (Nat.le_refl _))
      obtain ⟨ab, ao, rfl, hab, hal⟩ := sts_row HAF.out (by rw [HI.out.la]; omega)
      obtain ⟨z0, z1, z2⟩ := hal 0 (by rw [HI.out.la]; omega)
      rw [HI.out.hfst 0 (by rw [HI.out.la]; omega) rfl] at z0 z1 z2
      simp only [Nat.zero_mul, Nat.add_zero] at z0 z1 z2
      have T0 := TgS.new wc
      have hy0 : ∀ V, TgS wc V → V.cell? ⟨P3, 0, none⟩ = some (.int .i64 y.pos) := fun V h => (h.below.cell (p := ⟨P3, 0, none⟩) hP3).trans y0
      have hy1 : ∀ V, TgS wc V → V.cell? ⟨P3, 1, none⟩ = some (.int .i64 y.charge) := fun V h => (h.below.cell (p := ⟨P3, 1, none⟩) hP3).trans y1
      have hy2 : ∀ V, TgS wc V → V.cell? ⟨P3, 2, none⟩ = some (.bool y.bolted) := fun V h => (h.below.cell (p := ⟨P3, 2, none⟩) hP3).trans y2
      have ha0 : ∀ V, TgS wc V → V.cell? ⟨ab, ao, none⟩ = some (.int .i64 y.pos) := fun V h => (h.below.cell (p := ⟨ab, ao, none⟩) hab).trans z0
      have ha1 : ∀ V, TgS wc V → V.cell? ⟨ab, ao + 1, none⟩ = some (.int .i64 y.charge) := fun V h => (h.below.cell (p := ⟨ab, ao + 1, none⟩) hab).trans z1
      have ha2 : ∀ V, TgS wc V → V.cell? ⟨ab, ao + 2, none⟩ = some (.bool y.bolted) := fun V h => (h.below.cell (p := ⟨ab, ao + 2, none⟩) hab).trans z2
      have n0 : (0 : Int) < (n : Int) := by omega
      have n00 : 0 < n := by omega
      clear hal z0 z1 z2 y0 y1 y2
      go_wp2
      have HS3 := Lib.hid (fun V aF cF (h1 : StsAt V aF A) (h2 : StsAt V (some ⟨ab, ao, none⟩) A) => by
        have h := states_same aF (some ⟨ab, ao, none⟩) cF cA A V h1 h2
        rw [HI.out.la] at h
        exact h)
      go_region_held3 (fun w' => TgS wc w')
        (first
          | with_reducible exact tS
          | with_reducible exact tF
          | with_reducible exact tE
          | with_reducible assumption
          | ((repeat (first | (with_reducible exact T0) | (with_reducible refine TgS.drew ?_) | (with_reducible refine TgS.alloc ?_ _) | (with_reducible exact tS) | (with_reducible exact tF) | (with_reducible exact tE) | (with_reducible assumption))); done))
        (first
          | (refine step_app_sts (by rfl) (.tmp 112) (.tmp 113) rfl wc.heap.size h v1 (rowL L1) (by rfl) (by first | exact O1.out | exact O1.out.drew) aD (n - h) cD L2 (by rfl) HI.out.l2 (HLG.out.below (TgS.below (by assumption)) (Nat.le_refl _)) (by omega) (TgS.below (by assumption)).size ?_; intro v2 wF own2 gr2; have tF : TgS wc wF := TgS.grown (by assumption) gr2 (fun b hb => (O1.out.lt b hb).1); have own3 : wF.ownsRow wc.heap.size 43 3 v2 A.length (rowL A) := (by rw [HI.out.happ, rowL_app, List.length_append, HI.out.l1, HI.out.l2]; exact own2); obtain ⟨aF, cF, e2, hsF⟩ := own_sts (by rw [HI.out.la]; omega) (by rw [HI.out.la]; unfold maxLen; omega) own3; rw [HI.out.la] at e2; subst e2; have HsF := Lib.hid hsF; clear own2 own3 gr2 hsF)
          | (refine step_app_sts (by rfl) (.tmp 110) (.tmp 111) rfl wc.heap.size 0 (.slice (some ⟨wc.heap.size, 0, none⟩) 0 0) [] (by rfl) (own_empty (blk_drew (blk_new rfl))) aB h cB L1 (by rfl) HI.out.l1 (HLF.out.below (TgS.below (by assumption)) (Nat.le_refl _)) (by omega) (TgS.below (by assumption)).size ?_; intro v1 wE own1 gr1; have tE : TgS wc wE := TgS.grown (by assumption) gr1 (fun b hb => by simp [Value.ownBlock] at hb; omega); have O1 : Hid (wE.ownsRow wc.heap.size 43 3 v1 h (rowL L1)) := Lib.hid (by simpa using own1); clear own1 gr1)
          | (go_at_call 37; refine (HS3.out _ aF cF (HsF.out.below (by first | exact Below.refl _ _ | exact (Below.refl _ _).drew) (Nat.le_refl _)) (HAF.out.below (TgS.below (by assumption)) (Nat.le_refl _))).mono ?_; rintro e w' ⟨rfl, hbS⟩; have tS := TgS.call (by assumption) hbS)
          | (go_at_call 24; refine (awake_any _).mono ?_; rintro e w' ⟨rfl, hbZ⟩; have tZ := TgS.call (by assumption) hbZ))
      all_goals
        go_wp2
        go_ret
        exact ⟨rfl, (HF.out.call (TgS.below (by assumption))).below⟩
end Go.Proofs.Ythalanpmfhhhnaa
