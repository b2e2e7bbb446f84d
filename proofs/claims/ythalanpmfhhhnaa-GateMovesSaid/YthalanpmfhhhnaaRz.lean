/-
  The contract of the reference's Move.
-/
import Derived.Test.YthalanpmfhhhnaaMz
import Derived.Test.YthalanpmfhhhnaaRy
namespace Go.Proofs.Ythalanpmfhhhnaa
open Go.RowKit
set_option linter.unusedSimpArgs false
set_option linter.unusedVariables false
attribute [local go_sem ↓] loadAt_gate
attribute [local go_sem] run_gateMid

set_option maxRecDepth 100000 in
set_option maxHeartbeats 8000000 in
theorem rmove_any (s : SetV) (sA tA bA : Option Addr) (sC tC bC : Nat) (sts : List St) (ts : List Stp) (bs : List Bool) (w : World) (hok : s.Ok w) (hms : StsAt w sA sts) (hmt : StpsAt w tA ts) (hmb : BoolsAt w bA bs) :
    Calls Try.prog 36 #[s.val, .slice sA sts.length sC, .slice tA ts.length tC, .slice bA bs.length bC] w fun e w' => ∃ vS vM, e = .returned (.tuple #[vS, vM, .int .i64 (movE s sts ts bs)]) ∧ MovOut w w' s sts ts bs vS vM := by
  have hb0 := Bk.new1 w (.cells s.cells 25)
  have HB := Lib.hid hb0
  have Hok := Lib.hid (fun W (h : Below w.heap.size w W) => hok.below h (Nat.le_refl _))
  have Hms := Lib.hid (fun W (h : Below w.heap.size w W) => hms.below h (Nat.le_refl _))
  have Hmt := Lib.hid (fun W (h : Below w.heap.size w W) => hmt.below h (Nat.le_refl _))
  have Hmb := Lib.hid (fun W (h : Below w.heap.size w W) => hmb.below h (Nat.le_refl _))
  have hgm := hok.gs.1
  have hsm := hms.1
  have htm := hmt.1
  have hbm := hmb.1
  unfold maxLen at hgm hsm htm hbm
  clear hb0 hok hms hmt hmb
  obtain ⟨E, hE⟩ : ∃ E, E = movE s sts ts bs := ⟨_, rfl⟩
  rw [← hE]
  have HE := Lib.hid hE
  clear hE
  by_cases hc : (setE s).2.2 = 0
  · have Hc := Lib.hid hc
    have hn1 := (set_0 hc).1.1
    cases hl : lensB s.gates.length sts.length ts.length bs.length with
    | true =>
      have h2 : E = 2 := by rw [HE.out, movE, if_neg (by simp [hc]), if_pos hl]
      have hfin : ∀ W, Below w.heap.size w W → MovOut w W s sts ts bs (.slice none 0 0) (.slice none 0 0) := fun W h => ⟨fun h0 => (by rw [← HE.out, h2] at h0; cases h0), fun _ => ⟨rfl, rfl⟩, h⟩
      have Hfin := Lib.hid hfin
      subst h2
      have hd1 : decide ((0 : Int) < (s.gates.length : Int)) = true := by simp; omega
      clear hc hfin HE
      unfold lensB at hl
      cases q1 : ((sts.length : Int) != (s.gates.length : Int)) with
      | true =>
        clear hl
        go_enter Try.func36, Try.ntmps36
        go_wp2_with (first
          | (go_at_call 21; refine (rset_any s _ (Hok.out _ HB.out.below)).mono ?_; rintro e w1 ⟨rfl, hb1⟩; rw [Hc.out]; have H1 := HB.out.call hb1; have a0 : w1.cell? ⟨w.heap.size, 0, none⟩ = some (.slice s.gA s.gates.length s.gC) := H1.cell 0 0 rfl rfl; have HB1 := Lib.hid H1; clear hb1 H1))
        go_loopw [13, 14] (fun e j wr => e = .int .i64 2 ∧ j = .int .i64 0 ∧ Bk w [.cells s.cells 25] wr) (fun _ _ _ => 0)
        case atStart => exact ⟨rfl, rfl, HB1.out⟩
        case round =>
          obtain ⟨rfl, rfl, hbk⟩ := hrel
          have Hbk := Lib.hid hbk
          have a1 : wr.cell? ⟨w.heap.size, 0, none⟩ = some (.slice s.gA s.gates.length s.gC) := hbk.cell 0 0 rfl rfl
          clear hbk
          go_wp2
          refine bodyPost_ret (v := .tuple #[.slice none 0 0, .slice none 0 0, .int .i64 2]) (by simp [results, Try.results36, go_sem, *]) rfl ⟨_, _, rfl, Hfin.out _ Hbk.out.below⟩
      | false =>
        cases q2 : ((ts.length : Int) != (s.gates.length : Int)) with
        | true =>
          clear hl
          go_enter Try.func36, Try.ntmps36
          go_wp2_with (first
            | (go_at_call 21; refine (rset_any s _ (Hok.out _ HB.out.below)).mono ?_; rintro e w1 ⟨rfl, hb1⟩; rw [Hc.out]; have H1 := HB.out.call hb1; have a0 : w1.cell? ⟨w.heap.size, 0, none⟩ = some (.slice s.gA s.gates.length s.gC) := H1.cell 0 0 rfl rfl; have HB1 := Lib.hid H1; clear hb1 H1))
          go_loopw [13, 14] (fun e j wr => e = .int .i64 2 ∧ j = .int .i64 0 ∧ Bk w [.cells s.cells 25] wr) (fun _ _ _ => 0)
          case atStart => exact ⟨rfl, rfl, HB1.out⟩
          case round =>
            obtain ⟨rfl, rfl, hbk⟩ := hrel
            have Hbk := Lib.hid hbk
            have a1 : wr.cell? ⟨w.heap.size, 0, none⟩ = some (.slice s.gA s.gates.length s.gC) := hbk.cell 0 0 rfl rfl
            clear hbk
            go_wp2
            refine bodyPost_ret (v := .tuple #[.slice none 0 0, .slice none 0 0, .int .i64 2]) (by simp [results, Try.results36, go_sem, *]) rfl ⟨_, _, rfl, Hfin.out _ Hbk.out.below⟩
        | false =>
          have q3 : ((bs.length : Int) != (s.gates.length : Int)) = true := by rw [q1, q2] at hl; simpa using hl
          clear hl
          go_enter Try.func36, Try.ntmps36
          go_wp2_with (first
            | (go_at_call 21; refine (rset_any s _ (Hok.out _ HB.out.below)).mono ?_; rintro e w1 ⟨rfl, hb1⟩; rw [Hc.out]; have H1 := HB.out.call hb1; have a0 : w1.cell? ⟨w.heap.size, 0, none⟩ = some (.slice s.gA s.gates.length s.gC) := H1.cell 0 0 rfl rfl; have HB1 := Lib.hid H1; clear hb1 H1))
          go_loopw [13, 14] (fun e j wr => e = .int .i64 2 ∧ j = .int .i64 0 ∧ Bk w [.cells s.cells 25] wr) (fun _ _ _ => 0)
          case atStart => exact ⟨rfl, rfl, HB1.out⟩
          case round =>
            obtain ⟨rfl, rfl, hbk⟩ := hrel
            have Hbk := Lib.hid hbk
            have a1 : wr.cell? ⟨w.heap.size, 0, none⟩ = some (.slice s.gA s.gates.length s.gC) := hbk.cell 0 0 rfl rfl
            clear hbk
            go_wp2
            refine bodyPost_ret (v := .tuple #[.slice none 0 0, .slice none 0 0, .int .i64 2]) (by simp [results, Try.results36, go_sem, *]) rfl ⟨_, _, rfl, Hfin.out _ Hbk.out.below⟩
    | false =>
      obtain ⟨l1, l2, l3⟩ := lensB_f hl
      have hE2 : E = allE s.gates sts (stpF ts) := by rw [HE.out, movE, if_neg (by simp [hc]), if_neg (by simp [hl])]
      have HE2 := Lib.hid hE2
      have hle : ((s.gates.length : Int) != (s.gates.length : Int)) = false := by simp
      have hfin : E ≠ 0 → ∀ W, Below w.heap.size w W → MovOut w W s sts ts bs (.slice none 0 0) (.slice none 0 0) := fun h0 W h => ⟨fun h2 => absurd (HE.out.trans h2) h0, fun _ => ⟨rfl, rfl⟩, h⟩
      have Hfin := Lib.hid hfin
      have htg : E = 0 → ∀ W, Below w.heap.size w W → Calls Try.prog 80 #[s.val, .slice sA s.gates.length sC, .slice tA s.gates.length tC, .slice bA s.gates.length bC] W fun e w' =>
            ∃ vS vM, e = .returned (.tuple #[vS, vM]) ∧ MovOut w w' s sts ts bs vS vM := fun h0 W hW => by
        obtain ⟨hti, hord⟩ := tog_in (Hok.out _ hW) (Hms.out _ hW) (Hmt.out _ hW) (Hmb.out _ hW) hc hl (HE2.out.symm.trans h0)
        have h := rtog_any s sA tA bA sC tC bC sts ts bs W hti hord
        rw [l1, l2, l3] at h
        refine h.mono ?_
        rintro e w' ⟨vS, vM, rfl, o1, o2, _, hb⟩
        have hz := hW.size
        exact ⟨vS, vM, rfl, fun _ => ⟨o1.mono hz, o2.mono hz⟩, fun h => absurd (HE.out.symm.trans h0) h, hW.trans (hb.mono hz)⟩
      have Htg := Lib.hid htg
      have hts : ∀ k, (h : k < ts.length) → stpF ts k = ts[k] := fun k h => stpF_eq h
      have Hts := Lib.hid hts
      clear hE2 hfin htg hl HE hc hts
      rw [l1, l2, l3]
      go_enter Try.func36, Try.ntmps36
      go_wp2_with (first
        | (go_at_call 21; refine (rset_any s _ (Hok.out _ HB.out.below)).mono ?_; rintro e w1 ⟨rfl, hb1⟩; rw [Hc.out]; have H1 := HB.out.call hb1; have a0 : w1.cell? ⟨w.heap.size, 0, none⟩ = some (.slice s.gA s.gates.length s.gC) := H1.cell 0 0 rfl rfl; have HB1 := Lib.hid H1; clear hb1 H1))
      go_loopw [13, 14] (fun e j wr => ∃ (k : Nat) (F : Int), k ≤ s.gates.length ∧ e = .int .i64 F ∧ j = .int .i64 k ∧ Bk w [.cells s.cells 25] wr ∧ (F = 0 → nzFirst (oddAt s.gates sts (stpF ts)) (s.gates.length - k) k = E) ∧ (F ≠ 0 → E = F)) (fun _ j _ => s.gates.length - (intOf j).toNat)
      case atStart => exact ⟨0, 0, Nat.zero_le _, rfl, rfl, HB1.out, fun _ => HE2.out.symm, fun h => absurd rfl h⟩
      case round =>
        obtain ⟨k, F, hk, rfl, rfl, hbk, hF0, hF1⟩ := hrel
        have Hbk := Lib.hid hbk
        have HF0 := Lib.hid hF0
        have HF1 := Lib.hid hF1
        have a1 : wr.cell? ⟨w.heap.size, 0, none⟩ = some (.slice s.gA s.gates.length s.gC) := hbk.cell 0 0 rfl rfl
        have a2 : wr.cell? ⟨w.heap.size, 1, none⟩ = some (.slice s.rA s.rules.length s.rC) := hbk.cell 0 1 rfl rfl
        clear hbk hF0 hF1 a0
        by_cases hF : F = 0
        · subst hF
          have e00 : ((0 : Int) == 0) = true := rfl
          by_cases hlt : k < s.gates.length
          · have hd : decide ((k : Int) < (s.gates.length : Int)) = true := by simp; omega
            have hks : k < sts.length := by omega
            have hkt : k < ts.length := by omega
            obtain ⟨_, hgo, hgat⟩ := (Hok.out _ Hbk.out.below).gs
            rcases hgat with h' | ⟨b, off, ha, hb, hgl⟩
            · rw [h'] at hlt; exact absurd hlt (by simp)
            · obtain ⟨sb, so, hsa, hsb, hsl⟩ : ∃ b off, sA = some ⟨b, off, none⟩ ∧ _ := by
                rcases (Hms.out _ Hbk.out.below).2 with h | h
                · exact absurd hks (by rw [h]; simp)
                · exact h
              obtain ⟨tb, tof, hta, htb, htl⟩ : ∃ b off, tA = some ⟨b, off, none⟩ ∧ _ := by
                rcases (Hmt.out _ Hbk.out.below).2 with h | h
                · exact absurd hkt (by rw [h]; simp)
                · exact h
              subst hsa hta
              have Hrg := Lib.hid (hgl k hlt)
              have Hcs := Lib.hid (hsl k hks)
              have Hct := Lib.hid (htl k hkt)
              have hoa := oddAt_eq (tf := stpF ts) hlt hks
              rw [Hts.out k hkt] at hoa
              have Hoa := Lib.hid hoa
              have Hst := Lib.hid (nzFirst_step (f := oddAt s.gates sts (stpF ts)) (n := s.gates.length) hlt)
              have Hht := Lib.hid (nzFirst_hit (f := oddAt s.gates sts (stpF ts)) (n := s.gates.length) hlt)
              have i1 : (0 : Int) ≤ (k : Int) := by omega
              have i2 : (k : Int) < (s.gates.length : Int) := by omega
              clear hgl hsl htl hoa hgo
              revert Hrg Hcs Hct Hoa
              generalize s.gates[k] = g
              generalize sts[k] = x
              generalize ts[k] = t
              intro Hrg Hcs Hct Hoa
              have T0 := TgS.new wr
              have hkW : ∀ V, TgS wr V → Bk w [.cells s.cells 25] V := fun V h => Hbk.out.call h.below
              have hrm : ∀ V, TgS wr V → V.rangeAt b (off + k * 21) g.cells.toList := fun V h => range_below Hrg.out hb h.below
              have hg0 : ∀ V, TgS wr V → IsMid V b (off + k * 21) := fun V h => ⟨g, hrm V h⟩
              have hg1 : ∀ V, TgS wr V → rowMid V b (off + k * 21) = g.val := fun V h => rowMid_gate (hrm V h)
              have hc0 : ∀ V, TgS wr V → V.cell? ⟨w.heap.size, 0, none⟩ = some (.slice (some ⟨b, off, none⟩) s.gates.length s.gC) := fun V h => by rw [← ha]; exact (hkW V h).cell 0 0 rfl rfl
              have hs0 : ∀ V, TgS wr V → V.cell? ⟨sb, so + k * 3, none⟩ = some (.int .i64 x.pos) := fun V h => (h.below.cell (p := ⟨sb, so + k * 3, none⟩) hsb).trans Hcs.out.1
              have hs1 : ∀ V, TgS wr V → V.cell? ⟨sb, so + k * 3 + 1, none⟩ = some (.int .i64 x.charge) := fun V h => (h.below.cell (p := ⟨sb, so + k * 3 + 1, none⟩) hsb).trans Hcs.out.2.1
              have hs2 : ∀ V, TgS wr V → V.cell? ⟨sb, so + k * 3 + 2, none⟩ = some (.bool x.bolted) := fun V h => (h.below.cell (p := ⟨sb, so + k * 3 + 2, none⟩) hsb).trans Hcs.out.2.2
              have ht0 : ∀ V, TgS wr V → V.cell? ⟨tb, tof + k * 4, none⟩ = some (.int .i64 t.order) := fun V h => (h.below.cell (p := ⟨tb, tof + k * 4, none⟩) htb).trans Hct.out.1
              have ht1 : ∀ V, TgS wr V → V.cell? ⟨tb, tof + k * 4 + 1, none⟩ = some (.bool t.power) := fun V h => (h.below.cell (p := ⟨tb, tof + k * 4 + 1, none⟩) htb).trans Hct.out.2.1
              have ht2 : ∀ V, TgS wr V → V.cell? ⟨tb, tof + k * 4 + 2, none⟩ = some (.int .i64 t.outer) := fun V h => (h.below.cell (p := ⟨tb, tof + k * 4 + 2, none⟩) htb).trans Hct.out.2.2.1
              have ht3 : ∀ V, TgS wr V → V.cell? ⟨tb, tof + k * 4 + 3, none⟩ = some (.int .i64 t.inner) := fun V h => (h.below.cell (p := ⟨tb, tof + k * 4 + 3, none⟩) htb).trans Hct.out.2.2.2
              have HkW := Lib.hid hkW
              clear hkW hrm ha
              go_upto_region 7 with (fail)
              go_region_held3 (fun w' => TgS wr w')
                (first
                  | with_reducible exact tB
                  | with_reducible assumption
                  | ((repeat (first | (with_reducible exact T0) | (with_reducible refine TgS.drew ?_) | (with_reducible exact tB) | (with_reducible assumption))); done))
                (first
                  | (go_at_call 79; refine (rvalid_any g x t _).mono ?_; rintro e w' ⟨rfl, hbB⟩; have tB := TgS.call (by assumption) hbB))
              have HT := Lib.hid (HkW.out _ tB)
              clear tB hbB hg0 hg1 hc0 hs0 hs1 hs2 ht0 ht1 ht2 ht3 HkW
              have hA : oddE g x t = 0 → nzFirst (oddAt s.gates sts (stpF ts)) (s.gates.length - (k + 1)) (k + 1) = E := fun h => by rw [← Hst.out (Hoa.out.trans h)]; exact HF0.out (by simp)
              have hB : oddE g x t ≠ 0 → E = oddE g x t := fun h => by rw [← HF0.out (by simp), Hht.out (by rw [Hoa.out]; exact h), Hoa.out]
              have HA := Lib.hid hA
              have HBB := Lib.hid hB
              clear hA hB Hst Hht Hoa HF0 HF1 HE2
              go_wp2
              go_roundw
              case rel => first | exact ⟨k + 1, _, by omega, rfl, by go_num, HT.out, HA.out, HBB.out⟩ | ((repeat apply Exists.intro); exact ⟨⟨k + 1, _, by omega, rfl, by go_num, HT.out, HA.out, HBB.out⟩, rfl⟩)
              case measure => simp [intOf]; omega
          · have hke : k = s.gates.length := by omega
            subst hke
            have hd : decide ((s.gates.length : Int) < (s.gates.length : Int)) = false := by simp
            have hE0 : E = 0 := (HF0.out (by simp)).symm.trans (nzFirst_out (Nat.le_refl _))
            subst hE0
            clear HF0 HF1 HE2
            go_wp2_with (first
              | (go_at_call 80; refine (Htg.out (by simp) _ Hbk.out.below).mono ?_; rintro e w3 ⟨vS, vM, rfl, hO⟩; have HO := Lib.hid hO; clear hO))
            refine bodyPost_ret (v := .tuple #[vS, vM, .int .i64 0]) (by simp [results, Try.results36, go_sem, *]) rfl ⟨_, _, rfl, HO.out⟩
        · have hf0 : (F == 0) = false := by simp [hF]
          have hf1 : (F != 0) = true := by simp [hF]
          have hEF := HF1.out hF
          subst hEF
          have Hfi2 := Lib.hid (Hfin.out hF)
          clear hF HF0 HF1 HE2 Htg Hfin
          by_cases hlt : k < s.gates.length
          · have hd : decide ((k : Int) < (s.gates.length : Int)) = true := by simp; omega
            go_wp2
            refine bodyPost_ret (v := .tuple #[.slice none 0 0, .slice none 0 0, .int .i64 E]) (by simp [results, Try.results36, go_sem, *]) rfl ⟨_, _, rfl, Hfi2.out _ Hbk.out.below⟩
          · have hd : decide ((k : Int) < (s.gates.length : Int)) = false := by simp; omega
            go_wp2
            refine bodyPost_ret (v := .tuple #[.slice none 0 0, .slice none 0 0, .int .i64 E]) (by simp [results, Try.results36, go_sem, *]) rfl ⟨_, _, rfl, Hfi2.out _ Hbk.out.below⟩
  · have h2 : E = (setE s).2.2 := by rw [HE.out, movE, if_pos hc]
    have h0 : E ≠ 0 := by rw [h2]; exact hc
    have hfin : ∀ W, Below w.heap.size w W → MovOut w W s sts ts bs (.slice none 0 0) (.slice none 0 0) := fun W h => ⟨fun h2 => absurd (HE.out.trans h2) h0, fun _ => ⟨rfl, rfl⟩, h⟩
    have Hfin := Lib.hid hfin
    have e1 : ((setE s).2.2 != 0) = true := by simp [hc]
    have e2 : ((setE s).2.2 == 0) = false := by simp [hc]
    subst h2
    clear hfin HE hc h0
    go_enter Try.func36, Try.ntmps36
    go_wp2_with (first
      | (go_at_call 21; refine (rset_any s _ (Hok.out _ HB.out.below)).mono ?_; rintro e w1 ⟨rfl, hb1⟩; have H1 := HB.out.call hb1; have a0 : w1.cell? ⟨w.heap.size, 0, none⟩ = some (.slice s.gA s.gates.length s.gC) := H1.cell 0 0 rfl rfl; have HB1 := Lib.hid H1; clear hb1 H1))
    go_loopw [13, 14] (fun e j wr => e = .int .i64 (setE s).2.2 ∧ j = .int .i64 0 ∧ Bk w [.cells s.cells 25] wr) (fun _ _ _ => 0)
    case atStart => exact ⟨rfl, rfl, HB1.out⟩
    case round =>
      obtain ⟨rfl, rfl, hbk⟩ := hrel
      have Hbk := Lib.hid hbk
      have a1 : wr.cell? ⟨w.heap.size, 0, none⟩ = some (.slice s.gA s.gates.length s.gC) := hbk.cell 0 0 rfl rfl
      clear hbk
      by_cases hp : 0 < s.gates.length
      · have hd1 : decide ((0 : Int) < (s.gates.length : Int)) = true := by simp; omega
        go_wp2
        refine bodyPost_ret (v := .tuple #[.slice none 0 0, .slice none 0 0, .int .i64 (setE s).2.2]) (by simp [results, Try.results36, go_sem, *]) rfl ⟨_, _, rfl, Hfin.out _ Hbk.out.below⟩
      · have hd1 : decide ((0 : Int) < (s.gates.length : Int)) = false := decide_eq_false (by omega)
        go_wp2
        refine bodyPost_ret (v := .tuple #[.slice none 0 0, .slice none 0 0, .int .i64 (setE s).2.2]) (by simp [results, Try.results36, go_sem, *]) rfl ⟨_, _, rfl, Hfin.out _ Hbk.out.below⟩
end Go.Proofs.Ythalanpmfhhhnaa
