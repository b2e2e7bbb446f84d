/-
  The walk of GateMoves: it returns true.
-/
import Derived.Test.YthalanpmfhhhnaaRz
import Derived.Test.YthalanpmfhhhnaaRx
import Derived.Test.YthalanpmfhhhnaaAw
namespace Go.Proofs.Ythalanpmfhhhnaa
open Go.RowKit
set_option linter.unusedSimpArgs false
set_option linter.unusedVariables false

/-- The states that Move returns. -/
def movS (s : SetV) (sts : List St) (ts : List Stp) (bs : List Bool) : List St := if movE s sts ts bs = 0 then stList (togAt s.gates s.rules sts ts bs) s.gates.length else []
/-- What came of the steps, as Move returns it. -/
def movM (s : SetV) (sts : List St) (ts : List Stp) (bs : List Bool) : List Mvd := if movE s sts ts bs = 0 then mvList (togAt s.gates s.rules sts ts bs) s.gates.length else []
theorem MovOut.lists {w w' : World} {s : SetV} {sts : List St} {ts : List Stp} {bs : List Bool} {vS vM : Value} (h : MovOut w w' s sts ts bs vS vM) (hm : s.gates.length ≤ maxLen) :
    ∃ aS cS aM cM, vS = .slice aS (movS s sts ts bs).length cS ∧ vM = .slice aM (movM s sts ts bs).length cM ∧ StsAt w' aS (movS s sts ts bs) ∧ MvsAt w' aM (movM s sts ts bs) := by
  by_cases h0 : movE s sts ts bs = 0
  · obtain ⟨a, b⟩ := h.good h0
    obtain ⟨aS, cS, rfl, h1⟩ := sts_of_row hm a
    obtain ⟨aM, cM, rfl, h2⟩ := mvs_of_row hm b
    rw [movS, movM, if_pos h0, if_pos h0, stList_len, mvList_len]
    exact ⟨aS, cS, aM, cM, rfl, rfl, h1, h2⟩
  · obtain ⟨rfl, rfl⟩ := h.bad h0
    rw [movS, movM, if_neg h0, if_neg h0]
    exact ⟨none, 0, none, 0, rfl, rfl, ⟨by simp, .inl rfl⟩, ⟨by simp, .inl rfl⟩⟩

set_option maxRecDepth 100000 in
set_option maxHeartbeats 8000000 in
theorem gmoves_any (s : SetV) (sA tA bA : Option Addr) (sC tC bC : Nat) (sts : List St) (ts : List Stp) (bs : List Bool) (w : World) (hok : s.Ok w) (hms : StsAt w sA sts) (hmt : StpsAt w tA ts) (hmb : BoolsAt w bA bs) :
    Calls Try.prog 9 #[s.val, .agg #[.slice sA sts.length sC, .slice tA ts.length tC, .slice bA bs.length bC]] w fun e w' => e = .returned (.bool true) ∧ Below w.heap.size w w' := by
  have hb0 := Bk.new2 w (.cells s.cells 25) (.cells #[.slice sA sts.length sC, .slice tA ts.length tC, .slice bA bs.length bC] 65)
  have HB := Lib.hid hb0
  obtain ⟨LS, hLS⟩ : ∃ LS, LS = movS s sts ts bs := ⟨_, rfl⟩
  obtain ⟨LM, hLM⟩ : ∃ LM, LM = movM s sts ts bs := ⟨_, rfl⟩
  obtain ⟨E, hE⟩ : ∃ E, E = movE s sts ts bs := ⟨_, rfl⟩
  have hgm := hok.gs.1
  have h1 : ∀ X, Below w.heap.size w X → Calls Try.prog 35 #[s.val, .slice sA sts.length sC, .slice tA ts.length tC, .slice bA bs.length bC] X fun e w' => ∃ aS cS aM cM, e = .returned (.tuple #[.slice aS LS.length cS, .slice aM LM.length cM, .int .i64 E]) ∧ StsAt w' aS LS ∧ MvsAt w' aM LM ∧ Below X.heap.size X w' := fun X hX => by
    refine (move_any s sA tA bA sC tC bC sts ts bs X (hok.below hX (Nat.le_refl _)) (hms.below hX (Nat.le_refl _)) (hmt.below hX (Nat.le_refl _)) (hmb.below hX (Nat.le_refl _))).mono ?_
    rintro e w' ⟨vS, vM, rfl, hO⟩
    obtain ⟨aS, cS, aM, cM, rfl, rfl, o1, o2⟩ := hO.lists hgm
    rw [← hLS, ← hLM, ← hE] at *
    exact ⟨aS, cS, aM, cM, rfl, o1, o2, hO.below⟩
  have h2 : ∀ X, Below w.heap.size w X → Calls Try.prog 36 #[s.val, .slice sA sts.length sC, .slice tA ts.length tC, .slice bA bs.length bC] X fun e w' => ∃ aS cS aM cM, e = .returned (.tuple #[.slice aS LS.length cS, .slice aM LM.length cM, .int .i64 E]) ∧ StsAt w' aS LS ∧ MvsAt w' aM LM ∧ Below X.heap.size X w' := fun X hX => by
    refine (rmove_any s sA tA bA sC tC bC sts ts bs X (hok.below hX (Nat.le_refl _)) (hms.below hX (Nat.le_refl _)) (hmt.below hX (Nat.le_refl _)) (hmb.below hX (Nat.le_refl _))).mono ?_
    rintro e w' ⟨vS, vM, rfl, hO⟩
    obtain ⟨aS, cS, aM, cM, rfl, rfl, o1, o2⟩ := hO.lists hgm
    rw [← hLS, ← hLM, ← hE] at *
    exact ⟨aS, cS, aM, cM, rfl, o1, o2, hO.below⟩
  have M1 := Lib.hid h1
  have M2 := Lib.hid h2
  have hs1 := hms.1
  have ht1 := hmt.1
  have hb1 := hmb.1
  unfold maxLen at hgm hs1 ht1 hb1
  clear hb0 hok hms hmt hmb h1 h2 hLS hLM hE
  go_enter Try.func9, Try.ntmps9
  go_upto_region 1 with (fail)
  obtain ⟨W, hW⟩ : ∃ W, W = (w.alloc (.cells s.cells 25)).alloc (.cells #[.slice sA sts.length sC, .slice tA ts.length tC, .slice bA bs.length bC] 65) := ⟨_, rfl⟩
  rw [← hW] at HB ⊢
  clear hW
  have y0 : W.cell? ⟨w.heap.size, 0, none⟩ = some (.slice s.gA s.gates.length s.gC) := HB.out.cell 0 0 rfl rfl
  have y1 : W.cell? ⟨w.heap.size, 1, none⟩ = some (.slice s.rA s.rules.length s.rC) := HB.out.cell 0 1 rfl rfl
  have x0 : W.cell? ⟨w.heap.size + 1, 0, none⟩ = some (.slice sA sts.length sC) := HB.out.cell 1 0 rfl rfl
  have x1 : W.cell? ⟨w.heap.size + 1, 1, none⟩ = some (.slice tA ts.length tC) := HB.out.cell 1 1 rfl rfl
  have x2 : W.cell? ⟨w.heap.size + 1, 2, none⟩ = some (.slice bA bs.length bC) := HB.out.cell 1 2 rfl rfl
  have e1 : (E != E) = false := by simp
  have e2 : ((LM.length : Int) != (LM.length : Int)) = false := by simp
  go_wp2_with (first
    | (go_at_call 35; refine (M1.out _ HB.out.below).mono ?_; rintro e w1 ⟨aS, cS, aM, cM, rfl, hs, hm, hb1⟩; have H1 := HB.out.call hb1; have a0 : w1.cell? ⟨w.heap.size, 0, none⟩ = some (.slice s.gA s.gates.length s.gC) := H1.cell 0 0 rfl rfl; have a1 : w1.cell? ⟨w.heap.size, 1, none⟩ = some (.slice s.rA s.rules.length s.rC) := H1.cell 0 1 rfl rfl; have z0 : w1.cell? ⟨w.heap.size + 1, 0, none⟩ = some (.slice sA sts.length sC) := H1.cell 1 0 rfl rfl; have z1 : w1.cell? ⟨w.heap.size + 1, 1, none⟩ = some (.slice tA ts.length tC) := H1.cell 1 1 rfl rfl; have z2 : w1.cell? ⟨w.heap.size + 1, 2, none⟩ = some (.slice bA bs.length bC) := H1.cell 1 2 rfl rfl; have HB1 := Lib.hid H1; have HS1 := Lib.hid hs; have HM1 := Lib.hid hm; clear hb1 H1 hs hm)
    | (go_at_call 36; refine (M2.out _ HB1.out.below).mono ?_; rintro e w2 ⟨rS, qS, rM, qM, rfl, hs, hm, hb2⟩; have HB2 := Lib.hid (HB1.out.call hb2); have HS3 := Lib.hid (HS1.out.below hb2 (Nat.le_refl _)); have HM3 := Lib.hid (HM1.out.below hb2 (Nat.le_refl _)); have HS2 := Lib.hid hs; have HM2 := Lib.hid hm; clear hb2 hs hm)
    | (go_at_call 37; refine (states_same aS rS cS qS LS _ HS3.out HS2.out).mono ?_; rintro e w3 ⟨rfl, hb3⟩; have HB3 := Lib.hid (HB2.out.call hb3); have HM4 := Lib.hid (HM3.out.below hb3 (Nat.le_refl _)); have HM5 := Lib.hid (HM2.out.below hb3 (Nat.le_refl _)); clear hb3))
  have hlm := HM4.out.1
  unfold maxLen at hlm
  clear HM1 HM2 HM3 HS1 HS2 HS3 HB HB1 HB2
  go_loopw [11] (fun j wr => ∃ (k n : Nat), k ≤ LM.length ∧ j = .int .i64 k ∧ wr = w3.drewN n) (fun j _ => LM.length - (intOf j).toNat)
  case atStart => exact ⟨0, 0, Nat.zero_le _, rfl, rfl⟩
  case round =>
    obtain ⟨k, n, hk, rfl, rfl⟩ := hrel
    by_cases hlt : k < LM.length
    · obtain ⟨ab, ao, rfl, hab, hal⟩ : ∃ b off, aM = some ⟨b, off, none⟩ ∧ _ := by
        rcases HM4.out.2 with h | h
        · exact absurd hlt (by rw [h]; simp)
        · exact h
      obtain ⟨bb, bo, rfl, hbb, hbl⟩ : ∃ b' off, rM = some ⟨b', off, none⟩ ∧ _ := by
        rcases HM5.out.2 with h | h
        · exact absurd hlt (by rw [h]; simp)
        · exact h
      obtain ⟨x0, x1, x2⟩ := hal k hlt
      obtain ⟨y0, y1, y2⟩ := hbl k hlt
      have j1 : (0 : Int) ≤ (k : Int) := by omega
      have j2 : (k : Int) < (LM.length : Int) := by omega
      clear hal hbl
      generalize LM[k] = x at *
      go_wp2
      go_quiet (fail)
      go_wp2
      go_roundw
      case rel => first | exact ⟨k + 1, _, by omega, by go_num, rfl⟩ | (simp only [World.drewN_drewN]; exact ⟨k + 1, _, by omega, by go_num, rfl⟩) | ((repeat apply Exists.intro); exact ⟨⟨k + 1, _, by omega, by go_num, rfl⟩, rfl⟩)
      case measure => simp [intOf]; omega
    · go_wp2_with (first
        | (go_at_call 24; refine (awake_any _).mono ?_; rintro e w5 ⟨rfl, hb5⟩; have HB5 := Lib.hid ((HB3.out.call (below_drewN (Below.refl _ _) _)).call hb5); clear hb5))
      go_ret
      exact ⟨rfl, HB5.out.below⟩
end Go.Proofs.Ythalanpmfhhhnaa
