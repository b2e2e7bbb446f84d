/-
  The contract of gate.Move.
-/
import Derived.Test.YthalanpmfhhhnaaMv
import Derived.Test.YthalanpmfhhhnaaTh
import Derived.Test.YthalanpmfhhhnaaDe
import Derived.Test.YthalanpmfhhhnaaBk
namespace Go.Proofs.Ythalanpmfhhhnaa
open Go.RowKit
set_option linter.unusedSimpArgs false
set_option linter.unusedVariables false

/-- The step of gate k. -/
def stpF (ts : List Stp) (k : Nat) : Stp := ts.getD k ⟨0, false, 0, 0⟩
theorem stpF_eq {ts : List Stp} {k : Nat} (h : k < ts.length) : stpF ts k = ts[k] := by simp [stpF, h]
/-- Not as many as n. -/
def lensB (n a b c : Nat) : Bool := ((a : Int) != (n : Int)) || (((b : Int) != (n : Int)) || ((c : Int) != (n : Int)))
/-- The error of Move. -/
def movE (s : SetV) (sts : List St) (ts : List Stp) (bs : List Bool) : Int :=
  if (setE s).2.2 ≠ 0 then (setE s).2.2 else if lensB s.gates.length sts.length ts.length bs.length = true then 2 else allE s.gates sts (stpF ts)
theorem lensB_f {n a b c : Nat} (h : lensB n a b c = false) : a = n ∧ b = n ∧ c = n := by
  simp [lensB] at h; omega
/-- What together asks, where Move has found no fault. -/
theorem tog_in {w : World} {s : SetV} {sA tA bA : Option Addr} {sts : List St} {ts : List Stp} {bs : List Bool} (hok : s.Ok w) (hs : StsAt w sA sts) (ht : StpsAt w tA ts) (hb : BoolsAt w bA bs) (hc : (setE s).2.2 = 0)
    (hl : lensB s.gates.length sts.length ts.length bs.length = false) (ha : allE s.gates sts (stpF ts) = 0) : TogIn w s sA sts tA ts bA bs ∧ ∀ t ∈ ts, 0 ≤ t.order ∧ t.order ≤ 2 := by
  obtain ⟨⟨hn1, hn⟩, hgd, hrin⟩ := set_0 hc
  obtain ⟨l1, l2, l3⟩ := lensB_f hl
  have h3 : ∀ k, (h : k < s.gates.length) → (h2 : k < sts.length) → (h4 : k < ts.length) → oddE s.gates[k] sts[k] ts[k] = 0 := fun k h h2 h4 => by
    have := nzFirst_0 ha k (by omega) (by omega)
    rw [oddAt_eq h h2, stpF_eq h4] at this
    exact this
  have hm : ∀ t ∈ ts, t.Lv ∧ 0 ≤ t.order ∧ t.order ≤ 2 := fun t ht => by
    obtain ⟨k, hk, rfl⟩ := List.getElem_of_mem ht
    exact (oddE_0 (h3 k (by omega) (by omega) hk)).2
  exact ⟨⟨hok, hs, ht, hb, hn, l1, l2, l3, l1 ▸ hrin, hgd, fun k h h2 => (oddE_0 (h3 k h h2 (by omega))).1, fun t ht => (hm t ht).1⟩, fun t ht => (hm t ht).2⟩

/-- What Move returns. -/
structure MovOut (w w' : World) (s : SetV) (sts : List St) (ts : List Stp) (bs : List Bool) (vS vM : Value) : Prop where
  good : movE s sts ts bs = 0 → w'.ownsRow w.heap.size 43 3 vS s.gates.length (stRow (togAt s.gates s.rules sts ts bs) s.gates.length) ∧
    w'.ownsRow w.heap.size 47 3 vM s.gates.length (mvRow (togAt s.gates s.rules sts ts bs) s.gates.length)
  bad : movE s sts ts bs ≠ 0 → vS = .slice none 0 0 ∧ vM = .slice none 0 0
  below : Below w.heap.size w w'

set_option maxRecDepth 100000 in
set_option maxHeartbeats 4000000 in
theorem move_any (s : SetV) (sA tA bA : Option Addr) (sC tC bC : Nat) (sts : List St) (ts : List Stp) (bs : List Bool) (w : World) (hok : s.Ok w) (hms : StsAt w sA sts) (hmt : StpsAt w tA ts) (hmb : BoolsAt w bA bs) :
    Calls Try.prog 35 #[s.val, .slice sA sts.length sC, .slice tA ts.length tC, .slice bA bs.length bC] w fun e w' => ∃ vS vM, e = .returned (.tuple #[vS, vM, .int .i64 (movE s sts ts bs)]) ∧ MovOut w w' s sts ts bs vS vM := by
  have hb0 := Bk.new2 w (.cells s.cells 25) (.cells #[.slice tA ts.length tC] 62)
  have HB := Lib.hid hb0
  have Hok := Lib.hid (fun W (h : Below w.heap.size w W) => hok.below h (Nat.le_refl _))
  have Hms := Lib.hid (fun W (h : Below w.heap.size w W) => hms.below h (Nat.le_refl _))
  have Hmt := Lib.hid (fun W (h : Below w.heap.size w W) => hmt.below h (Nat.le_refl _))
  have Hmb := Lib.hid (fun W (h : Below w.heap.size w W) => hmb.below h (Nat.le_refl _))
  have hgm := hok.gs.1
  have hsm := hms.1
  have htm := hmt.1
  have hbm := hmb.1
  unfold maxLen at hgm hsm htm hbm
  clear hb0 hok hms hmt hmb
  obtain ⟨E, hE⟩ : ∃ E, E = movE s sts ts bs := ⟨_, rfl⟩
  rw [← hE]
  have HE := Lib.hid hE
  clear hE
  by_cases hc : (setE s).2.2 = 0
  · have Hc := Lib.hid hc
    cases hl : lensB s.gates.length sts.length ts.length bs.length with
    | true =>
      have h2 : E = 2 := by rw [HE.out, movE, if_neg (by simp [hc]), if_pos hl]
      have hfin : ∀ W, Below w.heap.size w W → MovOut w W s sts ts bs (.slice none 0 0) (.slice none 0 0) := fun W h => ⟨fun h0 => (by rw [← HE.out, h2] at h0; cases h0), fun _ => ⟨rfl, rfl⟩, h⟩
      have Hfin := Lib.hid hfin
      subst h2
      clear hc hfin HE
      unfold lensB at hl
      cases q1 : ((sts.length : Int) != (s.gates.length : Int)) with
      | true =>
        clear hl
        go_enter Try.func35, Try.ntmps35
        go_wp2_with (first
          | (go_at_call 20; refine (set_any s _ (Hok.out _ HB.out.below)).mono ?_; rintro e w1 ⟨rfl, hb1⟩; rw [Hc.out]; have H1 := HB.out.call hb1; have a0 : w1.cell? ⟨w.heap.size, 0, none⟩ = some (.slice s.gA s.gates.length s.gC) := H1.cell 0 0 rfl rfl; have a1 : w1.cell? ⟨w.heap.size + 1, 0, none⟩ = some (.slice tA ts.length tC) := H1.cell 1 0 rfl rfl; have HB1 := Lib.hid H1; clear hb1 H1))
        refine bodyPost_ret (v := .tuple #[.slice none 0 0, .slice none 0 0, .int .i64 2]) (by simp [results, Try.results35, go_sem, *]) rfl ⟨_, _, rfl, Hfin.out _ HB1.out.below⟩
      | false =>
        cases q2 : ((ts.length : Int) != (s.gates.length : Int)) with
        | true =>
          clear hl
          go_enter Try.func35, Try.ntmps35
          go_wp2_with (first
            | (go_at_call 20; refine (set_any s _ (Hok.out _ HB.out.below)).mono ?_; rintro e w1 ⟨rfl, hb1⟩; rw [Hc.out]; have H1 := HB.out.call hb1; have a0 : w1.cell? ⟨w.heap.size, 0, none⟩ = some (.slice s.gA s.gates.length s.gC) := H1.cell 0 0 rfl rfl; have a1 : w1.cell? ⟨w.heap.size + 1, 0, none⟩ = some (.slice tA ts.length tC) := H1.cell 1 0 rfl rfl; have HB1 := Lib.hid H1; clear hb1 H1))
          refine bodyPost_ret (v := .tuple #[.slice none 0 0, .slice none 0 0, .int .i64 2]) (by simp [results, Try.results35, go_sem, *]) rfl ⟨_, _, rfl, Hfin.out _ HB1.out.below⟩
        | false =>
          have q3 : ((bs.length : Int) != (s.gates.length : Int)) = true := by rw [q1, q2] at hl; simpa using hl
          clear hl
          go_enter Try.func35, Try.ntmps35
          go_wp2_with (first
            | (go_at_call 20; refine (set_any s _ (Hok.out _ HB.out.below)).mono ?_; rintro e w1 ⟨rfl, hb1⟩; rw [Hc.out]; have H1 := HB.out.call hb1; have a0 : w1.cell? ⟨w.heap.size, 0, none⟩ = some (.slice s.gA s.gates.length s.gC) := H1.cell 0 0 rfl rfl; have a1 : w1.cell? ⟨w.heap.size + 1, 0, none⟩ = some (.slice tA ts.length tC) := H1.cell 1 0 rfl rfl; have HB1 := Lib.hid H1; clear hb1 H1))
          refine bodyPost_ret (v := .tuple #[.slice none 0 0, .slice none 0 0, .int .i64 2]) (by simp [results, Try.results35, go_sem, *]) rfl ⟨_, _, rfl, Hfin.out _ HB1.out.below⟩
    | false =>
      obtain ⟨l1, l2, l3⟩ := lensB_f hl
      have hE2 : E = allE s.gates sts (stpF ts) := by rw [HE.out, movE, if_neg (by simp [hc]), if_neg (by simp [hl])]
      have HE2 := Lib.hid hE2
      have hn := (set_0 hc).1.2
      have hle : ((s.gates.length : Int) != (s.gates.length : Int)) = false := by simp
      have hall : ∀ W, Bk w [.cells s.cells 25, .cells #[.slice tA ts.length tC] 62] W → Calls Try.prog 76 #[s.val, .slice sA s.gates.length sC, .func (.func 88) #[] #[.pointer (some ⟨w.heap.size + 1, 0, none⟩)]] W fun e w' => e = .returned (.int .i64 E) ∧ Below W.heap.size W w' := fun W hW => by
        have h := all_any s sA sC sts 88 (.pointer (some ⟨w.heap.size + 1, 0, none⟩)) (stpF ts) W (Hok.out _ hW.below) hn (Hms.out _ hW.below) l1 (enters_of Try.func88 (by kernel_rfl) rfl)
          (fun k hk V hV => by rw [stpF_eq (by omega)]; exact mv1_any (w.heap.size + 1) tA tC ts k V (by omega) ((hW.call hV).blk 1 _ rfl) (Hmt.out _ (hW.call hV).below))
        rw [l1, ← HE2.out] at h
        exact h
      have Hall := Lib.hid hall
      clear hE2 hall
      by_cases h0 : E = 0
      · obtain ⟨f, hf⟩ : ∃ f, f = togAt s.gates s.rules sts ts bs := ⟨_, rfl⟩
        have htg : ∀ W, Below w.heap.size w W → Calls Try.prog 78 #[s.val, .slice sA s.gates.length sC, .slice tA s.gates.length tC, .slice bA s.gates.length bC] W fun e w' =>
            ∃ vS vM, e = .returned (.tuple #[vS, vM]) ∧ MovOut w w' s sts ts bs vS vM := fun W hW => by
          have h := tog_any s sA tA bA sC tC bC sts ts bs W (tog_in (Hok.out _ hW) (Hms.out _ hW) (Hmt.out _ hW) (Hmb.out _ hW) hc hl (HE2.out.symm.trans h0)).1
          rw [l1, l2, l3] at h
          refine h.mono ?_
          rintro e w' ⟨vS, vM, rfl, o1, o2, _, hb⟩
          have hz := hW.size
          exact ⟨vS, vM, rfl, fun _ => ⟨o1.mono hz, o2.mono hz⟩, fun h => absurd (HE.out.symm.trans h0) h, hW.trans (hb.mono hz)⟩
        have Htg := Lib.hid htg
        have Hc := Lib.hid hc
        clear hf htg hl HE HE2 hc
        subst h0
        rw [l1, l2, l3]
        rw [l2] at HB Hall
        go_enter Try.func35, Try.ntmps35
        go_wp2_with (first
          | (go_at_call 20; refine (set_any s _ (Hok.out _ HB.out.below)).mono ?_; rintro e w1 ⟨rfl, hb1⟩; rw [Hc.out]; have H1 := HB.out.call hb1; have a0 : w1.cell? ⟨w.heap.size, 0, none⟩ = some (.slice s.gA s.gates.length s.gC) := H1.cell 0 0 rfl rfl; have a1 : w1.cell? ⟨w.heap.size, 1, none⟩ = some (.slice s.rA s.rules.length s.rC) := H1.cell 0 1 rfl rfl; have a2 : w1.cell? ⟨w.heap.size + 1, 0, none⟩ = some (.slice tA s.gates.length tC) := H1.cell 1 0 rfl rfl; have HB1 := Lib.hid H1; clear hb1 H1)
          | (go_at_call 76; refine (Hall.out _ HB1.out).mono ?_; rintro e w2 ⟨rfl, hb2⟩; have H2 := HB1.out.call hb2; have b0 : w2.cell? ⟨w.heap.size, 0, none⟩ = some (.slice s.gA s.gates.length s.gC) := H2.cell 0 0 rfl rfl; have b1 : w2.cell? ⟨w.heap.size, 1, none⟩ = some (.slice s.rA s.rules.length s.rC) := H2.cell 0 1 rfl rfl; have b2 : w2.cell? ⟨w.heap.size + 1, 0, none⟩ = some (.slice tA s.gates.length tC) := H2.cell 1 0 rfl rfl; have HB2 := Lib.hid H2; clear hb2 H2)
          | (go_at_call 78; refine (Htg.out _ HB2.out.below).mono ?_; rintro e w3 ⟨vS, vM, rfl, hO⟩; have HO := Lib.hid hO; clear hO))
        refine bodyPost_ret (v := .tuple #[vS, vM, .int .i64 0]) (by simp [results, Try.results35, go_sem, *]) rfl ⟨_, _, rfl, HO.out⟩
      · have hfin : ∀ W, Below w.heap.size w W → MovOut w W s sts ts bs (.slice none 0 0) (.slice none 0 0) := fun W h => ⟨fun h2 => absurd (HE.out.trans h2) h0, fun _ => ⟨rfl, rfl⟩, h⟩
        have Hfin := Lib.hid hfin
        have e1 : (E != 0) = true := by simp [h0]
        have Hc := Lib.hid hc
        clear hfin hl HE HE2 hc h0
        rw [l1, l2, l3]
        rw [l2] at HB Hall
        go_enter Try.func35, Try.ntmps35
        go_wp2_with (first
          | (go_at_call 20; refine (set_any s _ (Hok.out _ HB.out.below)).mono ?_; rintro e w1 ⟨rfl, hb1⟩; rw [Hc.out]; have H1 := HB.out.call hb1; have a0 : w1.cell? ⟨w.heap.size, 0, none⟩ = some (.slice s.gA s.gates.length s.gC) := H1.cell 0 0 rfl rfl; have a1 : w1.cell? ⟨w.heap.size, 1, none⟩ = some (.slice s.rA s.rules.length s.rC) := H1.cell 0 1 rfl rfl; have a2 : w1.cell? ⟨w.heap.size + 1, 0, none⟩ = some (.slice tA s.gates.length tC) := H1.cell 1 0 rfl rfl; have HB1 := Lib.hid H1; clear hb1 H1)
          | (go_at_call 76; refine (Hall.out _ HB1.out).mono ?_; rintro e w2 ⟨rfl, hb2⟩; have HB2 := Lib.hid (HB1.out.call hb2); clear hb2))
        refine bodyPost_ret (v := .tuple #[.slice none 0 0, .slice none 0 0, .int .i64 E]) (by simp [results, Try.results35, go_sem, *]) rfl ⟨_, _, rfl, Hfin.out _ HB2.out.below⟩
  · have h2 : E = (setE s).2.2 := by rw [HE.out, movE, if_pos hc]
    have h0 : E ≠ 0 := by rw [h2]; exact hc
    have hfin : ∀ W, Below w.heap.size w W → MovOut w W s sts ts bs (.slice none 0 0) (.slice none 0 0) := fun W h => ⟨fun h2 => absurd (HE.out.trans h2) h0, fun _ => ⟨rfl, rfl⟩, h⟩
    have Hfin := Lib.hid hfin
    have e1 : ((setE s).2.2 != 0) = true := by simp [hc]
    have e2 : ((setE s).2.2 == 0) = false := by simp [hc]
    subst h2
    clear hfin HE hc h0
    go_enter Try.func35, Try.ntmps35
    go_wp2_with (first
      | (go_at_call 20; refine (set_any s _ (Hok.out _ HB.out.below)).mono ?_; rintro e w1 ⟨rfl, hb1⟩; have H1 := HB.out.call hb1; have a0 : w1.cell? ⟨w.heap.size, 0, none⟩ = some (.slice s.gA s.gates.length s.gC) := H1.cell 0 0 rfl rfl; have a1 : w1.cell? ⟨w.heap.size + 1, 0, none⟩ = some (.slice tA ts.length tC) := H1.cell 1 0 rfl rfl; have HB1 := Lib.hid H1; clear hb1 H1))
    refine bodyPost_ret (v := .tuple #[.slice none 0 0, .slice none 0 0, .int .i64 (setE s).2.2]) (by simp [results, Try.results35, go_sem, *]) rfl ⟨_, _, rfl, Hfin.out _ HB1.out.below⟩
end Go.Proofs.Ythalanpmfhhhnaa
