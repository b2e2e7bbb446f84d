/-
  The contract of gate.Move.
-/
import Derived.Test.YtgfdindlihfidaaGreatZd
import Derived.Test.YtgfdindlihfidaaGreatTh
import Derived.Test.YtgfdindlihfidaaGreatZe
import Derived.Test.YtgfdindlihfidaaGreatBk
namespace Go.Proofs.YtgfdindlihfidaaGreat
open Go.RowKit
set_option linter.unusedSimpArgs false
set_option linter.unusedVariables false

/-- The step of gate k. -/
def stpF (ts : List Stp) (k : Nat) : Stp := ts.getD k ⟨0, false, 0, 0⟩
theorem stpF_eq {ts : List Stp} {k : Nat} (h : k < ts.length) : stpF ts k = ts[k] := by simp [stpF, h]
/-- Not as many as n. -/
def lensB (n a b c : Nat) : Bool := ((a : Int) != (n : Int)) || (((b : Int) != (n : Int)) || ((c : Int) != (n : Int)))
/-- The error of Move. -/
def movE (s : SetV) (sts : List St) (ts : List Stp) (bs : List Bool) : Int :=
  if (setE s).2.2 ≠ 0 then (setE s).2.2 else if lensB s.gates.length sts.length ts.length bs.length = true then 2 else allE s.gates sts (stpF ts)
theorem lensB_f {n a b c : Nat} (h : lensB n a b c = false) : a = n ∧ b = n ∧ c = n := by
  simp [lensB] at h; omega
/-- What together asks, where Move has found no fault. -/
theorem tog_in {w : World} {s : SetV} {sA tA bA : Option Addr} {sts : List St} {ts : List Stp} {bs : List Bool} (hok : s.Ok w) (hs : StsAt w sA sts) (ht : StpsAt w tA ts) (hb : BoolsAt w bA bs) (hc : (setE s).2.2 = 0)
    (hl : lensB s.gates.length sts.length ts.length bs.length = false) (ha : allE s.gates sts (stpF ts) = 0) : TogIn w s sA sts tA ts bA bs ∧ ∀ t ∈ ts, 0 ≤ t.order ∧ t.order ≤ 2 := by
  obtain ⟨⟨hn1, hn⟩, hgd, hrin⟩ := set_0 hc
  obtain ⟨l1, l2, l3⟩ := lensB_f hl
  have h3 : ∀ k, (h : k < s.gates.length) → (h2 : k < sts.length) → (h4 : k < ts.length) → oddE s.gates[k] sts[k] ts[k] = 0 := fun k h h2 h4 => by
    have := nzFirst_0 ha k (by omega) (by omega)
    rw [oddAt_eq h h2, stpF_eq h4] at this
    exact this
  have hm : ∀ t ∈ ts, t.Lv ∧ 0 ≤ t.order ∧ t.order ≤ 2 := fun t ht => by
    obtain ⟨k, hk, rfl⟩ := List.getElem_of_mem ht
    exact (oddE_0 (h3 k (by omega) (by omega) hk)).2
  exact ⟨⟨hok, hs, ht, hb, hn, l1, l2, l3, l1 ▸ hrin, hgd, fun k h h2 => (oddE_0 (h3 k h h2 (by omega))).1, fun t ht => (hm t ht).1⟩, fun t ht => (hm t ht).2⟩

/-- What Move returns. -/
structure MovOut (w w' : World) (s : SetV) (sts : List St) (ts : List Stp) (bs : List Bool) (vS vM : Value) : Prop where
  good : movE s sts ts bs = 0 → w'.ownsRow w.heap.size 62 3 vS s.gates.length (stRow (togAt s.gates s.rules sts ts bs) s.gates.length) ∧
    w'.ownsRow w.heap.size 95 3 vM s.gates.length (mvRow (togAt s.gates s.rules sts ts bs) s.gates.length)
  bad : movE s sts ts bs ≠ 0 → vS = .slice none 0 0 ∧ vM = .slice none 0 0
  below : Below w.heap.size w w'

set_option maxRecDepth 100000 in
set_option maxHeartbeats 4000000 in
theorem move_any (s : SetV) (sA tA bA : Option Addr) (sC tC bC : Nat) (sts : List St) (ts : List Stp) (bs : List Bool) (w : World) (hok : s.Ok w) (hms : StsAt w sA sts) (hmt : StpsAt w tA ts) (hmb : BoolsAt w bA bs) :
    Calls Tryz.prog 8 #[s.val, .slice sA sts.length sC, .slice tA ts.length tC, .slice bA bs.length bC] w fun e w' => ∃ vS vM, e = .returned (.tuple #[vS, vM, .int .i64 (movE s sts ts bs)]) ∧ MovOut w w' s sts ts bs vS vM := by
  have hb0 := Bk.new2 w (.cells s.cells 25) (.cells #[.slice tA ts.length tC] 45)
  have HB := Lib.hid hb0
  have Hok := Lib.hid (fun W (h : Below w.heap.size w W) => hok.below h (Nat.le_refl _))
  have Hms := Lib.hid (fun W (h : Below w.heap.size w W) => hms.below h (Nat.le_refl _))
  have Hmt := Lib.hid (fun W (h : Below w.heap.size w W) => hmt.below h (Nat.le_refl _))
  have Hmb := Lib.hid (fun W (h : Below w.heap.size w W) => hmb.below h (Nat.le_refl _))
  have hgm := hok.gs.1
  have hsm := hms.1
  have htm := hmt.1
  have hbm := hmb.1
  unfold maxLen at hgm hsm htm hbm
  clear hb0 hok hms hmt hmb
  obtain ⟨E, hE⟩ : ∃ E, E = movE s sts ts bs := ⟨_, rfl⟩
  rw [← hE]
  have HE := Lib.hid hE
  clear hE
  by_cases hc : (setE s).2.2 = 0
  · have Hc := Lib.hid hc
    cases hl : lensB s.gates.length sts.length ts.length bs.length with
    | true =>
      have h2 : E = 2 := by rw [HE.out, movE, if_neg (by simp [hc]), if_pos hl]
      have hfin : ∀ W, Below w.heap.size w W → MovOut w W s sts ts bs (.slice none 0 0) (.slice none 0 0) := fun W h => ⟨fun h0 => (by rw [← HE.out, h2] at h0; cases h0), fun _ => ⟨rfl, rfl⟩, h⟩
      have Hfin := Lib.hid hfin
      subst h2
      clear hc hfin HE
      unfold lensB at hl
      cases q1 : ((sts.length : Int) != (s.gates.length : Int)) with
      | true =>
        clear hl
        go_enter Tryz.func8, Tryz.ntmps8
        go_wp2_with (first
          | (go_at_call 9; refine (set_any s _ (Hok.out _ HB.out.below)).mono ?_; rintro e w1 ⟨rfl, hb1⟩; rw [Hc.out]; have H1 := HB.out.call hb1; have a0 : w1.cell? ⟨w.heap.size, 0, none⟩ = some (.slice s.gA s.gates.length s.gC) := H1.cell 0 0 rfl rfl; have a1 : w1.cell? ⟨w.heap.size + 1, 0, none⟩ = some (.slice tA ts.length tC) := H1.cell 1 0 rfl rfl; have HB1 := Lib.hid H1; clear hb1 H1))
        refine bodyPost_ret (v := .tuple #[.slice none 0 0, .slice none 0 0, .int .i64 2]) (by simp [results, Tryz.results8, go_sem, *]) rfl ⟨_, _, rfl, Hfin.out _ HB1.out.below⟩
      | false =>
        cases q2 : ((ts.length : Int) != (s.gates.length : Int)) with
        | true =>
          clear hl
          go_enter Tryz.func8, Tryz.ntmps8
          go_wp2_with (first
            | (go_at_call 9; refine (set_any s _ (Hok.out _ HB.out.below)).mono ?_; rintro e w1 ⟨rfl, hb1⟩; rw [Hc.out]; have H1 := HB.out.call hb1; have a0 : w1.cell? ⟨w.heap.size, 0, none⟩ = some (.slice s.gA s.gates.length s.gC) := H1.cell 0 0 rfl rfl; have a1 : w1.cell? ⟨w.heap.size + 1, 0, none⟩ = some (.slice tA ts.length tC) := H1.cell 1 0 rfl rfl; have HB1 := Lib.hid H1; clear hb1 H1))
          refine bodyPost_ret (v := .tuple #[.slice none 0 0, .slice none 0 0, .int .i64 2]) (by simp [results, Tryz.results8, go_sem, *]) rfl ⟨_, _, rfl, Hfin.out _ HB1.out.below⟩
        | false =>
          have q3 : ((bs.length : Int) != (s.gates.length : Int)) = true := by rw [q1, q2] at hl; simpa using hl
          clear hl
          go_enter Tryz.func8, Tryz.ntmps8
          go_wp2_with (first
            | (go_at_call 9; refine (set_any s _ (Hok.out _ HB.out.below)).mono ?_; rintro e w1 ⟨rfl, hb1⟩; rw [Hc.out]; have H1 := HB.out.call hb1; have a0 : w1.cell? ⟨w.heap.size, 0, none⟩ = some (.slice s.gA s.gates.length s.gC) := H1.cell 0 0 rfl rfl; have a1 : w1.cell? ⟨w.heap.size + 1, 0, none⟩ = some (.slice tA ts.length tC) := H1.cell 1 0 rfl rfl; have HB1 := Lib.hid H1; clear hb1 H1))
          refine bodyPost_ret (v := .tuple #[.slice none 0 0, .slice none 0 0, .int .i64 2]) (by simp [results, Tryz.results8, go_sem, *]) rfl ⟨_, _, rfl, Hfin.out _ HB1.out.below⟩
    | false =>
      obtain ⟨l1, l2, l3⟩ := lensB_f hl
      have hE2 : E = allE s.gates sts (stpF ts) := by rw [HE.out, movE, if_neg (by simp [hc]), if_neg (by simp [hl])]
      have HE2 := Lib.hid hE2
      have hn := (set_0 hc).1.2
      have hle : ((s.gates.length : Int) != (s.gates.length : Int)) = false := by simp
      have hall : ∀ W, Bk w [.cells s.cells 25, .cells #[.slice tA ts.length tC] 45] W → Calls Tryz.prog 10 #[s.val, .slice sA s.gates.length sC, .func (.func 21) #[] #[.pointer (some ⟨w.heap.size + 1, 0, none⟩)]] W fun e w' => e = .returned (.int .i64 E) ∧ Below W.heap.size W w' := fun W hW => by
        have h := all_any s sA sC sts 21 (.pointer (some ⟨w.heap.size + 1, 0, none⟩)) (stpF ts) W (Hok.out _ hW.below) hn (Hms.out _ hW.below) l1 (enters_of Tryz.func21 (by kernel_rfl) rfl)
          (fun k hk V hV => by rw [stpF_eq (by omega)]; exact mv1_any (w.heap.size + 1) tA tC ts k V (by omega) ((hW.call hV).blk 1 _ rfl) (Hmt.out _ (hW.call hV).below))
        rw [l1, ← HE2.out] at h
        exact h
      have Hall := Lib.hid hall
      clear hE2 hall
      by_cases h0 : E = 0
      · obtain ⟨f, hf⟩ : ∃ f, f = togAt s.gates s.rules sts ts bs := ⟨_, rfl⟩
        have htg : ∀ W, Below w.heap.size w W → Calls Tryz.prog 12 #[s.val, .slice sA s.gates.length sC, .slice tA s.gates.length tC, .slice bA s.gates.length bC] W fun e w' =>
            ∃ vS vM, e = .returned (.tuple #[vS, vM]) ∧ MovOut w w' s sts ts bs vS vM := fun W hW => by
          have h := tog_any s sA tA bA sC tC bC sts ts bs W (tog_in (Hok.out _ hW) (Hms.out _ hW) (Hmt.out _ hW) (Hmb.out _ hW) hc hl (HE2.out.symm.trans h0)).1
          rw [l1, l2, l3] at h
          refine h.mono ?_
          rintro e w' ⟨vS, vM, rfl, o1, o2, _, hb⟩
          have hz := hW.size
          exact ⟨vS, vM, rfl, fun _ => ⟨o1.mono hz, o2.mono hz⟩, fun h => absurd (HE.out.symm.trans h0) h, hW.trans (hb.mono hz)⟩
        have Htg := Lib.hid htg
        have Hc := Lib.hid hc
        clear hf htg hl HE HE2 hc
        subst h0
        rw [l1, l2, l3]
        rw [l2] at HB Hall
        go_enter Tryz.func8, Tryz.ntmps8
        go_wp2_with (first
          | (go_at_call 9; refine (set_any s _ (Hok.out _ HB.out.below)).mono ?_; rintro e w1 ⟨rfl, hb1⟩; rw [Hc.out]; have H1 := HB.out.call hb1; have a0 : w1.cell? ⟨w.heap.size, 0, none⟩ = some (.slice s.gA s.gates.length s.gC) := H1.cell 0 0 rfl rfl; have a1 : w1.cell? ⟨w.heap.size, 1, none⟩ = some (.slice s.rA s.rules.length s.rC) := H1.cell 0 1 rfl rfl; have a2 : w1.cell? ⟨w.heap.size + 1, 0, none⟩ = some (.slice tA s.gates.length tC) := H1.cell 1 0 rfl rfl; have HB1 := Lib.hid H1; clear hb1 H1)
          | (go_at_call 10; refine (Hall.out _ HB1.out).mono ?_; rintro e w2 ⟨rfl, hb2⟩; have H2 := HB1.out.call hb2; have b0 : w2.cell? ⟨w.heap.size, 0, none⟩ = some (.slice s.gA s.gates.length s.gC) := H2.cell 0 0 rfl rfl; have b1 : w2.cell? ⟨w.heap.size, 1, none⟩ = some (.slice s.rA s.rules.length s.rC) := H2.cell 0 1 rfl rfl; have b2 : w2.cell? ⟨w.heap.size + 1, 0, none⟩ = some (.slice tA s.gates.length tC) := H2.cell 1 0 rfl rfl; have HB2 := Lib.hid H2; clear hb2 H2)
          | (go_at_call 12; refine (Htg.out _ HB2.out.below).mono ?_; rintro e w3 ⟨vS, vM, rfl, hO⟩; have HO := Lib.hid hO; clear hO))
        refine bodyPost_ret (v := .tuple #[vS, vM, .int .i64 0]) (by simp [results, Tryz.results8, go_sem, *]) rfl ⟨_, _, rfl, HO.out⟩
      · have hfin : ∀ W, Below w.heap.size w W → MovOut w W s sts ts bs (.slice none 0 0) (.slice none 0 0) := fun W h => ⟨fun h2 => absurd (HE.out.trans h2) h0, fun _ => ⟨rfl, rfl⟩, h⟩
        have Hfin := Lib.hid hfin
        have e1 : (E != 0) = true := by simp [h0]
        have Hc := Lib.hid hc
        clear hfin hl HE HE2 hc h0
        rw [l1, l2, l3]
        rw [l2] at HB Hall
        go_enter Tryz.func8, Tryz.ntmps8
        go_wp2_with (first
          | (go_at_call 9; refine (set_any s _ (Hok.out _ HB.out.below)).mono ?_; rintro e w1 ⟨rfl, hb1⟩; rw [Hc.out]; have H1 := HB.out.call hb1; have a0 : w1.cell? ⟨w.heap.size, 0, none⟩ = some (.slice s.gA s.gates.length s.gC) := H1.cell 0 0 rfl rfl; have a1 : w1.cell? ⟨w.heap.size, 1, none⟩ = some (.slice s.rA s.rules.length s.rC) := H1.cell 0 1 rfl rfl; have a2 : w1.cell? ⟨w.heap.size + 1, 0, none⟩ = some (.slice tA s.gates.length tC) := H1.cell 1 0 rfl rfl; have HB1 := Lib.hid H1; clear hb1 H1)
          | (go_at_call 10; refine (Hall.out _ HB1.out).mono ?_; rintro e w2 ⟨rfl, hb2⟩; have HB2 := Lib.hid (HB1.out.call hb2); clear hb2))
        refine bodyPost_ret (v := .tuple #[.slice none 0 0, .slice none 0 0, .int .i64 E]) (by simp [results, Tryz.results8, go_sem, *]) rfl ⟨_, _, rfl, Hfin.out _ HB2.out.below⟩
  · have h2 : E = (setE s).2.2 := by rw [HE.out, movE, if_pos hc]
    have h0 : E ≠ 0 := by rw [h2]; exact hc
    have hfin : ∀ W, Below w.heap.size w W → MovOut w W s sts ts bs (.slice none 0 0) (.slice none 0 0) := fun W h => ⟨fun h2 => absurd (HE.out.trans h2) h0, fun _ => ⟨rfl, rfl⟩, h⟩
    have Hfin := Lib.hid hfin
    have e1 : ((setE s).2.2 != 0) = true := by simp [hc]
    have e2 : ((setE s).2.2 == 0) = false := by simp [hc]
    subst h2
    clear hfin HE hc h0
    go_enter Tryz.func8, Tryz.ntmps8
    go_wp2_with (first
      | (go_at_call 9; refine (set_any s _ (Hok.out _ HB.out.below)).mono ?_; rintro e w1 ⟨rfl, hb1⟩; have H1 := HB.out.call hb1; have a0 : w1.cell? ⟨w.heap.size, 0, none⟩ = some (.slice s.gA s.gates.length s.gC) := H1.cell 0 0 rfl rfl; have a1 : w1.cell? ⟨w.heap.size + 1, 0, none⟩ = some (.slice tA ts.length tC) := H1.cell 1 0 rfl rfl; have HB1 := Lib.hid H1; clear hb1 H1))
    refine bodyPost_ret (v := .tuple #[.slice none 0 0, .slice none 0 0, .int .i64 (setE s).2.2]) (by simp [results, Tryz.results8, go_sem, *]) rfl ⟨_, _, rfl, Hfin.out _ HB1.out.below⟩
end Go.Proofs.YtgfdindlihfidaaGreat

/-
  The plain law of TopDelay: what Delay returns tells in which step all gates are shut.
-/
namespace Go.Proofs.YtgfdindlihfidaaGreat
open Go.RowKit
set_option linter.unusedSimpArgs false
set_option linter.unusedVariables false

/-- The states after k steps. -/
def runS (gs : List GateV) (rules : List Rul) (ts : List Stp) (bs : List Bool) : Nat → List St → List St
  | 0, l => l
  | k + 1, l => stList (togAt gs rules (runS gs rules ts bs k l) ts bs) gs.length
theorem runS_shift (gs : List GateV) (rules : List Rul) (ts : List Stp) (bs : List Bool) (l : List St) : ∀ k, runS gs rules ts bs k (stList (togAt gs rules l ts bs) gs.length) = runS gs rules ts bs (k + 1) l
  | 0 => rfl
  | k + 1 => by rw [runS, runS_shift gs rules ts bs l k]; rfl
theorem delay_run (gs : List GateV) (rules : List Rul) (ts : List Stp) (bs : List Bool) : ∀ (m : Nat) (l : List St) (k n : Int), delayFrom gs rules ts bs m l k = (n, 0) →
    ∃ D : Nat, D < m ∧ n = (k + D + 9) / 10 ∧ (∀ j, j < D → shutUpto gs (runS gs rules ts bs j l) gs.length = false) ∧ shutUpto gs (runS gs rules ts bs D l) gs.length = true
  | 0, l, k, n, h => by rw [delayFrom] at h; simp at h
  | m + 1, l, k, n, h => by
    rw [delayFrom] at h
    by_cases h0 : shutUpto gs l gs.length = true
    · rw [if_pos h0] at h
      injection h with h1 _
      exact ⟨0, by omega, by rw [← h1]; simp, fun j hj => absurd hj (by omega), h0⟩
    · rw [if_neg h0] at h
      obtain ⟨D, hD, hn, hj, hs⟩ := delay_run gs rules ts bs m _ _ n h
      refine ⟨D + 1, by omega, by rw [hn]; congr 1; omega, fun j hj2 => ?_, ?_⟩
      · match j with
        | 0 => rw [runS]; simpa using h0
        | j + 1 => rw [← runS_shift]; exact hj j (by omega)
      · rw [← runS_shift]; exact hs
theorem nzFirst_of {f : Nat → Int} : ∀ {n k : Nat}, (∀ j, k ≤ j → j < k + n → f j = 0) → nzFirst f n k = 0
  | 0, _, _ => rfl
  | n + 1, k, h => by
    rw [nzFirst, if_pos (h k (Nat.le_refl _) (by omega))]
    exact nzFirst_of fun j h1 h2 => h j (by omega) (by omega)
theorem odd_of {g : GateV} {s : St} {t : Stp} (hs : s.Ok g) (ht : t.Lv) (ho : 0 ≤ t.order ∧ t.order ≤ 2) : oddE g s t = 0 := by
  have h1 := hs.pos
  have h2 := hs.charge
  have h3 := ht.outer
  have h4 := ht.inner
  have a1 : outB s.pos 0 g.travel = false := by simp [outB]; omega
  have a2 : outB s.charge 0 g.cap = false := by simp [outB]; omega
  have a3 : outB t.outer (-20000) 20000 = false := by simp [outB]; omega
  have a4 : outB t.inner (-20000) 20000 = false := by simp [outB]; omega
  have a5 : outB t.order 0 2 = false := by simp [outB]; omega
  have hl : lostE g s = 0 := by unfold lostE; rw [if_neg (by simp [a1, a2])]
  unfold oddE
  simp [hl, a3, a4, a5]

/-- What holds where Delay returned n without an error. -/
structure DelF (s : SetV) (sts : List St) (t : Stp) (n : Int) (D : Nat) : Prop where
  len : sts.length = s.gates.length
  n6 : 1 ≤ s.gates.length ∧ s.gates.length ≤ 6
  le : D ≤ 2000
  eq : n = ((D : Int) + 9) / 10
  no : ∀ j, j < D → shutUpto s.gates (runS s.gates s.rules (List.replicate s.gates.length t) (List.replicate s.gates.length false) j sts) s.gates.length = false
  yes : shutUpto s.gates (runS s.gates s.rules (List.replicate s.gates.length t) (List.replicate s.gates.length false) D sts) s.gates.length = true
  lenS : ∀ j, (runS s.gates s.rules (List.replicate s.gates.length t) (List.replicate s.gates.length false) j sts).length = s.gates.length
  mov : ∀ j, movE s (runS s.gates s.rules (List.replicate s.gates.length t) (List.replicate s.gates.length false) j sts) (List.replicate s.gates.length t) (List.replicate s.gates.length false) = 0
theorem delay_law {s : SetV} {sts : List St} {o i n : Int} {p : Bool} (h : delayZ s sts ⟨1, p, o, i⟩ = (n, 0)) : ∃ D, DelF s sts ⟨1, p, o, i⟩ n D := by
  unfold delayZ at h
  by_cases hc : (setE s).2.2 = 0
  · rw [if_neg (by simp [hc])] at h
    by_cases hl : sts.length = s.gates.length
    · rw [if_neg (by simp [hl])] at h
      by_cases ha : allE s.gates sts (fun _ => ⟨1, p, o, i⟩) = 0
      · rw [if_neg (by simp [ha])] at h
        obtain ⟨D, hD, hn, hj, hs⟩ := delay_run _ _ _ _ _ _ _ _ h
        obtain ⟨⟨hn1, hn6⟩, hgd, hrin⟩ := set_0 hc
        have hlS : ∀ j, (runS s.gates s.rules (List.replicate s.gates.length ⟨1, p, o, i⟩) (List.replicate s.gates.length false) j sts).length = s.gates.length := fun j => by
          cases j with
          | zero => exact hl
          | succ j => rw [runS, stList_len]
        have hodd : ∀ k, (h : k < s.gates.length) → (h2 : k < sts.length) → oddE s.gates[k] sts[k] ⟨1, p, o, i⟩ = 0 := fun k h h2 => by
          have h3 := nzFirst_0 ha k (by omega) (by omega)
          rw [oddAt_eq h h2] at h3
          exact h3
        have hlv : (⟨1, p, o, i⟩ : Stp).Lv := (oddE_0 (hodd 0 (by omega) (by omega))).2.1
        have hok : ∀ j, ∀ k, (h : k < s.gates.length) → (h2 : k < (runS s.gates s.rules (List.replicate s.gates.length ⟨1, p, o, i⟩) (List.replicate s.gates.length false) j sts).length) → (runS s.gates s.rules (List.replicate s.gates.length ⟨1, p, o, i⟩) (List.replicate s.gates.length false) j sts)[k].Ok s.gates[k] := fun j => by
          induction j with
          | zero => exact fun k h h2 => (oddE_0 (hodd k h (by simpa [runS] using h2))).1
          | succ j ih => exact fun k h h2 => tog_ok hgd ih (hlS j) (by simp) (by simp) k h h2
        refine ⟨D, hl, ⟨hn1, hn6⟩, by omega, by rw [hn]; simp, hj, hs, hlS, fun j => ?_⟩
        unfold movE
        rw [if_neg (by simp [hc]), if_neg (by simp [lensB, hlS j])]
        refine nzFirst_of fun k _ hk => ?_
        rw [oddAt_eq (by omega) (by rw [hlS j]; omega), stpF_eq (by simp; omega)]
        simp only [List.getElem_replicate]
        exact odd_of (hok j k (by omega) (by rw [hlS j]; omega)) hlv (by simp)
      · rw [if_pos ha] at h
        injection h with _ h
        exact absurd h ha
    · rw [if_pos hl] at h
      simp at h
  · rw [if_pos hc] at h
    injection h with _ h
    exact absurd h hc
end Go.Proofs.YtgfdindlihfidaaGreat

/-
  shut: it returns true where all gates are shut.
-/
namespace Go.Proofs.YtgfdindlihfidaaGreat
open Go.RowKit
set_option linter.unusedSimpArgs false
set_option linter.unusedVariables false

set_option maxRecDepth 100000 in
set_option maxHeartbeats 4000000 in
theorem tshut_any (s : SetV) (sA : Option Addr) (sC : Nat) (sts : List St) (w : World) (hok : s.Ok w) (hms : StsAt w sA sts) (hl : sts.length = s.gates.length) (hn : s.gates.length ≤ 6) :
    Calls Tryz.prog 7 #[s.val, .slice sA sts.length sC] w fun e w' => e = .returned (.bool (shutUpto s.gates sts s.gates.length)) ∧ Below w.heap.size w w' := by
  obtain ⟨W0, hW0⟩ : ∃ W0, W0 = w.alloc (.cells s.cells 25) := ⟨_, rfl⟩
  have K0 := Lib.hid (show Bk w [.cells s.cells 25] W0 by rw [hW0]; exact Bk.new1 _ _)
  have HW := Lib.hid hW0
  have Hok := Lib.hid hok
  have Hms := Lib.hid hms
  clear hok hms hW0
  rw [hl]
  go_enter Tryz.func7, Tryz.ntmps7
  go_upto_region 1 with fail
  rw [← HW.out]
  go_wp2
  go_loopw [5] (fun j wr => ∃ k : Nat, k ≤ s.gates.length ∧ j = .int .i64 k ∧ shutUpto s.gates sts k = true ∧ Bk w [.cells s.cells 25] wr) (fun j _ => s.gates.length - (intOf j).toNat)
  case atStart => exact ⟨0, Nat.zero_le _, rfl, rfl, K0.out⟩
  case round =>
    obtain ⟨k, hk, rfl, hsh, hd⟩ := hrel
    have Hd := Lib.hid hd
    have c0 : wr.cell? ⟨w.heap.size, 0, none⟩ = some (.slice s.gA s.gates.length s.gC) := hd.cell 0 0 rfl rfl
    clear hd
    by_cases hlt : k < s.gates.length
    · obtain ⟨_, hgo, hgat⟩ := Hok.out.gs.below Hd.out.below (Nat.le_refl _)
      rcases hgat with hl' | ⟨b, off, ha', hb, hgl⟩
      · rw [hl'] at hlt; exact absurd hlt (by simp)
      · have hms' : k < sts.length := by omega
        obtain ⟨sb, so, hsa, hsb, hsl⟩ : ∃ b off, sA = some ⟨b, off, none⟩ ∧ _ := by
          rcases (Hms.out.below Hd.out.below (Nat.le_refl _)).2 with h | h
          · exact absurd hms' (by rw [h]; simp)
          · exact h
        subst hsa
        have hs2 := shutUpto_succ hlt hms'
        rw [hsh] at hs2
        have htr : wr.cell? ⟨b, off + k * 21 + 2, none⟩ = some (.int .i64 (s.gates[k]).travel) := hgl k hlt 2 _ rfl
        have hpos := (hsl k hms').1
        have Hs2 := Lib.hid hs2
        clear hgl hsl hgo hs2
        rw [ha'] at c0
        have Ha := Lib.hid ha'
        clear ha'
        have j1 : (0 : Int) ≤ (k : Int) := by omega
        have j2 : (k : Int) < (s.gates.length : Int) := by omega
        have j3 : decide ((k : Int) ≥ (s.gates.length : Int)) = false := by simp; omega
        have j4 : decide ((s.gates.length : Int) ≤ (k : Int)) = false := by simp; omega
        have hq : ((sts[k]).pos != (s.gates[k]).travel) = !decide ((sts[k]).pos = (s.gates[k]).travel) := by rw [Bool.eq_iff_iff]; simp
        cases hb2 : decide ((sts[k]).pos = (s.gates[k]).travel) with
        | true =>
          rw [hb2] at hq Hs2
          have hq2 : ((sts[k]).pos != (s.gates[k]).travel) = false := hq
          clear hb2 hq
          go_wp2
          go_quiet (fail)
          go_wp2
          go_roundw
          case rel => first | exact ⟨k + 1, by omega, by go_num, Hs2.out, Hd.out.drewN _⟩ | ((repeat apply Exists.intro); exact ⟨⟨k + 1, by omega, by go_num, Hs2.out, Hd.out.drewN _⟩, rfl⟩)
          case measure => simp [intOf]; omega
        | false =>
          rw [hb2] at hq Hs2
          have hq2 : ((sts[k]).pos != (s.gates[k]).travel) = true := hq
          have hend : shutUpto s.gates sts s.gates.length = false := by
            cases he : shutUpto s.gates sts s.gates.length with
            | false => rfl
            | true =>
              have h1 : shutUpto s.gates sts (k + 1) = true := by
                unfold shutUpto at he ⊢
                rw [List.all_eq_true] at he ⊢
                exact fun j hj => he j (List.mem_range.2 (by have := List.mem_range.1 hj; omega))
              rw [Hs2.out] at h1
              cases h1
          have He := Lib.hid hend
          clear hb2 hq hend
          go_wp2
          go_quiet (fail)
          go_wp2
          go_ret
          exact ⟨ret_bool He.out.symm, (Hd.out.drewN _).below⟩
    · obtain rfl : k = s.gates.length := by omega
      have He := Lib.hid hsh
      clear hsh
      go_wp2
      go_ret
      exact ⟨ret_bool He.out.symm, Hd.out.below⟩
end Go.Proofs.YtgfdindlihfidaaGreat

/-
  A gate loaded out of the middle of a block, in a region that draws its order.
-/
namespace Go.Proofs.YtgfdindlihfidaaGreat
open Go.RowKit
set_option linter.unusedSimpArgs false
set_option linter.unusedVariables false

/-- What lies from cell o of block b on. -/
def rowMid (W : World) (b o : Nat) : Value := .agg ((List.range 21).map fun j => (W.cell? ⟨b, o + j, none⟩).getD undef).toArray
/-- A gate lies there. -/
def IsMid (W : World) (b o : Nat) : Prop := ∃ g : GateV, W.rangeAt b o g.cells.toList
theorem rowMid_gate {W : World} {b o : Nat} {g : GateV} (h : W.rangeAt b o g.cells.toList) : rowMid W b o = g.val := by
  have hl : g.cells.toList.length = 21 := rfl
  have : (List.range 21).map (fun j => (W.cell? ⟨b, o + j, none⟩).getD undef) = g.cells.toList := by
    apply List.ext_getElem
    · simp
    · intro j h1 h2
      have hj := h j _ (List.getElem?_eq_getElem h2)
      simp only [List.getElem_map, List.getElem_range]
      rw [hj]; rfl
  rw [rowMid, this]
theorem run_gateMid {W : World} {b o : Nat} (h : IsMid W b o) : (gateLoad (.pointer (some ⟨b, o, none⟩))).run Tryz.prog W = .ok (rowMid W b o) W := by
  obtain ⟨g, hg⟩ := h
  rw [rowMid_gate hg]
  exact run_loadAt_mid W b o 60 g.cells.toList _ hg Tryz.underlying60 rfl A.gateSize
theorem range_below {w w' : World} {b o : Nat} {l : List Value} (h : w.rangeAt b o l) (hb : b < w.heap.size) (hw : Below w.heap.size w w') : w'.rangeAt b o l := fun j v hv => (hw.cell (p := ⟨b, o + j, none⟩) hb).trans (h j v hv)
end Go.Proofs.YtgfdindlihfidaaGreat
