/-
  The walk of GateShips: it returns true.
-/
import Derived.Test.YthalanpmfhhhnaaYp
import Derived.Test.YthalanpmfhhhnaaGm
import Derived.Test.YthalanpmfhhhnaaAw
namespace Go.Proofs.Ythalanpmfhhhnaa
open Go.RowKit
set_option linter.unusedSimpArgs false
set_option linter.unusedVariables false
attribute [local go_sem ↓] loadAt_gate
attribute [local go_sem] run_gateMid

theorem movE_0 {s : SetV} {sts : List St} {ts : List Stp} {bs : List Bool} (h : movE s sts ts bs = 0) : (setE s).2.2 = 0 ∧ lensB s.gates.length sts.length ts.length bs.length = false ∧ allE s.gates sts (stpF ts) = 0 := by
  unfold movE at h
  split at h
  · rename_i a; exact absurd h a
  · rename_i a
    split at h
    · simp at h
    · rename_i b
      exact ⟨by simpa using a, by simpa using b, h⟩

theorem TwK.drewN' {wx W : World} {x y : Option Nat} (h : TwK wx x y W) (n : Nat) : TwK wx x y (W.drewN n) := ⟨h.os, h.tape, h.output, h.size, h.block⟩
/-- What is asked of one gate in the law's round. -/
structure ShipK (g : GateV) (x : St) (t : Stp) (b : Bool) (H : Bool) (r : Int) (z : St × Mvd) : Prop where
  step : stepZ g x (shipT H x t) = (z.1, ⟨if heldB H x t = true then 0 else r, z.2.moved, z.2.oil⟩, 0)
  ref : z.2.refused = r
  held : heldB H x t = true → r = if b = true then 131 else 132
  free : heldB H x t = false → (r != 0 && !x.bolted) = false

set_option maxRecDepth 100000 in
set_option maxHeartbeats 16000000 in
theorem gships_any (s : SetV) (sA tA bA : Option Addr) (sC tC bC : Nat) (sts : List St) (ts : List Stp) (bs : List Bool) (w : World) (hok : s.Ok w) (hms : StsAt w sA sts) (hmt : StpsAt w tA ts) (hmb : BoolsAt w bA bs) :
    Calls Try.prog 10 #[s.val, .agg #[.slice sA sts.length sC, .slice tA ts.length tC, .slice bA bs.length bC]] w fun e w' => e = .returned (.bool true) ∧ Below w.heap.size w w' := by
  have hb0 := Bk.new2 w (.cells s.cells 25) (.cells #[.slice sA sts.length sC, .slice tA ts.length tC, .slice bA bs.length bC] 65)
  have HB := Lib.hid hb0
  obtain ⟨E, hE⟩ : ∃ E, E = movE s sts ts bs := ⟨_, rfl⟩
  have h1 : ∀ X, Below w.heap.size w X → Calls Try.prog 35 #[s.val, .slice sA sts.length sC, .slice tA ts.length tC, .slice bA bs.length bC] X fun e w' => ∃ vS vM, e = .returned (.tuple #[vS, vM, .int .i64 E]) ∧ MovOut X w' s sts ts bs vS vM := fun X hX => by
    rw [hE]
    exact move_any s sA tA bA sC tC bC sts ts bs X (hok.below hX (Nat.le_refl _)) (hms.below hX (Nat.le_refl _)) (hmt.below hX (Nat.le_refl _)) (hmb.below hX (Nat.le_refl _))
  have M1 := Lib.hid h1
  have hgm := hok.gs.1
  have hrm := hok.rs.1
  have hs1 := hms.1
  have ht1 := hmt.1
  have hb1 := hmb.1
  unfold maxLen at hgm hrm hs1 ht1 hb1
  clear hb0 h1
  by_cases h0 : E = 0
  · obtain ⟨hc, hl, ha⟩ := movE_0 (hE.symm.trans h0)
    obtain ⟨l1, l2, l3⟩ := lensB_f hl
    have hck := set_checks hc
    obtain ⟨⟨_, hn⟩, _, hrin⟩ := set_0 hc
    have hodd : ∀ k, (h : k < s.gates.length) → (h2 : k < sts.length) → (h4 : k < ts.length) → oddE s.gates[k] sts[k] ts[k] = 0 := fun k h h2 h4 => by
      have := nzFirst_0 ha k (by omega) (by omega)
      rw [oddAt_eq h h2, stpF_eq h4] at this
      exact this
    obtain ⟨f, hf⟩ : ∃ f, f = togAt s.gates s.rules sts ts bs := ⟨_, rfl⟩
    have hmv : ∀ X, Below w.heap.size w X → Calls Try.prog 35 #[s.val, .slice sA s.gates.length sC, .slice tA s.gates.length tC, .slice bA s.gates.length bC] X fun e w' => ∃ aS cS aM cM, e = .returned (.tuple #[.slice aS s.gates.length cS, .slice aM s.gates.length cM, .int .i64 0]) ∧ StsAt w' aS (stList f s.gates.length) ∧ MvsAt w' aM (mvList f s.gates.length) ∧ Below X.heap.size X w' := fun X hX => by
      have h := M1.out X hX
      rw [l1, l2, l3, h0] at h
      refine h.mono ?_
      rintro e w' ⟨vS, vM, rfl, hO⟩
      obtain ⟨a, b⟩ := hO.good (hE.symm.trans h0)
      obtain ⟨aS, cS, rfl, o1⟩ := sts_of_row (by unfold maxLen; omega) a
      obtain ⟨aM, cM, rfl, o2⟩ := mvs_of_row (by unfold maxLen; omega) b
      rw [← hf] at o1 o2
      exact ⟨aS, cS, aM, cM, rfl, o1, o2, hO.below⟩
    have Hmv := Lib.hid hmv
    have hkk : ∀ k, (h : k < s.gates.length) → (h2 : k < sts.length) → (h3 : k < ts.length) → (h4 : k < bs.length) → ShipK s.gates[k] sts[k] ts[k] bs[k] (holdB s.rules sts k bs[k]) (refE s.rules sts k sts[k] ts[k] bs[k]) (f k) := fun k h h2 h3 h4 => by
      have e : f k = doZ s.gates[k] sts[k] ts[k] (refE s.rules sts k sts[k] ts[k] bs[k]) := by rw [hf]; exact togAt_eq h h2 h3 h4
      rw [e]
      exact ⟨ships_step (hck _ (List.getElem_mem h)) (hodd k h h2 h3), rfl, held_ref, free_0⟩
    have Hkk := Lib.hid hkk
    have Hrin := Lib.hid hrin
    have Hg0 := Lib.hid hok.gs
    have Hr0 := Lib.hid hok.rs
    have Hm0 := Lib.hid hms
    have Ht0 := Lib.hid hmt
    have Hb0 := Lib.hid hmb
    have L1 := Lib.hid l1
    have L2 := Lib.hid l2
    have L3 := Lib.hid l3
    have e2 : ((s.gates.length : Int) != (s.gates.length : Int)) = false := by simp
    clear hmv hkk hrin hodd hck ha hl hc hE h0 M1 hok hms hmt hmb hf
    rw [l1, l2, l3] at HB ⊢
    clear l1 l2 l3 hs1 ht1 hb1
    go_enter Try.func10, Try.ntmps10
    go_upto_region 1 with (fail)
    obtain ⟨W, hW⟩ : ∃ W, W = (w.alloc (.cells s.cells 25)).alloc (.cells #[.slice sA s.gates.length sC, .slice tA s.gates.length tC, .slice bA s.gates.length bC] 65) := ⟨_, rfl⟩
    rw [← hW] at HB ⊢
    clear hW
    have y0 : W.cell? ⟨w.heap.size, 0, none⟩ = some (.slice s.gA s.gates.length s.gC) := HB.out.cell 0 0 rfl rfl
    have y1 : W.cell? ⟨w.heap.size, 1, none⟩ = some (.slice s.rA s.rules.length s.rC) := HB.out.cell 0 1 rfl rfl
    have x0 : W.cell? ⟨w.heap.size + 1, 0, none⟩ = some (.slice sA s.gates.length sC) := HB.out.cell 1 0 rfl rfl
    have x1 : W.cell? ⟨w.heap.size + 1, 1, none⟩ = some (.slice tA s.gates.length tC) := HB.out.cell 1 1 rfl rfl
    have x2 : W.cell? ⟨w.heap.size + 1, 2, none⟩ = some (.slice bA s.gates.length bC) := HB.out.cell 1 2 rfl rfl
    go_wp2_with (first
      | (go_at_call 35; refine (Hmv.out _ HB.out.below).mono ?_; rintro e w1 ⟨aS, cS, aM, cM, rfl, hs, hm, hb1⟩; have H1 := HB.out.call hb1; have a0 : w1.cell? ⟨w.heap.size, 0, none⟩ = some (.slice s.gA s.gates.length s.gC) := H1.cell 0 0 rfl rfl; have z0 : w1.cell? ⟨w.heap.size + 1, 0, none⟩ = some (.slice sA s.gates.length sC) := H1.cell 1 0 rfl rfl; have z1 : w1.cell? ⟨w.heap.size + 1, 1, none⟩ = some (.slice tA s.gates.length tC) := H1.cell 1 1 rfl rfl; have z2 : w1.cell? ⟨w.heap.size + 1, 2, none⟩ = some (.slice bA s.gates.length bC) := H1.cell 1 2 rfl rfl; have HB1 := Lib.hid H1; have HS1 := Lib.hid hs; have HM1 := Lib.hid hm; clear hb1 H1 hs hm))
    clear x0 x1 x2 y0 y1
    go_loopw [9] (fun j wr => ∃ k : Nat, k ≤ s.gates.length ∧ j = .int .i64 k ∧ Below w1.heap.size w1 wr) (fun j _ => s.gates.length - (intOf j).toNat)
    case atStart => exact ⟨0, Nat.zero_le _, rfl, Below.refl _ _⟩
    case round =>
      obtain ⟨k, hk, rfl, hd⟩ := hrel
      have Hd := Lib.hid hd
      have HW := Lib.hid (HB1.out.call hd)
      clear hd a0 z0 z1 z2
      by_cases hlt : k < s.gates.length
      · have hks : k < sts.length := by rw [L1.out]; exact hlt
        have hkt : k < ts.length := by rw [L2.out]; exact hlt
        have hkb : k < bs.length := by rw [L3.out]; exact hlt
        obtain ⟨b, off, ha, hb, hgl⟩ : ∃ b off, s.gA = some ⟨b, off, none⟩ ∧ b < w.heap.size ∧ ∀ k, (h : k < s.gates.length) → w.rangeAt b (off + k * 21) s.gates[k].cells.toList := by
          rcases Hg0.out.2.2 with h | h
          · exact absurd hlt (by rw [h]; simp)
          · exact h
        obtain ⟨sb, so, hsa, hsb, hsl⟩ : ∃ b off, sA = some ⟨b, off, none⟩ ∧ _ := by
          rcases Hm0.out.2 with h | h
          · exact absurd hks (by rw [h]; simp)
          · exact h
        obtain ⟨tb, tof, hta, htb, htl⟩ : ∃ b off, tA = some ⟨b, off, none⟩ ∧ _ := by
          rcases Ht0.out.2 with h | h
          · exact absurd hkt (by rw [h]; simp)
          · exact h
        obtain ⟨bb, bo, hba, hbb, hbl⟩ : ∃ b off, bA = some ⟨b, off, none⟩ ∧ _ := by
          rcases Hb0.out.2 with h | h
          · exact absurd hkb (by rw [h]; simp)
          · exact h
        have hka : k < (stList f s.gates.length).length := by rw [stList_len]; exact hlt
        have hkm : k < (mvList f s.gates.length).length := by rw [mvList_len]; exact hlt
        obtain ⟨ab, ao, haa, hab, hal⟩ : ∃ b off, aS = some ⟨b, off, none⟩ ∧ _ := by
          rcases HS1.out.2 with h | h
          · exact absurd hka (by rw [h]; simp)
          · exact h
        obtain ⟨mb, mo, hma, hmb, hml⟩ : ∃ b off, aM = some ⟨b, off, none⟩ ∧ _ := by
          rcases HM1.out.2 with h | h
          · exact absurd hkm (by rw [h]; simp)
          · exact h
        subst hsa hta hba haa hma
        have Hgr := Lib.hid (show ∃ b off, s.gA = some ⟨b, off, none⟩ ∧ b < w.heap.size ∧ w.rangeAt b (off + k * 21) s.gates[k].cells.toList from ⟨b, off, ha, hb, hgl k hlt⟩)
        have Hcs := Lib.hid (hsl k hks)
        have Hct := Lib.hid (htl k hkt)
        have Hcb := Lib.hid (hbl k hkb)
        have hAS := hal k hka
        rw [show (stList f s.gates.length)[k] = (f k).1 from by simp [stList]] at hAS
        have hAM := hml k hkm
        rw [show (mvList f s.gates.length)[k] = (f k).2 from by simp [mvList]] at hAM
        have HAS := Lib.hid hAS
        have HAM := Lib.hid hAM
        have Hsk := Lib.hid (Hkk.out k hlt hks hkt hkb)
        have Hgo := Lib.hid (Hg0.out.2.1 s.gates[k] (List.getElem_mem hlt))
        have Hsl := Lib.hid hsl
        have i1 : (0 : Int) ≤ (k : Int) := by omega
        have i2 : (k : Int) < (s.gates.length : Int) := by omega
        clear hgl hsl htl hbl hal hml hAS hAM
        revert Hgr Hcs Hct Hcb HAS HAM Hsk Hgo
        generalize s.gates[k] = g
        generalize sts[k] = x
        generalize ts[k] = t
        generalize bs[k] = bv
        generalize f k = z
        generalize refE s.rules sts k x t bv = r
        intro Hgr Hcs Hct Hcb HAS HAM Hsk Hgo
        have bw : ∀ V, Below w1.heap.size w1 V → Below w.heap.size w V := fun V h => (HB1.out.call h).below
        have Hbw := Lib.hid bw
        have y1 : wr.cell? ⟨w.heap.size + 1, 1, none⟩ = some (.slice (some ⟨tb, tof, none⟩) s.gates.length tC) := HW.out.cell 1 1 rfl rfl
        have y2 : wr.cell? ⟨w.heap.size + 1, 2, none⟩ = some (.slice (some ⟨bb, bo, none⟩) s.gates.length bC) := HW.out.cell 1 2 rfl rfl
        have yb : wr.cell? ⟨bb, bo + k, none⟩ = some (.bool bv) := (HW.out.below.cell (p := ⟨bb, bo + k, none⟩) hbb).trans Hcb.out
        have yt0 : wr.cell? ⟨tb, tof + k * 4, none⟩ = some (.int .i64 t.order) := (HW.out.below.cell (p := ⟨tb, tof + k * 4, none⟩) htb).trans Hct.out.1
        have yt1 : wr.cell? ⟨tb, tof + k * 4 + 1, none⟩ = some (.bool t.power) := (HW.out.below.cell (p := ⟨tb, tof + k * 4 + 1, none⟩) htb).trans Hct.out.2.1
        have yt2 : wr.cell? ⟨tb, tof + k * 4 + 2, none⟩ = some (.int .i64 t.outer) := (HW.out.below.cell (p := ⟨tb, tof + k * 4 + 2, none⟩) htb).trans Hct.out.2.2.1
        have yt3 : wr.cell? ⟨tb, tof + k * 4 + 3, none⟩ = some (.int .i64 t.inner) := (HW.out.below.cell (p := ⟨tb, tof + k * 4 + 3, none⟩) htb).trans Hct.out.2.2.2
        have lw := HW.out.lt 1 rfl
        have lb : bb < wr.heap.size := Nat.lt_of_lt_of_le hbb HW.out.below.size
        clear bw hka hkm hks hkt hkb ha hb b off
        go_upto_region 12 with (fail)
        obtain ⟨V, hV⟩ : ∃ V, V = wr.alloc (.cells t.cells 45) := ⟨_, rfl⟩
        obtain ⟨P, hP⟩ : ∃ P, P = wr.heap.size := ⟨_, rfl⟩
        have hVP : V.heap[P]? = some (.cells t.cells 45 (0, 0)) := by rw [hV, hP]; exact heap_alloc_new wr _
        have hbV : Below wr.heap.size wr V := by rw [hV]; exact (Below.refl _ _).alloc (Nat.le_refl _) _
        have hPl : w1.heap.size ≤ P := by rw [hP]; exact Hd.out.size
        have hPw : w.heap.size + 1 < P := by rw [hP]; exact lw
        rw [← hP]
        rw [show wr.alloc (.cells #[.int .i64 t.order, .bool t.power, .int .i64 t.outer, .int .i64 t.inner] 45) = V from hV.symm]
        have HV1 := Lib.hid (Hd.out.trans (hbV.mono Hd.out.size))
        have HVP := Lib.hid hVP
        have HVW := Lib.hid (HW.out.call hbV)
        clear hV hP hVP hbV y1 y2 yb yt0 yt1 yt2 yt3 lw lb HW Hd
        go_wp2
        go_loopw [11, 12] (fun h j wx => ∃ m : Nat, m ≤ s.rules.length ∧ h = .bool (bv || (s.rules.take m).any (ruleHit sts k)) ∧ j = .int .i64 m ∧ Below V.heap.size V wx) (fun _ j _ => s.rules.length - (intOf j).toNat)
        case atStart => exact ⟨0, Nat.zero_le _, by simp, rfl, Below.refl _ _⟩
        case round =>
          obtain ⟨m, hm, rfl, rfl, hd⟩ := hrel
          have Hd := Lib.hid hd
          have HW := Lib.hid (HVW.out.call hd)
          have f1 : wr.cell? ⟨w.heap.size, 1, none⟩ = some (.slice s.rA s.rules.length s.rC) := HW.out.cell 0 1 rfl rfl
          have f2 : wr.cell? ⟨w.heap.size + 1, 0, none⟩ = some (.slice (some ⟨sb, so, none⟩) s.gates.length sC) := HW.out.cell 1 0 rfl rfl
          have lw := HW.out.lt 1 rfl
          clear hd
          by_cases hlt : m < s.rules.length
          · as_aux_lemma =>
              obtain ⟨rb, ro, hra, hrb, hrl⟩ : ∃ b off, s.rA = some ⟨b, off, none⟩ ∧ _ := by
                rcases Hr0.out.2 with h | h
                · exact absurd hlt (by rw [h]; simp)
                · exact h
              rw [hra] at f1
              obtain ⟨c0, c1, c2, c3⟩ := hrl m hlt
              have hta := take_any (f := ruleHit sts k) hlt
              have hre := Hrin.out s.rules[m] (List.getElem_mem hlt)
              have Hta := Lib.hid hta
              clear hrl hta hra
              revert c0 c1 c2 c3 Hta hre
              generalize s.rules[m] = r0
              intro c0 c1 c2 c3 hre Hta
              have d0 := (HW.out.below.cell (p := ⟨rb, ro + m * 4, none⟩) hrb).trans c0
              have d1 := (HW.out.below.cell (p := ⟨rb, ro + m * 4 + 1, none⟩) hrb).trans c1
              have d2 := (HW.out.below.cell (p := ⟨rb, ro + m * 4 + 2, none⟩) hrb).trans c2
              have d3 := (HW.out.below.cell (p := ⟨rb, ro + m * 4 + 3, none⟩) hrb).trans c3
              obtain ⟨hr1, hr2⟩ := hre
              obtain ⟨q, hq⟩ : ∃ q : Nat, r0.other = q := ⟨r0.other.toNat, by omega⟩
              have hbe : r0.other.toNat = q := by omega
              have hqn : q < s.gates.length := by omega
              have hql : q < sts.length := by rw [L1.out]; exact hqn
              have hpo : posAt sts r0.other = sts[q].pos := by unfold posAt; rw [hbe, List.getElem?_eq_getElem hql]
              have e0 : wr.cell? ⟨sb, so + q * 3, none⟩ = some (.int .i64 sts[q].pos) := (HW.out.below.cell (p := ⟨sb, so + q * 3, none⟩) hsb).trans ((Hsl.out q hql).1)
              have hsb2 : sb < wr.heap.size := Nat.lt_of_lt_of_le hsb HW.out.below.size
              have hhit : ruleHit sts k r0 = (decide (r0.gate = (k : Int)) && outB sts[q].pos r0.lo r0.hi) := by unfold ruleHit; rw [hpo]
              have Hhit := Lib.hid hhit
              have j1 : (0 : Int) ≤ (q : Int) := by omega
              have j2 : (q : Int) < (s.gates.length : Int) := by omega
              have j3 : decide ((q : Int) < 0) = false := by simp
              have j4 : decide ((q : Int) ≥ (s.gates.length : Int)) = false := by simp; omega
              rw [hq] at d1
              clear c0 c1 c2 c3 hhit hpo hbe hr1 hr2 hq
              revert e0 Hhit
              generalize sts[q].pos = po
              intro e0 Hhit
              clear hql hqn
              have HA := Lib.hid (Hd.out.trans (((Below.refl wr.heap.size wr).alloc (Nat.le_refl _) (.cells #[.int .i64 r0.gate, .int .i64 q, .int .i64 r0.lo, .int .i64 r0.hi] 72)).mono Hd.out.size))
              have Hih := Lib.hid (show (bv || (s.rules.take (m + 1)).any (ruleHit sts k)) = ((bv || (s.rules.take m).any (ruleHit sts k)) || (decide (r0.gate = (k : Int)) && outB po r0.lo r0.hi)) by rw [Hta.out, Hhit.out, Bool.or_assoc])
              clear Hta Hhit
              revert Hih
              generalize (bv || (s.rules.take m).any (ruleHit sts k)) = A
              intro Hih
              cases A with
              | true =>
                as_aux_lemma =>
                  have hn : (bv || (s.rules.take (m + 1)).any (ruleHit sts k)) = true := by rw [Hih.out]; rfl
                  have Hn := Lib.hid hn
                  clear hn Hih
                  go_wp2
                  go_roundw
                  case rel => first | exact ⟨m + 1, by omega, congrArg Value.bool Hn.out.symm, by go_num, HA.out⟩ | ((repeat apply Exists.intro); exact ⟨⟨m + 1, by omega, congrArg Value.bool Hn.out.symm, by go_num, HA.out⟩, rfl⟩)
                  case measure => simp [intOf]; omega
              | false =>
                as_aux_lemma =>
                  by_cases hg : r0.gate = (k : Int)
                  · have hgd : (r0.gate == (k : Int)) = true := by simp [hg]
                    cases hlo : decide (po < r0.lo) with
                    | true =>
                      as_aux_lemma =>
                        have hn : (bv || (s.rules.take (m + 1)).any (ruleHit sts k)) = true := by rw [Hih.out]; simp [hg, outB, hlo]
                        have Hn := Lib.hid hn
                        clear hn Hih hg
                        go_wp2
                        go_roundw
                        case rel => first | exact ⟨m + 1, by omega, congrArg Value.bool Hn.out.symm, by go_num, HA.out⟩ | ((repeat apply Exists.intro); exact ⟨⟨m + 1, by omega, congrArg Value.bool Hn.out.symm, by go_num, HA.out⟩, rfl⟩)
                        case measure => simp [intOf]; omega
                    | false =>
                      as_aux_lemma =>
                        have hn : (bv || (s.rules.take (m + 1)).any (ruleHit sts k)) = decide (po > r0.hi) := by rw [Hih.out]; simp [hg, outB, hlo]
                        have Hn := Lib.hid hn
                        clear hn Hih hg
                        go_wp2
                        go_roundw
                        case rel => first | exact ⟨m + 1, by omega, congrArg Value.bool Hn.out.symm, by go_num, HA.out⟩ | ((repeat apply Exists.intro); exact ⟨⟨m + 1, by omega, congrArg Value.bool Hn.out.symm, by go_num, HA.out⟩, rfl⟩)
                        case measure => simp [intOf]; omega
                  · have hgd : (r0.gate == (k : Int)) = false := by simp [hg]
                    have hn : (bv || (s.rules.take (m + 1)).any (ruleHit sts k)) = false := by rw [Hih.out]; simp [hg]
                    have Hn := Lib.hid hn
                    clear hn Hih hg
                    go_wp2
                    go_roundw
                    case rel => first | exact ⟨m + 1, by omega, congrArg Value.bool Hn.out.symm, by go_num, HA.out⟩ | ((repeat apply Exists.intro); exact ⟨⟨m + 1, by omega, congrArg Value.bool Hn.out.symm, by go_num, HA.out⟩, rfl⟩)
                    case measure => simp [intOf]; omega
          · have hme : m = s.rules.length := by omega
            subst hme
            rw [List.take_length]
            have Hsk2 : Hid (ShipK g x t bv (bv || s.rules.any (ruleHit sts k)) r z) := Hsk
            clear Hsk
            revert Hsk2
            generalize (bv || s.rules.any (ruleHit sts k)) = H
            intro Hsk
            have z0 : wr.cell? ⟨sb, so + k * 3 + 2, none⟩ = some (.bool x.bolted) := (HW.out.below.cell (p := ⟨sb, so + k * 3 + 2, none⟩) hsb).trans Hcs.out.2.2
            have hPb := blk_below Hd.out HVP.out
            have HPb := Lib.hid hPb
            have p0 : wr.cell? ⟨P, 0, none⟩ = some (.int .i64 t.order) := (cell_of_row _ _ 0 _ _ _ hPb).trans rfl
            have pf : wr.frozen? ⟨P, 0, none⟩ = false := frozen_of_row _ _ 0 _ _ hPb
            have Hd1 := Lib.hid (HV1.out.trans (Hd.out.mono HV1.out.size))
            have m0 : wr.cell? ⟨mb, mo + k * 3, none⟩ = some (.int .i64 z.2.refused) := (Hd1.out.cell (p := ⟨mb, mo + k * 3, none⟩) hmb).trans HAM.out.1
            rw [Hsk.out.ref] at m0
            have y2 : wr.cell? ⟨w.heap.size + 1, 2, none⟩ = some (.slice (some ⟨bb, bo, none⟩) s.gates.length bC) := HW.out.cell 1 2 rfl rfl
            have yb : wr.cell? ⟨bb, bo + k, none⟩ = some (.bool bv) := (HW.out.below.cell (p := ⟨bb, bo + k, none⟩) hbb).trans Hcb.out
            have lmb : mb < P := Nat.lt_of_lt_of_le hmb hPl
            have lbb : bb < P := by have := HB1.out.below.size; omega
            have npm : mb ≠ P := by omega
            have npb : bb ≠ P := by omega
            have npw : w.heap.size + 1 ≠ P := by omega
            clear hPb
            go_upto_region 20 with (fail)
            rename_i KR hKR
            go_cut [15] (fun q wx => q = .bool x.bolted ∧ wr = wx)
            case first =>
              as_aux_lemma =>
                go_wp2
                go_meet
                exact ⟨rfl, rfl⟩
            obtain ⟨rfl, rfl⟩ := hcut
            refine hKR _ _ (wp_seq_k fun K20 hK20 => ?_)
            go_cut [] (fun wx => TwK wr (some P) none wx ∧ wx.heap[P]? = some (.cells (shipT H x t).cells 45 (0, 0)))
            case first =>
              as_aux_lemma =>
                have T0 := TwK.new wr (some P) none
                cases hh : heldB H x t with
                | true =>
                  as_aux_lemma =>
                    have hh2 := hh
                    simp only [heldB, Bool.and_eq_true, Bool.not_eq_true'] at hh2
                    obtain ⟨⟨rfl, ho⟩, hbo0⟩ := hh2
                    have hbo : x.bolted = false := by simpa using hbo0
                    clear hbo0
                    have hsh : shipT true x t = ⟨0, t.power, t.outer, t.inner⟩ := by rw [shipT, if_pos hh]
                    have hre := Hsk.out.held hh
                    have Hsh := Lib.hid hsh
                    have hst : TwK wr (some P) none (wr.setCell ⟨P, 0, none⟩ (.int .i64 0)) := TwK.set T0 _
                    have hsb3 : (wr.setCell ⟨P, 0, none⟩ (.int .i64 0)).heap[P]? = some (.cells (Stp.mk 0 t.power t.outer t.inner).cells 45 (0, 0)) := heap_setCell_same _ P 0 _ _ _ HPb.out
                    have Hst := Lib.hid hst
                    have Hsb3 := Lib.hid hsb3
                    have hnb : (!x.bolted) = true := by simp [hbo]
                    clear hh hsh hst hsb3 hbo T0
                    cases bv with
                    | true =>
                      as_aux_lemma =>
                        rw [if_pos rfl] at hre
                        subst hre
                        go_wp2_with fail
                        go_quiet (fail)
                        go_wp2
                        go_meet
                        exact ⟨TwK.drewN' Hst.out _, by rw [Hsh.out]; exact Hsb3.out⟩
                    | false =>
                      as_aux_lemma =>
                        rw [if_neg (by simp)] at hre
                        subst hre
                        go_wp2_with fail
                        go_quiet (fail)
                        go_wp2
                        go_meet
                        exact ⟨TwK.drewN' Hst.out _, by rw [Hsh.out]; exact Hsb3.out⟩
                | false =>
                  as_aux_lemma =>
                    have hsh : shipT H x t = t := by rw [shipT, if_neg (by simp [hh])]
                    have hfr := Hsk.out.free hh
                    have Hend := Lib.hid (show TwK wr (some P) none wr ∧ wr.heap[P]? = some (.cells (shipT H x t).cells 45 (0, 0)) by rw [hsh]; exact ⟨T0, HPb.out⟩)
                    unfold heldB at hh
                    clear hsh T0 HW Hd HVW HV1 HPb
                    clear HS1 HM1 HAS HAM Hcs Hct Hcb Hgo Hgr Hsl Hkk Hm0 Ht0 Hb0 Hg0 Hr0 Hmv Hrin Hbw HB1 Hsk Hd1 L1 L2 L3
                    by_cases hB : x.bolted = true
                    · have hnb : (!x.bolted) = false := by simp [hB]
                      clear hh hfr hB
                      cases H with
                      | false =>
                        as_aux_lemma =>
                          cases hr0 : (r != 0) with
                          | false =>
                            as_aux_lemma =>
                              go_wp2
                              go_meet
                              exact Hend.out
                          | true =>
                            as_aux_lemma =>
                              go_wp2
                              go_meet
                              exact Hend.out
                      | true =>
                        as_aux_lemma =>
                          cases ho : (t.order != 0) with
                          | false =>
                            as_aux_lemma =>
                              cases hr0 : (r != 0) with
                              | false =>
                                as_aux_lemma =>
                                  go_wp2
                                  go_meet
                                  exact Hend.out
                              | true =>
                                as_aux_lemma =>
                                  go_wp2
                                  go_meet
                                  exact Hend.out
                          | true =>
                            as_aux_lemma =>
                              cases hr0 : (r != 0) with
                              | false =>
                                as_aux_lemma =>
                                  go_wp2
                                  go_meet
                                  exact Hend.out
                              | true =>
                                as_aux_lemma =>
                                  go_wp2
                                  go_meet
                                  exact Hend.out
                    · have hB2 : x.bolted = false := by simpa using hB
                      have hnb : (!x.bolted) = true := by simp [hB2]
                      rw [hB2] at hh hfr
                      have hr0 : (r != 0) = false := by simpa using hfr
                      clear hB hB2 hfr
                      cases H with
                      | false =>
                        as_aux_lemma =>
                          clear hh
                          go_wp2
                          go_meet
                          exact Hend.out
                      | true =>
                        as_aux_lemma =>
                          have ho : (t.order != 0) = false := by simpa using hh
                          clear hh
                          go_wp2
                          go_meet
                          exact Hend.out
            case rest =>
              as_aux_lemma =>
                obtain ⟨hT, hPc⟩ := hcut
                have hbP : Below P wr wc := hT.below (fun b hb => by cases hb; exact Nat.le_refl _) (fun b hb => by cases hb) (Nat.le_of_lt (Array.getElem?_eq_some_iff.1 HPb.out).1)
                have hB1 := Hd1.out.trans (hbP.mono hPl)
                have HC := Lib.hid (HB1.out.call hB1)
                have hst := Hsk.out.step
                obtain ⟨u, hu⟩ : ∃ u, u = shipT H x t := ⟨_, rfl⟩
                rw [← hu] at hst hPc
                obtain ⟨m, hm⟩ : ∃ m : Mvd, m = ⟨if heldB H x t = true then 0 else r, z.2.moved, z.2.oil⟩ := ⟨_, rfl⟩
                rw [← hm] at hst
                have hmo : z.2.moved = m.moved := by rw [hm]
                have hoi : z.2.oil = m.oil := by rw [hm]
                have am1 : w1.cell? ⟨mb, mo + k * 3 + 1, none⟩ = some (.int .i64 m.moved) := by rw [← hmo]; exact HAM.out.2.1
                have am2 : w1.cell? ⟨mb, mo + k * 3 + 2, none⟩ = some (.int .i64 m.oil) := by rw [← hoi]; exact HAM.out.2.2
                have HM1' := Lib.hid am1
                have HM2' := Lib.hid am2
                have HB1c := Lib.hid hB1
                have HPc := Lib.hid hPc
                clear hT hbP hB1 hu hm hmo hoi am1 am2 hPc Hsk m0 y2 yb p0 pf z0 HPb HAM HW Hd HVW HV1 HVP npm npb npw
                revert HAS hst
                generalize z.1 = y
                intro HAS hst
                have Hst := Lib.hid hst
                clear hst
                go_wp2
                try simp only [Act.put]
                go_cut [16, 17, 18] (fun p q e wx => ∃ P1 Q1 : Nat, p = .pointer (some ⟨P1, 0, none⟩) ∧ q = .pointer (some ⟨Q1, 0, none⟩) ∧ e = .int .i64 0 ∧ P1 < wx.heap.size ∧ Q1 < wx.heap.size ∧ Below wc.heap.size wc wx ∧ (wx.cell? ⟨P1, 0, none⟩ = some (.int .i64 y.pos) ∧ wx.cell? ⟨P1, 1, none⟩ = some (.int .i64 y.charge) ∧ wx.cell? ⟨P1, 2, none⟩ = some (.bool y.bolted)) ∧ (wx.cell? ⟨Q1, 0, none⟩ = some (.int .i64 m.refused) ∧ wx.cell? ⟨Q1, 1, none⟩ = some (.int .i64 m.moved) ∧ wx.cell? ⟨Q1, 2, none⟩ = some (.int .i64 m.oil)))
                case first =>
                  as_aux_lemma =>
                    obtain ⟨b, off, ha, hb, hgl⟩ : ∃ b off, s.gA = some ⟨b, off, none⟩ ∧ b < w.heap.size ∧ w.rangeAt b (off + k * 21) g.cells.toList := Hgr.out
                    have T0 := TgS.new wc
                    have hkW : ∀ V, TgS wc V → Bk w [.cells s.cells 25, .cells #[.slice (some ⟨sb, so, none⟩) s.gates.length sC, .slice (some ⟨tb, tof, none⟩) s.gates.length tC, .slice (some ⟨bb, bo, none⟩) s.gates.length bC] 65] V := fun V h => HC.out.call h.below
                    have hPV : ∀ V, TgS wc V → V.heap[P]? = some (.cells u.cells 45 (0, 0)) := fun V h => blk_below h.below HPc.out
                    have hrm : ∀ V, TgS wc V → V.rangeAt b (off + k * 21) g.cells.toList := fun V h => range_below hgl hb (hkW V h).below
                    have hg0 : ∀ V, TgS wc V → IsMid V b (off + k * 21) := fun V h => ⟨g, hrm V h⟩
                    have hg1 : ∀ V, TgS wc V → rowMid V b (off + k * 21) = g.val := fun V h => rowMid_gate (hrm V h)
                    have hc0 : ∀ V, TgS wc V → V.cell? ⟨w.heap.size, 0, none⟩ = some (.slice (some ⟨b, off, none⟩) s.gates.length s.gC) := fun V h => by rw [← ha]; exact (hkW V h).cell 0 0 rfl rfl
                    have hj0 : ∀ V, TgS wc V → V.cell? ⟨w.heap.size + 1, 0, none⟩ = some (.slice (some ⟨sb, so, none⟩) s.gates.length sC) := fun V h => (hkW V h).cell 1 0 rfl rfl
                    have hs0 : ∀ V, TgS wc V → V.cell? ⟨sb, so + k * 3, none⟩ = some (.int .i64 x.pos) := fun V h => ((hkW V h).below.cell (p := ⟨sb, so + k * 3, none⟩) hsb).trans Hcs.out.1
                    have hs1 : ∀ V, TgS wc V → V.cell? ⟨sb, so + k * 3 + 1, none⟩ = some (.int .i64 x.charge) := fun V h => ((hkW V h).below.cell (p := ⟨sb, so + k * 3 + 1, none⟩) hsb).trans Hcs.out.2.1
                    have hs2 : ∀ V, TgS wc V → V.cell? ⟨sb, so + k * 3 + 2, none⟩ = some (.bool x.bolted) := fun V h => ((hkW V h).below.cell (p := ⟨sb, so + k * 3 + 2, none⟩) hsb).trans Hcs.out.2.2
                    have ht0 : ∀ V, TgS wc V → V.cell? ⟨P, 0, none⟩ = some (.int .i64 u.order) := fun V h => (cell_of_row _ _ 0 _ _ _ (hPV V h)).trans rfl
                    have ht1 : ∀ V, TgS wc V → V.cell? ⟨P, 1, none⟩ = some (.bool u.power) := fun V h => (cell_of_row _ _ 1 _ _ _ (hPV V h)).trans rfl
                    have ht2 : ∀ V, TgS wc V → V.cell? ⟨P, 2, none⟩ = some (.int .i64 u.outer) := fun V h => (cell_of_row _ _ 2 _ _ _ (hPV V h)).trans rfl
                    have ht3 : ∀ V, TgS wc V → V.cell? ⟨P, 3, none⟩ = some (.int .i64 u.inner) := fun V h => (cell_of_row _ _ 3 _ _ _ (hPV V h)).trans rfl
                    have hokg : ∀ V, TgS wc V → g.Ok V := fun V h => Hgo.out.below (hkW V h).below (Nat.le_refl _)
                    have HO := Lib.hid hokg
                    clear hkW hokg hrm hPV ha hgl
                    go_region_held3 (fun w' => TgS wc w')
                      (first
                        | with_reducible exact tB
                        | with_reducible assumption
                        | ((repeat (first | (with_reducible exact T0) | (with_reducible refine TgS.drew ?_) | (with_reducible refine TgS.alloc ?_ _) | (with_reducible refine TgS.set ?_ (by omega) _) | (with_reducible exact tB) | (with_reducible assumption))); done))
                      (first
                        | (go_at_call 27; refine ((step_any g x u _ (HO.out _ (by assumption)))).mono ?_; rintro e w' ⟨rfl, hbB⟩; rw [Hst.out]; have tB := TgS.call (by assumption) hbB; have ssB := tB.below.size; have szB := hbB.size; have hcB := below_cellR hbB; have hfB := below_frozenR hbB; have hlB := below_ltR hbB; (try simp only [World.size_alloc, drew_size] at szB hcB hfB hlB)))
                    all_goals
                      have htop : Below wc.heap.size wc _ := TgS.below (by assumption)
                      have Htop := Lib.hid htop
                      clear htop
                      go_wp2_with fail
                      go_meet
                      refine ⟨_, _, rfl, rfl, rfl, ?_, ?_, Htop.out, ?_⟩
                    all_goals first
                      | omega
                      | (simp; done)
                      | (simp; omega)
                      | (simp [go_sem, World.setCell]; omega)
                      | ((with_reducible apply ends1); (focus (repeat (first | ((with_reducible refine blk_new ?_); simp; done) | ((with_reducible refine blk_new ?_); simp [World.setCell]; done) | (with_reducible refine blk_drew ?_) | (with_reducible refine blk_old ?_) | (with_reducible apply blk_set3) | (with_reducible refine blk_set_other (by first | omega | (simp; omega)) ?_) | (with_reducible refine blk_below hbB ?_)))); (focus (repeat (first | ((with_reducible refine blk_new ?_); simp; done) | ((with_reducible refine blk_new ?_); simp [World.setCell]; done) | (with_reducible refine blk_drew ?_) | (with_reducible refine blk_old ?_) | (with_reducible apply blk_set3) | (with_reducible refine blk_set_other (by first | omega | (simp; omega)) ?_) | (with_reducible refine blk_below hbB ?_)))); (focus (first | omega | (simp; done) | (simp; omega))))
                      | ((with_reducible apply ends2); (focus (repeat (first | ((with_reducible refine blk_new ?_); simp; done) | ((with_reducible refine blk_new ?_); simp [World.setCell]; done) | (with_reducible refine blk_drew ?_) | (with_reducible refine blk_old ?_) | (with_reducible apply blk_set3) | (with_reducible refine blk_set_other (by first | omega | (simp; omega)) ?_) | (with_reducible refine blk_below hbB ?_)))); (focus (repeat (first | ((with_reducible refine blk_new ?_); simp; done) | ((with_reducible refine blk_new ?_); simp [World.setCell]; done) | (with_reducible refine blk_drew ?_) | (with_reducible refine blk_old ?_) | (with_reducible apply blk_set3) | (with_reducible refine blk_set_other (by first | omega | (simp; omega)) ?_) | (with_reducible refine blk_below hbB ?_)))); (focus (first | omega | (simp; done) | (simp; omega))))
                      | ((with_reducible apply And.intro); (focus ((with_reducible apply cells3); (focus (repeat (first | ((with_reducible refine blk_new ?_); simp; done) | ((with_reducible refine blk_new ?_); simp [World.setCell]; done) | (with_reducible refine blk_drew ?_) | (with_reducible refine blk_old ?_) | (with_reducible apply blk_set3) | (with_reducible refine blk_set_other (by first | omega | (simp; omega)) ?_) | (with_reducible refine blk_below hbB ?_)))))); (focus ((with_reducible apply cells3); (focus (repeat (first | ((with_reducible refine blk_new ?_); simp; done) | ((with_reducible refine blk_new ?_); simp [World.setCell]; done) | (with_reducible refine blk_drew ?_) | (with_reducible refine blk_old ?_) | (with_reducible apply blk_set3) | (with_reducible refine blk_set_other (by first | omega | (simp; omega)) ?_) | (with_reducible refine blk_below hbB ?_)))))))
                case rest =>
                  as_aux_lemma =>
                    obtain ⟨P1, Q1, rfl, rfl, rfl, hP1, hQ1, hb1, ⟨u0, u1, u2⟩, v0, v1, v2⟩ := hcut
                    have hB2 := HB1c.out.trans (hb1.mono HB1c.out.size)
                    have HB2 := Lib.hid hB2
                    have as0 := (hB2.cell (p := ⟨ab, ao + k * 3, none⟩) hab).trans HAS.out.1
                    have as1 := (hB2.cell (p := ⟨ab, ao + k * 3 + 1, none⟩) hab).trans HAS.out.2.1
                    have as2 := (hB2.cell (p := ⟨ab, ao + k * 3 + 2, none⟩) hab).trans HAS.out.2.2
                    have am1 := (hB2.cell (p := ⟨mb, mo + k * 3 + 1, none⟩) hmb).trans HM1'.out
                    have am2 := (hB2.cell (p := ⟨mb, mo + k * 3 + 2, none⟩) hmb).trans HM2'.out
                    clear hb1 hB2
                    go_wp2_with fail
                    go_quiet (fail)
                    go_wp2
                    go_roundw
                    case rel => first | exact ⟨k + 1, by omega, by go_num, HB2.out.trans (below_drewN (Below.refl _ _) _)⟩ | ((repeat apply Exists.intro); exact ⟨⟨k + 1, by omega, by go_num, HB2.out.trans (below_drewN (Below.refl _ _) _)⟩, rfl⟩)
                    case measure => simp [intOf]; omega
      · have hke : k = s.gates.length := by omega
        subst hke
        go_wp2_with (first
          | (go_at_call 24; refine (awake_any _).mono ?_; rintro e w5 ⟨rfl, hb5⟩; have HB5 := Lib.hid (HW.out.call hb5); clear hb5))
        go_ret
        exact ⟨rfl, HB5.out.below⟩
  · have hne : (E != 0) = true := by simp [h0]
    have hmv : ∀ X, Below w.heap.size w X → Calls Try.prog 35 #[s.val, .slice sA sts.length sC, .slice tA ts.length tC, .slice bA bs.length bC] X fun e w' => e = .returned (.tuple #[.slice none 0 0, .slice none 0 0, .int .i64 E]) ∧ Below X.heap.size X w' := fun X hX => by
      refine (M1.out X hX).mono ?_
      rintro e w' ⟨vS, vM, rfl, hO⟩
      obtain ⟨rfl, rfl⟩ := hO.bad (fun h => h0 (hE.trans h))
      exact ⟨rfl, hO.below⟩
    have Hmv := Lib.hid hmv
    clear hmv M1 hE h0 hok hms hmt hmb
    go_enter Try.func10, Try.ntmps10
    go_upto_region 1 with (fail)
    obtain ⟨W, hW⟩ : ∃ W, W = (w.alloc (.cells s.cells 25)).alloc (.cells #[.slice sA sts.length sC, .slice tA ts.length tC, .slice bA bs.length bC] 65) := ⟨_, rfl⟩
    rw [← hW] at HB ⊢
    clear hW
    have y0 : W.cell? ⟨w.heap.size, 0, none⟩ = some (.slice s.gA s.gates.length s.gC) := HB.out.cell 0 0 rfl rfl
    have y1 : W.cell? ⟨w.heap.size, 1, none⟩ = some (.slice s.rA s.rules.length s.rC) := HB.out.cell 0 1 rfl rfl
    have x0 : W.cell? ⟨w.heap.size + 1, 0, none⟩ = some (.slice sA sts.length sC) := HB.out.cell 1 0 rfl rfl
    have x1 : W.cell? ⟨w.heap.size + 1, 1, none⟩ = some (.slice tA ts.length tC) := HB.out.cell 1 1 rfl rfl
    have x2 : W.cell? ⟨w.heap.size + 1, 2, none⟩ = some (.slice bA bs.length bC) := HB.out.cell 1 2 rfl rfl
    go_wp2_with (first
      | (go_at_call 35; refine (Hmv.out _ HB.out.below).mono ?_; rintro e w1 ⟨rfl, hb1⟩; have HB1 := Lib.hid (HB.out.call hb1); clear hb1)
      | (go_at_call 24; refine (awake_any _).mono ?_; rintro e w5 ⟨rfl, hb5⟩; have HB5 := Lib.hid (HB1.out.call hb5); clear hb5))
    go_ret
    exact ⟨rfl, HB5.out.below⟩
end Go.Proofs.Ythalanpmfhhhnaa
