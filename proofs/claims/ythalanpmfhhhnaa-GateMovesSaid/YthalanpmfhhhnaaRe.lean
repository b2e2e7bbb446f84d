/-
  The contract of the reference's refused.
-/
import Derived.Test.YthalanpmfhhhnaaGm
import Derived.Test.YthalanpmfhhhnaaCs
namespace Go.Proofs.Ythalanpmfhhhnaa
open Go.RowKit
set_option linter.unusedSimpArgs false
set_option linter.unusedVariables false

set_option maxRecDepth 100000 in
set_option maxHeartbeats 1000000 in
theorem rrefused_any (s : SetV) (sA : Option Addr) (sC : Nat) (sts : List St) (i : Nat) (t : Stp) (ship : Bool) (w : World) (hi : i < sts.length) (hrs : RulesAt w s.rA s.rules) (hsts : StsAt w sA sts) (hin : RulesIn s.rules sts.length) :
    Calls Try.prog 99 #[s.val, .slice sA sts.length sC, .int .i64 i, t.val, .bool ship] w fun e w' => e = .returned (.int .i64 (refE s.rules sts i sts[i] t ship)) ∧ Below w.heap.size w w' := by
  have hsm := hsts.1
  have hrm := hrs.1
  unfold maxLen at hsm hrm
  have Hin := Lib.hid hin
  have Hrs := Lib.hid hrs
  have Hsts := Lib.hid hsts
  have K0 := Lib.hid ((RfW.new w s).alloc (.cells t.cells 45))
  clear hin hrs hsts
  rcases Hsts.out.2 with hl | ⟨sb, so, rfl, hsb, hsl⟩
  · rw [hl] at hi; exact absurd hi (by simp)
  have c2 := (hsl i hi).2.2
  have Hsl := Lib.hid hsl
  clear hsl
  generalize hsi : sts[i] = si at *
  have Hsi := Lib.hid hsi
  clear hsi
  by_cases h0 : t.order = 0
  · have hr : refE s.rules sts i si t ship = 0 := by simp [refE, h0]
    have Hr := Lib.hid hr
    clear hr
    have hd : (t.order == 0) = true := by simp [h0]
    clear h0
    go_enter Try.func99, Try.ntmps99
    go_wp2
    try rw [Exit.noGoto_ret]
    go_ret
    exact ⟨ret_int (by rw [Hr.out]), K0.out.below⟩
  · have hd : (t.order == 0) = false := by simp [h0]
    have hr : refE s.rules sts i si t ship = if si.bolted then 130 else if ship then 131 else if s.rules.any (ruleHit sts i) then 132 else 0 := by rw [refE, if_neg h0]
    have Hr := Lib.hid hr
    clear h0 hr
    cases hb : si.bolted with
    | true =>
      rw [hb] at c2
      have hr : refE s.rules sts i si t ship = 130 := by rw [Hr.out, hb]; rfl
      have Hr2 := Lib.hid hr
      clear hr Hr
      go_enter Try.func99, Try.ntmps99
      go_wp2
      try rw [Exit.noGoto_ret]
      go_ret
      exact ⟨ret_int (by rw [Hr2.out]), K0.out.below⟩
    | false =>
      rw [hb] at c2
      cases ship with
      | true =>
        have hr : refE s.rules sts i si t true = 131 := by rw [Hr.out, hb]; rfl
        have Hr2 := Lib.hid hr
        clear hr Hr
        go_enter Try.func99, Try.ntmps99
        go_wp2
        try rw [Exit.noGoto_ret]
        go_ret
        exact ⟨ret_int (by rw [Hr2.out]), K0.out.below⟩
      | false =>
        have hr : refE s.rules sts i si t false = if s.rules.any (ruleHit sts i) then 132 else 0 := by rw [Hr.out, hb]; rfl
        have Hr2 := Lib.hid hr
        clear hr Hr
        go_enter Try.func99, Try.ntmps99
        go_wp2
        go_loopw [11] (fun j wr => ∃ k : Nat, k ≤ s.rules.length ∧ j = .int .i64 k ∧ (s.rules.drop k).any (ruleHit sts i) = s.rules.any (ruleHit sts i) ∧ RfW w s wr) (fun j _ => s.rules.length - (intOf j).toNat)
        case atStart => exact ⟨0, Nat.zero_le _, rfl, rfl, K0.out⟩
        case round =>
          obtain ⟨k, hk, rfl, hix, hkp⟩ := hrel
          have Hix := Lib.hid hix
          have Hkp := Lib.hid hkp
          have f1 := hkp.rs
          clear hix hkp
          by_cases hlt : k < s.rules.length
          · obtain ⟨_, hrat⟩ := Hrs.out.below Hkp.out.below (Nat.le_refl _)
            rcases hrat with hl | ⟨b, off, ha, hbb, hl⟩
            · rw [hl] at hlt; exact absurd hlt (by simp)
            · (try rw [ha]); rw [ha] at f1
              obtain ⟨d0, d1, d2, d3⟩ := hl k hlt
              have hst := any_step (f := ruleHit sts i) hlt
              have hht := any_hit (f := ruleHit sts i) hlt
              have hre := Hin.out s.rules[k] (List.getElem_mem hlt)
              have Hst := Lib.hid hst
              have Hht := Lib.hid hht
              clear hl hst hht ha
              revert d0 d1 d2 d3 Hst Hht hre
              generalize s.rules[k] = r
              intro d0 d1 d2 d3 hre Hst Hht
              obtain ⟨hr1, hr2⟩ := hre
              by_cases hg : r.gate = i
              · have hgd : (r.gate == (i : Int)) = true := by simp [hg]
                have HK := Lib.hid (Hkp.out.alloc (.cells r.cells 72))
                obtain ⟨p0, p1, p2⟩ := Hsl.out r.other.toNat (by omega)
                obtain ⟨q, hq⟩ : ∃ q : Nat, r.other = q := ⟨r.other.toNat, by omega⟩
                have hbe : r.other.toNat = q := by omega
                have hql : q < sts.length := by omega
                have hpo : posAt sts r.other = sts[q].pos := by unfold posAt; rw [hbe, List.getElem?_eq_getElem hql]
                have e0 : wr.cell? ⟨sb, so + q * 3, none⟩ = some (.int .i64 sts[q].pos) := (Hkp.out.below.cell (p := ⟨sb, so + q * 3, none⟩) hsb).trans ((Hsl.out q hql).1)
                have hsb2 : sb < wr.heap.size := Nat.lt_of_lt_of_le hsb Hkp.out.below.size
                have hhit : ruleHit sts i r = outB sts[q].pos r.lo r.hi := by unfold ruleHit; rw [hpo]; simp [hg]
                have Hhit := Lib.hid hhit
                have i1 : (0 : Int) ≤ r.other := hr1
                have i2 : r.other < (sts.length : Int) := hr2
                rw [hq] at i1 i2 d1
                clear p0 p1 p2 hbe hpo hhit hg
                revert e0 Hhit
                generalize sts[q].pos = po
                intro e0 Hhit
                by_cases ho : outB po r.lo r.hi = true
                · have h := Hht.out (by rw [Hhit.out]; exact ho)
                  rw [Hix.out] at h
                  have hr3 := Hr2.out
                  rw [h, if_pos rfl] at hr3
                  have Hr3 := Lib.hid hr3
                  clear h hr3 Hr2 Hst Hht
                  go_wp2_with fail
                  go_quiet ((go_at_call 56; first | exact quiet_add_left (in3_any _ _ _ _) | exact quiet_left (in3_any _ _ _ _)))
                  rw [ho]
                  go_wp2
                  try rw [Exit.noGoto_ret]
                  go_ret
                  exact ⟨ret_int (by rw [Hr3.out]), below_drewN (Hkp.out.alloc _).below _⟩
                · simp only [Bool.not_eq_true] at ho
                  have h := Hst.out (by rw [Hhit.out]; exact ho)
                  have H := Lib.hid h
                  clear h Hst Hht
                  go_wp2_with fail
                  go_quiet ((go_at_call 56; first | exact quiet_add_left (in3_any _ _ _ _) | exact quiet_left (in3_any _ _ _ _)))
                  rw [ho]
                  go_wp2
                  go_roundw
                  case rel => exact ⟨k + 1, by omega, by go_num, by rw [← Hix.out, H.out], (Hkp.out.alloc _).drewN _⟩
                  case measure => simp [intOf]; omega
              · have hgd : (r.gate == (i : Int)) = false := by simp [hg]
                have h := Hst.out (by simp [ruleHit, hg])
                have H := Lib.hid h
                have HK := Lib.hid (Hkp.out.alloc (.cells r.cells 72))
                clear h hg Hst Hht hr1 hr2
                go_wp2_with fail
                go_quiet (fail)
                go_wp2
                go_roundw
                case rel => exact ⟨k + 1, by omega, by go_num, by rw [← Hix.out, H.out], HK.out.drewN _⟩
                case measure => simp [intOf]; omega
          · have hs := any_out (f := ruleHit sts i) hlt
            rw [Hix.out] at hs
            have hr3 := Hr2.out
            rw [hs, if_neg (by simp)] at hr3
            have Hr3 := Lib.hid hr3
            clear hr3 hs Hr2 Hix
            go_wp2
            try rw [Exit.noGoto_ret]
            go_ret
            exact ⟨ret_int (by rw [Hr3.out]), Hkp.out.below⟩
end Go.Proofs.Ythalanpmfhhhnaa
