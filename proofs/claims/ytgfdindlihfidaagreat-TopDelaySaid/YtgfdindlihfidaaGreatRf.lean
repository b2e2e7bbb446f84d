/-
  The contract of gate.refused: why the machine does not carry out a step.
-/
import Derived.Test.YtgfdindlihfidaaGreatSe
import Derived.WalkMore
import Derived.Deep.LoopGhost
namespace Go.Proofs.YtgfdindlihfidaaGreat
open Go.RowKit
set_option linter.unusedSimpArgs false
set_option linter.unusedVariables false

/-- States lie in memory. -/
def StsAt (w : World) (a : Option Addr) (l : List St) : Prop :=
  l.length ≤ maxLen ∧ (l = [] ∨ ∃ b off, a = some ⟨b, off, none⟩ ∧ b < w.heap.size ∧ ∀ k, (h : k < l.length) →
    w.cell? ⟨b, off + k * 3, none⟩ = some (.int .i64 l[k].pos) ∧ w.cell? ⟨b, off + k * 3 + 1, none⟩ = some (.int .i64 l[k].charge) ∧ w.cell? ⟨b, off + k * 3 + 2, none⟩ = some (.bool l[k].bolted))

theorem StsAt.below {w w' : World} {a : Option Addr} {l : List St} {B : Nat} (h : StsAt w a l) (hb : Below B w w') (hB : w.heap.size ≤ B) : StsAt w' a l := by
  obtain ⟨hm, h⟩ := h
  refine ⟨hm, ?_⟩
  rcases h with h | ⟨b, off, h1, h2, h3⟩
  · exact .inl h
  · refine .inr ⟨b, off, h1, Nat.lt_of_lt_of_le h2 hb.size, fun k hk => ?_⟩
    have hlt := Nat.lt_of_lt_of_le h2 hB
    obtain ⟨c0, c1, c2⟩ := h3 k hk
    exact ⟨(hb.cell (p := ⟨b, off + k * 3, none⟩) hlt).trans c0, (hb.cell (p := ⟨b, off + k * 3 + 1, none⟩) hlt).trans c1, (hb.cell (p := ⟨b, off + k * 3 + 2, none⟩) hlt).trans c2⟩

/-- The position of a state. -/
def posAt (sts : List St) (k : Int) : Int := match sts[k.toNat]? with | some s => s.pos | none => 0
/-- A rule bars gate i. -/
def ruleHit (sts : List St) (i : Int) (r : Rul) : Bool := decide (r.gate = i) && outB (posAt sts r.other) r.lo r.hi
/-- The reason why gate i, in state s, does not take its step. -/
def refE (rules : List Rul) (sts : List St) (i : Int) (s : St) (t : Stp) (ship : Bool) : Int :=
  if t.order = 0 then 0 else if s.bolted then 130 else if ship then 131 else if rules.any (ruleHit sts i) then 132 else 0
/-- A rule names gates that there are. -/
def RulesIn (rules : List Rul) (n : Nat) : Prop := ∀ r ∈ rules, 0 ≤ r.other ∧ r.other < n

/-- What the walk of refused keeps. -/
structure RfW (w : World) (s : SetV) (W : World) : Prop where
  below : Below w.heap.size w W
  rs : W.cell? ⟨w.heap.size, 1, none⟩ = some (.slice s.rA s.rules.length s.rC)
  lt : w.heap.size < W.heap.size
theorem RfW.new (w : World) (s : SetV) : RfW w s (w.alloc (.cells s.cells 25)) :=
  ⟨(Below.refl _ _).alloc (Nat.le_refl _) _, by simp [go_sem], by simp⟩
theorem RfW.call {w W W' : World} {s : SetV} (h : RfW w s W) (hb : Below W.heap.size W W') : RfW w s W' :=
  ⟨h.below.trans (hb.mono h.below.size), (hb.cell (p := ⟨w.heap.size, 1, none⟩) h.lt).trans h.rs, Nat.lt_of_lt_of_le h.lt hb.size⟩
theorem RfW.alloc {w W : World} {s : SetV} (h : RfW w s W) (o : Obj) : RfW w s (W.alloc o) := h.call ((Below.refl W.heap.size W).alloc (Nat.le_refl _) o)

theorem RfW.drewN {w W : World} {s : SetV} (h : RfW w s W) (n : Nat) : RfW w s (W.drewN n) := h.call (below_drewN (Below.refl _ _) n)

theorem any_step {α : Type} {f : α → Bool} {l : List α} {k : Nat} (h : k < l.length) (h0 : f l[k] = false) : (l.drop k).any f = (l.drop (k + 1)).any f := by
  rw [drop_step h, List.any_cons, h0]; rfl
theorem any_hit {α : Type} {f : α → Bool} {l : List α} {k : Nat} (h : k < l.length) (h0 : f l[k] = true) : (l.drop k).any f = true := by
  rw [drop_step h, List.any_cons, h0]; rfl
theorem any_out {α : Type} {f : α → Bool} {l : List α} {k : Nat} (h : ¬ k < l.length) : (l.drop k).any f = false := by
  rw [List.drop_eq_nil_of_le (by omega)]; rfl

set_option maxRecDepth 100000 in
set_option maxHeartbeats 1000000 in
theorem refused_any (s : SetV) (sA : Option Addr) (sC : Nat) (sts : List St) (i : Nat) (t : Stp) (ship : Bool) (w : World) (hi : i < sts.length) (hrs : RulesAt w s.rA s.rules) (hsts : StsAt w sA sts) (hin : RulesIn s.rules sts.length) :
    Calls Tryz.prog 31 #[s.val, .slice sA sts.length sC, .int .i64 i, t.val, .bool ship] w fun e w' => e = .returned (.int .i64 (refE s.rules sts i sts[i] t ship)) ∧ Below w.heap.size w w' := by
  have hsm := hsts.1
  have hrm := hrs.1
  unfold maxLen at hsm hrm
  have Hin := Lib.hid hin
  have Hrs := Lib.hid hrs
  have Hsts := Lib.hid hsts
  have K0 := Lib.hid ((RfW.new w s).alloc (.cells t.cells 47))
  clear hin hrs hsts
  rcases Hsts.out.2 with hl | ⟨sb, so, rfl, hsb, hsl⟩
  · rw [hl] at hi; exact absurd hi (by simp)
  have c2 := (hsl i hi).2.2
  have Hsl := Lib.hid hsl
  clear hsl
  generalize hsi : sts[i] = si at *
  have Hsi := Lib.hid hsi
  clear hsi
  by_cases h0 : t.order = 0
  · have hr : refE s.rules sts i si t ship = 0 := by simp [refE, h0]
    have Hr := Lib.hid hr
    clear hr
    have hd : (t.order == 0) = true := by simp [h0]
    clear h0
    go_enter Tryz.func31, Tryz.ntmps31
    go_wp2
    go_step3
    go_wp2
    try rw [Exit.noGoto_ret]
    go_ret
    exact ⟨ret_int (by rw [Hr.out]), K0.out.below⟩
  · have hd : (t.order == 0) = false := by simp [h0]
    have hr : refE s.rules sts i si t ship = if si.bolted then 130 else if ship then 131 else if s.rules.any (ruleHit sts i) then 132 else 0 := by rw [refE, if_neg h0]
    have Hr := Lib.hid hr
    clear h0 hr
    cases hb : si.bolted with
    | true =>
      rw [hb] at c2
      have hr : refE s.rules sts i si t ship = 130 := by rw [Hr.out, hb]; rfl
      have Hr2 := Lib.hid hr
      clear hr Hr
      go_enter Tryz.func31, Tryz.ntmps31
      go_wp2
      go_step3
      go_wp2
      try rw [Exit.noGoto_ret]
      go_ret
      exact ⟨ret_int (by rw [Hr2.out]), K0.out.below⟩
    | false =>
      rw [hb] at c2
      cases ship with
      | true =>
        have hr : refE s.rules sts i si t true = 131 := by rw [Hr.out, hb]; rfl
        have Hr2 := Lib.hid hr
        clear hr Hr
        go_enter Tryz.func31, Tryz.ntmps31
        go_wp2
        go_step3
        go_wp2
        try rw [Exit.noGoto_ret]
        go_ret
        exact ⟨ret_int (by rw [Hr2.out]), K0.out.below⟩
      | false =>
        have hr : refE s.rules sts i si t false = if s.rules.any (ruleHit sts i) then 132 else 0 := by rw [Hr.out, hb]; rfl
        have Hr2 := Lib.hid hr
        clear hr Hr
        go_enter Tryz.func31, Tryz.ntmps31
        go_wp2
        go_step3
        go_wp2
        go_step3
        go_wp2
        go_loopw [10, 28] (fun e j wr => ∃ k : Nat, k ≤ s.rules.length ∧ e = .int .i64 0 ∧ j = .int .i64 k ∧ (s.rules.drop k).any (ruleHit sts i) = s.rules.any (ruleHit sts i) ∧ RfW w s wr) (fun _ j _ => s.rules.length - (intOf j).toNat)
        case atStart => exact ⟨0, Nat.zero_le _, rfl, rfl, rfl, K0.out⟩
        case round =>
          obtain ⟨k, hk, rfl, rfl, hix, hkp⟩ := hrel
          have Hix := Lib.hid hix
          have Hkp := Lib.hid hkp
          have f1 := hkp.rs
          clear hix hkp
          by_cases hlt : k < s.rules.length
          · obtain ⟨_, hrat⟩ := Hrs.out.below Hkp.out.below (Nat.le_refl _)
            rcases hrat with hl | ⟨b, off, ha, hbb, hl⟩
            · rw [hl] at hlt; exact absurd hlt (by simp)
            · rw [ha]
              obtain ⟨d0, d1, d2, d3⟩ := hl k hlt
              have hst := any_step (f := ruleHit sts i) hlt
              have hht := any_hit (f := ruleHit sts i) hlt
              have hre := Hin.out s.rules[k] (List.getElem_mem hlt)
              have Hst := Lib.hid hst
              have Hht := Lib.hid hht
              clear hl hst hht ha
              revert d0 d1 d2 d3 Hst Hht hre
              generalize s.rules[k] = r
              intro d0 d1 d2 d3 hre Hst Hht
              obtain ⟨hr1, hr2⟩ := hre
              by_cases hg : r.gate = i
              · have hgd : (r.gate != (i : Int)) = false := by simp [hg]
                have HK := Lib.hid (Hkp.out.alloc (.cells r.cells 88))
                obtain ⟨p0, p1, p2⟩ := Hsl.out r.other.toNat (by omega)
                obtain ⟨q, hq⟩ : ∃ q : Nat, r.other = q := ⟨r.other.toNat, by omega⟩
                have hbe : r.other.toNat = q := by omega
                have hql : q < sts.length := by omega
                have hpo : posAt sts r.other = sts[q].pos := by unfold posAt; rw [hbe, List.getElem?_eq_getElem hql]
                have e0 : wr.cell? ⟨sb, so + q * 3, none⟩ = some (.int .i64 sts[q].pos) := (Hkp.out.below.cell (p := ⟨sb, so + q * 3, none⟩) hsb).trans ((Hsl.out q hql).1)
                have hsb2 : sb < wr.heap.size := Nat.lt_of_lt_of_le hsb Hkp.out.below.size
                have hhit : ruleHit sts i r = outB sts[q].pos r.lo r.hi := by unfold ruleHit; rw [hpo]; simp [hg]
                have Hhit := Lib.hid hhit
                have i1 : (0 : Int) ≤ r.other := hr1
                have i2 : r.other < (sts.length : Int) := hr2
                rw [hq] at i1 i2 d1
                clear p0 p1 p2 hbe hpo hhit hg
                revert e0 Hhit
                generalize sts[q].pos = po
                intro e0 Hhit
                by_cases ho : outB po r.lo r.hi = true
                · have h := Hht.out (by rw [Hhit.out]; exact ho)
                  rw [Hix.out] at h
                  have hr3 := Hr2.out
                  rw [h, if_pos rfl] at hr3
                  have Hr3 := Lib.hid hr3
                  clear h hr3 Hr2 Hst Hht
                  go_wp2_with fail
                  go_quiet ((go_at_call 22; first | exact quiet_add_left (out_any _ _ _ _) | exact quiet_left (out_any _ _ _ _)))
                  rw [ho]
                  go_wp2
                  try rw [Exit.noGoto_ret]
                  go_ret
                  exact ⟨ret_int (by rw [Hr3.out]), below_drewN (Hkp.out.alloc _).below _⟩
                · simp only [Bool.not_eq_true] at ho
                  have h := Hst.out (by rw [Hhit.out]; exact ho)
                  have H := Lib.hid h
                  clear h Hst Hht
                  go_wp2_with fail
                  go_quiet ((go_at_call 22; first | exact quiet_add_left (out_any _ _ _ _) | exact quiet_left (out_any _ _ _ _)))
                  rw [ho]
                  go_wp2
                  go_roundw
                  case rel => exact ⟨k + 1, by omega, rfl, by go_num, by rw [← Hix.out, H.out], (Hkp.out.alloc _).drewN _⟩
                  case measure => simp [intOf]; omega
              · have hgd : (r.gate != (i : Int)) = true := by simp [hg]
                have h := Hst.out (by simp [ruleHit, hg])
                have H := Lib.hid h
                have HK := Lib.hid (Hkp.out.alloc (.cells r.cells 88))
                clear h hg Hst Hht hr1 hr2
                go_wp2
                go_roundw
                case rel => exact ⟨k + 1, by omega, rfl, by go_num, by rw [← Hix.out, H.out], HK.out⟩
                case measure => simp [intOf]; omega
          · have hs := any_out (f := ruleHit sts i) hlt
            rw [Hix.out] at hs
            have hr3 := Hr2.out
            rw [hs, if_neg (by simp)] at hr3
            have Hr3 := Lib.hid hr3
            clear hr3 hs Hr2 Hix
            go_wp2
            try rw [Exit.noGoto_ret]
            go_ret
            exact ⟨ret_int (by rw [Hr3.out]), Hkp.out.below⟩
end Go.Proofs.YtgfdindlihfidaaGreat
