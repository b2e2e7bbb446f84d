/-
  The contract of the reference's Delay.
-/
import Derived.Test.YthalanpmfhhhnaaRg
import Derived.Test.YthalanpmfhhhnaaDe
namespace Go.Proofs.Ythalanpmfhhhnaa
open Go.RowKit
set_option linter.unusedSimpArgs false
set_option linter.unusedVariables false
attribute [local go_sem ↓] loadAt_gate
attribute [local go_sem] run_gateMid

/-- The cells of n steps, all the same. -/
def dyRow (t : Stp) (n : Nat) : List Value := (List.range n).flatMap fun _ => t.cells.toList
theorem dyRow_succ (t : Stp) (k : Nat) : dyRow t (k + 1) = dyRow t k ++ t.cells.toList := by
  simp [dyRow, List.range_succ, List.flatMap_append]
theorem dyRow_len (t : Stp) : ∀ n, (dyRow t n).length = n * 4
  | 0 => rfl
  | n + 1 => by rw [dyRow_succ, List.length_append, dyRow_len t n]; simp; omega
theorem dyRow_get (t : Stp) : ∀ n k r, k < n → r < 4 → (dyRow t n)[k * 4 + r]? = t.cells.toList[r]?
  | 0, k, r, h, _ => absurd h (by omega)
  | n + 1, k, r, h, hr => by
    rw [dyRow_succ]
    by_cases e : k < n
    · rw [List.getElem?_append_left (by rw [dyRow_len]; omega)]
      exact dyRow_get t n k r e hr
    · have e2 : k = n := by omega
      subst e2
      rw [List.getElem?_append_right (by rw [dyRow_len]; omega), dyRow_len]
      congr 1; omega
theorem dy_of_row {w : World} {base n : Nat} {v : Value} {t : Stp} (hm : n ≤ maxLen) (h : w.ownsRow base 45 4 v n (dyRow t n)) : ∃ a cap, v = .slice a n cap ∧ StpsAt w a (List.replicate n t) := by
  by_cases h0 : n = 0
  · subst h0
    rcases h.2 with ⟨rfl, _⟩ | ⟨g, cap, cur, rfl, _⟩
    · exact ⟨none, 0, rfl, by simp, .inl (by simp)⟩
    · exact ⟨_, cap, rfl, by simp, .inl (by simp)⟩
  · obtain ⟨g, cap, rfl, hb, hlt⟩ := h.form (by omega)
    refine ⟨_, cap, rfl, by simpa using hm, .inr ⟨g, 0, rfl, hlt, fun k hk => ?_⟩⟩
    have hk' : k < n := by simpa using hk
    have c := fun r (hr : r < 4) => (h.cellAt (k * 4 + r) (by omega)).trans (dyRow_get t n k r hk' hr)
    have c0 := c 0 (by omega)
    have c1 := c 1 (by omega)
    have c2 := c 2 (by omega)
    have c3 := c 3 (by omega)
    simp only [Nat.zero_add, List.getElem_replicate]
    exact ⟨c0, c1, c2, c3⟩
theorem one_dy (x : Stp) : ∀ u ∈ x.cells.toList, u.oneCell' = true := fun u hu => by
  simp at hu
  rcases hu with rfl | rfl | rfl | rfl <;> rfl

/-- The boxes of Delay. -/
abbrev dyL (s : SetV) (t : Stp) : List Obj := [.cells s.cells 25, .cells t.cells 45]
theorem bools_new {W : World} {n : Nat} (hn : n ≤ 6) : BoolsAt (W.alloc (.cells (mkBool n) 4)) (some ⟨W.heap.size, 0, none⟩) (List.replicate n false) := by
  refine ⟨by simp [maxLen]; omega, .inr ⟨W.heap.size, 0, rfl, by simp, fun j hj => ?_⟩⟩
  have hj' : j < n := by simpa using hj
  simp only [Nat.zero_add, List.getElem_replicate]
  exact (cell_of_row _ W.heap.size j _ _ _ (heap_alloc_new W _)).trans (mkBool_get hj')

set_option maxRecDepth 100000 in
set_option maxHeartbeats 8000000 in
theorem rdelay_any (s : SetV) (sA : Option Addr) (sC : Nat) (sts : List St) (o i : Int) (power : Bool) (w : World) (hok : s.Ok w) (hms : StsAt w sA sts) :
    Calls Try.prog 26 #[s.val, .slice sA sts.length sC, .int .i64 o, .int .i64 i, .bool power] w fun e w' => e = .returned (.tuple #[.int .i64 (delayZ s sts ⟨1, power, o, i⟩).1, .int .i64 (delayZ s sts ⟨1, power, o, i⟩).2]) ∧ Below w.heap.size w w' := by
  have hb0 := Bk.new2 w (.cells s.cells 25) (.cells (Stp.mk 1 power o i).cells 45)
  have HB := Lib.hid hb0
  have Hok := Lib.hid (fun W (h : Below w.heap.size w W) => hok.below h (Nat.le_refl _))
  have Hms := Lib.hid (fun W (h : Below w.heap.size w W) => hms.below h (Nat.le_refl _))
  have hgm := hok.gs.1
  have hsm := hms.1
  unfold maxLen at hgm hsm
  have hz0 : ((w.alloc (.cells s.cells 25)).alloc (.cells (Stp.mk 1 power o i).cells 45)).heap.size = w.heap.size + 2 := by simp
  clear hb0 hok hms
  by_cases hc : (setE s).2.2 = 0
  · obtain ⟨⟨hn1, hn⟩, hgd, hrin⟩ := set_0 hc
    have Hgd := Lib.hid hgd
    have Hrin := Lib.hid hrin
    clear hgd hrin
    by_cases hl : sts.length = s.gates.length
    · obtain ⟨R, hR⟩ : ∃ R, R = delayZ s sts ⟨1, power, o, i⟩ := ⟨_, rfl⟩
      rw [← hR]
      rw [delayZ, if_neg (by simp [hc]), if_neg (by simp [hl])] at hR
      obtain ⟨E, hE⟩ : ∃ E, E = allE s.gates sts (fun _ => ⟨1, power, o, i⟩) := ⟨_, rfl⟩
      rw [← hE] at hR
      have HR := Lib.hid hR
      have HE := Lib.hid hE
      have Hc := Lib.hid hc
      have hle : ((s.gates.length : Int) != (s.gates.length : Int)) = false := by simp
      clear hR hE hc
      rw [hl]
      go_enter Try.func26, Try.ntmps26
      go_upto_region 2 with (fail)
      obtain ⟨W, hW⟩ : ∃ W, W = (w.alloc (.cells s.cells 25)).alloc (.cells (Stp.mk 1 power o i).cells 45) := ⟨_, rfl⟩
      have hz : W.heap.size = w.heap.size + 2 := by rw [hW]; exact hz0
      rw [← hW] at HB ⊢
      clear hW hz0
      have y0 : W.cell? ⟨w.heap.size, 0, none⟩ = some (.slice s.gA s.gates.length s.gC) := HB.out.cell 0 0 rfl rfl
      have y1 : W.cell? ⟨w.heap.size, 1, none⟩ = some (.slice s.rA s.rules.length s.rC) := HB.out.cell 0 1 rfl rfl
      go_wp2_with (first
        | (go_at_call 21; refine (rset_any s _ (Hok.out _ HB.out.below)).mono ?_; rintro e w1 ⟨rfl, hb1⟩; rw [Hc.out]; have H1 := HB.out.call hb1; have a0 : w1.cell? ⟨w.heap.size, 0, none⟩ = some (.slice s.gA s.gates.length s.gC) := H1.cell 0 0 rfl rfl; have HB1 := Lib.hid H1; clear hb1 H1))
      go_loopw [15, 16, 17] (fun e v j wr => ∃ (k : Nat) (F : Int), k ≤ s.gates.length ∧ e = .int .i64 F ∧ j = .int .i64 k ∧ Bk w (dyL s ⟨1, power, o, i⟩) wr ∧ wr.ownsRow (w.heap.size + 2) 45 4 v k (dyRow ⟨1, power, o, i⟩ k) ∧ (F = 0 → nzFirst (oddAt s.gates sts (fun _ => ⟨1, power, o, i⟩)) (s.gates.length - k) k = E) ∧ (F ≠ 0 → E = F)) (fun _ _ j _ => s.gates.length - (intOf j).toNat)
      case atStart => exact ⟨0, 0, Nat.zero_le _, rfl, rfl, HB1.out, World.ownsRow_nil _ _ _ _, fun _ => HE.out.symm, fun h => absurd rfl h⟩
      case round =>
        obtain ⟨k, F, hk, rfl, rfl, hbk, hown, hF0, hF1⟩ := hrel
        have Hbk := Lib.hid hbk
        have Hown := Lib.hid hown
        have HF0 := Lib.hid hF0
        have HF1 := Lib.hid hF1
        have a1 : wr.cell? ⟨w.heap.size, 0, none⟩ = some (.slice s.gA s.gates.length s.gC) := hbk.cell 0 0 rfl rfl
        clear hbk hown hF0 hF1 y0 y1 a0
        by_cases hF : F = 0
        · subst hF
          have e00 : ((0 : Int) == 0) = true := rfl
          by_cases hlt : k < s.gates.length
          · have hd : decide ((k : Int) < (s.gates.length : Int)) = true := by simp; omega
            have hks : k < sts.length := by omega
            obtain ⟨_, hgo, hgat⟩ := (Hok.out _ Hbk.out.below).gs
            rcases hgat with h' | ⟨b, off, ha, hb, hgl⟩
            · rw [h'] at hlt; exact absurd hlt (by simp)
            · obtain ⟨sb, so, hsa, hsb, hsl⟩ : ∃ b off, sA = some ⟨b, off, none⟩ ∧ _ := by
                rcases (Hms.out _ Hbk.out.below).2 with h | h
                · exact absurd hks (by rw [h]; simp)
                · exact h
              subst hsa
              have Hrg := Lib.hid (hgl k hlt)
              have Hcs := Lib.hid (hsl k hks)
              have Hgo := Lib.hid (hgo s.gates[k] (List.getElem_mem hlt))
              have hoa := oddAt_eq (tf := fun _ => (⟨1, power, o, i⟩ : Stp)) hlt hks
              have Hoa := Lib.hid hoa
              have Hst := Lib.hid (nzFirst_step (f := oddAt s.gates sts (fun _ => ⟨1, power, o, i⟩)) (n := s.gates.length) hlt)
              have Hht := Lib.hid (nzFirst_hit (f := oddAt s.gates sts (fun _ => ⟨1, power, o, i⟩)) (n := s.gates.length) hlt)
              have i1 : (0 : Int) ≤ (k : Int) := by omega
              have i2 : (k : Int) < (s.gates.length : Int) := by omega
              clear hgl hsl hoa hgo
              revert Hrg Hcs Hgo Hoa
              generalize s.gates[k] = g
              generalize sts[k] = x
              intro Hrg Hcs Hgo Hoa
              have T0 := TgS.new wr
              have hkW : ∀ V, TgS wr V → Bk w (dyL s ⟨1, power, o, i⟩) V := fun V h => Hbk.out.call h.below
              have hrm : ∀ V, TgS wr V → V.rangeAt b (off + k * 21) g.cells.toList := fun V h => range_below Hrg.out hb h.below
              have hg0 : ∀ V, TgS wr V → IsMid V b (off + k * 21) := fun V h => ⟨g, hrm V h⟩
              have hg1 : ∀ V, TgS wr V → rowMid V b (off + k * 21) = g.val := fun V h => rowMid_gate (hrm V h)
              have hc0 : ∀ V, TgS wr V → V.cell? ⟨w.heap.size, 0, none⟩ = some (.slice (some ⟨b, off, none⟩) s.gates.length s.gC) := fun V h => by rw [← ha]; exact (hkW V h).cell 0 0 rfl rfl
              have ht0 : ∀ V, TgS wr V → V.cell? ⟨w.heap.size + 1, 0, none⟩ = some (.int .i64 1) := fun V h => (hkW V h).cell 1 0 rfl rfl
              have ht1 : ∀ V, TgS wr V → V.cell? ⟨w.heap.size + 1, 1, none⟩ = some (.bool power) := fun V h => (hkW V h).cell 1 1 rfl rfl
              have ht2 : ∀ V, TgS wr V → V.cell? ⟨w.heap.size + 1, 2, none⟩ = some (.int .i64 o) := fun V h => (hkW V h).cell 1 2 rfl rfl
              have ht3 : ∀ V, TgS wr V → V.cell? ⟨w.heap.size + 1, 3, none⟩ = some (.int .i64 i) := fun V h => (hkW V h).cell 1 3 rfl rfl
              have hs0 : ∀ V, TgS wr V → V.cell? ⟨sb, so + k * 3, none⟩ = some (.int .i64 x.pos) := fun V h => (h.below.cell (p := ⟨sb, so + k * 3, none⟩) hsb).trans Hcs.out.1
              have hs1 : ∀ V, TgS wr V → V.cell? ⟨sb, so + k * 3 + 1, none⟩ = some (.int .i64 x.charge) := fun V h => (h.below.cell (p := ⟨sb, so + k * 3 + 1, none⟩) hsb).trans Hcs.out.2.1
              have hs2 : ∀ V, TgS wr V → V.cell? ⟨sb, so + k * 3 + 2, none⟩ = some (.bool x.bolted) := fun V h => (h.below.cell (p := ⟨sb, so + k * 3 + 2, none⟩) hsb).trans Hcs.out.2.2
              have HkW := Lib.hid hkW
              clear hkW hrm ha
              go_upto_region 9 with (fail)
              go_region_held3 (fun w' => TgS wr w')
                (first
                  | with_reducible exact tB
                  | with_reducible assumption
                  | ((repeat (first | (with_reducible exact T0) | (with_reducible refine TgS.drew ?_) | (with_reducible exact tB) | (with_reducible assumption))); done))
                (first
                  | (go_at_call 79; refine (rvalid_any g x ⟨1, power, o, i⟩ _).mono ?_; rintro e w' ⟨rfl, hbB⟩; have tB := TgS.call (by assumption) hbB))
              have HT := Lib.hid (HkW.out _ tB)
              have HoT := Lib.hid (row_below Hown.out tB.below)
              have q0 := ht0 _ tB
              have q1 := ht1 _ tB
              have q2 := ht2 _ tB
              have q3 := ht3 _ tB
              have lt := HT.out.lt 1 rfl
              clear tB hbB hg0 hg1 hc0 ht0 ht1 ht2 ht3 hs0 hs1 hs2 HkW
              obtain ⟨n1, hi1, hz1, hs1, hb1⟩ := info_parts A.stpInfo
              go_wp2_with (at_builtin; refine wpList_append_lies _ rfl (.tmp 64) (.tmp 66) 62 rfl (w.heap.size + 2) 45 n1 _ 4 32 Try.underlying62 hi1 hz1 hs1 hb1 rfl (by decide) u16 k (dyRow ⟨1, power, o, i⟩ k) rfl (HoT.out.alloc _) ⟨_, 0, none⟩ 1 1 (Stp.mk 1 power o i).cells.toList rfl rfl (World.news_of_block (cs := (Stp.mk 1 power o i).cells) (t := 45) (fr := (0, 0)) (blk_new rfl)) (one_dy _) (by decide) (by unfold maxLen; omega) (by omega) (by simp; omega) _ rfl ?_; intro gX cX wX ownX grX atX ltX; have HoX := Lib.hid ownX; have HgX := Lib.hid grX; clear ownX grX atX ltX)
              have hitX := (HT.out.alloc (.cells (Stp.mk 1 power o i).cells 45)).grown HgX.out (fun b hb => (HoT.out.lt b hb).1)
              have HitX := Lib.hid hitX
              clear hitX q0 q1 q2 q3
              have hA : oddE g x ⟨1, power, o, i⟩ = 0 → nzFirst (oddAt s.gates sts (fun _ => ⟨1, power, o, i⟩)) (s.gates.length - (k + 1)) (k + 1) = E := fun h => by rw [← Hst.out (Hoa.out.trans h)]; exact HF0.out (by simp)
              have hB : oddE g x ⟨1, power, o, i⟩ ≠ 0 → E = oddE g x ⟨1, power, o, i⟩ := fun h => by rw [← HF0.out (by simp), Hht.out (by rw [Hoa.out]; exact h), Hoa.out]
              have HA := Lib.hid hA
              have HBB := Lib.hid hB
              clear hA hB Hst Hht Hoa HF0 HF1 HE
              go_roundw
              case rel => first | exact ⟨k + 1, _, by omega, rfl, by go_num, HitX.out, by rw [dyRow_succ]; exact HoX.out, HA.out, HBB.out⟩ | ((repeat apply Exists.intro); exact ⟨⟨k + 1, _, by omega, rfl, by go_num, HitX.out, by rw [dyRow_succ]; exact HoX.out, HA.out, HBB.out⟩, rfl⟩)
              case measure => simp [intOf]; omega
          · have hke : k = s.gates.length := by omega
            subst hke
            have hd : decide ((s.gates.length : Int) < (s.gates.length : Int)) = false := by simp
            obtain ⟨aT, cT, rfl, hsT⟩ := dy_of_row (by unfold maxLen; omega) Hown.out
            have hE0 : E = 0 := (HF0.out (by simp)).symm.trans (nzFirst_out (Nat.le_refl _))
            have hr := HR.out
            rw [if_neg (by simp [hE0])] at hr
            have ha := HE.out.symm.trans hE0
            have hst0 : ∀ k, (h : k < s.gates.length) → (h2 : k < sts.length) → sts[k].Ok s.gates[k] := fun k h h2 => by
              have h3 := nzFirst_0 ha k (by omega) (by omega)
              rw [oddAt_eq h h2] at h3
              exact (oddE_0 h3).1
            have hlv : (⟨1, power, o, i⟩ : Stp).Lv := by
              have h3 := nzFirst_0 ha 0 (by omega) (by omega)
              rw [oddAt_eq (by omega) (by omega)] at h3
              exact (oddE_0 h3).2.1
            have Hst0 := Lib.hid hst0
            have Hlv := Lib.hid hlv
            have HsT := Lib.hid hsT
            have Hrr := Lib.hid hr
            have hm2 := run_mk_bool s.gates.length hn
            clear hst0 hlv hsT hr ha hE0 HE HR HF0 HF1 Hown
            go_wp2
            obtain ⟨V, hV⟩ : ∃ V, V = wr.alloc (.cells (mkBool s.gates.length) 4) := ⟨_, rfl⟩
            have hbV : Below wr.heap.size wr V := by rw [hV]; exact (Below.refl _ _).alloc (Nat.le_refl _) _
            have hbo : BoolsAt V (some ⟨wr.heap.size, 0, none⟩) (List.replicate s.gates.length false) := by rw [hV]; exact bools_new hn
            obtain ⟨Q, hQ⟩ : ∃ Q, Q = wr.heap.size := ⟨_, rfl⟩
            rw [← hQ] at hbo ⊢
            rw [← hV]
            have HV := Lib.hid (Hbk.out.call hbV)
            have HsV := Lib.hid (HsT.out.below hbV (Nat.le_refl _))
            have HbV := Lib.hid hbo
            clear hV hbV hbo HsT Hbk hm2 a1 hQ
            go_loopw [1, 19] (fun st j wv => ∃ (k : Nat) (sk : List St) (aS : Option Addr) (cS : Nat), k ≤ 2001 ∧ st = .slice aS s.gates.length cS ∧ sk.length = s.gates.length ∧ j = .int .i64 k ∧ StsAt wv aS sk ∧ (∀ k, (h : k < s.gates.length) → (h2 : k < sk.length) → sk[k].Ok s.gates[k]) ∧ Below V.heap.size V wv ∧ delayFrom s.gates s.rules (List.replicate s.gates.length ⟨1, power, o, i⟩) (List.replicate s.gates.length false) (2001 - k) sk k = R) (fun _ j _ => 2001 - (intOf j).toNat)
            case atStart => exact ⟨0, sts, sA, sC, Nat.zero_le _, rfl, hl, rfl, Hms.out _ HV.out.below, Hst0.out, Below.refl _ _, Hrr.out.symm⟩
            case round =>
              clear Hst0 Hrr
              obtain ⟨k, sk, aS, cS, hk, rfl, hskl, rfl, hska, hsko, hd, hix⟩ := hrel
              have Hd := Lib.hid hd
              have Hska := Lib.hid hska
              have Hsko := Lib.hid hsko
              have Hix := Lib.hid hix
              have HW := Lib.hid (HV.out.call hd)
              have e0 : wr.cell? ⟨w.heap.size, 0, none⟩ = some (.slice s.gA s.gates.length s.gC) := HW.out.cell 0 0 rfl rfl
              have e1 : wr.cell? ⟨w.heap.size, 1, none⟩ = some (.slice s.rA s.rules.length s.rC) := HW.out.cell 0 1 rfl rfl
              clear hd hska hsko hix
              by_cases hlt : k < 2001
              · have hs : delayFrom s.gates s.rules (List.replicate s.gates.length ⟨1, power, o, i⟩) (List.replicate s.gates.length false) (2001 - k) sk k = if shutUpto s.gates sk s.gates.length = true then (((k : Int) + 9) / 10, 0) else delayFrom s.gates s.rules (List.replicate s.gates.length ⟨1, power, o, i⟩) (List.replicate s.gates.length false) (2001 - (k + 1)) (stList (togAt s.gates s.rules sk (List.replicate s.gates.length ⟨1, power, o, i⟩) (List.replicate s.gates.length false)) s.gates.length) ((k : Int) + 1) := by
                  rw [show 2001 - k = (2001 - (k + 1)) + 1 from by omega, delayFrom]
                have Hss := Lib.hid hs
                have hdl : decide ((k : Int) ≤ 2000) = true := by simp; omega
                clear hs
                have htg : ∀ X, Below wr.heap.size wr X → Calls Try.prog 80 #[s.val, .slice aS s.gates.length cS, .slice aT s.gates.length cT, .slice (some ⟨Q, 0, none⟩) s.gates.length s.gates.length] X fun e w' =>
                    ∃ aN cN vM, e = .returned (.tuple #[.slice aN s.gates.length cN, vM]) ∧ StsAt w' aN (stList (togAt s.gates s.rules sk (List.replicate s.gates.length ⟨1, power, o, i⟩) (List.replicate s.gates.length false)) s.gates.length) ∧ Below X.heap.size X w' := fun X hX => by
                  have hVX : Below V.heap.size V X := Hd.out.trans (hX.mono Hd.out.size)
                  have h := rtog_any s aS aT (some ⟨Q, 0, none⟩) cS cT s.gates.length sk (List.replicate s.gates.length ⟨1, power, o, i⟩) (List.replicate s.gates.length false) X ⟨Hok.out _ (HV.out.call hVX).below, Hska.out.below hX (Nat.le_refl _), HsV.out.below hVX (Nat.le_refl _), HbV.out.below hVX (Nat.le_refl _), hn, hskl, by simp, by simp, hskl ▸ Hrin.out, Hgd.out, Hsko.out, fun t ht => by rw [List.eq_of_mem_replicate ht]; exact Hlv.out⟩ (fun t ht => by rw [List.eq_of_mem_replicate ht]; simp)
                  rw [hskl, List.length_replicate, List.length_replicate] at h
                  refine h.mono ?_
                  rintro e w' ⟨vS, vM, rfl, hO, _, _, hb⟩
                  obtain ⟨aN, cN, rfl, hs⟩ := sts_of_row (by unfold maxLen; omega) hO
                  exact ⟨aN, cN, vM, rfl, hs, hb⟩
                have Htg := Lib.hid htg
                have Hnk := Lib.hid (tog_ok (rules := s.rules) (ts := List.replicate s.gates.length ⟨1, power, o, i⟩) (bs := List.replicate s.gates.length false) Hgd.out Hsko.out hskl (by simp) (by simp))
                have Hnl := Lib.hid (stList_len (togAt s.gates s.rules sk (List.replicate s.gates.length ⟨1, power, o, i⟩) (List.replicate s.gates.length false)) s.gates.length)
                clear htg
                revert Htg Hnk Hss Hnl
                generalize stList (togAt s.gates s.rules sk (List.replicate s.gates.length ⟨1, power, o, i⟩) (List.replicate s.gates.length false)) s.gates.length = sn
                intro Hss Htg Hnk Hnl
                go_wp2
                obtain ⟨wv, hwv⟩ : ∃ wv, wv = wr := ⟨_, rfl⟩
                rw [← hwv] at Hd Hska HW e0 e1 Htg ⊢
                clear hwv
                go_loopw [20, 21] (fun b j wx => ∃ m q : Nat, m ≤ s.gates.length ∧ b = .bool (shutUpto s.gates sk m) ∧ j = .int .i64 m ∧ wx = wv.drewN q) (fun _ j _ => s.gates.length - (intOf j).toNat)
                case atStart => exact ⟨0, 0, Nat.zero_le _, rfl, rfl, rfl⟩
                case round =>
                  obtain ⟨m, q, hm, rfl, rfl, rfl⟩ := hrel
                  by_cases hmt : m < s.gates.length
                  · obtain ⟨_, hgo, hgat⟩ := (Hok.out _ HW.out.below).gs
                    rcases hgat with hl' | ⟨b, off, ha', hb, hgl⟩
                    · rw [hl'] at hmt; exact absurd hmt (by simp)
                    · rw [ha'] at e0
                      have hms' : m < sk.length := by omega
                      obtain ⟨sb, so, hsa, hsb, hsl⟩ : ∃ b off, aS = some ⟨b, off, none⟩ ∧ _ := by
                        rcases Hska.out.2 with h | h
                        · exact absurd hms' (by rw [h]; simp)
                        · exact h
                      subst hsa
                      have hgt : wv.cell? ⟨b, off + m * 21 + 2, none⟩ = some (.int .i64 s.gates[m].travel) := hgl m hmt 2 _ rfl
                      have hpos := (hsl m hms').1
                      have hsh := shutUpto_succ hmt hms'
                      clear hgl hsl hgo ha'
                      revert hgt hpos hsh
                      generalize s.gates[m] = g
                      generalize sk[m] = x
                      intro hgt hpos hsh
                      have j1 : (0 : Int) ≤ (m : Int) := by omega
                      have j2 : (m : Int) < (s.gates.length : Int) := by omega
                      cases hb2 : shutUpto s.gates sk m with
                      | false =>
                        rw [hb2] at hsh
                        have hsh2 : shutUpto s.gates sk (m + 1) = false := by rw [hsh]; rfl
                        have Hsh := Lib.hid hsh2
                        clear hsh2 hsh hb2
                        go_wp2_with fail
                        go_quiet (fail)
                        go_wp2
                        go_roundw
                        case rel => first | exact ⟨m + 1, _, by omega, congrArg Value.bool Hsh.out.symm, by go_num, rfl⟩ | (simp only [World.drewN_drewN]; exact ⟨m + 1, _, by omega, congrArg Value.bool Hsh.out.symm, by go_num, rfl⟩) | ((repeat apply Exists.intro); exact ⟨⟨m + 1, _, by omega, congrArg Value.bool Hsh.out.symm, by go_num, rfl⟩, rfl⟩)
                        case measure => simp [intOf]; omega
                      | true =>
                        have hq : (x.pos == g.travel) = decide (x.pos = g.travel) := by rw [Bool.eq_iff_iff]; simp
                        rw [hb2] at hsh
                        have hsh2 : shutUpto s.gates sk (m + 1) = decide (x.pos = g.travel) := by rw [hsh]; rfl
                        have Hsh := Lib.hid hsh2
                        clear hsh2 hsh hb2
                        go_wp2_with fail
                        go_quiet (fail)
                        go_wp2
                        go_roundw
                        case rel => first | exact ⟨m + 1, _, by omega, congrArg Value.bool Hsh.out.symm, by go_num, rfl⟩ | (simp only [World.drewN_drewN]; exact ⟨m + 1, _, by omega, congrArg Value.bool Hsh.out.symm, by go_num, rfl⟩) | ((repeat apply Exists.intro); exact ⟨⟨m + 1, _, by omega, congrArg Value.bool Hsh.out.symm, by go_num, rfl⟩, rfl⟩)
                        case measure => simp [intOf]; omega
                  · have hme : m = s.gates.length := by omega
                    subst hme
                    have hdq : Below wv.heap.size wv (wv.drewN q) := below_drewN (Below.refl _ _) _
                    have HD := Lib.hid hdq
                    clear hdq
                    cases hb2 : shutUpto s.gates sk s.gates.length with
                    | true =>
                      have hr2 := Hss.out
                      rw [if_pos hb2, Hix.out] at hr2
                      have Hr2 := Lib.hid hr2
                      clear hr2 hb2
                      go_wp2
                      go_ret2
                      exact ⟨ret2 (by rw [Hr2.out, show (k : Int) + 10 - 1 = (k : Int) + 9 from by omega]), (HW.out.call HD.out).below⟩
                    | false =>
                      have hr2 := Hss.out
                      rw [if_neg (by simp [hb2]), Hix.out] at hr2
                      have Hr2 := Lib.hid hr2
                      clear hr2 hb2
                      go_wp2_with ((go_at_call 80; refine (Htg.out _ HD.out).mono ?_; rintro e w' ⟨aN, cN, vM, rfl, hsN, hbN⟩; have HdN := Lib.hid ((Hd.out.trans (HD.out.mono Hd.out.size)).trans (hbN.mono (Nat.le_trans Hd.out.size HD.out.size))); have HsN := Lib.hid hsN; clear hsN hbN))
                      go_roundw
                      case rel => first | exact ⟨k + 1, sn, aN, cN, by omega, rfl, Hnl.out, by go_num, HsN.out, Hnk.out, HdN.out, Hr2.out.symm⟩ | ((repeat apply Exists.intro); exact ⟨⟨k + 1, sn, aN, cN, by omega, rfl, Hnl.out, by go_num, HsN.out, Hnk.out, HdN.out, Hr2.out.symm⟩, rfl⟩)
                      case measure => simp [intOf]; omega
              · have hs : delayFrom s.gates s.rules (List.replicate s.gates.length ⟨1, power, o, i⟩) (List.replicate s.gates.length false) (2001 - k) sk k = (0, 9) := by
                  rw [show 2001 - k = 0 from by omega, delayFrom]
                have Hss := Lib.hid hs
                have hdl : decide ((k : Int) ≤ 2000) = false := by simp; omega
                clear hs
                go_wp2
                go_ret2
                exact ⟨ret2 (by rw [← Hix.out, Hss.out]), HW.out.below⟩
        · have hf0 : (F == 0) = false := by simp [hF]
          have hf1 : (F != 0) = true := by simp [hF]
          have hr := HR.out
          rw [HF1.out hF, if_pos hF] at hr
          have Hr := Lib.hid hr
          clear hr
          by_cases hlt : k < s.gates.length
          · have hd : decide ((k : Int) < (s.gates.length : Int)) = true := by simp; omega
            go_wp2
            go_ret2
            exact ⟨ret2 (by rw [Hr.out]), Hbk.out.below⟩
          · have hd : decide ((k : Int) < (s.gates.length : Int)) = false := by simp; omega
            go_wp2
            go_ret2
            exact ⟨ret2 (by rw [Hr.out]), Hbk.out.below⟩
    · have hr : delayZ s sts ⟨1, power, o, i⟩ = (0, 2) := by
        rw [delayZ, if_neg (by simp [hc]), if_pos hl]
      rw [hr]
      have Hc := Lib.hid hc
      have hle : ((sts.length : Int) != (s.gates.length : Int)) = true := by
        have : ¬ ((sts.length : Int) = (s.gates.length : Int)) := by omega
        simp [this]
      have hd1 : decide ((0 : Int) < (s.gates.length : Int)) = true := by simp; omega
      clear hr hc hl
      go_enter Try.func26, Try.ntmps26
      go_wp2_with (first
        | (go_at_call 21; refine (rset_any s _ (Hok.out _ HB.out.below)).mono ?_; rintro e w1 ⟨rfl, hb1⟩; rw [Hc.out]; have H1 := HB.out.call hb1; have a0 : w1.cell? ⟨w.heap.size, 0, none⟩ = some (.slice s.gA s.gates.length s.gC) := H1.cell 0 0 rfl rfl; have HB1 := Lib.hid H1; clear hb1 H1))
      go_loopw [15, 16, 17] (fun e v j wr => e = .int .i64 2 ∧ j = .int .i64 0 ∧ Bk w (dyL s ⟨1, power, o, i⟩) wr) (fun _ _ _ _ => 0)
      case atStart => exact ⟨rfl, rfl, HB1.out⟩
      case round =>
        obtain ⟨rfl, rfl, hbk⟩ := hrel
        have Hbk := Lib.hid hbk
        have a1 : wr.cell? ⟨w.heap.size, 0, none⟩ = some (.slice s.gA s.gates.length s.gC) := hbk.cell 0 0 rfl rfl
        clear hbk
        go_wp2
        go_ret2
        exact ⟨rfl, Hbk.out.below⟩
  · have hr : delayZ s sts ⟨1, power, o, i⟩ = (0, (setE s).2.2) := by
      rw [delayZ, if_pos hc]
    rw [hr]
    have h1 : ((setE s).2.2 != 0) = true := by simp [hc]
    have h2 : ((setE s).2.2 == 0) = false := by simp [hc]
    clear hr hc
    go_enter Try.func26, Try.ntmps26
    go_wp2_with (first
      | (go_at_call 21; refine (rset_any s _ (Hok.out _ HB.out.below)).mono ?_; rintro e w1 ⟨rfl, hb1⟩; have H1 := HB.out.call hb1; have a0 : w1.cell? ⟨w.heap.size, 0, none⟩ = some (.slice s.gA s.gates.length s.gC) := H1.cell 0 0 rfl rfl; have HB1 := Lib.hid H1; clear hb1 H1))
    go_loopw [15, 16, 17] (fun e v j wr => e = .int .i64 (setE s).2.2 ∧ j = .int .i64 0 ∧ Bk w (dyL s ⟨1, power, o, i⟩) wr) (fun _ _ _ _ => 0)
    case atStart => exact ⟨rfl, rfl, HB1.out⟩
    case round =>
      obtain ⟨rfl, rfl, hbk⟩ := hrel
      have Hbk := Lib.hid hbk
      have a1 : wr.cell? ⟨w.heap.size, 0, none⟩ = some (.slice s.gA s.gates.length s.gC) := hbk.cell 0 0 rfl rfl
      clear hbk
      by_cases hn : 0 < s.gates.length
      · have hd1 : decide ((0 : Int) < (s.gates.length : Int)) = true := by simp; omega
        go_wp2
        go_ret2
        exact ⟨rfl, Hbk.out.below⟩
      · have hd1 : decide ((0 : Int) < (s.gates.length : Int)) = false := decide_eq_false (by omega)
        go_wp2
        go_ret2
        exact ⟨rfl, Hbk.out.below⟩
end Go.Proofs.Ythalanpmfhhhnaa
