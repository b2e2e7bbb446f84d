/-
  The reference's where and Where.
-/
import Derived.Test.YthalanpmfhhhnaaAn
import Derived.Test.YthalanpmfhhhnaaWh
import Derived.Test.YthalanpmfhhhnaaRc
import Derived.Test.YthalanpmfhhhnaaBk
namespace Go.Proofs.Ythalanpmfhhhnaa
open Go.RowKit
set_option linter.unusedSimpArgs false
set_option linter.unusedVariables false

/-- The boxes of the reference's where. -/
structure RwW (w : World) (g : GateV) (lo hi : Int) (W : World) : Prop where
  below : Below w.heap.size w W
  gate : GateIn W w.heap.size g
  res : W.heap[w.heap.size + 1]? = some (.cells #[.int .i64 0, .int .i64 0] 53 (0, 0))
  out : W.heap[w.heap.size + 1 + 1]? = some (.cells #[.int .i64 lo, .int .i64 hi] 53 (0, 0))
theorem RwW.new (w : World) (g : GateV) : RwW w g 0 0 (((w.alloc (.cells g.cells 33)).alloc (.cells #[.int .i64 0, .int .i64 0] 53)).alloc (.cells #[.int .i64 0, .int .i64 0] 53)) :=
  ⟨(((Below.refl _ _).alloc (Nat.le_refl _) _).alloc (by simp) _).alloc (by simp; omega) _, ((gateIn_new w g).below ((Below.refl _ _).alloc (Nat.le_refl _) _) (Nat.le_refl _)).below ((Below.refl _ _).alloc (Nat.le_refl _) _) (Nat.le_refl _), blk_old (blk_new (by simp)), blk_new (by simp)⟩
theorem RwW.call {w W W' : World} {g : GateV} {lo hi : Int} (h : RwW w g lo hi W) (hb : Below W.heap.size W W') : RwW w g lo hi W' :=
  ⟨h.below.trans (hb.mono h.below.size), h.gate.below hb (Nat.le_refl _), blk_below hb h.res, blk_below hb h.out⟩
theorem RwW.set0 {w W : World} {g : GateV} {lo hi v : Int} (h : RwW w g lo hi W) : RwW w g v hi (W.setCell ⟨w.heap.size + 1 + 1, 0, none⟩ (.int .i64 v)) :=
  ⟨bset h.below (by omega), h.gate.set (by omega), blk_set_other (by omega) h.res, blk_setin h.out⟩
theorem RwW.set1 {w W : World} {g : GateV} {lo hi v : Int} (h : RwW w g lo hi W) : RwW w g lo v (W.setCell ⟨w.heap.size + 1 + 1, 1, none⟩ (.int .i64 v)) :=
  ⟨bset h.below (by omega), h.gate.set (by omega), blk_set_other (by omega) h.res, blk_setin h.out⟩

set_option maxRecDepth 100000 in
set_option maxHeartbeats 4000000 in
theorem rwhere_any (g : GateV) (rA : Option Addr) (rC : Nat) (rs : List Int) (w : World) (hok : g.Ok w) (hri : IntsAt w rA rs) (hc : (checkZ g).2.2 = 0) (hlen : rs.length = g.sens.length) :
    Calls Try.prog 93 #[g.val, .slice rA rs.length rC] w fun e w' => e = .returned (.tuple #[.agg #[.int .i64 (spanLo (whereL g rs)), .int .i64 (spanHi (whereL g rs))], .bool (!(whereL g rs).isEmpty)]) ∧ Below w.heap.size w w' := by
  obtain ⟨hs6, hsb, hw1, hw2⟩ := check_sens hc
  obtain ⟨ht1, ht2⟩ := (check_good hc).travel
  have H0 := Lib.hid (RwW.new w g)
  have Hsb := Lib.hid (fun s hs => sensorE_bd (hsb s hs))
  have Hlen := Lib.hid hlen
  have Hss := Lib.hid hok.sens
  have Hri := Lib.hid hri
  have l1 : (rs.length : Int) ≤ 6 := by omega
  obtain ⟨sA, hsA⟩ : ∃ sA, sA = g.senA := ⟨_, rfl⟩
  have HsA := Lib.hid hsA
  obtain ⟨T, hT⟩ : ∃ T : Nat, g.travel = T := ⟨g.travel.toNat, by omega⟩
  have HT := Lib.hid hT
  have HL := Lib.hid (show whereL g rs = psUpto g rs (T + 1) by rw [whereL, hT]; rfl)
  rw [hT] at ht1 ht2
  clear hsb hlen hok hri hc hsA hT
  go_enter Try.func93, Try.ntmps93
  go_wp2
  go_loopw [7, 8] (fun z p wr => ∃ (k : Nat) (b : Bool), k ≤ T + 1 ∧ z = .bool b ∧ p = .int .i64 k ∧ Hid (b = !(psUpto g rs k).isEmpty) ∧ RwW w g (spanLo (psUpto g rs k)) (spanHi (psUpto g rs k)) wr) (fun _ p _ => T + 1 - (intOf p).toNat)
  case atStart => exact ⟨0, false, Nat.zero_le _, rfl, rfl, Lib.hid rfl, H0.out⟩
  case round =>
    obtain ⟨k, b, hk, rfl, rfl, Hb, hw⟩ := hrel
    have Hw := Lib.hid hw
    have g2 : wr.cell? ⟨w.heap.size, 2, none⟩ = some (.int .i64 (T : Int)) := by rw [← HT.out]; exact hw.gate.cell 2 _ rfl
    clear hw
    obtain ⟨wv, hwv⟩ : ∃ wv, wv = wr := ⟨_, rfl⟩
    subst hwv
    by_cases hlt : k < T + 1
    · have hdk : decide (k ≤ T) = true := by simp; omega
      go_wp2
      clear g2 hdk
      go_loopw [9, 10] (fun n i wr => ∃ m q : Nat, m ≤ g.sens.length ∧ n = .int .i64 q ∧ i = .int .i64 m ∧ q + badN g.sens rs k m = m ∧ RwW w g (spanLo (psUpto g rs k)) (spanHi (psUpto g rs k)) wr) (fun _ i _ => g.sens.length - (intOf i).toNat)
      case atStart => exact ⟨0, 0, Nat.zero_le _, rfl, rfl, rfl, Hw.out⟩
      case round =>
        clear Hw
        obtain ⟨m, q, hm, rfl, rfl, hq, hw⟩ := hrel
        have Hw := Lib.hid hw
        have g19 : wr.cell? ⟨w.heap.size, 19, none⟩ = some (.slice sA g.sens.length g.senC) := by rw [HsA.out]; exact hw.gate.cell 19 _ rfl
        by_cases hml : m < g.sens.length
        · have hmr : m < rs.length := by rw [Hlen.out]; exact hml
          obtain ⟨sb, so, rfl, hsb, hsc⟩ : ∃ b off, sA = some ⟨b, off, none⟩ ∧ b < w.heap.size ∧ _ := by
            rw [HsA.out]
            rcases Hss.out.2 with h | h
            · exact absurd hml (by rw [h]; simp)
            · exact h
          obtain ⟨rb, ro, hra, hrb, hrc⟩ : ∃ b off, rA = some ⟨b, off, none⟩ ∧ b < w.heap.size ∧ _ := by
            rcases Hri.out.2 with h | h
            · exact absurd hmr (by rw [h]; simp)
            · exact h
          subst hra
          have Hz := Lib.hid (hsc m hml)
          have hrm := hrc m hmr
          rw [List.getElem?_eq_getElem hmr, Option.getD_some] at hrm
          have Hrm := Lib.hid hrm
          have Hbd := Lib.hid (Hsb.out g.sens[m] (List.getElem_mem hml))
          have Hbs := Lib.hid (show badN g.sens rs k (m + 1) = badN g.sens rs k m + if agrB g.sens[m] rs[m] k = true then 0 else 1 by rw [badN, agrAt_eq hml hmr])
          have Hq := Lib.hid hq
          have hq6 : (q : Int) ≤ 6 := by omega
          have hq0 : (0 : Int) ≤ (q : Int) := by omega
          have i1 : (m : Int) < (rs.length : Int) := by omega
          have i2 : (m : Int) < (g.sens.length : Int) := by omega
          have i3 : (0 : Int) ≤ (m : Int) := by omega
          have hp : (0 : Int) ≤ (k : Int) ∧ (k : Int) ≤ 5000 := by omega
          have f1 : decide ((m : Int) < (g.sens.length : Int)) = true := by simpa using i2
          clear hsc hrc hrm hw hq
          revert Hbs Hz Hrm Hbd Hq
          generalize badN g.sens rs k m = q2
          generalize g.sens[m] = s
          generalize rs[m] = r
          intro Hz Hrm Hbd Hbs Hq
          obtain ⟨B, hB⟩ : ∃ B, B = agrB s r k := ⟨_, rfl⟩
          have hag : ∀ W, Calls Try.prog 107 #[s.val, .int .i64 r, .int .i64 k] W fun e w' => e = .returned (.bool B) ∧ Below W.heap.size W w' := fun W => by
            rw [hB]; exact ragrees_any s r k W Hbd.out.2.1 Hbd.out.2.2 hp
          rw [← hB] at Hbs
          have Hag := Lib.hid hag
          have T0 := TgS.new wr
          have hkW : ∀ W, TgS wr W → RwW w g (spanLo (psUpto g rs k)) (spanHi (psUpto g rs k)) W := fun W h => Hw.out.call h.below
          have hg0 : ∀ W, TgS wr W → W.cell? ⟨w.heap.size, 19, none⟩ = some (.slice (some ⟨sb, so, none⟩) g.sens.length g.senC) := fun W h => by rw [HsA.out]; exact (hkW W h).gate.cell 19 _ rfl
          have hs0 : ∀ W, TgS wr W → W.cell? ⟨sb, so + m * 3, none⟩ = some (.int .i64 s.kind) := fun W h => ((hkW W h).below.cell (p := ⟨sb, so + m * 3, none⟩) hsb).trans Hz.out.1
          have hs1 : ∀ W, TgS wr W → W.cell? ⟨sb, so + m * 3 + 1, none⟩ = some (.int .i64 s.at_) := fun W h => ((hkW W h).below.cell (p := ⟨sb, so + m * 3 + 1, none⟩) hsb).trans Hz.out.2.1
          have hs2 : ∀ W, TgS wr W → W.cell? ⟨sb, so + m * 3 + 2, none⟩ = some (.int .i64 s.tol) := fun W h => ((hkW W h).below.cell (p := ⟨sb, so + m * 3 + 2, none⟩) hsb).trans Hz.out.2.2
          have hr0 : ∀ W, TgS wr W → W.cell? ⟨rb, ro + m, none⟩ = some (.int .i64 r) := fun W h => ((hkW W h).below.cell (p := ⟨rb, ro + m, none⟩) hrb).trans Hrm.out
          clear hkW hB hag
          go_wp2
          clear g19
          go_region_held3 (fun w' => TgS wr w')
            (first
              | with_reducible exact tA
              | with_reducible assumption
              | ((repeat (first | (with_reducible exact T0) | (with_reducible refine TgS.drew ?_) | (with_reducible exact tA) | (with_reducible assumption))); done))
            (first
              | (go_at_call 107; refine (Hag.out _).mono ?_; rintro e w' ⟨rfl, hbA⟩; have tA := TgS.call (by assumption) hbA))
          all_goals
            have tZ : Below wr.heap.size wr _ := TgS.below (by assumption)
            have HZ := Lib.hid (Hw.out.call tZ)
            clear tZ hg0 hs0 hs1 hs2 hr0
            cases B with
            | true =>
              go_wp2
              go_roundw
              case rel => exact ⟨m + 1, q + 1, by omega, by go_num, by go_num, by rw [Hbs.out, if_pos rfl]; have := Hq.out; omega, HZ.out⟩
              case measure => simp [intOf]; omega
            | false =>
              go_wp2
              go_roundw
              case rel => exact ⟨m + 1, q, by omega, rfl, by go_num, by rw [Hbs.out, if_neg (by simp)]; have := Hq.out; omega, HZ.out⟩
              case measure => simp [intOf]; omega
        · obtain rfl : m = g.sens.length := by omega
          have g20 : wr.cell? ⟨w.heap.size, 20, none⟩ = some (.int .i64 g.wrong) := hw.gate.cell 20 _ rfl
          have hN := psUpto_succ g rs k
          have hff : fitB g rs k = decide ((badN g.sens rs k g.sens.length : Int) ≤ g.wrong) := rfl
          have o0 := blk_cell hw.out 0 _ rfl
          have o1 := blk_cell hw.out 1 _ rfl
          have of0 := frozen_of_row _ _ 0 _ _ hw.out
          have of1 := frozen_of_row _ _ 1 _ _ hw.out
          have lt := (Array.getElem?_eq_some_iff.1 hw.out).1
          clear hw
          cases hfit : fitB g rs k with
          | true =>
            rw [hfit, if_pos rfl] at hN
            have hd : decide ((q : Int) < (g.sens.length : Int) - g.wrong) = false := by
              rw [hfit] at hff
              simp at hff ⊢
              omega
            have HN := Lib.hid hN
            clear hN hfit hff hq
            cases b with
            | true =>
              go_wp2
              go_roundw
              case rel => exact ⟨k + 1, true, by omega, rfl, by go_num, Lib.hid (by rw [HN.out]; simp), by rw [HN.out, spanLo_snoc, spanHi_snoc, if_neg (by have := Hb.out; simpa using this)]; exact Hw.out.set1⟩
              case measure => simp [intOf]; omega
            | false =>
              go_wp2
              go_roundw
              case rel => exact ⟨k + 1, true, by omega, rfl, by go_num, Lib.hid (by rw [HN.out]; simp), by rw [HN.out, spanLo_snoc, spanHi_snoc, if_pos (by have := Hb.out; simpa using this)]; exact Hw.out.set0.set1⟩
              case measure => simp [intOf]; omega
          | false =>
            rw [hfit, if_neg (by simp), List.append_nil] at hN
            have hd : decide ((q : Int) < (g.sens.length : Int) - g.wrong) = true := by
              rw [hfit] at hff
              simp at hff ⊢
              omega
            have HN := Lib.hid hN
            clear hN hfit hff hq
            go_wp2
            go_roundw
            case rel => exact ⟨k + 1, b, by omega, rfl, by go_num, by rw [HN.out]; exact Hb, by rw [HN.out]; exact Hw.out⟩
            case measure => simp [intOf]; omega
    · obtain rfl : k = T + 1 := by omega
      have hdk : decide (((T + 1 : Nat) : Int) ≤ (T : Int)) = false := by simp; omega
      have hw : RwW w g (spanLo (whereL g rs)) (spanHi (whereL g rs)) wv := by rw [HL.out]; exact Hw.out
      have o0 := blk_cell hw.out 0 _ rfl
      have o1 := blk_cell hw.out 1 _ rfl
      have of0 := frozen_of_row _ _ 0 _ _ hw.res
      have of1 := frozen_of_row _ _ 1 _ _ hw.res
      have r0 := blk_cell hw.res 0 _ rfl
      have r1 := blk_cell hw.res 1 _ rfl
      have lt := (Array.getElem?_eq_some_iff.1 hw.out).1
      have Hb2 : Hid (b = !(whereL g rs).isEmpty) := by rw [HL.out]; exact Hb
      have Hw2 := Lib.hid hw
      clear hw Hb HL Hw
      go_wp2
      refine bodyPost_ret (v := .tuple #[.agg #[.int .i64 (spanLo (whereL g rs)), .int .i64 (spanHi (whereL g rs))], .bool b]) (by simp [results, Try.results93, go_sem, *]) rfl ⟨by rw [Hb2.out], ?_⟩
      repeat (first | (with_reducible exact Hw2.out.below) | (with_reducible refine bset ?_ (by omega)))

set_option maxRecDepth 100000 in
set_option maxHeartbeats 2000000 in
theorem rWhere_any (g : GateV) (rA : Option Addr) (rC : Nat) (rs : List Int) (w : World) (hok : g.Ok w) (hri : IntsAt w rA rs) :
    Calls Try.prog 43 #[g.val, .slice rA rs.length rC] w fun e w' => e = .returned (.tuple #[.agg #[.int .i64 (whereLo g rs), .int .i64 (whereHi g rs)], .int .i64 (whereE g rs)]) ∧ Below w.heap.size w w' := by
  have hrm := hri.1
  have hsl := hok.sens.1
  unfold maxLen at hrm hsl
  have H0 := Lib.hid ((Bk.new2 w (.cells g.cells 33) (.cells #[.int .i64 0, .int .i64 0] 53)))
  have Hok := Lib.hid (fun W (h : Below w.heap.size w W) => hok.below h (Nat.le_refl _))
  have Hri := Lib.hid (fun W (h : Below w.heap.size w W) => hri.below h (Nat.le_refl _))
  clear hok hri
  by_cases hc : (checkZ g).2.2 = 0
  · have f1 : ((checkZ g).2.2 == 0) = true := by simp [hc]
    by_cases hl : rs.length = g.sens.length
    · have Hc := Lib.hid hc
      have Hl := Lib.hid hl
      have f2 : ((rs.length : Int) != (g.sens.length : Int)) = false := by simp [hl]
      have he := whereE_good hc hl
      have hs := where_span hc hl
      rw [hs.1, hs.2, he]
      have hw : ∀ W, Below w.heap.size w W → Calls Try.prog 93 #[g.val, .slice rA rs.length rC] W fun e w' => e = .returned (.tuple #[.agg #[.int .i64 (spanLo (whereL g rs)), .int .i64 (spanHi (whereL g rs))], .bool (!(whereL g rs).isEmpty)]) ∧ Below W.heap.size W w' := fun W h => rwhere_any g rA rC rs W (Hok.out W h) (Hri.out W h) Hc.out Hl.out
      have Hw := Lib.hid hw
      clear hs he hc hl hw f1
      have hcases : (whereL g rs = [] ∨ (whereL g rs).isEmpty = false) := by cases whereL g rs <;> simp
      rcases hcases with hn | hn
      · have e1 : spanE (whereL g rs) = 9 := by rw [hn]; rfl
        have e2 : spanLo (whereL g rs) = 0 := by rw [hn]; rfl
        have e3 : spanHi (whereL g rs) = 0 := by rw [hn]; rfl
        have Hn := Lib.hid hn
        rw [e1, e2, e3]
        clear e1 e2 e3 hn
        go_enter Try.func43, Try.ntmps43
        go_wp2_with (first
          | (with_reducible show wpList _ _ _ (({ dst := _, op := .load 33 (.tmp 2), type := _, pos := _, after := _, guard := none } : Oper) :: _) _ _; refine wpList_load_gate (H0.out.gate 0 rfl) rfl (.tmp 2) rfl rfl ?_)
          | (go_at_call 23; refine (rcheck_any g _ (Hok.out _ H0.out.below)).mono ?_; rintro e w1 ⟨rfl, hb1⟩; rw [Hc.out]; have H1 := Lib.hid (H0.out.call hb1); have g19 : w1.cell? ⟨w.heap.size, 19, none⟩ = some (.slice g.senA g.sens.length g.senC) := (H1.out.gate 0 rfl).cell 19 _ rfl; clear hb1)
          | (with_reducible show wpList _ _ _ (({ dst := _, op := .load 33 (.tmp 2), type := _, pos := _, after := _, guard := none } : Oper) :: _) _ _; refine wpList_load_gate (H1.out.gate 0 rfl) rfl (.tmp 2) rfl rfl ?_)
          | (go_at_call 93; refine (Hw.out _ H1.out.below).mono ?_; rintro e w2 ⟨rfl, hb2⟩; rw [Hn.out]; have H2 := H1.out.call hb2; have r0 := blk_cell (H2.blk 1 _ rfl) 0 _ rfl; have r1 := blk_cell (H2.blk 1 _ rfl) 1 _ rfl; have rf0 := frozen_of_row _ _ 0 _ _ (H2.blk 1 _ rfl); have rf1 := frozen_of_row _ _ 1 _ _ (H2.blk 1 _ rfl); have lt := H2.lt 1 rfl; have HB2 := Lib.hid H2.below; clear H2 hb2))
        refine bodyPost_ret (v := .tuple #[.agg #[.int .i64 0, .int .i64 0], .int .i64 9]) (by simp [results, Try.results43, go_sem, *]) rfl ⟨rfl, ?_⟩
        repeat (first | (with_reducible exact HB2.out) | (with_reducible refine bset ?_ (by omega)) | (with_reducible refine Below.alloc ?_ (by simp; omega) _))
      · have e1 : spanE (whereL g rs) = 0 := by rw [spanE, if_neg (by simp [hn])]
        have Hn := Lib.hid hn
        rw [e1]
        clear e1 hn
        go_enter Try.func43, Try.ntmps43
        go_wp2_with (first
          | (with_reducible show wpList _ _ _ (({ dst := _, op := .load 33 (.tmp 2), type := _, pos := _, after := _, guard := none } : Oper) :: _) _ _; refine wpList_load_gate (H0.out.gate 0 rfl) rfl (.tmp 2) rfl rfl ?_)
          | (go_at_call 23; refine (rcheck_any g _ (Hok.out _ H0.out.below)).mono ?_; rintro e w1 ⟨rfl, hb1⟩; rw [Hc.out]; have H1 := Lib.hid (H0.out.call hb1); have g19 : w1.cell? ⟨w.heap.size, 19, none⟩ = some (.slice g.senA g.sens.length g.senC) := (H1.out.gate 0 rfl).cell 19 _ rfl; clear hb1)
          | (with_reducible show wpList _ _ _ (({ dst := _, op := .load 33 (.tmp 2), type := _, pos := _, after := _, guard := none } : Oper) :: _) _ _; refine wpList_load_gate (H1.out.gate 0 rfl) rfl (.tmp 2) rfl rfl ?_)
          | (go_at_call 93; refine (Hw.out _ H1.out.below).mono ?_; rintro e w2 ⟨rfl, hb2⟩; rw [Hn.out]; have H2 := H1.out.call hb2; have r0 := blk_cell (H2.blk 1 _ rfl) 0 _ rfl; have r1 := blk_cell (H2.blk 1 _ rfl) 1 _ rfl; have rf0 := frozen_of_row _ _ 0 _ _ (H2.blk 1 _ rfl); have rf1 := frozen_of_row _ _ 1 _ _ (H2.blk 1 _ rfl); have lt := H2.lt 1 rfl; have HB2 := Lib.hid H2.below; clear H2 hb2))
        refine bodyPost_ret (v := .tuple #[.agg #[.int .i64 (spanLo (whereL g rs)), .int .i64 (spanHi (whereL g rs))], .int .i64 0]) (by simp [results, Try.results43, go_sem, *]) rfl ⟨rfl, ?_⟩
        repeat (first | (with_reducible exact HB2.out) | (with_reducible refine bset ?_ (by omega)) | (with_reducible refine Below.alloc ?_ (by simp; omega) _))
    · have he : whereE g rs = 2 := by rw [whereE, if_neg (by simp [hc]), if_pos hl]
      have e2 : whereLo g rs = 0 := by rw [whereLo, if_neg (by omega)]
      have e3 : whereHi g rs = 0 := by rw [whereHi, if_neg (by omega)]
      have Hc := Lib.hid hc
      have f2 : ((rs.length : Int) != (g.sens.length : Int)) = true := by simp; omega
      rw [he, e2, e3]
      clear he e2 e3 hc hl f1
      go_enter Try.func43, Try.ntmps43
      go_wp2_with (first
        | (with_reducible show wpList _ _ _ (({ dst := _, op := .load 33 (.tmp 2), type := _, pos := _, after := _, guard := none } : Oper) :: _) _ _; refine wpList_load_gate (H0.out.gate 0 rfl) rfl (.tmp 2) rfl rfl ?_)
        | (go_at_call 23; refine (rcheck_any g _ (Hok.out _ H0.out.below)).mono ?_; rintro e w1 ⟨rfl, hb1⟩; rw [Hc.out]; have H1 := Lib.hid (H0.out.call hb1); have g19 : w1.cell? ⟨w.heap.size, 19, none⟩ = some (.slice g.senA g.sens.length g.senC) := (H1.out.gate 0 rfl).cell 19 _ rfl; have r0 := blk_cell (H1.out.blk 1 _ rfl) 0 _ rfl; have r1 := blk_cell (H1.out.blk 1 _ rfl) 1 _ rfl; have rf0 := frozen_of_row _ _ 0 _ _ (H1.out.blk 1 _ rfl); have rf1 := frozen_of_row _ _ 1 _ _ (H1.out.blk 1 _ rfl); have lt := H1.out.lt 1 rfl; have HB2 := Lib.hid H1.out.below; clear hb1))
      refine bodyPost_ret (v := .tuple #[.agg #[.int .i64 0, .int .i64 0], .int .i64 2]) (by simp [results, Try.results43, go_sem, *]) rfl ⟨rfl, ?_⟩
      repeat (first | (with_reducible exact HB2.out) | (with_reducible refine bset ?_ (by omega)) | (with_reducible refine Below.alloc ?_ (by simp; omega) _))
  · have he : whereE g rs = (checkZ g).2.2 := by rw [whereE, if_pos hc]
    have e2 : whereLo g rs = 0 := by rw [whereLo, if_neg (by omega)]
    have e3 : whereHi g rs = 0 := by rw [whereHi, if_neg (by omega)]
    have f1 : ((checkZ g).2.2 == 0) = false := by simp [hc]
    have f2 : ((checkZ g).2.2 != 0) = true := by simp [hc]
    rw [he, e2, e3]
    clear he e2 e3 hc
    go_enter Try.func43, Try.ntmps43
    go_wp2_with (first
      | (with_reducible show wpList _ _ _ (({ dst := _, op := .load 33 (.tmp 2), type := _, pos := _, after := _, guard := none } : Oper) :: _) _ _; refine wpList_load_gate (H0.out.gate 0 rfl) rfl (.tmp 2) rfl rfl ?_)
      | (go_at_call 23; refine (rcheck_any g _ (Hok.out _ H0.out.below)).mono ?_; rintro e w1 ⟨rfl, hb1⟩; have H1 := Lib.hid (H0.out.call hb1); have g19 : w1.cell? ⟨w.heap.size, 19, none⟩ = some (.slice g.senA g.sens.length g.senC) := (H1.out.gate 0 rfl).cell 19 _ rfl; have r0 := blk_cell (H1.out.blk 1 _ rfl) 0 _ rfl; have r1 := blk_cell (H1.out.blk 1 _ rfl) 1 _ rfl; have rf0 := frozen_of_row _ _ 0 _ _ (H1.out.blk 1 _ rfl); have rf1 := frozen_of_row _ _ 1 _ _ (H1.out.blk 1 _ rfl); have lt := H1.out.lt 1 rfl; have HB2 := Lib.hid H1.out.below; clear hb1))
    refine bodyPost_ret (v := .tuple #[.agg #[.int .i64 0, .int .i64 0], .int .i64 (checkZ g).2.2]) (by simp [results, Try.results43, go_sem, *]) rfl ⟨rfl, ?_⟩
    repeat (first | (with_reducible exact HB2.out) | (with_reducible refine bset ?_ (by omega)) | (with_reducible refine Below.alloc ?_ (by simp; omega) _))
end Go.Proofs.Ythalanpmfhhhnaa
