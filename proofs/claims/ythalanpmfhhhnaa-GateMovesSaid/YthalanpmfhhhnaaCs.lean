/-
  The reference's CheckSet.
-/
import Derived.Test.YthalanpmfhhhnaaBk
import Derived.Test.YthalanpmfhhhnaaTh
import Derived.Test.YthalanpmfhhhnaaAl
import Derived.Test.YthalanpmfhhhnaaDe
namespace Go.Proofs.Ythalanpmfhhhnaa
open Go.RowKit
set_option linter.unusedSimpArgs false
set_option linter.unusedVariables false

theorem seen_succ {l : List GateV} {m : Nat} {nm : ByteArray} (h : m < l.length) : seenB (l.take (m + 1)) nm = (seenB (l.take m) nm || decide (l[m].nm = nm)) := by
  unfold seenB
  rw [List.take_succ_eq_append_getElem h, List.any_append]
  simp
theorem seen_more {l : List GateV} {m k : Nat} {nm : ByteArray} (h : seenB (l.take m) nm = true) (hk : m ≤ k) : seenB (l.take k) nm = true := by
  unfold seenB at *
  rw [List.any_eq_true] at *
  obtain ⟨x, hx, he⟩ := h
  refine ⟨x, ?_, he⟩
  have : l.take m = (l.take k).take m := by rw [List.take_take, Nat.min_eq_left hk]
  rw [this] at hx
  exact List.mem_of_mem_take hx

theorem bytes_ne {x y : ByteArray} (h : ¬ x = y) : (x.toList == y.toList) = false := by
  rw [beq_eq_false_iff_ne]
  intro e
  rw [ByteArray.toList_eq, ByteArray.toList_eq] at e
  exact h (by cases x; cases y; simp only [ByteArray.mk.injEq]; exact Array.toList_inj.1 e)

theorem ruleE_4 {n : Int} {r : Rul} (h : outB r.gate 0 (n - 1) = true ∨ outB r.other 0 (n - 1) = true) : ruleE n r = 4 := by
  unfold ruleE
  rw [if_pos]
  rcases h with h | h <;> simp [anyB, h]
theorem ruleE_rest {n : Int} {r : Rul} (h1 : outB r.gate 0 (n - 1) = false) (h2 : outB r.other 0 (n - 1) = false) : ruleE n r = if r.gate = r.other then 2 else if outB r.lo 0 5000 = true ∨ outB r.hi r.lo 5000 = true then 7 else 0 := by
  unfold ruleE
  rw [if_neg (by simp [anyB, h1, h2])]
  by_cases he : r.gate = r.other
  · rw [if_pos he, if_pos he]
  · rw [if_neg he, if_neg he]
    by_cases h : outB r.lo 0 5000 = true ∨ outB r.hi r.lo 5000 = true
    · rw [if_pos h, if_pos]
      simp [anyB, outB] at *
      omega
    · rw [if_neg h, if_neg]
      simp [anyB, outB] at *
      omega

set_option maxRecDepth 100000 in
set_option maxHeartbeats 8000000 in
theorem rset_any (s : SetV) (w : World) (hok : s.Ok w) :
    Calls Try.prog 21 #[s.val] w fun e w' => e = .returned (.tuple #[.int .i64 (setE s).1, .int .i64 (setE s).2.1, .int .i64 (setE s).2.2]) ∧ Below w.heap.size w w' := by
  have hgm := hok.gs.1
  have hrm := hok.rs.1
  unfold maxLen at hgm hrm
  have Hok := Lib.hid (fun W (h : Below w.heap.size w W) => hok.below h (Nat.le_refl _))
  have HB := Lib.hid (Bk.new1 w (.cells s.cells 25))
  obtain ⟨Z, hZ⟩ : ∃ Z, Z = setE s := ⟨_, rfl⟩
  rw [← hZ]
  have hz := hZ
  unfold setE at hz
  have Hsc := Lib.hid hok
  clear hok hZ
  go_enter Try.func21, Try.ntmps21
  go_upto_region 1 with (fail)
  obtain ⟨W, hW⟩ : ∃ W, W = w.alloc (.cells s.cells 25) := ⟨_, rfl⟩
  rw [← hW] at HB ⊢
  clear hW
  have c0 : W.cell? ⟨w.heap.size, 0, none⟩ = some (.slice s.gA s.gates.length s.gC) := HB.out.cell 0 0 rfl rfl
  by_cases ho : outB s.gates.length 1 6 = true
  · rw [if_pos ho] at hz
    have Hz := Lib.hid hz
    clear hz
    go_wp2_with (go_at_call 56; refine (in3_any _ _ _ _).mono ?_; rintro e w' ⟨rfl, rfl⟩)
    go_ret3
    exact ⟨ret3 (by rw [Hz.out]), HB.out.below⟩
  · rw [if_neg ho] at hz
    simp only [Bool.not_eq_true] at ho
    have hob := outB_len ho
    have Hz := Lib.hid hz
    clear hz
    go_wp2_with (go_at_call 56; refine (in3_any _ _ _ _).mono ?_; rintro e w' ⟨rfl, rfl⟩)
    clear ho c0
    go_loopw [5] (fun i wr => ∃ k : Nat, k ≤ s.gates.length ∧ i = .int .i64 k ∧ gscan (s.gates.drop k) (s.gates.take k) k = gscan s.gates [] 0 ∧ Bk w [.cells s.cells 25] wr) (fun i _ => s.gates.length - (intOf i).toNat)
    case atStart => exact ⟨0, Nat.zero_le _, rfl, rfl, HB.out⟩
    case round =>
      obtain ⟨k, hk, rfl, hix, hbk⟩ := hrel
      have Hix := Lib.hid hix
      have Hbk := Lib.hid hbk
      have c0 : wr.cell? ⟨w.heap.size, 0, none⟩ = some (.slice s.gA s.gates.length s.gC) := hbk.cell 0 0 rfl rfl
      have c1 : wr.cell? ⟨w.heap.size, 1, none⟩ = some (.slice s.rA s.rules.length s.rC) := hbk.cell 0 1 rfl rfl
      clear hix hbk
      by_cases hlt : k < s.gates.length
      · obtain ⟨_, hgo, hgat⟩ := (Hok.out wr Hbk.out.below).gs
        rcases hgat with hl | ⟨b, off, ha, hb, hl⟩
        · rw [hl] at hlt; exact absurd hlt (by simp)
        · rw [ha] at c0
          have Ha := Lib.hid ha
          have Hrg := Lib.hid (hl k hlt)
          have Hgo := Lib.hid (hgo s.gates[k] (List.getElem_mem hlt))
          have Hl := Lib.hid hl
          have hst := fun h0 => gscan_step (l := s.gates) hlt h0
          have hht := fun h0 => gscan_hit (l := s.gates) hlt h0
          rw [Hix.out] at hst hht
          have Hst := Lib.hid hst
          have Hht := Lib.hid hht
          have j1 : (0 : Int) ≤ (k : Int) := by omega
          have j2 : (k : Int) < (s.gates.length : Int) := by omega
          clear hl ha hgo hst hht Hix
          have hge : gateE (s.gates.take k) s.gates[k] = if (checkZ s.gates[k]).2.2 = 0 then (if seenB (s.gates.take k) s.gates[k].nm then 5 else 0) else (checkZ s.gates[k]).2.2 := rfl
          have Hgn := Lib.hid (fun (W : World) (h : Bk w [.cells s.cells 25] W) (m : Nat) (hm : m < s.gates.length) (hr : W.rangeAt b (off + m * 21) s.gates[m].cells.toList) => (hr 0 (.string s.gates[m].nm) rfl : W.cell? ⟨b, off + m * 21 + 0, none⟩ = some (.string s.gates[m].nm)))
          have Hge := Lib.hid hge
          clear hge
          by_cases hc : (checkZ s.gates[k]).2.2 = 0
          · have hge := Hge.out
            rw [if_pos hc] at hge
            have Hge2 := Lib.hid hge
            have Hc := Lib.hid hc
            clear hge hc Hge
            have hnk : wr.cell? ⟨b, off + k * 21, none⟩ = some (.string s.gates[k].nm) := Hrg.out 0 _ rfl
            go_wp2_with (first
              | (with_reducible show wpList _ _ _ (({ dst := _, op := .load 33 (.tmp 28), type := _, pos := _, after := _, guard := none } : Oper) :: _) _ _; refine wpList_load_gate_mid Hrg.out rfl (.tmp 28) rfl rfl ?_)
              | (go_at_call 23; refine (rcheck_any _ _ Hgo.out).mono ?_; rintro e w1 ⟨rfl, hb1⟩; rw [Hc.out]; have H1 := Lib.hid (Hbk.out.call hb1); have Hlt := Lib.hid (Nat.lt_of_lt_of_le hb hb1.size); have Hl1 := Lib.hid (fun m hm => rangeAt_below (Hl.out m hm) hb1 hb); clear hb1))
            clear c0 c1 hnk
            go_loopw [8, 9] (fun z j wx => (∃ m : Nat, m ≤ k ∧ z = .int .i64 0 ∧ j = .int .i64 m ∧ seenB (s.gates.take m) s.gates[k].nm = false ∧ ∃ n, wx = w1.drewN n) ∨ (∃ m : Nat, m ≤ k ∧ z = .int .i64 5 ∧ j = .int .i64 m ∧ seenB (s.gates.take k) s.gates[k].nm = true ∧ ∃ n, wx = w1.drewN n)) (fun _ j _ => k - (intOf j).toNat)
            case atStart => exact .inl ⟨0, Nat.zero_le _, rfl, rfl, rfl, 0, rfl⟩
            case round =>
              rcases hrel with ⟨m, hm, rfl, rfl, hsn, n, rfl⟩ | ⟨m, hm, rfl, rfl, hsn, n, rfl⟩
              · have Hsn := Lib.hid hsn
                clear hsn
                by_cases hmk : m < k
                · have hml : m < s.gates.length := by omega
                  have d0 : w1.cell? ⟨w.heap.size, 0, none⟩ = some (.slice s.gA s.gates.length s.gC) := H1.out.cell 0 0 rfl rfl
                  rw [Ha.out] at d0
                  have nk : w1.cell? ⟨b, off + k * 21, none⟩ = some (.string s.gates[k].nm) := Hl1.out k hlt 0 _ rfl
                  have nm : w1.cell? ⟨b, off + m * 21, none⟩ = some (.string s.gates[m].nm) := Hl1.out m hml 0 _ rfl
                  have i1 : (0 : Int) ≤ (m : Int) := by omega
                  have i2 : (m : Int) < (s.gates.length : Int) := by omega
                  have hse := seen_succ (nm := s.gates[k].nm) hml
                  rw [Hsn.out] at hse
                  have Hse := Lib.hid hse
                  clear hse
                  by_cases hq : s.gates[m].nm = s.gates[k].nm
                  · have hq2 : (s.gates[m].nm.toList == s.gates[k].nm.toList) = true := by rw [hq]; simp
                    have hs1 : seenB (s.gates.take (m + 1)) s.gates[k].nm = true := by rw [Hse.out]; simp [hq]
                    have Hs1 := Lib.hid hs1
                    clear hs1 hq
                    generalize s.gates[m].nm = nm1 at *
                    go_wp2
                    go_quiet (fail)
                    go_wp2
                    go_roundw
                    case rel => exact .inr ⟨m + 1, by omega, rfl, by go_num, seen_more Hs1.out (by omega), by first | exact ⟨_, rfl⟩ | (simp only [World.drewN_drewN]; exact ⟨_, rfl⟩)⟩
                    case measure => simp [intOf]; omega
                  · have hq2 : (s.gates[m].nm.toList == s.gates[k].nm.toList) = false := bytes_ne hq
                    have hs1 : seenB (s.gates.take (m + 1)) s.gates[k].nm = false := by rw [Hse.out]; simp [hq]
                    have Hs1 := Lib.hid hs1
                    clear hs1 hq
                    generalize s.gates[m].nm = nm1 at *
                    go_wp2
                    go_quiet (fail)
                    go_wp2
                    go_roundw
                    case rel => exact .inl ⟨m + 1, by omega, rfl, by go_num, Hs1.out, by first | exact ⟨_, rfl⟩ | (simp only [World.drewN_drewN]; exact ⟨_, rfl⟩)⟩
                    case measure => simp [intOf]; omega
                · have hmk2 : m = k := by omega
                  subst hmk2
                  have h0 : gateE (s.gates.take m) s.gates[m] = 0 := by rw [Hge2.out, Hsn.out]; rfl
                  have hs := Hst.out h0
                  have Hs := Lib.hid hs
                  have HB1 := Lib.hid (H1.out.drewN n)
                  clear hs h0
                  go_wp2
                  go_roundw
                  case rel => exact ⟨m + 1, by omega, by go_num, Hs.out.symm, HB1.out⟩
                  case measure => simp [intOf]; omega
              · have h5 : gateE (s.gates.take k) s.gates[k] = 5 := by rw [Hge2.out, hsn]; rfl
                have hh := Hht.out (by rw [h5]; decide)
                rw [h5] at hh
                have Hh := Lib.hid hh
                have hzz := Hz.out
                rw [hh, if_pos (by simp)] at hzz
                have Hzz := Lib.hid hzz
                have HB1 := Lib.hid (H1.out.drewN n)
                clear hh h5 hzz hsn
                by_cases hmk : m < k
                all_goals
                  go_wp2
                  go_ret3
                  exact ⟨ret3 (by rw [Hzz.out]), HB1.out.below⟩
          · have hge := Hge.out
            rw [if_neg hc] at hge
            have hh := Hht.out (by rw [hge]; exact hc)
            rw [hge] at hh
            have hzz := Hz.out
            rw [hh, if_pos hc] at hzz
            have Hzz := Lib.hid hzz
            have h1 : ((checkZ s.gates[k]).2.2 == 0) = false := by simp [hc]
            have h2 : ((checkZ s.gates[k]).2.2 != 0) = true := by simp [hc]
            clear hh hge hzz hc
            go_wp2_with (first
              | (with_reducible show wpList _ _ _ (({ dst := _, op := .load 33 (.tmp 28), type := _, pos := _, after := _, guard := none } : Oper) :: _) _ _; refine wpList_load_gate_mid Hrg.out rfl (.tmp 28) rfl rfl ?_)
              | (go_at_call 23; refine (rcheck_any _ _ Hgo.out).mono ?_; rintro e w1 ⟨rfl, hb1⟩; have H1 := Lib.hid (Hbk.out.call hb1); clear hb1))
            go_loopw [8, 9] (fun z j wx => z = .int .i64 (checkZ s.gates[k]).2.2 ∧ j = .int .i64 0 ∧ wx = w1) (fun _ _ _ => 0)
            case atStart => exact ⟨rfl, rfl, rfl⟩
            case round =>
              obtain ⟨rfl, rfl, rfl⟩ := hrel
              by_cases hk0 : 0 < k
              all_goals
                go_wp2
                go_ret3
                exact ⟨ret3 (by rw [Hzz.out]), H1.out.below⟩
      · have hs := gscan_out (l := s.gates) hlt
        rw [Hix.out] at hs
        have hzz := Hz.out
        rw [hs, if_neg (by decide)] at hzz
        have Hz2 := Lib.hid hzz
        clear hs hzz Hz
        by_cases hr12 : 12 < s.rules.length
        · have hzz := Hz2.out
          rw [if_pos hr12] at hzz
          have Hz3 := Lib.hid hzz
          clear hzz
          go_wp2
          go_ret3
          exact ⟨ret3 (by rw [Hz3.out]), Hbk.out.below⟩
        · have hzz := Hz2.out
          rw [if_neg hr12] at hzz
          have Hz3 := Lib.hid hzz
          clear hzz Hz2
          go_wp2
          go_loopw [10] (fun i wr => ∃ k : Nat, k ≤ s.rules.length ∧ i = .int .i64 k ∧ scan (ruleE s.gates.length) (s.rules.drop k) k = scan (ruleE s.gates.length) s.rules 0 ∧ Bk w [.cells s.cells 25] wr) (fun i _ => s.rules.length - (intOf i).toNat)
          case atStart => exact ⟨0, Nat.zero_le _, rfl, rfl, Hbk.out⟩
          case round =>
            clear c0 c1 Hbk Hix
            obtain ⟨k, hk, rfl, hix, hbk⟩ := hrel
            have Hix := Lib.hid hix
            have Hbk := Lib.hid hbk
            have c0 : wr.cell? ⟨w.heap.size, 0, none⟩ = some (.slice s.gA s.gates.length s.gC) := hbk.cell 0 0 rfl rfl
            have c1 : wr.cell? ⟨w.heap.size, 1, none⟩ = some (.slice s.rA s.rules.length s.rC) := hbk.cell 0 1 rfl rfl
            clear hix hbk
            by_cases hlt2 : k < s.rules.length
            · obtain ⟨_, hrat⟩ := (Hok.out wr Hbk.out.below).rs
              rcases hrat with hl | ⟨b, off, ha, hb, hl⟩
              · rw [hl] at hlt2; exact absurd hlt2 (by simp)
              · rw [ha] at c1
                obtain ⟨d0, d1, d2, d3⟩ := hl k hlt2
                have hst := fun h0 => scan_step (f := ruleE s.gates.length) hlt2 h0
                have hht := fun h0 => scan_hit (f := ruleE s.gates.length) hlt2 h0
                rw [Hix.out] at hst hht
                have Hst := Lib.hid hst
                have Hht := Lib.hid hht
                have j1 : (0 : Int) ≤ (k : Int) := by omega
                have j2 : (k : Int) < (s.rules.length : Int) := by omega
                clear hl ha hst hht Hix
                generalize s.rules[k] = r at *
                have hzw : w.heap.size < wr.heap.size := Hbk.out.lt 0 rfl
                have HA := Lib.hid (Hbk.out.alloc (.cells r.cells 72))
                by_cases g1 : outB r.gate 0 ((s.gates.length : Int) - 1) = true
                · have h4 := ruleE_4 (n := s.gates.length) (.inl g1)
                  have hh := Hht.out (by rw [h4]; decide)
                  have hzz := Hz3.out
                  rw [hh, h4, if_pos (by simp)] at hzz
                  have Hzz := Lib.hid hzz
                  clear h4 hh hzz
                  go_wp2_with (go_at_call 56; refine (in3_any _ _ _ _).mono ?_; rintro e w' ⟨rfl, rfl⟩)
                  go_ret3
                  exact ⟨ret3 (by rw [Hzz.out]), HA.out.below⟩
                · by_cases g2 : outB r.other 0 ((s.gates.length : Int) - 1) = true
                  · have h4 := ruleE_4 (n := s.gates.length) (.inr g2)
                    have hh := Hht.out (by rw [h4]; decide)
                    have hzz := Hz3.out
                    rw [hh, h4, if_pos (by simp)] at hzz
                    have Hzz := Lib.hid hzz
                    simp only [Bool.not_eq_true] at g1
                    clear h4 hh hzz
                    go_wp2_with (go_at_call 56; refine (in3_any _ _ _ _).mono ?_; rintro e w' ⟨rfl, rfl⟩)
                    go_ret3
                    exact ⟨ret3 (by rw [Hzz.out]), HA.out.below⟩
                  · simp only [Bool.not_eq_true] at g1 g2
                    have he := ruleE_rest (n := s.gates.length) g1 g2
                    by_cases g3 : r.gate = r.other
                    · rw [if_pos g3] at he
                      have hh := Hht.out (by rw [he]; decide)
                      have hzz := Hz3.out
                      rw [hh, he, if_pos (by simp)] at hzz
                      have Hzz := Lib.hid hzz
                      have g3b : (r.gate == r.other) = true := by simp [g3]
                      clear he hh hzz g3
                      go_wp2_with (go_at_call 56; refine (in3_any _ _ _ _).mono ?_; rintro e w' ⟨rfl, rfl⟩)
                      go_ret3
                      exact ⟨ret3 (by rw [Hzz.out]), HA.out.below⟩
                    · rw [if_neg g3] at he
                      have g3b : (r.gate == r.other) = false := by simp [g3]
                      clear g3
                      by_cases g4 : outB r.lo 0 5000 = true
                      · rw [if_pos (.inl g4)] at he
                        have hh := Hht.out (by rw [he]; decide)
                        have hzz := Hz3.out
                        rw [hh, he, if_pos (by simp)] at hzz
                        have Hzz := Lib.hid hzz
                        clear he hh hzz
                        go_wp2_with (go_at_call 56; refine (in3_any _ _ _ _).mono ?_; rintro e w' ⟨rfl, rfl⟩)
                        go_ret3
                        exact ⟨ret3 (by rw [Hzz.out]), HA.out.below⟩
                      · by_cases g5 : outB r.hi r.lo 5000 = true
                        · rw [if_pos (.inr g5)] at he
                          have hh := Hht.out (by rw [he]; decide)
                          have hzz := Hz3.out
                          rw [hh, he, if_pos (by simp)] at hzz
                          have Hzz := Lib.hid hzz
                          simp only [Bool.not_eq_true] at g4
                          clear he hh hzz
                          go_wp2_with (go_at_call 56; refine (in3_any _ _ _ _).mono ?_; rintro e w' ⟨rfl, rfl⟩)
                          go_ret3
                          exact ⟨ret3 (by rw [Hzz.out]), HA.out.below⟩
                        · rw [if_neg (by rintro (h | h); · exact g4 h
                                         · exact g5 h)] at he
                          have hs := Hst.out he
                          have Hs := Lib.hid hs
                          simp only [Bool.not_eq_true] at g4 g5
                          clear he hs
                          go_wp2_with (go_at_call 56; refine (in3_any _ _ _ _).mono ?_; rintro e w' ⟨rfl, rfl⟩)
                          go_roundw
                          case rel => exact ⟨k + 1, by omega, by go_num, Hs.out.symm, HA.out⟩
                          case measure => simp [intOf]; omega
            · have hs := scan_out (f := ruleE s.gates.length) hlt2
              rw [Hix.out] at hs
              have hzz := Hz3.out
              rw [hs, if_neg (by decide)] at hzz
              have Hzz := Lib.hid hzz
              clear hs hzz Hz3 Hix
              go_wp2
              go_ret3
              exact ⟨ret3 (by rw [Hzz.out]), Hbk.out.below⟩
end Go.Proofs.Ythalanpmfhhhnaa
