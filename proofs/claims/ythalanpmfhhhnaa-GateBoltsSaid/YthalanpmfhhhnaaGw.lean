/-
  The walk of GateWhere: it returns true.
-/
import Derived.Test.YthalanpmfhhhnaaAn
import Derived.Test.YthalanpmfhhhnaaWh
import Derived.Test.YthalanpmfhhhnaaBk
import Derived.Test.YthalanpmfhhhnaaAw
namespace Go.Proofs.Ythalanpmfhhhnaa
open Go.RowKit
set_option linter.unusedSimpArgs false
set_option linter.unusedVariables false
attribute [local go_sem ↓] loadAt_gate
attribute [local go_sem] run_gateLoad

theorem span_in {g : GateV} {rs : List Int} : ∀ {n : Nat} {x : Int}, x ∈ psUpto g rs n → spanLo (psUpto g rs n) ≤ x ∧ x ≤ spanHi (psUpto g rs n)
  | 0, x, h => by simp [psUpto] at h
  | n + 1, x, h => by
    rw [psUpto_succ] at h ⊢
    cases hf : fitB g rs n with
    | false =>
      rw [hf, if_neg (by simp), List.append_nil] at h
      rw [if_neg (by simp), List.append_nil]
      exact span_in h
    | true =>
      rw [hf, if_pos rfl] at h
      rw [if_pos rfl, spanLo_snoc, spanHi_snoc]
      rcases List.mem_append.1 h with h | h
      · have h1 := span_in h
        have h2 := psUpto_mem h
        rw [if_neg (by cases hp : psUpto g rs n <;> simp [hp] at h ⊢)]
        exact ⟨h1.1, by omega⟩
      · simp only [List.mem_singleton] at h
        subst h
        refine ⟨?_, Int.le_refl _⟩
        split
        · exact Int.le_refl _
        · rename_i h3
          have := psUpto_mem (spanLo_mem (by simpa using h3))
          omega
theorem spanE_nil {l : List Int} (h : l.isEmpty = true) : spanE l = 9 := by rw [spanE, if_pos h]
theorem spanE_cons {l : List Int} (h : l.isEmpty = false) : spanE l = 0 := by rw [spanE, if_neg (by simp [h])]

set_option maxRecDepth 100000 in
set_option maxHeartbeats 4000000 in
theorem gwhere_any (g : GateV) (p : Int) (rA : Option Addr) (rC : Nat) (rs : List Int) (w : World) (hok : g.Ok w) (hri : IntsAt w rA rs) :
    Calls Try.prog 6 #[g.val, .int .i64 p, .slice rA rs.length rC] w fun e w' => e = .returned (.bool true) ∧ Below w.heap.size w w' := by
  have hrm := hri.1
  have hsm := hok.sens.1
  unfold maxLen at hrm hsm
  have H0 := Lib.hid (Bk.new1 w (.cells g.cells 33))
  have Hok := Lib.hid (fun W (h : Below w.heap.size w W) => hok.below h (Nat.le_refl _))
  have Hri := Lib.hid (fun W (h : Below w.heap.size w W) => hri.below h (Nat.le_refl _))
  have c1 : ∀ W, Below w.heap.size w W → Calls Try.prog 29 #[g.val, .slice rA rs.length rC] W fun e w' => e = .returned (.tuple #[.agg #[.int .i64 (whereLo g rs), .int .i64 (whereHi g rs)], .int .i64 (whereE g rs)]) ∧ Below W.heap.size W w' := fun W h => where_any g rA rC rs W (Hok.out W h) (Hri.out W h)
  have c2 : ∀ W, Below w.heap.size w W → Calls Try.prog 22 #[g.val] W fun e w' => e = .returned (.tuple #[.int .i64 (checkZ g).1, .int .i64 (checkZ g).2.1, .int .i64 (checkZ g).2.2]) ∧ Below W.heap.size W w' := fun W h => check_any g W (Hok.out W h)
  have C1 := Lib.hid c1
  have C2 := Lib.hid c2
  clear c1 c2 hok hri
  by_cases hc : (checkZ g).2.2 = 0
  · by_cases hl : rs.length = g.sens.length
    · obtain ⟨hs1, hs2⟩ := where_span hc hl
      have he := whereE_good hc hl
      rw [hs1, hs2, he] at C1
      rw [hc] at C2
      obtain ⟨ht1, ht2⟩ := (check_good hc).travel
      have hen : ∀ q, 0 ≤ q ∧ q ≤ g.travel → ∀ W, Below w.heap.size w W → Calls Try.prog 30 #[g.val, .slice rA rs.length rC, .int .i64 q] W fun e w' => e = .returned (.bool (fitB g rs q)) ∧ Below W.heap.size W w' := fun q hq W h => enough_any g rA rC rs q W (Hok.out W h) (Hri.out W h) hc hl ⟨hq.1, by omega⟩
      have hnl : ((rs.length : Int) != (g.sens.length : Int)) = false := by simp [hl]
      have hmem : ∀ x, x ∈ whereL g rs ↔ (0 ≤ x ∧ x ≤ g.travel) ∧ fitB g rs x = true := fun x => by
        unfold whereL
        constructor
        · intro h
          have := psUpto_mem h
          exact ⟨⟨this.1, by omega⟩, this.2.2⟩
        · rintro ⟨⟨h1, h2⟩, h3⟩
          exact psUpto_in h1 (by omega) h3
      have hspan : ∀ x, x ∈ whereL g rs → spanLo (whereL g rs) ≤ x ∧ x ≤ spanHi (whereL g rs) := fun x h => span_in h
      cases hL : (whereL g rs).isEmpty with
      | true =>
        rw [spanE_nil hL] at C1
        have hno : ¬ ((0 ≤ p ∧ p ≤ g.travel) ∧ fitB g rs p = true) := fun h => by
          have := (hmem p).2 h
          cases hw : whereL g rs with
          | nil => rw [hw] at this; cases this
          | cons a l => rw [hw] at hL; cases hL
        clear hs1 hs2 he hc hl hmem hspan hL
        revert C1
        generalize spanLo (whereL g rs) = lo
        generalize spanHi (whereL g rs) = hi
        intro C1
        by_cases h1 : 0 ≤ p
        · have f1 : decide (0 ≤ p) = true := by simpa using h1
          by_cases h2 : p ≤ g.travel
          · have f2 : decide (p ≤ g.travel) = true := by simpa using h2
            have hf : fitB g rs p = false := by
              cases h : fitB g rs p with
              | false => rfl
              | true => exact absurd ⟨⟨h1, h2⟩, h⟩ hno
            have E1 := Lib.hid (hen p ⟨h1, h2⟩)
            rw [hf] at E1
            clear hen hno h1 h2 hf
            go_enter Try.func6, Try.ntmps6
            go_wp2_with (first
              | (with_reducible show wpList _ _ _ (({ dst := _, op := .load 33 (.tmp 3), type := _, pos := _, after := _, guard := none } : Oper) :: _) _ _; refine wpList_load_gate (H0.out.gate 0 rfl) rfl (.tmp 3) rfl rfl ?_)
              | (go_at_call 29; refine (C1.out _ H0.out.below).mono ?_; rintro e w1 ⟨rfl, hb1⟩; have H1 := Lib.hid ((H0.out.call hb1).alloc (.cells #[.int .i64 lo, .int .i64 hi] 53)); clear hb1)
              | (with_reducible show wpList _ _ _ (({ dst := _, op := .load 33 (.tmp 3), type := _, pos := _, after := _, guard := none } : Oper) :: _) _ _; refine wpList_load_gate (H1.out.gate 0 rfl) rfl (.tmp 3) rfl rfl ?_)
              | (go_at_call 22; refine (C2.out _ H1.out.below).mono ?_; rintro e w2 ⟨rfl, hb2⟩; have K0 := Lib.hid (blk_below hb2 (blk_new rfl)); have H2 := Lib.hid (H1.out.call hb2); have a0 := blk_cell K0.out 0 _ rfl; have a1 := blk_cell K0.out 1 _ rfl; have g19 : w2.cell? ⟨w.heap.size, 19, none⟩ = some (.slice g.senA g.sens.length g.senC) := H2.out.cell 0 19 rfl rfl; have g2 : w2.cell? ⟨w.heap.size, 2, none⟩ = some (.int .i64 g.travel) := H2.out.cell 0 2 rfl rfl; have q0 : IsGate w2 w.heap.size := ⟨g, H2.out.gate 0 rfl⟩; have q1 : rowOf w2 w.heap.size = g.val := rowOf_gate (H2.out.gate 0 rfl); clear hb2)
              | (with_reducible show wpList _ _ _ (({ dst := _, op := .load 33 (.tmp 3), type := _, pos := _, after := _, guard := none } : Oper) :: _) _ _; refine wpList_load_gate (H2.out.gate 0 rfl) rfl (.tmp 3) rfl rfl ?_)
              | (go_at_call 30; ((with_reducible refine (E1.out _ H2.out.below).mono ?_); rintro e w3 ⟨rfl, hb3⟩; have K3 := Lib.hid (blk_below hb3 K0.out); have H3 := Lib.hid (H2.out.call hb3); clear a0 a1 g19 g2 q0 q1; have a0 := blk_cell K3.out 0 _ rfl; have a1 := blk_cell K3.out 1 _ rfl; have g19 : w3.cell? ⟨w.heap.size, 19, none⟩ = some (.slice g.senA g.sens.length g.senC) := H3.out.cell 0 19 rfl rfl; have g2 : w3.cell? ⟨w.heap.size, 2, none⟩ = some (.int .i64 g.travel) := H3.out.cell 0 2 rfl rfl; have q0 : IsGate w3 w.heap.size := ⟨g, H3.out.gate 0 rfl⟩; have q1 : rowOf w3 w.heap.size = g.val := rowOf_gate (H3.out.gate 0 rfl); clear hb3))
              | (go_at_call 24; refine (awake_any _).mono ?_; rintro e w9 ⟨rfl, hb9⟩; have H9 := Lib.hid (H3.out.call hb9); clear hb9))
            go_ret
            exact ⟨rfl, H9.out.below⟩
          · have f2 : decide (p ≤ g.travel) = false := by simpa using h2
            clear hen hno h1 h2
            go_enter Try.func6, Try.ntmps6
            go_wp2_with (first
              | (with_reducible show wpList _ _ _ (({ dst := _, op := .load 33 (.tmp 3), type := _, pos := _, after := _, guard := none } : Oper) :: _) _ _; refine wpList_load_gate (H0.out.gate 0 rfl) rfl (.tmp 3) rfl rfl ?_)
              | (go_at_call 29; refine (C1.out _ H0.out.below).mono ?_; rintro e w1 ⟨rfl, hb1⟩; have H1 := Lib.hid ((H0.out.call hb1).alloc (.cells #[.int .i64 lo, .int .i64 hi] 53)); clear hb1)
              | (with_reducible show wpList _ _ _ (({ dst := _, op := .load 33 (.tmp 3), type := _, pos := _, after := _, guard := none } : Oper) :: _) _ _; refine wpList_load_gate (H1.out.gate 0 rfl) rfl (.tmp 3) rfl rfl ?_)
              | (go_at_call 22; refine (C2.out _ H1.out.below).mono ?_; rintro e w2 ⟨rfl, hb2⟩; have K0 := Lib.hid (blk_below hb2 (blk_new rfl)); have H2 := Lib.hid (H1.out.call hb2); have a0 := blk_cell K0.out 0 _ rfl; have a1 := blk_cell K0.out 1 _ rfl; have g19 : w2.cell? ⟨w.heap.size, 19, none⟩ = some (.slice g.senA g.sens.length g.senC) := H2.out.cell 0 19 rfl rfl; have g2 : w2.cell? ⟨w.heap.size, 2, none⟩ = some (.int .i64 g.travel) := H2.out.cell 0 2 rfl rfl; have q0 : IsGate w2 w.heap.size := ⟨g, H2.out.gate 0 rfl⟩; have q1 : rowOf w2 w.heap.size = g.val := rowOf_gate (H2.out.gate 0 rfl); clear hb2)
              | (go_at_call 24; refine (awake_any _).mono ?_; rintro e w9 ⟨rfl, hb9⟩; have H9 := Lib.hid (H2.out.call hb9); clear hb9))
            go_ret
            exact ⟨rfl, H9.out.below⟩
        · have f1 : decide (0 ≤ p) = false := by simpa using h1
          clear hen hno h1
          go_enter Try.func6, Try.ntmps6
          go_wp2_with (first
            | (with_reducible show wpList _ _ _ (({ dst := _, op := .load 33 (.tmp 3), type := _, pos := _, after := _, guard := none } : Oper) :: _) _ _; refine wpList_load_gate (H0.out.gate 0 rfl) rfl (.tmp 3) rfl rfl ?_)
            | (go_at_call 29; refine (C1.out _ H0.out.below).mono ?_; rintro e w1 ⟨rfl, hb1⟩; have H1 := Lib.hid ((H0.out.call hb1).alloc (.cells #[.int .i64 lo, .int .i64 hi] 53)); clear hb1)
            | (with_reducible show wpList _ _ _ (({ dst := _, op := .load 33 (.tmp 3), type := _, pos := _, after := _, guard := none } : Oper) :: _) _ _; refine wpList_load_gate (H1.out.gate 0 rfl) rfl (.tmp 3) rfl rfl ?_)
            | (go_at_call 22; refine (C2.out _ H1.out.below).mono ?_; rintro e w2 ⟨rfl, hb2⟩; have K0 := Lib.hid (blk_below hb2 (blk_new rfl)); have H2 := Lib.hid (H1.out.call hb2); have a0 := blk_cell K0.out 0 _ rfl; have a1 := blk_cell K0.out 1 _ rfl; have g19 : w2.cell? ⟨w.heap.size, 19, none⟩ = some (.slice g.senA g.sens.length g.senC) := H2.out.cell 0 19 rfl rfl; have g2 : w2.cell? ⟨w.heap.size, 2, none⟩ = some (.int .i64 g.travel) := H2.out.cell 0 2 rfl rfl; have q0 : IsGate w2 w.heap.size := ⟨g, H2.out.gate 0 rfl⟩; have q1 : rowOf w2 w.heap.size = g.val := rowOf_gate (H2.out.gate 0 rfl); clear hb2)
            | (go_at_call 24; refine (awake_any _).mono ?_; rintro e w9 ⟨rfl, hb9⟩; have H9 := Lib.hid (H2.out.call hb9); clear hb9))
          go_ret
          exact ⟨rfl, H9.out.below⟩
      | false =>
        rw [spanE_cons hL] at C1
        obtain ⟨⟨l1, l2⟩, l3⟩ := (hmem _).1 (spanLo_mem hL)
        obtain ⟨⟨i1, i2⟩, i3⟩ := (hmem _).1 (spanHi_mem hL)
        have E2 := Lib.hid (hen _ ⟨l1, l2⟩)
        have E3 := Lib.hid (hen _ ⟨i1, i2⟩)
        rw [l3] at E2
        rw [i3] at E3
        have hsp : (0 ≤ p ∧ p ≤ g.travel) ∧ fitB g rs p = true → spanLo (whereL g rs) ≤ p ∧ p ≤ spanHi (whereL g rs) := fun h => hspan p ((hmem p).2 h)
        have k1 : decide (0 ≤ spanLo (whereL g rs)) = true := by simpa using l1
        have k2 : decide (spanHi (whereL g rs) ≤ g.travel) = true := by simpa using i2
        clear hs1 hs2 he hc hl hmem hspan hL l1 l2 l3 i1 i2 i3
        revert C1 E2 E3 hsp k1 k2
        generalize spanLo (whereL g rs) = lo
        generalize spanHi (whereL g rs) = hi
        intro C1 E2 E3 hsp k1 k2
        by_cases h1 : 0 ≤ p
        · have f1 : decide (0 ≤ p) = true := by simpa using h1
          by_cases h2 : p ≤ g.travel
          · have f2 : decide (p ≤ g.travel) = true := by simpa using h2
            have E1 := Lib.hid (hen p ⟨h1, h2⟩)
            cases hf : fitB g rs p with
            | true =>
              obtain ⟨s1, s2⟩ := hsp ⟨⟨h1, h2⟩, hf⟩
              have m1 : decide (lo ≤ p) = true := by simpa using s1
              have m2 : decide (p ≤ hi) = true := by simpa using s2
              rw [hf] at E1
              clear hen hsp h1 h2 hf s1 s2
              go_enter Try.func6, Try.ntmps6
              go_wp2_with (first
                | (with_reducible show wpList _ _ _ (({ dst := _, op := .load 33 (.tmp 3), type := _, pos := _, after := _, guard := none } : Oper) :: _) _ _; refine wpList_load_gate (H0.out.gate 0 rfl) rfl (.tmp 3) rfl rfl ?_)
                | (go_at_call 29; refine (C1.out _ H0.out.below).mono ?_; rintro e w1 ⟨rfl, hb1⟩; have H1 := Lib.hid ((H0.out.call hb1).alloc (.cells #[.int .i64 lo, .int .i64 hi] 53)); clear hb1)
                | (with_reducible show wpList _ _ _ (({ dst := _, op := .load 33 (.tmp 3), type := _, pos := _, after := _, guard := none } : Oper) :: _) _ _; refine wpList_load_gate (H1.out.gate 0 rfl) rfl (.tmp 3) rfl rfl ?_)
                | (go_at_call 22; refine (C2.out _ H1.out.below).mono ?_; rintro e w2 ⟨rfl, hb2⟩; have K0 := Lib.hid (blk_below hb2 (blk_new rfl)); have H2 := Lib.hid (H1.out.call hb2); have a0 := blk_cell K0.out 0 _ rfl; have a1 := blk_cell K0.out 1 _ rfl; have g19 : w2.cell? ⟨w.heap.size, 19, none⟩ = some (.slice g.senA g.sens.length g.senC) := H2.out.cell 0 19 rfl rfl; have g2 : w2.cell? ⟨w.heap.size, 2, none⟩ = some (.int .i64 g.travel) := H2.out.cell 0 2 rfl rfl; have q0 : IsGate w2 w.heap.size := ⟨g, H2.out.gate 0 rfl⟩; have q1 : rowOf w2 w.heap.size = g.val := rowOf_gate (H2.out.gate 0 rfl); clear hb2)
                | (with_reducible show wpList _ _ _ (({ dst := _, op := .load 33 (.tmp 3), type := _, pos := _, after := _, guard := none } : Oper) :: _) _ _; refine wpList_load_gate (H2.out.gate 0 rfl) rfl (.tmp 3) rfl rfl ?_)
                | (go_at_call 30; ((with_reducible refine (E1.out _ H2.out.below).mono ?_); rintro e w3 ⟨rfl, hb3⟩; have K3 := Lib.hid (blk_below hb3 K0.out); have H3 := Lib.hid (H2.out.call hb3); clear a0 a1 g19 g2 q0 q1; have a0 := blk_cell K3.out 0 _ rfl; have a1 := blk_cell K3.out 1 _ rfl; have g19 : w3.cell? ⟨w.heap.size, 19, none⟩ = some (.slice g.senA g.sens.length g.senC) := H3.out.cell 0 19 rfl rfl; have g2 : w3.cell? ⟨w.heap.size, 2, none⟩ = some (.int .i64 g.travel) := H3.out.cell 0 2 rfl rfl; have q0 : IsGate w3 w.heap.size := ⟨g, H3.out.gate 0 rfl⟩; have q1 : rowOf w3 w.heap.size = g.val := rowOf_gate (H3.out.gate 0 rfl); clear hb3))
                | (with_reducible show wpList _ _ _ (({ dst := _, op := .load 33 (.tmp 3), type := _, pos := _, after := _, guard := none } : Oper) :: _) _ _; refine wpList_load_gate (H3.out.gate 0 rfl) rfl (.tmp 3) rfl rfl ?_)
                | (go_at_call 30; ((with_reducible refine (E2.out _ H3.out.below).mono ?_); rintro e w4 ⟨rfl, hb4⟩; have K4 := Lib.hid (blk_below hb4 K3.out); have H4 := Lib.hid (H3.out.call hb4); clear a0 a1 g19 g2 q0 q1; have a0 := blk_cell K4.out 0 _ rfl; have a1 := blk_cell K4.out 1 _ rfl; have g19 : w4.cell? ⟨w.heap.size, 19, none⟩ = some (.slice g.senA g.sens.length g.senC) := H4.out.cell 0 19 rfl rfl; have g2 : w4.cell? ⟨w.heap.size, 2, none⟩ = some (.int .i64 g.travel) := H4.out.cell 0 2 rfl rfl; have q0 : IsGate w4 w.heap.size := ⟨g, H4.out.gate 0 rfl⟩; have q1 : rowOf w4 w.heap.size = g.val := rowOf_gate (H4.out.gate 0 rfl); clear hb4))
                | (with_reducible show wpList _ _ _ (({ dst := _, op := .load 33 (.tmp 3), type := _, pos := _, after := _, guard := none } : Oper) :: _) _ _; refine wpList_load_gate (H4.out.gate 0 rfl) rfl (.tmp 3) rfl rfl ?_)
                | (go_at_call 30; ((with_reducible refine (E3.out _ H4.out.below).mono ?_); rintro e w5 ⟨rfl, hb5⟩; have K5 := Lib.hid (blk_below hb5 K4.out); have H5 := Lib.hid (H4.out.call hb5); clear a0 a1 g19 g2 q0 q1; have a0 := blk_cell K5.out 0 _ rfl; have a1 := blk_cell K5.out 1 _ rfl; have g19 : w5.cell? ⟨w.heap.size, 19, none⟩ = some (.slice g.senA g.sens.length g.senC) := H5.out.cell 0 19 rfl rfl; have g2 : w5.cell? ⟨w.heap.size, 2, none⟩ = some (.int .i64 g.travel) := H5.out.cell 0 2 rfl rfl; have q0 : IsGate w5 w.heap.size := ⟨g, H5.out.gate 0 rfl⟩; have q1 : rowOf w5 w.heap.size = g.val := rowOf_gate (H5.out.gate 0 rfl); clear hb5))
                | (go_at_call 24; refine (awake_any _).mono ?_; rintro e w9 ⟨rfl, hb9⟩; have H9 := Lib.hid (H5.out.call hb9); clear hb9))
              go_ret
              exact ⟨rfl, H9.out.below⟩
            | false =>
              rw [hf] at E1
              clear hen hsp h1 h2 hf
              go_enter Try.func6, Try.ntmps6
              go_wp2_with (first
                | (with_reducible show wpList _ _ _ (({ dst := _, op := .load 33 (.tmp 3), type := _, pos := _, after := _, guard := none } : Oper) :: _) _ _; refine wpList_load_gate (H0.out.gate 0 rfl) rfl (.tmp 3) rfl rfl ?_)
                | (go_at_call 29; refine (C1.out _ H0.out.below).mono ?_; rintro e w1 ⟨rfl, hb1⟩; have H1 := Lib.hid ((H0.out.call hb1).alloc (.cells #[.int .i64 lo, .int .i64 hi] 53)); clear hb1)
                | (with_reducible show wpList _ _ _ (({ dst := _, op := .load 33 (.tmp 3), type := _, pos := _, after := _, guard := none } : Oper) :: _) _ _; refine wpList_load_gate (H1.out.gate 0 rfl) rfl (.tmp 3) rfl rfl ?_)
                | (go_at_call 22; refine (C2.out _ H1.out.below).mono ?_; rintro e w2 ⟨rfl, hb2⟩; have K0 := Lib.hid (blk_below hb2 (blk_new rfl)); have H2 := Lib.hid (H1.out.call hb2); have a0 := blk_cell K0.out 0 _ rfl; have a1 := blk_cell K0.out 1 _ rfl; have g19 : w2.cell? ⟨w.heap.size, 19, none⟩ = some (.slice g.senA g.sens.length g.senC) := H2.out.cell 0 19 rfl rfl; have g2 : w2.cell? ⟨w.heap.size, 2, none⟩ = some (.int .i64 g.travel) := H2.out.cell 0 2 rfl rfl; have q0 : IsGate w2 w.heap.size := ⟨g, H2.out.gate 0 rfl⟩; have q1 : rowOf w2 w.heap.size = g.val := rowOf_gate (H2.out.gate 0 rfl); clear hb2)
                | (with_reducible show wpList _ _ _ (({ dst := _, op := .load 33 (.tmp 3), type := _, pos := _, after := _, guard := none } : Oper) :: _) _ _; refine wpList_load_gate (H2.out.gate 0 rfl) rfl (.tmp 3) rfl rfl ?_)
                | (go_at_call 30; ((with_reducible refine (E1.out _ H2.out.below).mono ?_); rintro e w3 ⟨rfl, hb3⟩; have K3 := Lib.hid (blk_below hb3 K0.out); have H3 := Lib.hid (H2.out.call hb3); clear a0 a1 g19 g2 q0 q1; have a0 := blk_cell K3.out 0 _ rfl; have a1 := blk_cell K3.out 1 _ rfl; have g19 : w3.cell? ⟨w.heap.size, 19, none⟩ = some (.slice g.senA g.sens.length g.senC) := H3.out.cell 0 19 rfl rfl; have g2 : w3.cell? ⟨w.heap.size, 2, none⟩ = some (.int .i64 g.travel) := H3.out.cell 0 2 rfl rfl; have q0 : IsGate w3 w.heap.size := ⟨g, H3.out.gate 0 rfl⟩; have q1 : rowOf w3 w.heap.size = g.val := rowOf_gate (H3.out.gate 0 rfl); clear hb3))
                | (with_reducible show wpList _ _ _ (({ dst := _, op := .load 33 (.tmp 3), type := _, pos := _, after := _, guard := none } : Oper) :: _) _ _; refine wpList_load_gate (H3.out.gate 0 rfl) rfl (.tmp 3) rfl rfl ?_)
                | (go_at_call 30; ((with_reducible refine (E2.out _ H3.out.below).mono ?_); rintro e w4 ⟨rfl, hb4⟩; have K4 := Lib.hid (blk_below hb4 K3.out); have H4 := Lib.hid (H3.out.call hb4); clear a0 a1 g19 g2 q0 q1; have a0 := blk_cell K4.out 0 _ rfl; have a1 := blk_cell K4.out 1 _ rfl; have g19 : w4.cell? ⟨w.heap.size, 19, none⟩ = some (.slice g.senA g.sens.length g.senC) := H4.out.cell 0 19 rfl rfl; have g2 : w4.cell? ⟨w.heap.size, 2, none⟩ = some (.int .i64 g.travel) := H4.out.cell 0 2 rfl rfl; have q0 : IsGate w4 w.heap.size := ⟨g, H4.out.gate 0 rfl⟩; have q1 : rowOf w4 w.heap.size = g.val := rowOf_gate (H4.out.gate 0 rfl); clear hb4))
                | (with_reducible show wpList _ _ _ (({ dst := _, op := .load 33 (.tmp 3), type := _, pos := _, after := _, guard := none } : Oper) :: _) _ _; refine wpList_load_gate (H4.out.gate 0 rfl) rfl (.tmp 3) rfl rfl ?_)
                | (go_at_call 30; ((with_reducible refine (E3.out _ H4.out.below).mono ?_); rintro e w5 ⟨rfl, hb5⟩; have K5 := Lib.hid (blk_below hb5 K4.out); have H5 := Lib.hid (H4.out.call hb5); clear a0 a1 g19 g2 q0 q1; have a0 := blk_cell K5.out 0 _ rfl; have a1 := blk_cell K5.out 1 _ rfl; have g19 : w5.cell? ⟨w.heap.size, 19, none⟩ = some (.slice g.senA g.sens.length g.senC) := H5.out.cell 0 19 rfl rfl; have g2 : w5.cell? ⟨w.heap.size, 2, none⟩ = some (.int .i64 g.travel) := H5.out.cell 0 2 rfl rfl; have q0 : IsGate w5 w.heap.size := ⟨g, H5.out.gate 0 rfl⟩; have q1 : rowOf w5 w.heap.size = g.val := rowOf_gate (H5.out.gate 0 rfl); clear hb5))
                | (go_at_call 24; refine (awake_any _).mono ?_; rintro e w9 ⟨rfl, hb9⟩; have H9 := Lib.hid (H5.out.call hb9); clear hb9))
              go_ret
              exact ⟨rfl, H9.out.below⟩
          · have f2 : decide (p ≤ g.travel) = false := by simpa using h2
            clear hen hsp h1 h2
            go_enter Try.func6, Try.ntmps6
            go_wp2_with (first
              | (with_reducible show wpList _ _ _ (({ dst := _, op := .load 33 (.tmp 3), type := _, pos := _, after := _, guard := none } : Oper) :: _) _ _; refine wpList_load_gate (H0.out.gate 0 rfl) rfl (.tmp 3) rfl rfl ?_)
              | (go_at_call 29; refine (C1.out _ H0.out.below).mono ?_; rintro e w1 ⟨rfl, hb1⟩; have H1 := Lib.hid ((H0.out.call hb1).alloc (.cells #[.int .i64 lo, .int .i64 hi] 53)); clear hb1)
              | (with_reducible show wpList _ _ _ (({ dst := _, op := .load 33 (.tmp 3), type := _, pos := _, after := _, guard := none } : Oper) :: _) _ _; refine wpList_load_gate (H1.out.gate 0 rfl) rfl (.tmp 3) rfl rfl ?_)
              | (go_at_call 22; refine (C2.out _ H1.out.below).mono ?_; rintro e w2 ⟨rfl, hb2⟩; have K0 := Lib.hid (blk_below hb2 (blk_new rfl)); have H2 := Lib.hid (H1.out.call hb2); have a0 := blk_cell K0.out 0 _ rfl; have a1 := blk_cell K0.out 1 _ rfl; have g19 : w2.cell? ⟨w.heap.size, 19, none⟩ = some (.slice g.senA g.sens.length g.senC) := H2.out.cell 0 19 rfl rfl; have g2 : w2.cell? ⟨w.heap.size, 2, none⟩ = some (.int .i64 g.travel) := H2.out.cell 0 2 rfl rfl; have q0 : IsGate w2 w.heap.size := ⟨g, H2.out.gate 0 rfl⟩; have q1 : rowOf w2 w.heap.size = g.val := rowOf_gate (H2.out.gate 0 rfl); clear hb2)
              | (with_reducible show wpList _ _ _ (({ dst := _, op := .load 33 (.tmp 3), type := _, pos := _, after := _, guard := none } : Oper) :: _) _ _; refine wpList_load_gate (H2.out.gate 0 rfl) rfl (.tmp 3) rfl rfl ?_)
              | (go_at_call 30; ((with_reducible refine (E2.out _ H2.out.below).mono ?_); rintro e w3 ⟨rfl, hb3⟩; have K3 := Lib.hid (blk_below hb3 K0.out); have H3 := Lib.hid (H2.out.call hb3); clear a0 a1 g19 g2 q0 q1; have a0 := blk_cell K3.out 0 _ rfl; have a1 := blk_cell K3.out 1 _ rfl; have g19 : w3.cell? ⟨w.heap.size, 19, none⟩ = some (.slice g.senA g.sens.length g.senC) := H3.out.cell 0 19 rfl rfl; have g2 : w3.cell? ⟨w.heap.size, 2, none⟩ = some (.int .i64 g.travel) := H3.out.cell 0 2 rfl rfl; have q0 : IsGate w3 w.heap.size := ⟨g, H3.out.gate 0 rfl⟩; have q1 : rowOf w3 w.heap.size = g.val := rowOf_gate (H3.out.gate 0 rfl); clear hb3))
              | (with_reducible show wpList _ _ _ (({ dst := _, op := .load 33 (.tmp 3), type := _, pos := _, after := _, guard := none } : Oper) :: _) _ _; refine wpList_load_gate (H3.out.gate 0 rfl) rfl (.tmp 3) rfl rfl ?_)
              | (go_at_call 30; ((with_reducible refine (E3.out _ H3.out.below).mono ?_); rintro e w4 ⟨rfl, hb4⟩; have K4 := Lib.hid (blk_below hb4 K3.out); have H4 := Lib.hid (H3.out.call hb4); clear a0 a1 g19 g2 q0 q1; have a0 := blk_cell K4.out 0 _ rfl; have a1 := blk_cell K4.out 1 _ rfl; have g19 : w4.cell? ⟨w.heap.size, 19, none⟩ = some (.slice g.senA g.sens.length g.senC) := H4.out.cell 0 19 rfl rfl; have g2 : w4.cell? ⟨w.heap.size, 2, none⟩ = some (.int .i64 g.travel) := H4.out.cell 0 2 rfl rfl; have q0 : IsGate w4 w.heap.size := ⟨g, H4.out.gate 0 rfl⟩; have q1 : rowOf w4 w.heap.size = g.val := rowOf_gate (H4.out.gate 0 rfl); clear hb4))
              | (go_at_call 24; refine (awake_any _).mono ?_; rintro e w9 ⟨rfl, hb9⟩; have H9 := Lib.hid (H4.out.call hb9); clear hb9))
            go_ret
            exact ⟨rfl, H9.out.below⟩
        · have f1 : decide (0 ≤ p) = false := by simpa using h1
          clear hen hsp h1
          go_enter Try.func6, Try.ntmps6
          go_wp2_with (first
            | (with_reducible show wpList _ _ _ (({ dst := _, op := .load 33 (.tmp 3), type := _, pos := _, after := _, guard := none } : Oper) :: _) _ _; refine wpList_load_gate (H0.out.gate 0 rfl) rfl (.tmp 3) rfl rfl ?_)
            | (go_at_call 29; refine (C1.out _ H0.out.below).mono ?_; rintro e w1 ⟨rfl, hb1⟩; have H1 := Lib.hid ((H0.out.call hb1).alloc (.cells #[.int .i64 lo, .int .i64 hi] 53)); clear hb1)
            | (with_reducible show wpList _ _ _ (({ dst := _, op := .load 33 (.tmp 3), type := _, pos := _, after := _, guard := none } : Oper) :: _) _ _; refine wpList_load_gate (H1.out.gate 0 rfl) rfl (.tmp 3) rfl rfl ?_)
            | (go_at_call 22; refine (C2.out _ H1.out.below).mono ?_; rintro e w2 ⟨rfl, hb2⟩; have K0 := Lib.hid (blk_below hb2 (blk_new rfl)); have H2 := Lib.hid (H1.out.call hb2); have a0 := blk_cell K0.out 0 _ rfl; have a1 := blk_cell K0.out 1 _ rfl; have g19 : w2.cell? ⟨w.heap.size, 19, none⟩ = some (.slice g.senA g.sens.length g.senC) := H2.out.cell 0 19 rfl rfl; have g2 : w2.cell? ⟨w.heap.size, 2, none⟩ = some (.int .i64 g.travel) := H2.out.cell 0 2 rfl rfl; have q0 : IsGate w2 w.heap.size := ⟨g, H2.out.gate 0 rfl⟩; have q1 : rowOf w2 w.heap.size = g.val := rowOf_gate (H2.out.gate 0 rfl); clear hb2)
            | (with_reducible show wpList _ _ _ (({ dst := _, op := .load 33 (.tmp 3), type := _, pos := _, after := _, guard := none } : Oper) :: _) _ _; refine wpList_load_gate (H2.out.gate 0 rfl) rfl (.tmp 3) rfl rfl ?_)
            | (go_at_call 30; ((with_reducible refine (E2.out _ H2.out.below).mono ?_); rintro e w3 ⟨rfl, hb3⟩; have K3 := Lib.hid (blk_below hb3 K0.out); have H3 := Lib.hid (H2.out.call hb3); clear a0 a1 g19 g2 q0 q1; have a0 := blk_cell K3.out 0 _ rfl; have a1 := blk_cell K3.out 1 _ rfl; have g19 : w3.cell? ⟨w.heap.size, 19, none⟩ = some (.slice g.senA g.sens.length g.senC) := H3.out.cell 0 19 rfl rfl; have g2 : w3.cell? ⟨w.heap.size, 2, none⟩ = some (.int .i64 g.travel) := H3.out.cell 0 2 rfl rfl; have q0 : IsGate w3 w.heap.size := ⟨g, H3.out.gate 0 rfl⟩; have q1 : rowOf w3 w.heap.size = g.val := rowOf_gate (H3.out.gate 0 rfl); clear hb3))
            | (with_reducible show wpList _ _ _ (({ dst := _, op := .load 33 (.tmp 3), type := _, pos := _, after := _, guard := none } : Oper) :: _) _ _; refine wpList_load_gate (H3.out.gate 0 rfl) rfl (.tmp 3) rfl rfl ?_)
            | (go_at_call 30; ((with_reducible refine (E3.out _ H3.out.below).mono ?_); rintro e w4 ⟨rfl, hb4⟩; have K4 := Lib.hid (blk_below hb4 K3.out); have H4 := Lib.hid (H3.out.call hb4); clear a0 a1 g19 g2 q0 q1; have a0 := blk_cell K4.out 0 _ rfl; have a1 := blk_cell K4.out 1 _ rfl; have g19 : w4.cell? ⟨w.heap.size, 19, none⟩ = some (.slice g.senA g.sens.length g.senC) := H4.out.cell 0 19 rfl rfl; have g2 : w4.cell? ⟨w.heap.size, 2, none⟩ = some (.int .i64 g.travel) := H4.out.cell 0 2 rfl rfl; have q0 : IsGate w4 w.heap.size := ⟨g, H4.out.gate 0 rfl⟩; have q1 : rowOf w4 w.heap.size = g.val := rowOf_gate (H4.out.gate 0 rfl); clear hb4))
            | (go_at_call 24; refine (awake_any _).mono ?_; rintro e w9 ⟨rfl, hb9⟩; have H9 := Lib.hid (H4.out.call hb9); clear hb9))
          go_ret
          exact ⟨rfl, H9.out.below⟩
    · have he : whereE g rs = 2 := by rw [whereE, if_neg (by simp [hc]), if_pos hl]
      have hnl : ((rs.length : Int) != (g.sens.length : Int)) = true := by simp; omega
      rw [he] at C1
      rw [hc] at C2
      clear he hc hl
      generalize whereLo g rs = lo at *
      generalize whereHi g rs = hi at *
      go_enter Try.func6, Try.ntmps6
      go_wp2_with (first
        | (with_reducible show wpList _ _ _ (({ dst := _, op := .load 33 (.tmp 3), type := _, pos := _, after := _, guard := none } : Oper) :: _) _ _; refine wpList_load_gate (H0.out.gate 0 rfl) rfl (.tmp 3) rfl rfl ?_)
        | (go_at_call 29; refine (C1.out _ H0.out.below).mono ?_; rintro e w1 ⟨rfl, hb1⟩; have H1 := Lib.hid ((H0.out.call hb1).alloc (.cells #[.int .i64 lo, .int .i64 hi] 53)); clear hb1)
        | (with_reducible show wpList _ _ _ (({ dst := _, op := .load 33 (.tmp 3), type := _, pos := _, after := _, guard := none } : Oper) :: _) _ _; refine wpList_load_gate (H1.out.gate 0 rfl) rfl (.tmp 3) rfl rfl ?_)
        | (go_at_call 22; refine (C2.out _ H1.out.below).mono ?_; rintro e w2 ⟨rfl, hb2⟩; have K0 := Lib.hid (blk_below hb2 (blk_new rfl)); have H2 := Lib.hid (H1.out.call hb2); have a0 := blk_cell K0.out 0 _ rfl; have a1 := blk_cell K0.out 1 _ rfl; have g19 : w2.cell? ⟨w.heap.size, 19, none⟩ = some (.slice g.senA g.sens.length g.senC) := H2.out.cell 0 19 rfl rfl; have g2 : w2.cell? ⟨w.heap.size, 2, none⟩ = some (.int .i64 g.travel) := H2.out.cell 0 2 rfl rfl; have q0 : IsGate w2 w.heap.size := ⟨g, H2.out.gate 0 rfl⟩; have q1 : rowOf w2 w.heap.size = g.val := rowOf_gate (H2.out.gate 0 rfl); clear hb2)
        | (go_at_call 24; refine (awake_any _).mono ?_; rintro e w9 ⟨rfl, hb9⟩; have H9 := Lib.hid (H2.out.call hb9); clear hb9))
      go_ret
      exact ⟨rfl, H9.out.below⟩
  · have he : whereE g rs = (checkZ g).2.2 := by rw [whereE, if_pos hc]
    have f1 : ((checkZ g).2.2 != 0) = true := by simp [hc]
    rw [he] at C1
    clear he hc
    generalize whereLo g rs = lo at *
    generalize whereHi g rs = hi at *
    go_enter Try.func6, Try.ntmps6
    go_wp2_with (first
      | (with_reducible show wpList _ _ _ (({ dst := _, op := .load 33 (.tmp 3), type := _, pos := _, after := _, guard := none } : Oper) :: _) _ _; refine wpList_load_gate (H0.out.gate 0 rfl) rfl (.tmp 3) rfl rfl ?_)
      | (go_at_call 29; refine (C1.out _ H0.out.below).mono ?_; rintro e w1 ⟨rfl, hb1⟩; have H1 := Lib.hid ((H0.out.call hb1).alloc (.cells #[.int .i64 lo, .int .i64 hi] 53)); clear hb1)
      | (with_reducible show wpList _ _ _ (({ dst := _, op := .load 33 (.tmp 3), type := _, pos := _, after := _, guard := none } : Oper) :: _) _ _; refine wpList_load_gate (H1.out.gate 0 rfl) rfl (.tmp 3) rfl rfl ?_)
      | (go_at_call 22; refine (C2.out _ H1.out.below).mono ?_; rintro e w2 ⟨rfl, hb2⟩; have K0 := Lib.hid (blk_below hb2 (blk_new rfl)); have H2 := Lib.hid (H1.out.call hb2); have a0 := blk_cell K0.out 0 _ rfl; have a1 := blk_cell K0.out 1 _ rfl; have g19 : w2.cell? ⟨w.heap.size, 19, none⟩ = some (.slice g.senA g.sens.length g.senC) := H2.out.cell 0 19 rfl rfl; have g2 : w2.cell? ⟨w.heap.size, 2, none⟩ = some (.int .i64 g.travel) := H2.out.cell 0 2 rfl rfl; have q0 : IsGate w2 w.heap.size := ⟨g, H2.out.gate 0 rfl⟩; have q1 : rowOf w2 w.heap.size = g.val := rowOf_gate (H2.out.gate 0 rfl); clear hb2)
      | (go_at_call 24; refine (awake_any _).mono ?_; rintro e w9 ⟨rfl, hb9⟩; have H9 := Lib.hid (H2.out.call hb9); clear hb9))
    go_ret
    exact ⟨rfl, H9.out.below⟩
end Go.Proofs.Ythalanpmfhhhnaa
