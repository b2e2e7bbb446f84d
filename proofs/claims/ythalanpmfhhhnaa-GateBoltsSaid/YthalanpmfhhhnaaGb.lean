/-
  The walk of GateBolts: it returns true.
-/
import Derived.Test.YthalanpmfhhhnaaSb
import Derived.Test.YthalanpmfhhhnaaGw
import Derived.Test.YthalanpmfhhhnaaRk
import Derived.Test.YthalanpmfhhhnaaAw
namespace Go.Proofs.Ythalanpmfhhhnaa
open Go.RowKit
set_option linter.unusedSimpArgs false
set_option linter.unusedVariables false
attribute [local go_sem ↓] loadAt_gate
attribute [local go_sem] run_gateLoad

theorem aft_bolted {g : GateV} {s : St} {l : List Stp} (h : s.bolted = true) : ∀ k, (aft g s l k).bolted = true ∧ (aft g s l k).pos = s.pos
  | 0 => ⟨h, rfl⟩
  | k + 1 => by
    obtain ⟨h1, h2⟩ := aft_bolted (l := l) (g := g) h k
    rw [aft]
    split
    · refine ⟨by simp [aloneZ, doZ, h1], ?_⟩
      simp [aloneZ, doZ, moveZ, h1, h2]
    · exact ⟨h1, h2⟩
theorem runL_bolted {g : GateV} {s : St} {l : List Stp} (h : s.bolted = true) {k : Nat} (hk : k < (runL g s l).length) : (runL g s l)[k].bolted = true ∧ (runL g s l)[k].pos = s.pos := by
  unfold runL at hk ⊢
  split at hk
  · rename_i hz
    simp only [hz, if_true]
    have := aft_bolted (l := l) (g := g) h (k + 1)
    simpa [stList, runF] using this
  · simp at hk
theorem setBE_on {g : GateV} {p c : Int} {b : Bool} {rs : List Int} (h : setBE g ⟨p, c, b⟩ true rs = 0) : (checkZ g).2.2 = 0 ∧ lostE g ⟨p, c, b⟩ = 0 ∧ b = false ∧ whereE g rs = 0 ∧ sureV g rs ≠ 0 := by
  unfold setBE at h
  split at h
  · rename_i a; exact absurd h a
  · rename_i a
    split at h
    · rename_i a2; exact absurd h a2
    · rename_i a2
      cases b with
      | true => simp at h
      | false =>
        rw [if_neg (by simp), if_neg (by simp)] at h
        split at h
        · rename_i a3; exact absurd h a3.2
        · rename_i a3
          split at h
          · simp at h
          · rename_i a4
            exact ⟨by simpa using a, by simpa using a2, rfl, by simpa using a3, by simpa using a4⟩
theorem whereE_len {g : GateV} {rs : List Int} (h : whereE g rs = 0) : rs.length = g.sens.length ∧ (whereL g rs).isEmpty = false := by
  unfold whereE at h
  split at h
  · rename_i a; exact absurd h a
  · split at h
    · simp at h
    · rename_i a
      refine ⟨by simpa using a, ?_⟩
      unfold spanE at h
      split at h
      · simp at h
      · rename_i b; simpa using b
theorem where_mem {g : GateV} {rs : List Int} (ht : 0 ≤ g.travel) (x : Int) : x ∈ whereL g rs ↔ (0 ≤ x ∧ x ≤ g.travel) ∧ fitB g rs x = true := by
  unfold whereL
  constructor
  · intro h
    have := psUpto_mem h
    exact ⟨⟨this.1, by omega⟩, this.2.2⟩
  · rintro ⟨⟨h1, h2⟩, h3⟩
    exact psUpto_in h1 (by omega) h3
theorem sure_end {g : GateV} {rs : List Int} {p : Int} (hu : sureV g rs ≠ 0) (hw : whereE g rs = 0) (hp : 0 ≤ p ∧ p ≤ g.travel) (hf : fitB g rs p = true) : ¬ g.slack < p ∨ ¬ p < g.travel - g.slack := by
  obtain ⟨hl, hne⟩ := whereE_len hw
  obtain ⟨h1, h2⟩ := where_span (whereE_0 hw) hl
  have hm : spanLo (whereL g rs) ≤ p ∧ p ≤ spanHi (whereL g rs) := span_in ((where_mem (by omega) p).2 ⟨hp, hf⟩)
  unfold sureV at hu
  rw [h1, h2, if_neg (by simp [hw])] at hu
  split at hu
  · left; omega
  · split at hu
    · right; omega
    · exact absurd rfl hu
theorem setBE_off {g : GateV} {p c : Int} {b : Bool} (hc : (checkZ g).2.2 = 0) (hl : lostE g ⟨p, c, b⟩ = 0) : setBE g ⟨p, c, true⟩ false [] = 0 ∧ setBS g ⟨p, c, true⟩ false [] = ⟨p, c, false⟩ := by
  have hl2 : lostE g ⟨p, c, true⟩ = 0 := hl
  have h : setBE g ⟨p, c, true⟩ false [] = 0 := by simp [setBE, hc, hl2]
  exact ⟨h, by rw [setBS, if_pos h]⟩

set_option maxRecDepth 100000 in
set_option maxHeartbeats 8000000 in
theorem gbolts_any (g : GateV) (x : St) (rA : Option Addr) (rC : Nat) (rs : List Int) (tA : Option Addr) (tC : Nat) (l : List Stp) (w : World) (hok : g.Ok w) (hri : IntsAt w rA rs) (hti : StpsAt w tA l) :
    Calls Try.prog 19 #[g.val, .agg #[.int .i64 x.pos, .int .i64 x.charge, .bool x.bolted, .slice rA rs.length rC], .slice tA l.length tC] w fun e w' => e = .returned (.bool true) ∧ Below w.heap.size w w' := by
  have hrm := hri.1
  have htm := hti.1
  unfold maxLen at hrm htm
  obtain ⟨p, c, b⟩ := x
  have H0 := Lib.hid (Bk.new2 w (.cells g.cells 33) (.cells #[.int .i64 p, .int .i64 c, .bool b, .slice rA rs.length rC] 91))
  have Hok := Lib.hid (fun W (h : Below w.heap.size w W) => hok.below h (Nat.le_refl _))
  have Hri := Lib.hid (fun W (h : Below w.heap.size w W) => hri.below h (Nat.le_refl _))
  have Hti := Lib.hid (fun W (h : Below w.heap.size w W) => hti.below h (Nat.le_refl _))
  have c1 : ∀ W, Below w.heap.size w W → Calls Try.prog 46 #[g.val, (St.mk p c b).val, .bool true, .slice rA rs.length rC] W fun e w' => e = .returned (.tuple #[(setBS g ⟨p, c, b⟩ true rs).val, .int .i64 (setBE g ⟨p, c, b⟩ true rs)]) ∧ Below W.heap.size W w' := fun W h => bolt_set_any g ⟨p, c, b⟩ true rA rC rs W (Hok.out W h) (Hri.out W h)
  have C1 := Lib.hid c1
  clear c1 hok hri hti
  by_cases hE : setBE g ⟨p, c, b⟩ true rs = 0
  · obtain ⟨hc, hl, rfl, hw, hu⟩ := setBE_on hE
    obtain ⟨hlen, hne⟩ := whereE_len hw
    have hpos : 0 ≤ p ∧ p ≤ g.travel := (lostE_0 hl).1
    obtain ⟨ht1, ht2⟩ := (check_good hc).travel
    obtain ⟨hk1, hk2⟩ := (check_good hc).slack
    have hst : setBS g ⟨p, c, false⟩ true rs = ⟨p, c, true⟩ := by rw [setBS, if_pos hE]
    rw [hE, hst] at C1
    have hen : ∀ W, Below w.heap.size w W → Calls Try.prog 30 #[g.val, .slice rA rs.length rC, .int .i64 p] W fun e w' => e = .returned (.bool (fitB g rs p)) ∧ Below W.heap.size W w' := fun W h => enough_any g rA rC rs p W (Hok.out W h) (Hri.out W h) hc hlen ⟨hpos.1, by omega⟩
    have EN := Lib.hid hen
    obtain ⟨ho1, ho2⟩ := setBE_off hc hl
    have c3 : ∀ W, Below w.heap.size w W → Calls Try.prog 46 #[g.val, (St.mk p c true).val, .bool false, .slice none 0 0] W fun e w' => e = .returned (.tuple #[(St.mk p c false).val, .int .i64 0]) ∧ Below W.heap.size W w' := fun W h => by
      have := bolt_set_any g ⟨p, c, true⟩ false none 0 [] W (Hok.out W h) ⟨by simp, .inl rfl⟩
      rw [ho1, ho2] at this
      exact this
    have C3 := Lib.hid c3
    have c2 : ∀ W, Below w.heap.size w W → Calls Try.prog 41 #[g.val, (St.mk p c true).val, .slice tA l.length tC] W fun e w' => ∃ (a : Option Addr) (k : Nat), (e = .returned (.tuple #[.slice a (runL g ⟨p, c, true⟩ l).length k, .int .i64 (runE g ⟨p, c, true⟩ l)]) ∧ StsAt w' a (runL g ⟨p, c, true⟩ l)) ∧ Below W.heap.size W w' := fun W h => run_list g ⟨p, c, true⟩ tA tC l W (Hok.out W h) (Hti.out W h)
    have C2 := Lib.hid c2
    have Hb := Lib.hid (fun k (h : k < (runL g ⟨p, c, true⟩ l).length) => runL_bolted (s := ⟨p, c, true⟩) rfl h)
    have hs := fun hf => sure_end hu hw hpos hf
    have HS := Lib.hid hs
    have Hpos := Lib.hid hpos
    have hll := (show (runL g ⟨p, c, true⟩ l).length ≤ 2000 by
      unfold runL
      split
      · rename_i hz; rw [stList_len]; exact (runE_0 hz).2.1
      · simp)
    clear hE hc hl hw hu hlen hne hst hen ho1 ho2 c3 c2 hs Hok Hri Hti hpos htm hrm
    revert C2 Hb hll
    generalize runL g ⟨p, c, true⟩ l = L
    generalize runE g ⟨p, c, true⟩ l = E
    intro C2 Hb hll
    cases hf : fitB g rs p with
    | false =>
      rw [hf] at EN
      clear hf HS C2 C3 Hb
      go_enter Try.func19, Try.ntmps19
      go_wp2_with (first
        | (with_reducible show wpList _ _ _ (({ dst := _, op := .load 33 (.tmp 3), type := _, pos := _, after := _, guard := none } : Oper) :: _) _ _; refine wpList_load_gate (H0.out.gate 0 rfl) rfl (.tmp 3) rfl rfl ?_)
        | (go_at_call 46; refine (C1.out _ H0.out.below).mono ?_; rintro e w1 ⟨rfl, hb1⟩; have K1 := Lib.hid (show (w1.alloc (.cells #[.int .i64 p, .int .i64 c, .bool true] 43)).heap[w1.heap.size]? = some (.cells #[.int .i64 p, .int .i64 c, .bool true] 43 (0, 0)) from blk_new rfl); have H1 := Lib.hid ((H0.out.call hb1).alloc (.cells #[.int .i64 p, .int .i64 c, .bool true] 43)); have q0 : IsGate (w1.alloc (.cells #[.int .i64 p, .int .i64 c, .bool true] 43)) w.heap.size := ⟨g, H1.out.gate 0 rfl⟩; have q1 : rowOf (w1.alloc (.cells #[.int .i64 p, .int .i64 c, .bool true] 43)) w.heap.size = g.val := rowOf_gate (H1.out.gate 0 rfl); have x0 : w1.cell? ⟨w.heap.size + 1, 0, none⟩ = some (.int .i64 p) := (H0.out.call hb1).cell 1 0 rfl rfl; have x3 : w1.cell? ⟨w.heap.size + 1, 3, none⟩ = some (.slice rA rs.length rC) := (H0.out.call hb1).cell 1 3 rfl rfl; have lt : w.heap.size + 1 < w1.heap.size := (H0.out.call hb1).lt 1 rfl; clear hb1)
        | (go_at_call 30; refine (EN.out _ H1.out.below).mono ?_; rintro e w2 ⟨rfl, hb2⟩; clear q0 q1 x0 x3; have H2 := Lib.hid (H1.out.call hb2); have K2 := Lib.hid (blk_below hb2 K1.out); have a0 : w2.cell? ⟨w1.heap.size, 0, none⟩ = some (.int .i64 p) := blk_cell K2.out 0 _ rfl; have a1 : w2.cell? ⟨w1.heap.size, 1, none⟩ = some (.int .i64 c) := blk_cell K2.out 1 _ rfl; have a2 : w2.cell? ⟨w1.heap.size, 2, none⟩ = some (.bool true) := blk_cell K2.out 2 _ rfl; have x0 : w2.cell? ⟨w.heap.size + 1, 0, none⟩ = some (.int .i64 p) := H2.out.cell 1 0 rfl rfl; have x1 : w2.cell? ⟨w.heap.size + 1, 1, none⟩ = some (.int .i64 c) := H2.out.cell 1 1 rfl rfl; have g2 : w2.cell? ⟨w.heap.size, 2, none⟩ = some (.int .i64 g.travel) := H2.out.cell 0 2 rfl rfl; have g18 : w2.cell? ⟨w.heap.size, 18, none⟩ = some (.int .i64 g.slack) := H2.out.cell 0 18 rfl rfl; clear hb2)
        | (go_at_call 24; refine (awake_any _).mono ?_; rintro e w9 ⟨rfl, hb9⟩; have H9 := Lib.hid (H2.out.call hb9); clear hb9))
      go_ret
      exact ⟨rfl, H9.out.below⟩
    | true =>
      rw [hf] at EN
      have hend := HS.out hf
      clear hf HS
      by_cases hE : E = 0
      · have f1 : (E != 0) = false := by simp [hE]
        by_cases hsl : g.slack < p
        · have d1 : decide (g.slack < p) = true := by simpa using hsl
          have d2 : decide (p < g.travel - g.slack) = false := by
            rcases hend with h | h
            · exact absurd hsl h
            · simpa using h
          have HE := Lib.hid hE
          clear hend hsl hE
          go_enter Try.func19, Try.ntmps19
          go_wp2_with (first
            | (with_reducible show wpList _ _ _ (({ dst := _, op := .load 33 (.tmp 3), type := _, pos := _, after := _, guard := none } : Oper) :: _) _ _; refine wpList_load_gate (H0.out.gate 0 rfl) rfl (.tmp 3) rfl rfl ?_)
            | (go_at_call 46; refine (C1.out _ H0.out.below).mono ?_; rintro e w1 ⟨rfl, hb1⟩; have K1 := Lib.hid (show (w1.alloc (.cells #[.int .i64 p, .int .i64 c, .bool true] 43)).heap[w1.heap.size]? = some (.cells #[.int .i64 p, .int .i64 c, .bool true] 43 (0, 0)) from blk_new rfl); have H1 := Lib.hid ((H0.out.call hb1).alloc (.cells #[.int .i64 p, .int .i64 c, .bool true] 43)); have q0 : IsGate (w1.alloc (.cells #[.int .i64 p, .int .i64 c, .bool true] 43)) w.heap.size := ⟨g, H1.out.gate 0 rfl⟩; have q1 : rowOf (w1.alloc (.cells #[.int .i64 p, .int .i64 c, .bool true] 43)) w.heap.size = g.val := rowOf_gate (H1.out.gate 0 rfl); have x0 : w1.cell? ⟨w.heap.size + 1, 0, none⟩ = some (.int .i64 p) := (H0.out.call hb1).cell 1 0 rfl rfl; have x3 : w1.cell? ⟨w.heap.size + 1, 3, none⟩ = some (.slice rA rs.length rC) := (H0.out.call hb1).cell 1 3 rfl rfl; have lt : w.heap.size + 1 < w1.heap.size := (H0.out.call hb1).lt 1 rfl; clear hb1)
            | (go_at_call 30; refine (EN.out _ H1.out.below).mono ?_; rintro e w2 ⟨rfl, hb2⟩; clear q0 q1 x0 x3; have H2 := Lib.hid (H1.out.call hb2); have K2 := Lib.hid (blk_below hb2 K1.out); have a0 : w2.cell? ⟨w1.heap.size, 0, none⟩ = some (.int .i64 p) := blk_cell K2.out 0 _ rfl; have a1 : w2.cell? ⟨w1.heap.size, 1, none⟩ = some (.int .i64 c) := blk_cell K2.out 1 _ rfl; have a2 : w2.cell? ⟨w1.heap.size, 2, none⟩ = some (.bool true) := blk_cell K2.out 2 _ rfl; have x0 : w2.cell? ⟨w.heap.size + 1, 0, none⟩ = some (.int .i64 p) := H2.out.cell 1 0 rfl rfl; have x1 : w2.cell? ⟨w.heap.size + 1, 1, none⟩ = some (.int .i64 c) := H2.out.cell 1 1 rfl rfl; have g2 : w2.cell? ⟨w.heap.size, 2, none⟩ = some (.int .i64 g.travel) := H2.out.cell 0 2 rfl rfl; have g18 : w2.cell? ⟨w.heap.size, 18, none⟩ = some (.int .i64 g.slack) := H2.out.cell 0 18 rfl rfl; clear hb2)
            | (with_reducible show wpList _ _ _ (({ dst := _, op := .load 33 (.tmp 3), type := _, pos := _, after := _, guard := none } : Oper) :: _) _ _; refine wpList_load_gate (H2.out.gate 0 rfl) rfl (.tmp 3) rfl rfl ?_)
            | (with_reducible show wpList _ _ _ (({ dst := _, op := .load 43 (.tmp 7), type := _, pos := _, after := _, guard := none } : Oper) :: _) _ _; refine wpList_load_st K2.out rfl (.tmp 7) rfl rfl ?_)
            | (go_at_call 41; refine (C2.out _ H2.out.below).mono ?_; rintro e w3 ⟨a, kc, ⟨rfl, hs⟩, hb3⟩; rw [HE.out]; clear a0 a1 a2 x0 x1 g2 g18; have H3 := Lib.hid (H2.out.call hb3); have K3 := Lib.hid (blk_below hb3 K2.out); have HS3 := Lib.hid hs; clear hb3 hs))
          go_loopw [10] (fun j wr => ∃ k : Nat, k ≤ L.length ∧ j = .int .i64 k ∧ Below w3.heap.size w3 wr) (fun j _ => L.length - (intOf j).toNat)
          case atStart => exact ⟨0, Nat.zero_le _, rfl, Below.refl _ _⟩
          case round =>
            obtain ⟨k, hk, rfl, hd⟩ := hrel
            have Hd := Lib.hid hd
            have H4 := Lib.hid (H3.out.call hd)
            have K4 := Lib.hid (blk_below hd K3.out)
            clear hd
            by_cases hlt : k < L.length
            · obtain ⟨hb, hp⟩ := Hb.out k hlt
              obtain ⟨sb, so, rfl, hsb, hsl⟩ : ∃ b off, a = some ⟨b, off, none⟩ ∧ _ := by
                rcases HS3.out.2 with h | h
                · exact absurd hlt (by rw [h]; simp)
                · exact h
              obtain ⟨z0, z1, z2⟩ := hsl k hlt
              rw [hp] at z0
              rw [hb] at z2
              have y0 : wr.cell? ⟨sb, so + k * 3, none⟩ = some (.int .i64 p) := (Hd.out.cell (p := ⟨sb, so + k * 3, none⟩) hsb).trans z0
              have y2 : wr.cell? ⟨sb, so + k * 3 + 2, none⟩ = some (.bool true) := (Hd.out.cell (p := ⟨sb, so + k * 3 + 2, none⟩) hsb).trans z2
              have a0 : wr.cell? ⟨w1.heap.size, 0, none⟩ = some (.int .i64 p) := blk_cell K4.out 0 _ rfl
              have i1 : (0 : Int) ≤ (k : Int) := by omega
              have i2 : (k : Int) < (L.length : Int) := by omega
              clear z0 z1 z2 hsl hb hp
              go_wp2
              go_quiet (fail)
              go_wp2
              go_roundw
              case rel => exact ⟨k + 1, by omega, by go_num, Hd.out.trans (below_drewN (Below.refl _ _) _)⟩
              case measure => simp [intOf]; omega
            · have a0 : wr.cell? ⟨w1.heap.size, 0, none⟩ = some (.int .i64 p) := blk_cell K4.out 0 _ rfl
              have a1 : wr.cell? ⟨w1.heap.size, 1, none⟩ = some (.int .i64 c) := blk_cell K4.out 1 _ rfl
              have a2 : wr.cell? ⟨w1.heap.size, 2, none⟩ = some (.bool true) := blk_cell K4.out 2 _ rfl
              go_wp2_with (first
                | (with_reducible show wpList _ _ _ (({ dst := _, op := .load 33 (.tmp 3), type := _, pos := _, after := _, guard := none } : Oper) :: _) _ _; refine wpList_load_gate (H4.out.gate 0 rfl) rfl (.tmp 3) rfl rfl ?_)
                | (with_reducible show wpList _ _ _ (({ dst := _, op := .load 43 (.tmp 7), type := _, pos := _, after := _, guard := none } : Oper) :: _) _ _; refine wpList_load_st K4.out rfl (.tmp 7) rfl rfl ?_)
                | (go_at_call 46; refine (C3.out _ H4.out.below).mono ?_; rintro e w5 ⟨rfl, hb5⟩; have H5 := Lib.hid ((H4.out.call hb5).alloc (.cells #[.int .i64 p, .int .i64 c, .bool false] 43)); have x0 : w5.cell? ⟨w.heap.size + 1, 0, none⟩ = some (.int .i64 p) := (H4.out.call hb5).cell 1 0 rfl rfl; have x1 : w5.cell? ⟨w.heap.size + 1, 1, none⟩ = some (.int .i64 c) := (H4.out.call hb5).cell 1 1 rfl rfl; have x2 : w5.cell? ⟨w.heap.size + 1, 2, none⟩ = some (.bool false) := (H4.out.call hb5).cell 1 2 rfl rfl; have lt5 : w.heap.size + 1 < w5.heap.size := (H4.out.call hb5).lt 1 rfl; clear hb5)
                | (go_at_call 24; refine (awake_any _).mono ?_; rintro e w9 ⟨rfl, hb9⟩; have H9 := Lib.hid (H5.out.call hb9); clear hb9))
              go_ret
              exact ⟨rfl, H9.out.below⟩
        · have d1 : decide (g.slack < p) = false := by simpa using hsl
          have HE := Lib.hid hE
          clear hend hsl hE
          go_enter Try.func19, Try.ntmps19
          go_wp2_with (first
            | (with_reducible show wpList _ _ _ (({ dst := _, op := .load 33 (.tmp 3), type := _, pos := _, after := _, guard := none } : Oper) :: _) _ _; refine wpList_load_gate (H0.out.gate 0 rfl) rfl (.tmp 3) rfl rfl ?_)
            | (go_at_call 46; refine (C1.out _ H0.out.below).mono ?_; rintro e w1 ⟨rfl, hb1⟩; have K1 := Lib.hid (show (w1.alloc (.cells #[.int .i64 p, .int .i64 c, .bool true] 43)).heap[w1.heap.size]? = some (.cells #[.int .i64 p, .int .i64 c, .bool true] 43 (0, 0)) from blk_new rfl); have H1 := Lib.hid ((H0.out.call hb1).alloc (.cells #[.int .i64 p, .int .i64 c, .bool true] 43)); have q0 : IsGate (w1.alloc (.cells #[.int .i64 p, .int .i64 c, .bool true] 43)) w.heap.size := ⟨g, H1.out.gate 0 rfl⟩; have q1 : rowOf (w1.alloc (.cells #[.int .i64 p, .int .i64 c, .bool true] 43)) w.heap.size = g.val := rowOf_gate (H1.out.gate 0 rfl); have x0 : w1.cell? ⟨w.heap.size + 1, 0, none⟩ = some (.int .i64 p) := (H0.out.call hb1).cell 1 0 rfl rfl; have x3 : w1.cell? ⟨w.heap.size + 1, 3, none⟩ = some (.slice rA rs.length rC) := (H0.out.call hb1).cell 1 3 rfl rfl; have lt : w.heap.size + 1 < w1.heap.size := (H0.out.call hb1).lt 1 rfl; clear hb1)
            | (go_at_call 30; refine (EN.out _ H1.out.below).mono ?_; rintro e w2 ⟨rfl, hb2⟩; clear q0 q1 x0 x3; have H2 := Lib.hid (H1.out.call hb2); have K2 := Lib.hid (blk_below hb2 K1.out); have a0 : w2.cell? ⟨w1.heap.size, 0, none⟩ = some (.int .i64 p) := blk_cell K2.out 0 _ rfl; have a1 : w2.cell? ⟨w1.heap.size, 1, none⟩ = some (.int .i64 c) := blk_cell K2.out 1 _ rfl; have a2 : w2.cell? ⟨w1.heap.size, 2, none⟩ = some (.bool true) := blk_cell K2.out 2 _ rfl; have x0 : w2.cell? ⟨w.heap.size + 1, 0, none⟩ = some (.int .i64 p) := H2.out.cell 1 0 rfl rfl; have x1 : w2.cell? ⟨w.heap.size + 1, 1, none⟩ = some (.int .i64 c) := H2.out.cell 1 1 rfl rfl; have g2 : w2.cell? ⟨w.heap.size, 2, none⟩ = some (.int .i64 g.travel) := H2.out.cell 0 2 rfl rfl; have g18 : w2.cell? ⟨w.heap.size, 18, none⟩ = some (.int .i64 g.slack) := H2.out.cell 0 18 rfl rfl; clear hb2)
            | (with_reducible show wpList _ _ _ (({ dst := _, op := .load 33 (.tmp 3), type := _, pos := _, after := _, guard := none } : Oper) :: _) _ _; refine wpList_load_gate (H2.out.gate 0 rfl) rfl (.tmp 3) rfl rfl ?_)
            | (with_reducible show wpList _ _ _ (({ dst := _, op := .load 43 (.tmp 7), type := _, pos := _, after := _, guard := none } : Oper) :: _) _ _; refine wpList_load_st K2.out rfl (.tmp 7) rfl rfl ?_)
            | (go_at_call 41; refine (C2.out _ H2.out.below).mono ?_; rintro e w3 ⟨a, kc, ⟨rfl, hs⟩, hb3⟩; rw [HE.out]; clear a0 a1 a2 x0 x1 g2 g18; have H3 := Lib.hid (H2.out.call hb3); have K3 := Lib.hid (blk_below hb3 K2.out); have HS3 := Lib.hid hs; clear hb3 hs))
          go_loopw [10] (fun j wr => ∃ k : Nat, k ≤ L.length ∧ j = .int .i64 k ∧ Below w3.heap.size w3 wr) (fun j _ => L.length - (intOf j).toNat)
          case atStart => exact ⟨0, Nat.zero_le _, rfl, Below.refl _ _⟩
          case round =>
            obtain ⟨k, hk, rfl, hd⟩ := hrel
            have Hd := Lib.hid hd
            have H4 := Lib.hid (H3.out.call hd)
            have K4 := Lib.hid (blk_below hd K3.out)
            clear hd
            by_cases hlt : k < L.length
            · obtain ⟨hb, hp⟩ := Hb.out k hlt
              obtain ⟨sb, so, rfl, hsb, hsl⟩ : ∃ b off, a = some ⟨b, off, none⟩ ∧ _ := by
                rcases HS3.out.2 with h | h
                · exact absurd hlt (by rw [h]; simp)
                · exact h
              obtain ⟨z0, z1, z2⟩ := hsl k hlt
              rw [hp] at z0
              rw [hb] at z2
              have y0 : wr.cell? ⟨sb, so + k * 3, none⟩ = some (.int .i64 p) := (Hd.out.cell (p := ⟨sb, so + k * 3, none⟩) hsb).trans z0
              have y2 : wr.cell? ⟨sb, so + k * 3 + 2, none⟩ = some (.bool true) := (Hd.out.cell (p := ⟨sb, so + k * 3 + 2, none⟩) hsb).trans z2
              have a0 : wr.cell? ⟨w1.heap.size, 0, none⟩ = some (.int .i64 p) := blk_cell K4.out 0 _ rfl
              have i1 : (0 : Int) ≤ (k : Int) := by omega
              have i2 : (k : Int) < (L.length : Int) := by omega
              clear z0 z1 z2 hsl hb hp
              go_wp2
              go_quiet (fail)
              go_wp2
              go_roundw
              case rel => exact ⟨k + 1, by omega, by go_num, Hd.out.trans (below_drewN (Below.refl _ _) _)⟩
              case measure => simp [intOf]; omega
            · have a0 : wr.cell? ⟨w1.heap.size, 0, none⟩ = some (.int .i64 p) := blk_cell K4.out 0 _ rfl
              have a1 : wr.cell? ⟨w1.heap.size, 1, none⟩ = some (.int .i64 c) := blk_cell K4.out 1 _ rfl
              have a2 : wr.cell? ⟨w1.heap.size, 2, none⟩ = some (.bool true) := blk_cell K4.out 2 _ rfl
              go_wp2_with (first
                | (with_reducible show wpList _ _ _ (({ dst := _, op := .load 33 (.tmp 3), type := _, pos := _, after := _, guard := none } : Oper) :: _) _ _; refine wpList_load_gate (H4.out.gate 0 rfl) rfl (.tmp 3) rfl rfl ?_)
                | (with_reducible show wpList _ _ _ (({ dst := _, op := .load 43 (.tmp 7), type := _, pos := _, after := _, guard := none } : Oper) :: _) _ _; refine wpList_load_st K4.out rfl (.tmp 7) rfl rfl ?_)
                | (go_at_call 46; refine (C3.out _ H4.out.below).mono ?_; rintro e w5 ⟨rfl, hb5⟩; have H5 := Lib.hid ((H4.out.call hb5).alloc (.cells #[.int .i64 p, .int .i64 c, .bool false] 43)); have x0 : w5.cell? ⟨w.heap.size + 1, 0, none⟩ = some (.int .i64 p) := (H4.out.call hb5).cell 1 0 rfl rfl; have x1 : w5.cell? ⟨w.heap.size + 1, 1, none⟩ = some (.int .i64 c) := (H4.out.call hb5).cell 1 1 rfl rfl; have x2 : w5.cell? ⟨w.heap.size + 1, 2, none⟩ = some (.bool false) := (H4.out.call hb5).cell 1 2 rfl rfl; have lt5 : w.heap.size + 1 < w5.heap.size := (H4.out.call hb5).lt 1 rfl; clear hb5)
                | (go_at_call 24; refine (awake_any _).mono ?_; rintro e w9 ⟨rfl, hb9⟩; have H9 := Lib.hid (H5.out.call hb9); clear hb9))
              go_ret
              exact ⟨rfl, H9.out.below⟩
      · have f1 : (E != 0) = true := by simp [hE]
        by_cases hsl : g.slack < p
        · have d1 : decide (g.slack < p) = true := by simpa using hsl
          have d2 : decide (p < g.travel - g.slack) = false := by
            rcases hend with h | h
            · exact absurd hsl h
            · simpa using h
          clear hend hsl hE
          go_enter Try.func19, Try.ntmps19
          go_wp2_with (first
            | (with_reducible show wpList _ _ _ (({ dst := _, op := .load 33 (.tmp 3), type := _, pos := _, after := _, guard := none } : Oper) :: _) _ _; refine wpList_load_gate (H0.out.gate 0 rfl) rfl (.tmp 3) rfl rfl ?_)
            | (go_at_call 46; refine (C1.out _ H0.out.below).mono ?_; rintro e w1 ⟨rfl, hb1⟩; have K1 := Lib.hid (show (w1.alloc (.cells #[.int .i64 p, .int .i64 c, .bool true] 43)).heap[w1.heap.size]? = some (.cells #[.int .i64 p, .int .i64 c, .bool true] 43 (0, 0)) from blk_new rfl); have H1 := Lib.hid ((H0.out.call hb1).alloc (.cells #[.int .i64 p, .int .i64 c, .bool true] 43)); have q0 : IsGate (w1.alloc (.cells #[.int .i64 p, .int .i64 c, .bool true] 43)) w.heap.size := ⟨g, H1.out.gate 0 rfl⟩; have q1 : rowOf (w1.alloc (.cells #[.int .i64 p, .int .i64 c, .bool true] 43)) w.heap.size = g.val := rowOf_gate (H1.out.gate 0 rfl); have x0 : w1.cell? ⟨w.heap.size + 1, 0, none⟩ = some (.int .i64 p) := (H0.out.call hb1).cell 1 0 rfl rfl; have x3 : w1.cell? ⟨w.heap.size + 1, 3, none⟩ = some (.slice rA rs.length rC) := (H0.out.call hb1).cell 1 3 rfl rfl; have lt : w.heap.size + 1 < w1.heap.size := (H0.out.call hb1).lt 1 rfl; clear hb1)
            | (go_at_call 30; refine (EN.out _ H1.out.below).mono ?_; rintro e w2 ⟨rfl, hb2⟩; clear q0 q1 x0 x3; have H2 := Lib.hid (H1.out.call hb2); have K2 := Lib.hid (blk_below hb2 K1.out); have a0 : w2.cell? ⟨w1.heap.size, 0, none⟩ = some (.int .i64 p) := blk_cell K2.out 0 _ rfl; have a1 : w2.cell? ⟨w1.heap.size, 1, none⟩ = some (.int .i64 c) := blk_cell K2.out 1 _ rfl; have a2 : w2.cell? ⟨w1.heap.size, 2, none⟩ = some (.bool true) := blk_cell K2.out 2 _ rfl; have x0 : w2.cell? ⟨w.heap.size + 1, 0, none⟩ = some (.int .i64 p) := H2.out.cell 1 0 rfl rfl; have x1 : w2.cell? ⟨w.heap.size + 1, 1, none⟩ = some (.int .i64 c) := H2.out.cell 1 1 rfl rfl; have g2 : w2.cell? ⟨w.heap.size, 2, none⟩ = some (.int .i64 g.travel) := H2.out.cell 0 2 rfl rfl; have g18 : w2.cell? ⟨w.heap.size, 18, none⟩ = some (.int .i64 g.slack) := H2.out.cell 0 18 rfl rfl; clear hb2)
            | (with_reducible show wpList _ _ _ (({ dst := _, op := .load 33 (.tmp 3), type := _, pos := _, after := _, guard := none } : Oper) :: _) _ _; refine wpList_load_gate (H2.out.gate 0 rfl) rfl (.tmp 3) rfl rfl ?_)
            | (with_reducible show wpList _ _ _ (({ dst := _, op := .load 43 (.tmp 7), type := _, pos := _, after := _, guard := none } : Oper) :: _) _ _; refine wpList_load_st K2.out rfl (.tmp 7) rfl rfl ?_)
            | (go_at_call 41; refine (C2.out _ H2.out.below).mono ?_; rintro e w3 ⟨a, kc, ⟨rfl, hs⟩, hb3⟩; clear a0 a1 a2 x0 x1 g2 g18; have H3 := Lib.hid (H2.out.call hb3); have K3 := Lib.hid (blk_below hb3 K2.out); have HS3 := Lib.hid hs; clear hb3 hs)
            | (go_at_call 24; refine (awake_any _).mono ?_; rintro e w9 ⟨rfl, hb9⟩; have H9 := Lib.hid (H3.out.call hb9); clear hb9))
          go_ret
          exact ⟨rfl, H9.out.below⟩
        · have d1 : decide (g.slack < p) = false := by simpa using hsl
          clear hend hsl hE
          go_enter Try.func19, Try.ntmps19
          go_wp2_with (first
            | (with_reducible show wpList _ _ _ (({ dst := _, op := .load 33 (.tmp 3), type := _, pos := _, after := _, guard := none } : Oper) :: _) _ _; refine wpList_load_gate (H0.out.gate 0 rfl) rfl (.tmp 3) rfl rfl ?_)
            | (go_at_call 46; refine (C1.out _ H0.out.below).mono ?_; rintro e w1 ⟨rfl, hb1⟩; have K1 := Lib.hid (show (w1.alloc (.cells #[.int .i64 p, .int .i64 c, .bool true] 43)).heap[w1.heap.size]? = some (.cells #[.int .i64 p, .int .i64 c, .bool true] 43 (0, 0)) from blk_new rfl); have H1 := Lib.hid ((H0.out.call hb1).alloc (.cells #[.int .i64 p, .int .i64 c, .bool true] 43)); have q0 : IsGate (w1.alloc (.cells #[.int .i64 p, .int .i64 c, .bool true] 43)) w.heap.size := ⟨g, H1.out.gate 0 rfl⟩; have q1 : rowOf (w1.alloc (.cells #[.int .i64 p, .int .i64 c, .bool true] 43)) w.heap.size = g.val := rowOf_gate (H1.out.gate 0 rfl); have x0 : w1.cell? ⟨w.heap.size + 1, 0, none⟩ = some (.int .i64 p) := (H0.out.call hb1).cell 1 0 rfl rfl; have x3 : w1.cell? ⟨w.heap.size + 1, 3, none⟩ = some (.slice rA rs.length rC) := (H0.out.call hb1).cell 1 3 rfl rfl; have lt : w.heap.size + 1 < w1.heap.size := (H0.out.call hb1).lt 1 rfl; clear hb1)
            | (go_at_call 30; refine (EN.out _ H1.out.below).mono ?_; rintro e w2 ⟨rfl, hb2⟩; clear q0 q1 x0 x3; have H2 := Lib.hid (H1.out.call hb2); have K2 := Lib.hid (blk_below hb2 K1.out); have a0 : w2.cell? ⟨w1.heap.size, 0, none⟩ = some (.int .i64 p) := blk_cell K2.out 0 _ rfl; have a1 : w2.cell? ⟨w1.heap.size, 1, none⟩ = some (.int .i64 c) := blk_cell K2.out 1 _ rfl; have a2 : w2.cell? ⟨w1.heap.size, 2, none⟩ = some (.bool true) := blk_cell K2.out 2 _ rfl; have x0 : w2.cell? ⟨w.heap.size + 1, 0, none⟩ = some (.int .i64 p) := H2.out.cell 1 0 rfl rfl; have x1 : w2.cell? ⟨w.heap.size + 1, 1, none⟩ = some (.int .i64 c) := H2.out.cell 1 1 rfl rfl; have g2 : w2.cell? ⟨w.heap.size, 2, none⟩ = some (.int .i64 g.travel) := H2.out.cell 0 2 rfl rfl; have g18 : w2.cell? ⟨w.heap.size, 18, none⟩ = some (.int .i64 g.slack) := H2.out.cell 0 18 rfl rfl; clear hb2)
            | (with_reducible show wpList _ _ _ (({ dst := _, op := .load 33 (.tmp 3), type := _, pos := _, after := _, guard := none } : Oper) :: _) _ _; refine wpList_load_gate (H2.out.gate 0 rfl) rfl (.tmp 3) rfl rfl ?_)
            | (with_reducible show wpList _ _ _ (({ dst := _, op := .load 43 (.tmp 7), type := _, pos := _, after := _, guard := none } : Oper) :: _) _ _; refine wpList_load_st K2.out rfl (.tmp 7) rfl rfl ?_)
            | (go_at_call 41; refine (C2.out _ H2.out.below).mono ?_; rintro e w3 ⟨a, kc, ⟨rfl, hs⟩, hb3⟩; clear a0 a1 a2 x0 x1 g2 g18; have H3 := Lib.hid (H2.out.call hb3); have K3 := Lib.hid (blk_below hb3 K2.out); have HS3 := Lib.hid hs; clear hb3 hs)
            | (go_at_call 24; refine (awake_any _).mono ?_; rintro e w9 ⟨rfl, hb9⟩; have H9 := Lib.hid (H3.out.call hb9); clear hb9))
          go_ret
          exact ⟨rfl, H9.out.below⟩
  · have f1 : (setBE g ⟨p, c, b⟩ true rs != 0) = true := by simp [hE]
    clear hE
    revert C1 f1
    generalize setBS g ⟨p, c, b⟩ true rs = y
    generalize setBE g ⟨p, c, b⟩ true rs = E
    intro C1 f1
    go_enter Try.func19, Try.ntmps19
    go_wp2_with (first
      | (with_reducible show wpList _ _ _ (({ dst := _, op := .load 33 (.tmp 3), type := _, pos := _, after := _, guard := none } : Oper) :: _) _ _; refine wpList_load_gate (H0.out.gate 0 rfl) rfl (.tmp 3) rfl rfl ?_)
      | (go_at_call 46; refine (C1.out _ H0.out.below).mono ?_; rintro e w1 ⟨rfl, hb1⟩; have H1 := Lib.hid ((H0.out.call hb1).alloc (.cells y.cells 43)); clear hb1)
      | (go_at_call 24; refine (awake_any _).mono ?_; rintro e w9 ⟨rfl, hb9⟩; have H9 := Lib.hid (H1.out.call hb9); clear hb9))
    go_ret
    exact ⟨rfl, H9.out.below⟩
end Go.Proofs.Ythalanpmfhhhnaa
