/-
  The walk of GateFalls: it returns true.
-/
import Derived.Test.YthalanpmfhhhnaaFp
namespace Go.Proofs.Ythalanpmfhhhnaa
open Go.RowKit
set_option linter.unusedSimpArgs false
set_option linter.unusedVariables false

/-- The boxes of a function of a gate and of levels on both sides. -/
structure SdW (w : World) (g : GateV) (o i : Int) (pw : Bool) (W : World) : Prop where
  below : Below w.heap.size w W
  gate : GateIn W w.heap.size g
  sd : W.heap[w.heap.size + 1]? = some (.cells #[.int .i64 o, .int .i64 i, .bool pw] 38 (0, 0))
theorem SdW.new (w : World) (g : GateV) (o i : Int) (pw : Bool) : SdW w g o i pw ((w.alloc (.cells g.cells 33)).alloc (.cells #[.int .i64 o, .int .i64 i, .bool pw] 38)) :=
  ⟨((Below.refl _ _).alloc (Nat.le_refl _) _).alloc (by simp) _, (gateIn_new w g).alloc _, blk_new (by simp)⟩
theorem SdW.call {w W W' : World} {g : GateV} {o i : Int} {pw : Bool} (h : SdW w g o i pw W) (hb : Below W.heap.size W W') : SdW w g o i pw W' :=
  ⟨h.below.trans (hb.mono h.below.size), h.gate.below hb (Nat.le_refl _), blk_below hb h.sd⟩
theorem SdW.alloc {w W : World} {g : GateV} {o i : Int} {pw : Bool} (h : SdW w g o i pw W) (x : Obj) : SdW w g o i pw (W.alloc x) := h.call ((Below.refl _ _).alloc (Nat.le_refl _) x)
theorem SdW.lt {w W : World} {g : GateV} {o i : Int} {pw : Bool} (h : SdW w g o i pw W) : w.heap.size + 1 < W.heap.size := (Array.getElem?_eq_some_iff.1 h.sd).1

set_option maxRecDepth 100000 in
set_option maxHeartbeats 8000000 in
theorem gfalls_any (g : GateV) (o i : Int) (pw : Bool) (n : Int) (hn : 0 ≤ n ∧ n ≤ 65535) (w : World) (hok : g.Ok w) :
    Calls Try.prog 12 #[g.val, .agg #[.int .i64 o, .int .i64 i, .bool pw], .int .u16 n] w fun e w' => e = .returned (.bool true) ∧ Below w.heap.size w w' := by
  have h0 := SdW.new w g o i pw
  have H0 := Lib.hid h0
  have Ok0 := Lib.hid (hok.below h0.below (Nat.le_refl _))
  clear hok h0
  by_cases he : (fallsZ g o i).2 = 0
  · have hat : atE g o i = 0 := by
      unfold fallsZ at he
      split at he
      · rename_i h; exact absurd he h
      · rename_i h; simpa using h
    have hp : fallsZ g o i = (fallFrom g o i g.travel.toNat 0, 0) := by rw [fallsZ, if_neg (by simp [hat])]
    obtain ⟨p, hpe⟩ : ∃ p, p = fallFrom g o i g.travel.toNat 0 := ⟨_, rfl⟩
    have hc := fall_cases g o i g.travel.toNat 0
    rw [← hpe] at hp hc
    have HF := Lib.hid hp
    obtain ⟨hg, ho, hi⟩ := atE_0 hat
    have htr := hg.travel
    have hgr := hg.gravity
    have f1 : decide (g.travel < 1) = false := by simp; omega
    have f2 : decide (g.gravity < 1) = false := by simp; omega
    clear hp he hpe hg ho hi
    rcases hc with ⟨rfl, hf⟩ | ⟨p0, p1, pn⟩
    · have hf2 : ∀ j, 0 ≤ j → j < g.travel → rubZ g j o i < netZ g j o i := fun j h1 h2 => hf j h1 (by omega)
      have f4 : decide ((-1 : Int) ≥ g.travel) = false := by simp; omega
      have wt : IntKind.i64.wrap (g.travel + 1) = g.travel + 1 := by rw [IntKind.wrap_i64]; omega
      have wn : IntKind.i64.wrap n = n := by rw [IntKind.wrap_i64]; omega
      have hz : (g.travel + 1 == 0) = false := by simp; omega
      have hz2 : ¬ g.travel + 1 = 0 := by omega
      obtain ⟨a, hae⟩ : ∃ a, a = n % (g.travel + 1) := ⟨_, rfl⟩
      have ha : 0 ≤ a ∧ a ≤ g.travel := by
        rw [hae]
        have := Int.emod_nonneg n hz2
        have := Int.emod_lt_of_pos n (show 0 < g.travel + 1 by omega)
        omega
      have Ha := Lib.hid hae
      have ht1 := falls_time (power := false) hat ha.1 ha.2 hf2
      have ht2 := falls_time (power := true) hat ha.1 ha.2 hf2
      have wb : IntKind.i64.wrap (g.travel - a) = g.travel - a := by rw [IntKind.wrap_i64]; omega
      have wc : IntKind.i64.wrap (g.travel - a + g.gravity) = g.travel - a + g.gravity := by rw [IntKind.wrap_i64]; omega
      have wd : IntKind.i64.wrap (g.travel - a + g.gravity - 1) = g.travel - a + g.gravity - 1 := by rw [IntKind.wrap_i64]; omega
      have hz3 : (g.gravity == 0) = false := by simp; omega
      have hz4 : ¬ g.gravity = 0 := by omega
      obtain ⟨c, hce⟩ : ∃ c, c = ceilZ (g.travel - a) g.gravity := ⟨_, rfl⟩
      have hcb : 0 ≤ c ∧ c ≤ 100000 := by
        rw [hce]
        refine ⟨ceilZ_nn hgr.1 (by omega), ?_⟩
        have := ediv_bd (a := g.travel - a + g.gravity - 1) (b := g.gravity) (A := 100000) (by omega) (by omega) hgr.1
        exact this.2
      have we : IntKind.i64.wrap ((g.travel - a + g.gravity - 1).tdiv g.gravity) = c := by
        rw [Int.tdiv_eq_ediv_of_nonneg (by omega)]
        have h : (g.travel - a + g.gravity - 1) / g.gravity = c := hce.symm
        rw [h, IntKind.wrap_i64]; omega
      have we2 : (g.travel - a + g.gravity - 1) / g.gravity = c := hce.symm
      have wn0 : 0 ≤ g.travel - a + g.gravity - 1 := by omega
      rw [← hce] at ht1 ht2
      clear hf hf2 hat hae hce ha
      by_cases hc2 : c < 2001
      · rw [if_pos hc2] at ht1 ht2
        have HT1 := Lib.hid ht1
        have HT2 := Lib.hid ht2
        have hd : decide (c > 2000) = false := by simp; omega
        clear ht1 ht2 hc2
        go_enter Try.func12, Try.ntmps12
        go_upto_region 11 with (first
          | (with_reducible show wpList _ _ _ (({ dst := _, op := .load 33 (.tmp 3), type := _, pos := _, after := _, guard := none } : Oper) :: _) _ _; refine wpList_load_gate H0.out.gate rfl (.tmp 3) rfl rfl ?_)
          | (with_reducible show wpList _ _ _ (({ dst := _, op := .load 33 (.tmp 3), type := _, pos := _, after := _, guard := none } : Oper) :: _) _ _; refine wpList_load_gate (H1.out.alloc _).gate rfl (.tmp 3) rfl rfl ?_)
          | (with_reducible show wpList _ _ _ (({ dst := _, op := .load 33 (.tmp 3), type := _, pos := _, after := _, guard := none } : Oper) :: _) _ _; refine wpList_load_gate H2.out.gate rfl (.tmp 3) rfl rfl ?_)
          | (go_at_call 33; refine (falls_any g o i _ Ok0.out).mono ?_; rintro e w1 ⟨rfl, hb1⟩; rw [HF.out]; have hB1 := H0.out.call hb1; have d0 := (cell_of_row _ _ 0 _ _ _ hB1.sd).trans rfl; have d1 := (cell_of_row _ _ 1 _ _ _ hB1.sd).trans rfl; have g2 := hB1.gate.cell 2 _ rfl; have g14 := hB1.gate.cell 14 _ rfl; have lt1 := hB1.lt; have lz1 : w.heap.size < w1.heap.size := (by omega); have H1 := Lib.hid hB1; have Ok1 := Lib.hid (Ok0.out.below hb1 (Nat.le_refl _)); clear hB1 hb1))
        rw [← Ha.out]
        go_wp2_with (first
          | (with_reducible show wpList _ _ _ (({ dst := _, op := .load 33 (.tmp 3), type := _, pos := _, after := _, guard := none } : Oper) :: _) _ _; refine wpList_load_gate H0.out.gate rfl (.tmp 3) rfl rfl ?_)
          | (with_reducible show wpList _ _ _ (({ dst := _, op := .load 33 (.tmp 3), type := _, pos := _, after := _, guard := none } : Oper) :: _) _ _; refine wpList_load_gate (H1.out.alloc _).gate rfl (.tmp 3) rfl rfl ?_)
          | (with_reducible show wpList _ _ _ (({ dst := _, op := .load 33 (.tmp 3), type := _, pos := _, after := _, guard := none } : Oper) :: _) _ _; refine wpList_load_gate H2.out.gate rfl (.tmp 3) rfl rfl ?_)
          | (go_at_call 33; refine (falls_any g o i _ Ok0.out).mono ?_; rintro e w1 ⟨rfl, hb1⟩; rw [HF.out]; have hB1 := H0.out.call hb1; have d0 := (cell_of_row _ _ 0 _ _ _ hB1.sd).trans rfl; have d1 := (cell_of_row _ _ 1 _ _ _ hB1.sd).trans rfl; have g2 := hB1.gate.cell 2 _ rfl; have g14 := hB1.gate.cell 14 _ rfl; have lt1 := hB1.lt; have lz1 : w.heap.size < w1.heap.size := (by omega); have H1 := Lib.hid hB1; have Ok1 := Lib.hid (Ok0.out.below hb1 (Nat.le_refl _)); clear hB1 hb1)
          | (go_at_call 38; (first | (refine (time_any g ⟨a, 0, false⟩ o i true _ Ok2.out).mono ?_; rintro e w3 ⟨rfl, hb3⟩; rw [HT2.out]; have H3 := Lib.hid (H2.out.call hb3); clear hb3) | (refine (time_any g ⟨a, 0, false⟩ o i false _ (Ok1.out.alloc _)).mono ?_; rintro e w2 ⟨rfl, hb2⟩; rw [HT1.out]; have hB2 := (H1.out.alloc _).call hb2; have d0 := (cell_of_row _ _ 0 _ _ _ hB2.sd).trans rfl; have d1 := (cell_of_row _ _ 1 _ _ _ hB2.sd).trans rfl; have g2 := hB2.gate.cell 2 _ rfl; have g14 := hB2.gate.cell 14 _ rfl; have H2 := Lib.hid hB2; have Ok2 := Lib.hid ((Ok1.out.alloc (.cells #[.int .i64 1, .bool false, .int .i64 o, .int .i64 i] 45)).below hb2 (Nat.le_refl _)); clear hB2 hb2)))
          | (go_at_call 24; refine (awake_any _).mono ?_; rintro e w9 ⟨rfl, hb9⟩; (first | have B9 := Lib.hid (H3.out.call hb9)); clear hb9))
        go_ret
        exact ⟨rfl, B9.out.below⟩
      · rw [if_neg hc2] at ht1 ht2
        have HT1 := Lib.hid ht1
        have hd : decide (c > 2000) = true := by simp; omega
        clear ht1 ht2 hc2
        go_enter Try.func12, Try.ntmps12
        go_upto_region 11 with (first
          | (with_reducible show wpList _ _ _ (({ dst := _, op := .load 33 (.tmp 3), type := _, pos := _, after := _, guard := none } : Oper) :: _) _ _; refine wpList_load_gate H0.out.gate rfl (.tmp 3) rfl rfl ?_)
          | (with_reducible show wpList _ _ _ (({ dst := _, op := .load 33 (.tmp 3), type := _, pos := _, after := _, guard := none } : Oper) :: _) _ _; refine wpList_load_gate (H1.out.alloc _).gate rfl (.tmp 3) rfl rfl ?_)
          | (with_reducible show wpList _ _ _ (({ dst := _, op := .load 33 (.tmp 3), type := _, pos := _, after := _, guard := none } : Oper) :: _) _ _; refine wpList_load_gate H2.out.gate rfl (.tmp 3) rfl rfl ?_)
          | (go_at_call 33; refine (falls_any g o i _ Ok0.out).mono ?_; rintro e w1 ⟨rfl, hb1⟩; rw [HF.out]; have hB1 := H0.out.call hb1; have d0 := (cell_of_row _ _ 0 _ _ _ hB1.sd).trans rfl; have d1 := (cell_of_row _ _ 1 _ _ _ hB1.sd).trans rfl; have g2 := hB1.gate.cell 2 _ rfl; have g14 := hB1.gate.cell 14 _ rfl; have lt1 := hB1.lt; have lz1 : w.heap.size < w1.heap.size := (by omega); have H1 := Lib.hid hB1; have Ok1 := Lib.hid (Ok0.out.below hb1 (Nat.le_refl _)); clear hB1 hb1))
        rw [← Ha.out]
        go_wp2_with (first
          | (with_reducible show wpList _ _ _ (({ dst := _, op := .load 33 (.tmp 3), type := _, pos := _, after := _, guard := none } : Oper) :: _) _ _; refine wpList_load_gate H0.out.gate rfl (.tmp 3) rfl rfl ?_)
          | (with_reducible show wpList _ _ _ (({ dst := _, op := .load 33 (.tmp 3), type := _, pos := _, after := _, guard := none } : Oper) :: _) _ _; refine wpList_load_gate (H1.out.alloc _).gate rfl (.tmp 3) rfl rfl ?_)
          | (with_reducible show wpList _ _ _ (({ dst := _, op := .load 33 (.tmp 3), type := _, pos := _, after := _, guard := none } : Oper) :: _) _ _; refine wpList_load_gate H2.out.gate rfl (.tmp 3) rfl rfl ?_)
          | (go_at_call 33; refine (falls_any g o i _ Ok0.out).mono ?_; rintro e w1 ⟨rfl, hb1⟩; rw [HF.out]; have hB1 := H0.out.call hb1; have d0 := (cell_of_row _ _ 0 _ _ _ hB1.sd).trans rfl; have d1 := (cell_of_row _ _ 1 _ _ _ hB1.sd).trans rfl; have g2 := hB1.gate.cell 2 _ rfl; have g14 := hB1.gate.cell 14 _ rfl; have lt1 := hB1.lt; have lz1 : w.heap.size < w1.heap.size := (by omega); have H1 := Lib.hid hB1; have Ok1 := Lib.hid (Ok0.out.below hb1 (Nat.le_refl _)); clear hB1 hb1)
          | (go_at_call 38; (first | (refine (time_any g ⟨a, 0, false⟩ o i true _ Ok2.out).mono ?_; rintro e w3 ⟨rfl, hb3⟩; rw [HT2.out]; have H3 := Lib.hid (H2.out.call hb3); clear hb3) | (refine (time_any g ⟨a, 0, false⟩ o i false _ (Ok1.out.alloc _)).mono ?_; rintro e w2 ⟨rfl, hb2⟩; rw [HT1.out]; have hB2 := (H1.out.alloc _).call hb2; have d0 := (cell_of_row _ _ 0 _ _ _ hB2.sd).trans rfl; have d1 := (cell_of_row _ _ 1 _ _ _ hB2.sd).trans rfl; have g2 := hB2.gate.cell 2 _ rfl; have g14 := hB2.gate.cell 14 _ rfl; have H2 := Lib.hid hB2; have Ok2 := Lib.hid ((Ok1.out.alloc (.cells #[.int .i64 1, .bool false, .int .i64 o, .int .i64 i] 45)).below hb2 (Nat.le_refl _)); clear hB2 hb2)))
          | (go_at_call 24; refine (awake_any _).mono ?_; rintro e w9 ⟨rfl, hb9⟩; (first | have B9 := Lib.hid (H2.out.call hb9)); clear hb9))
        go_ret
        exact ⟨rfl, B9.out.below⟩
    · have f3 : decide (p < -1) = false := by simp; omega
      have f4 : decide (p ≥ g.travel) = false := by simp; omega
      have f5 : decide (p ≥ 0) = true := by simp; omega
      obtain ⟨h1, h2⟩ := falls_stay hat p0 (by omega) pn
      obtain ⟨x, y, E, hE⟩ : ∃ x y E, stepZ g ⟨p, 0, false⟩ ⟨1, false, o, i⟩ = (x, y, E) := ⟨_, _, _, rfl⟩
      rw [hE] at h1 h2
      simp only at h1 h2
      subst h2
      have HS := Lib.hid hE
      have f6 : (x.pos == p) = true := by simp [h1]
      clear hat p0 p1 pn hE h1
      go_enter Try.func12, Try.ntmps12
      go_wp2_with (first
        | (with_reducible show wpList _ _ _ (({ dst := _, op := .load 33 (.tmp 3), type := _, pos := _, after := _, guard := none } : Oper) :: _) _ _; refine wpList_load_gate H0.out.gate rfl (.tmp 3) rfl rfl ?_)
        | (with_reducible show wpList _ _ _ (({ dst := _, op := .load 33 (.tmp 3), type := _, pos := _, after := _, guard := none } : Oper) :: _) _ _; refine wpList_load_gate (H1.out.alloc _).gate rfl (.tmp 3) rfl rfl ?_)
        | (with_reducible show wpList _ _ _ (({ dst := _, op := .load 33 (.tmp 3), type := _, pos := _, after := _, guard := none } : Oper) :: _) _ _; refine wpList_load_gate H2.out.gate rfl (.tmp 3) rfl rfl ?_)
        | (go_at_call 33; refine (falls_any g o i _ Ok0.out).mono ?_; rintro e w1 ⟨rfl, hb1⟩; rw [HF.out]; have hB1 := H0.out.call hb1; have d0 := (cell_of_row _ _ 0 _ _ _ hB1.sd).trans rfl; have d1 := (cell_of_row _ _ 1 _ _ _ hB1.sd).trans rfl; have g2 := hB1.gate.cell 2 _ rfl; have g14 := hB1.gate.cell 14 _ rfl; have lt1 := hB1.lt; have lz1 : w.heap.size < w1.heap.size := (by omega); have H1 := Lib.hid hB1; have Ok1 := Lib.hid (Ok0.out.below hb1 (Nat.le_refl _)); clear hB1 hb1)
        | (go_at_call 27; refine (step_any g ⟨p, 0, false⟩ ⟨1, false, o, i⟩ _ (Ok1.out.alloc _)).mono ?_; rintro e w2 ⟨rfl, hb2⟩; rw [HS.out]; have H2 := Lib.hid ((H1.out.alloc _).call hb2); clear hb2)
        | (go_at_call 24; refine (awake_any _).mono ?_; rintro e w9 ⟨rfl, hb9⟩; (first | have B9 := Lib.hid (((H2.out.alloc _).alloc _).call hb9)); clear hb9))
      go_ret
      exact ⟨rfl, B9.out.below⟩
  · obtain ⟨p, E, hE⟩ : ∃ p E, fallsZ g o i = (p, E) := ⟨_, _, rfl⟩
    have HF := Lib.hid hE
    rw [hE] at he
    have h1 : (E != 0) = true := by simp at he; simp [he]
    clear hE he
    go_enter Try.func12, Try.ntmps12
    go_wp2_with (first
      | (with_reducible show wpList _ _ _ (({ dst := _, op := .load 33 (.tmp 3), type := _, pos := _, after := _, guard := none } : Oper) :: _) _ _; refine wpList_load_gate H0.out.gate rfl (.tmp 3) rfl rfl ?_)
      | (with_reducible show wpList _ _ _ (({ dst := _, op := .load 33 (.tmp 3), type := _, pos := _, after := _, guard := none } : Oper) :: _) _ _; refine wpList_load_gate (H1.out.alloc _).gate rfl (.tmp 3) rfl rfl ?_)
      | (with_reducible show wpList _ _ _ (({ dst := _, op := .load 33 (.tmp 3), type := _, pos := _, after := _, guard := none } : Oper) :: _) _ _; refine wpList_load_gate H2.out.gate rfl (.tmp 3) rfl rfl ?_)
      | (go_at_call 33; refine (falls_any g o i _ Ok0.out).mono ?_; rintro e w1 ⟨rfl, hb1⟩; rw [HF.out]; have hB1 := H0.out.call hb1; have d0 := (cell_of_row _ _ 0 _ _ _ hB1.sd).trans rfl; have d1 := (cell_of_row _ _ 1 _ _ _ hB1.sd).trans rfl; have g2 := hB1.gate.cell 2 _ rfl; have g14 := hB1.gate.cell 14 _ rfl; have lt1 := hB1.lt; have lz1 : w.heap.size < w1.heap.size := (by omega); have H1 := Lib.hid hB1; have Ok1 := Lib.hid (Ok0.out.below hb1 (Nat.le_refl _)); clear hB1 hb1)
      | (go_at_call 24; refine (awake_any _).mono ?_; rintro e w9 ⟨rfl, hb9⟩; (first | have B9 := Lib.hid (H1.out.call hb9)); clear hb9))
    go_ret
    exact ⟨rfl, B9.out.below⟩
end Go.Proofs.Ythalanpmfhhhnaa
