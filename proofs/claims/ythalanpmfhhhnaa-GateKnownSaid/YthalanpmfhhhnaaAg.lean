/-
  gate.agreed: the positions with which enough sensors agree, one after the other: the contract of its iterator, for every loop body that keeps what lay below and the two boxes.
-/
import Derived.Test.YthalanpmfhhhnaaWp
import Derived.RangeFuncNested
import Derived.RangeFuncBound
import Derived.RangeFuncCalls
import Derived.RangeFuncLeaves
import Derived.Shelf.Abstract
import Derived.Shelf.RegionOpen
import Derived.OwnWalkIn
import Derived.TacticsInMore
import Derived.LoopNIn
import Derived.LoopIn
namespace Go.Proofs.Ythalanpmfhhhnaa
open Go.RowKit Go.Shelf
set_option linter.unusedSimpArgs false
set_option linter.unusedVariables false
attribute [local go_sem] Oper.semAt_some

/-- What a round that goes on keeps: whatever lay below, and the two boxes from B on. -/
structure AgK (n₀ B : Nat) (W W' : World) : Prop where
  below : Below n₀ W W'
  fst : W'.heap[B]? = W.heap[B]?
  snd : W'.heap[B + 1]? = W.heap[B + 1]?
theorem AgK.refl (n₀ B : Nat) (W : World) : AgK n₀ B W W := ⟨Below.refl _ _, rfl, rfl⟩
theorem AgK.trans {n₀ B : Nat} {X Y Z : World} (h : AgK n₀ B X Y) (k : AgK n₀ B Y Z) : AgK n₀ B X Z := ⟨h.below.trans k.below, k.fst.trans h.fst, k.snd.trans h.snd⟩
theorem AgK.putObj {n₀ B : Nat} {w : World} (hn : n₀ ≤ w.heap.size) (hB : B + 1 < w.heap.size) (W : World) (l : Nat) (o o' : Obj) (hl : w.heap.size ≤ l) (h : W.heap[l]? = some o) (h1 : o.isCells = false) (h2 : o.isWalk = false) : AgK n₀ B W (W.putObj l o') :=
  ⟨belowK_b hn W l o o' hl h h1 h2, World.putObj_heap_other (by omega), World.putObj_heap_other (by omega)⟩

/-- What the iterator reads: the two boxes, and whatever lay when the call began. -/
structure AgW (w0 : World) (g : GateV) (rA : Option Addr) (rn rC : Nat) (B : Nat) (W : World) : Prop where
  below : Below w0.heap.size w0 W
  gate : GateIn W B g
  row : W.heap[B + 1]? = some (.cells #[.slice rA rn rC] 30 (0, 0))
theorem AgW.call {w0 W W' : World} {g : GateV} {rA : Option Addr} {rn rC B : Nat} (h : AgW w0 g rA rn rC B W) (hb : Below W.heap.size W W') : AgW w0 g rA rn rC B W' :=
  ⟨h.below.trans (hb.mono h.below.size), h.gate.below hb (Nat.le_refl _), blk_below hb h.row⟩
theorem AgW.kept {w0 W W' : World} {g : GateV} {rA : Option Addr} {rn rC B n₀ : Nat} (h : AgW w0 g rA rn rC B W) (hn : w0.heap.size ≤ n₀) (hb : AgK n₀ B W W') : AgW w0 g rA rn rC B W' :=
  ⟨h.below.trans (hb.below.mono hn), ⟨by have := h.gate.lt; have := hb.below.size; omega, hb.fst.trans h.gate.blk⟩, hb.snd.trans h.row⟩

theorem agr_enc {s : Sen} {r p : Int} {b : Bool} (h : agrB s r p = b) (hk : s.kind = 1) : outB r (p - s.tol) (p + s.tol) = !b := by
  rw [← h, agrB, if_pos hk]
  unfold outB
  by_cases h1 : p - s.tol ≤ r <;> by_cases h2 : r ≤ p + s.tol <;> simp [h1, h2] <;> omega
theorem agr_one {s : Sen} {r p : Int} {b : Bool} (h : agrB s r p = b) (hk : s.kind ≠ 1) (hr : r = 1) : decide (s.at_ - s.tol ≤ p) = b := by
  rw [← h, agrB, if_neg hk]
  simp [hr]
theorem agr_zero {s : Sen} {r p : Int} {b : Bool} (h : agrB s r p = b) (hk : s.kind ≠ 1) (hr : r = 0) : decide (p ≤ s.at_ + s.tol) = b := by
  rw [← h, agrB, if_neg hk]
  simp [hr]
theorem agr_no {s : Sen} {r p : Int} (hk : s.kind ≠ 1) (h1 : r ≠ 1) (h0 : r ≠ 0) : agrB s r p = false := by
  rw [agrB, if_neg hk]
  simp [h0, h1]

set_option maxRecDepth 100000 in
set_option maxHeartbeats 4000000 in
theorem agreed_in (g : GateV) (rA : Option Addr) (rC : Nat) (rs : List Int) (n l n₀ B : Nat) (hn : 1 ≤ n) (w0 : World) (hn0 : w0.heap.size ≤ n₀) (hc : (checkZ g).2.2 = 0) (hlen : rs.length = g.sens.length)
    (hok : g.Ok w0) (hri : IntsAt w0 rA rs) (J Jx : List Int → World → Prop) (W : World) (hJ : AbidesFrom W.heap.size J)
    (hY : ∀ pre x W1, J pre W1 → pre.length < (whereL g rs).length → YieldAt Fence.wide (n - 1) Try.prog l #[.int .i64 x] W1 fun e W' =>
      (e = .returned (.bool true) ∧ J (pre ++ [x]) W' ∧ AgK n₀ B W1 W') ∨ (e = .returned (.bool false) ∧ Jx (pre ++ [x]) W'))
    (hW : AgW w0 g rA rs.length rC B W) (h0 : J [] W) :
    CallsIn Fence.wide n Try.prog 102 #[.func (.yield l) #[] #[], .pointer (some ⟨B, 0, none⟩), .pointer (some ⟨B + 1, 0, none⟩)] W fun e W' => (∃ v, e = .returned v) ∧
      ((∃ ys, ys = whereL g rs ∧ J ys W') ∨ (∃ pre, pre <+: whereL g rs ∧ Jx pre W')) := by
  obtain ⟨hs6, hsb, hw1, hw2⟩ := check_sens hc
  obtain ⟨ht1, ht2⟩ := (check_good hc).travel
  have HJ := Lib.hid hJ
  have HY := Lib.hid hY
  have Hsb := Lib.hid (fun s hs => sensorE_bd (hsb s hs))
  have Hlen := Lib.hid hlen
  have Hss := Lib.hid hok.sens
  have Hri := Lib.hid hri
  have HW := Lib.hid hW
  have HJ0 := Lib.hid h0
  obtain ⟨sA, hsA⟩ : ∃ sA, sA = g.senA := ⟨_, rfl⟩
  have HsA := Lib.hid hsA
  obtain ⟨T, hT⟩ : ∃ T : Nat, g.travel = T := ⟨g.travel.toNat, by omega⟩
  have HL := Lib.hid (show whereL g rs = psUpto g rs (T + 1) by rw [whereL, hT]; rfl)
  have g2 : W.cell? ⟨B, 2, none⟩ = some (.int .i64 g.travel) := hW.gate.cell 2 _ rfl
  rw [hT] at g2 ht1 ht2
  clear hJ hY hsb hlen hok hri hW h0 hT hc hsA
  refine callsIn_of_wp Try.func102 rfl trivial ?_ rfl
  simp only [Try.ntmps102, List.size_toArray, List.length_cons, List.length_nil, Nat.reduceAdd, Nat.reduceSub, Array.replicate_succ, Array.replicate_zero, List.push_toArray, List.append_toArray, List.nil_append, List.cons_append]
  gi_wp2
  clear g2
  gi_loopw [12] (fun p wr => ∃ k : Nat, k ≤ T + 1 ∧ p = .int .i64 k ∧ J (psUpto g rs k) wr ∧ AgW w0 g rA rs.length rC B wr ∧ W.heap.size ≤ wr.heap.size) (fun p _ => T + 1 - (intOf p).toNat)
  case atStart => exact ⟨0, Nat.zero_le _, rfl, HJ0.out, HW.out, Nat.le_refl _⟩
  case round =>
    obtain ⟨k, hk, rfl, hj, hw, hsz⟩ := hrel
    have Hj := Lib.hid hj
    have Hw := Lib.hid hw
    have g19 : wr.cell? ⟨B, 19, none⟩ = some (.slice sA g.sens.length g.senC) := by rw [HsA.out]; exact hw.gate.cell 19 _ rfl
    obtain ⟨wv, hwv⟩ : ∃ wv, wv = wr := ⟨_, rfl⟩
    subst hwv
    have Hsz := Lib.hid hsz
    clear hj hw hsz
    by_cases hlt : k < T + 1
    · have hdk : decide ((k : Int) < (T : Int) + 1) = true := by simp; omega
      gi_wp2
      clear g19 hdk
      gi_loopw [5, 18] (fun q i wr => ∃ m : Nat, m ≤ g.sens.length ∧ q = .int .i64 (badN g.sens rs k m) ∧ i = .int .i64 m ∧ J (psUpto g rs k) wr ∧ AgW w0 g rA rs.length rC B wr ∧ W.heap.size ≤ wr.heap.size) (fun _ i _ => g.sens.length - (intOf i).toNat)
      case atStart => exact ⟨0, Nat.zero_le _, rfl, rfl, Hj.out, Hw.out, Hsz.out⟩
      case round =>
        clear Hj Hw Hsz
        obtain ⟨m, hm, rfl, rfl, hj, hw, hsz⟩ := hrel
        have Hj := Lib.hid hj
        have Hw := Lib.hid hw
        have Hsz := Lib.hid hsz
        have hq := badN_le g.sens rs k m
        clear hj hsz
        by_cases hml : m < g.sens.length
        · have hmr : m < rs.length := by rw [Hlen.out]; exact hml
          obtain ⟨sb, so, rfl, hsb, hsc⟩ : ∃ b off, sA = some ⟨b, off, none⟩ ∧ b < w0.heap.size ∧ _ := by
            rw [HsA.out]
            rcases Hss.out.2 with h | h
            · exact absurd hml (by rw [h]; simp)
            · exact h
          obtain ⟨rb, ro, hra, hrb, hrc⟩ : ∃ b off, rA = some ⟨b, off, none⟩ ∧ b < w0.heap.size ∧ _ := by
            rcases Hri.out.2 with h | h
            · exact absurd hmr (by rw [h]; simp)
            · exact h
          subst hra
          obtain ⟨hz0, hz1, hz2⟩ := hsc m hml
          have z0 := (hw.below.cell (p := ⟨sb, so + m * 3, none⟩) hsb).trans hz0
          have z1 := (hw.below.cell (p := ⟨sb, so + m * 3 + 1, none⟩) hsb).trans hz1
          have z2 := (hw.below.cell (p := ⟨sb, so + m * 3 + 2, none⟩) hsb).trans hz2
          have hrm := hrc m hmr
          rw [List.getElem?_eq_getElem hmr, Option.getD_some] at hrm
          have zr := (hw.below.cell (p := ⟨rb, ro + m, none⟩) hrb).trans hrm
          have hrow : wr.cell? ⟨B + 1, 0, none⟩ = some (.slice (some ⟨rb, ro, none⟩) rs.length rC) := (cell_of_row _ _ 0 _ _ _ hw.row).trans rfl
          obtain ⟨hkd, ⟨ha0, ha1⟩, ht0, ht5⟩ := Hsb.out g.sens[m] (List.getElem_mem hml)
          have hB1 : B + 1 < wr.heap.size := (Array.getElem?_eq_some_iff.1 hw.row).1
          have hb1 : sb < wr.heap.size := Nat.lt_of_lt_of_le hsb hw.below.size
          have hb2 : rb < wr.heap.size := Nat.lt_of_lt_of_le hrb hw.below.size
          have hbs : badN g.sens rs k (m + 1) = badN g.sens rs k m + if agrB g.sens[m] rs[m] k = true then 0 else 1 := by rw [badN, agrAt_eq hml hmr]
          have Hbs := Lib.hid hbs
          have i1 : (m : Int) < (rs.length : Int) := by omega
          have i2 : (m : Int) < (g.sens.length : Int) := by omega
          have i3 : (0 : Int) ≤ (m : Int) := by omega
          clear hbs hsc hz0 hz1 hz2 hrc hrm hw
          revert Hbs z0 z1 z2 zr hkd ha0 ha1 ht0 ht5 hq
          generalize badN g.sens rs k m = q
          generalize g.sens[m] = s
          generalize rs[m] = r
          intro hq z0 z1 z2 zr hkd ha0 ha1 ht0 ht5 Hbs
          have HZ := Lib.hid (And.intro z0 (And.intro z1 z2))
          have hq2 : (q : Int) ≤ 6 := by omega
          have hq0 : (0 : Int) ≤ (q : Int) := by omega
          have hm0 : (k : Int) ≤ 5000 := by omega
          have hk0 : (0 : Int) ≤ (k : Int) := by omega
          by_cases hkk : s.kind = 1
          · have f1 : (s.kind == 1) = true := by simp [hkk]
            cases hag : agrB s r k with
            | true =>
              have Hx := Lib.hid (show outB r ((k : Int) - s.tol) ((k : Int) + s.tol) = false from agr_enc hag hkk)
              have Hb2 : Hid (badN g.sens rs k (m + 1) = q) := by have := Hbs.out; rw [if_pos hag] at this; exact Lib.hid this
              clear hkk hag hkd
              gi_wp2_with (refine ⟨trivial, ?_⟩; gi_at_call 50; refine (callsIn_wide.2 (out_any _ _ _ _)).mono ?_; rintro e w1 ⟨rfl, rfl⟩; rw [Hx.out])
              all_goals (go_roundw; (case rel => first | exact ⟨m + 1, by omega, by rw [Hb2.out]; try go_num, by go_num, HJ.out _ _ _ none Hj.out (World.grownBy_alloc _ _ none) (fun _ h => by cases h), Hw.out.call ((Below.refl _ _).alloc (Nat.le_refl _) _), by simp; have := Hsz.out; omega⟩ | ((repeat apply Exists.intro); exact ⟨⟨m + 1, by omega, by rw [Hb2.out]; try go_num, by go_num, HJ.out _ _ _ none Hj.out (World.grownBy_alloc _ _ none) (fun _ h => by cases h), Hw.out.call ((Below.refl _ _).alloc (Nat.le_refl _) _), by simp; have := Hsz.out; omega⟩, rfl⟩)); (case measure => simp [intOf]; omega))
            | false =>
              have Hx := Lib.hid (show outB r ((k : Int) - s.tol) ((k : Int) + s.tol) = true from agr_enc hag hkk)
              have Hb2 : Hid (badN g.sens rs k (m + 1) = q + 1) := by have := Hbs.out; rw [if_neg (by simp [hag])] at this; exact Lib.hid this
              clear hkk hag hkd
              gi_wp2_with (refine ⟨trivial, ?_⟩; gi_at_call 50; refine (callsIn_wide.2 (out_any _ _ _ _)).mono ?_; rintro e w1 ⟨rfl, rfl⟩; rw [Hx.out])
              all_goals (go_roundw; (case rel => first | exact ⟨m + 1, by omega, by rw [Hb2.out]; try go_num, by go_num, HJ.out _ _ _ none Hj.out (World.grownBy_alloc _ _ none) (fun _ h => by cases h), Hw.out.call ((Below.refl _ _).alloc (Nat.le_refl _) _), by simp; have := Hsz.out; omega⟩ | ((repeat apply Exists.intro); exact ⟨⟨m + 1, by omega, by rw [Hb2.out]; try go_num, by go_num, HJ.out _ _ _ none Hj.out (World.grownBy_alloc _ _ none) (fun _ h => by cases h), Hw.out.call ((Below.refl _ _).alloc (Nat.le_refl _) _), by simp; have := Hsz.out; omega⟩, rfl⟩)); (case measure => simp [intOf]; omega))
          · have f1 : (s.kind == 1) = false := by simp [hkk]
            by_cases hr1 : r = 1
            · have f2 : (r == 1) = true := by simp [hr1]
              have f3 : (r == 0) = false := by simp [hr1]
              cases hag : agrB s r k with
              | true =>
                have f4 := agr_one hag hkk hr1
                have Hb2 : Hid (badN g.sens rs k (m + 1) = q) := by have := Hbs.out; rw [if_pos hag] at this; exact Lib.hid this
                clear hkk hag hkd hr1
                gi_wp2_with (refine ⟨trivial, ?_⟩; gi_at_call 50; refine (callsIn_wide.2 (out_any _ _ _ _)).mono ?_; rintro e w1 ⟨rfl, rfl⟩; rw [Hx.out])
                all_goals (go_roundw; (case rel => first | exact ⟨m + 1, by omega, by rw [Hb2.out]; try go_num, by go_num, HJ.out _ _ _ none Hj.out (World.grownBy_alloc _ _ none) (fun _ h => by cases h), Hw.out.call ((Below.refl _ _).alloc (Nat.le_refl _) _), by simp; have := Hsz.out; omega⟩ | ((repeat apply Exists.intro); exact ⟨⟨m + 1, by omega, by rw [Hb2.out]; try go_num, by go_num, HJ.out _ _ _ none Hj.out (World.grownBy_alloc _ _ none) (fun _ h => by cases h), Hw.out.call ((Below.refl _ _).alloc (Nat.le_refl _) _), by simp; have := Hsz.out; omega⟩, rfl⟩)); (case measure => simp [intOf]; omega))
              | false =>
                have f4 := agr_one hag hkk hr1
                have Hb2 : Hid (badN g.sens rs k (m + 1) = q + 1) := by have := Hbs.out; rw [if_neg (by simp [hag])] at this; exact Lib.hid this
                clear hkk hag hkd hr1
                gi_wp2_with (refine ⟨trivial, ?_⟩; gi_at_call 50; refine (callsIn_wide.2 (out_any _ _ _ _)).mono ?_; rintro e w1 ⟨rfl, rfl⟩; rw [Hx.out])
                all_goals (go_roundw; (case rel => first | exact ⟨m + 1, by omega, by rw [Hb2.out]; try go_num, by go_num, HJ.out _ _ _ none Hj.out (World.grownBy_alloc _ _ none) (fun _ h => by cases h), Hw.out.call ((Below.refl _ _).alloc (Nat.le_refl _) _), by simp; have := Hsz.out; omega⟩ | ((repeat apply Exists.intro); exact ⟨⟨m + 1, by omega, by rw [Hb2.out]; try go_num, by go_num, HJ.out _ _ _ none Hj.out (World.grownBy_alloc _ _ none) (fun _ h => by cases h), Hw.out.call ((Below.refl _ _).alloc (Nat.le_refl _) _), by simp; have := Hsz.out; omega⟩, rfl⟩)); (case measure => simp [intOf]; omega))
            · have f2 : (r == 1) = false := by simp [hr1]
              by_cases hr0 : r = 0
              · have f3 : (r == 0) = true := by simp [hr0]
                cases hag : agrB s r k with
                | true =>
                  have f4 := agr_zero hag hkk hr0
                  have Hb2 : Hid (badN g.sens rs k (m + 1) = q) := by have := Hbs.out; rw [if_pos hag] at this; exact Lib.hid this
                  clear hkk hag hkd hr0 hr1
                  gi_wp2_with (refine ⟨trivial, ?_⟩; gi_at_call 50; refine (callsIn_wide.2 (out_any _ _ _ _)).mono ?_; rintro e w1 ⟨rfl, rfl⟩; rw [Hx.out])
                  all_goals (go_roundw; (case rel => first | exact ⟨m + 1, by omega, by rw [Hb2.out]; try go_num, by go_num, HJ.out _ _ _ none Hj.out (World.grownBy_alloc _ _ none) (fun _ h => by cases h), Hw.out.call ((Below.refl _ _).alloc (Nat.le_refl _) _), by simp; have := Hsz.out; omega⟩ | ((repeat apply Exists.intro); exact ⟨⟨m + 1, by omega, by rw [Hb2.out]; try go_num, by go_num, HJ.out _ _ _ none Hj.out (World.grownBy_alloc _ _ none) (fun _ h => by cases h), Hw.out.call ((Below.refl _ _).alloc (Nat.le_refl _) _), by simp; have := Hsz.out; omega⟩, rfl⟩)); (case measure => simp [intOf]; omega))
                | false =>
                  have f4 := agr_zero hag hkk hr0
                  have Hb2 : Hid (badN g.sens rs k (m + 1) = q + 1) := by have := Hbs.out; rw [if_neg (by simp [hag])] at this; exact Lib.hid this
                  clear hkk hag hkd hr0 hr1
                  gi_wp2_with (refine ⟨trivial, ?_⟩; gi_at_call 50; refine (callsIn_wide.2 (out_any _ _ _ _)).mono ?_; rintro e w1 ⟨rfl, rfl⟩; rw [Hx.out])
                  all_goals (go_roundw; (case rel => first | exact ⟨m + 1, by omega, by rw [Hb2.out]; try go_num, by go_num, HJ.out _ _ _ none Hj.out (World.grownBy_alloc _ _ none) (fun _ h => by cases h), Hw.out.call ((Below.refl _ _).alloc (Nat.le_refl _) _), by simp; have := Hsz.out; omega⟩ | ((repeat apply Exists.intro); exact ⟨⟨m + 1, by omega, by rw [Hb2.out]; try go_num, by go_num, HJ.out _ _ _ none Hj.out (World.grownBy_alloc _ _ none) (fun _ h => by cases h), Hw.out.call ((Below.refl _ _).alloc (Nat.le_refl _) _), by simp; have := Hsz.out; omega⟩, rfl⟩)); (case measure => simp [intOf]; omega))
              · have f3 : (r == 0) = false := by simp [hr0]
                have hag := agr_no (s := s) (r := r) (p := k) hkk hr1 hr0
                have Hb2 : Hid (badN g.sens rs k (m + 1) = q + 1) := by have := Hbs.out; rw [if_neg (by simp [hag])] at this; exact Lib.hid this
                clear hkk hag hkd hr0 hr1
                gi_wp2_with (refine ⟨trivial, ?_⟩; gi_at_call 50; refine (callsIn_wide.2 (out_any _ _ _ _)).mono ?_; rintro e w1 ⟨rfl, rfl⟩; rw [Hx.out])
                all_goals (go_roundw; (case rel => first | exact ⟨m + 1, by omega, by rw [Hb2.out]; try go_num, by go_num, HJ.out _ _ _ none Hj.out (World.grownBy_alloc _ _ none) (fun _ h => by cases h), Hw.out.call ((Below.refl _ _).alloc (Nat.le_refl _) _), by simp; have := Hsz.out; omega⟩ | ((repeat apply Exists.intro); exact ⟨⟨m + 1, by omega, by rw [Hb2.out]; try go_num, by go_num, HJ.out _ _ _ none Hj.out (World.grownBy_alloc _ _ none) (fun _ h => by cases h), Hw.out.call ((Below.refl _ _).alloc (Nat.le_refl _) _), by simp; have := Hsz.out; omega⟩, rfl⟩)); (case measure => simp [intOf]; omega))
        · obtain rfl : m = g.sens.length := by omega
          have hms : wr.cell? ⟨B, 20, none⟩ = some (.int .i64 g.wrong) := hw.gate.cell 20 _ rfl
          have hN := psUpto_succ g rs k
          have Hf := Lib.hid (show fitB g rs k = decide ((badN g.sens rs k g.sens.length : Int) ≤ g.wrong) from rfl)
          have Hw := Lib.hid hw
          clear hw
          cases hfit : fitB g rs k with
          | true =>
            have hj2 := psUpto_lt g rs hlt hfit
            rw [← HL.out] at hj2
            have hY1 := HY.out _ (k : Int) wr Hj.out hj2
            obtain ⟨fn, tmps, assign, body, hy, hR⟩ := hY1
            rw [hfit, if_pos rfl] at hN
            have HN := Lib.hid hN
            have HR := Lib.hid hR
            rw [Hf.out] at hfit
            clear hN hR hj2
            revert hfit hq
            generalize badN g.sens rs k g.sens.length = q
            intro hq hfit
            gi_wp2
            refine HR.out.mono ?_
            rintro e W3 (⟨rfl, hJ3, hk3⟩ | ⟨rfl, hJx3⟩)
            · have HJ3 := Lib.hid hJ3
              have Hk3 := Lib.hid hk3
              clear hJ3 hk3
              gi_wp2
              go_roundw
              case rel => exact ⟨k + 1, by omega, by go_num, by rw [HN.out]; exact HJ3.out, Hw.out.kept hn0 Hk3.out, Nat.le_trans Hsz.out Hk3.out.below.size⟩
              case measure => simp [intOf]; omega
            · have HJx := Lib.hid hJx3
              clear hJx3
              gi_wp2
              refine bodyPost_ret (results_none rfl _ _ _) rfl ?_
              exact ⟨⟨_, rfl⟩, .inr ⟨_, by rw [HL.out, ← HN.out]; exact psUpto_pre g rs (by omega), HJx.out⟩⟩
          | false =>
            rw [hfit, if_neg (by simp), List.append_nil] at hN
            have HN := Lib.hid hN
            rw [Hf.out] at hfit
            clear hN
            revert hfit hq
            generalize badN g.sens rs k g.sens.length = q
            intro hq hfit
            gi_wp2
            refine ⟨fun _ h => (by cases h), ?_⟩
            gi_wp2
            go_roundw
            case rel => exact ⟨k + 1, by omega, by go_num, by rw [HN.out]; exact Hj.out, Hw.out, Hsz.out⟩
            case measure => simp [intOf]; omega
    · obtain rfl : k = T + 1 := by omega
      gi_wp2
      go_end0
      exact ⟨⟨_, rfl⟩, .inl ⟨_, HL.out.symm, Hj.out⟩⟩
end Go.Proofs.Ythalanpmfhhhnaa
