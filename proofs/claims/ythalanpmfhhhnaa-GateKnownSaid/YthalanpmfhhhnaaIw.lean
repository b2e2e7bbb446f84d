/-
  What holds of the statement 'Move(Pair(), ..)' of GateKnown, whatever of it has been done.
-/
import Derived.Test.YthalanpmfhhhnaaIv
import Derived.Test.YthalanpmfhhhnaaAp
namespace Go.Proofs.Ythalanpmfhhhnaa
open Go.RowKit
set_option linter.unusedVariables false
set_option linter.unusedSimpArgs false

abbrev knStep : Value := .agg #[.int .i64 1, .bool false, .int .i64 3000, .int .i64 1000]
abbrev knT (aS : Option Addr) (cS M cM : Nat) : Value := .tuple #[.slice aS 2 cS, .slice (some ⟨M, 0, none⟩) 2 cM, .int .i64 0]
structure MvP (z m0 : Int) (aS : Option Addr) (M : Nat) (w : World) : Prop where
  sts : StsAt w aS [⟨z, 0, false⟩, ⟨0, 0, false⟩]
  lt : M < w.heap.size
  a0 : w.cell? ⟨M, 0, none⟩ = some (.int .i64 m0)
  a1 : w.cell? ⟨M, 1, none⟩ = some (.int .i64 z)
  a2 : w.cell? ⟨M, 2, none⟩ = some (.int .i64 0)
  a3 : w.cell? ⟨M, 3, none⟩ = some (.int .i64 132)
theorem MvP.below {z m0 : Int} {aS : Option Addr} {M : Nat} {w w' : World} (h : MvP z m0 aS M w) (hb : Below w.heap.size w w') : MvP z m0 aS M w' :=
  ⟨h.sts.below hb (Nat.le_refl _), Nat.lt_of_lt_of_le h.lt hb.size, (hb.cell (p := ⟨M, 0, none⟩) h.lt).trans h.a0, (hb.cell (p := ⟨M, 1, none⟩) h.lt).trans h.a1, (hb.cell (p := ⟨M, 2, none⟩) h.lt).trans h.a2, (hb.cell (p := ⟨M, 3, none⟩) h.lt).trans h.a3⟩
/-- What follows the call. -/
structure MvR (aS : Option Addr) (cS M cM : Nat) (L : Nat → Bool) (x : Nat → Value) : Prop where
  h6 : x 6 = knT aS cS M cM
  h7 : L 7 = true → x 7 = knT aS cS M cM
  h8 : L 8 = true → x 8 = .slice aS 2 cS
  h9 : L 9 = true → x 9 = .slice (some ⟨M, 0, none⟩) 2 cM
  h10 : L 10 = true → x 10 = .int .i64 0
  h11 : L 11 = true → x 11 = .slice aS 2 cS
  h12 : L 12 = true → x 12 = .slice (some ⟨M, 0, none⟩) 2 cM
  h13 : L 13 = true → x 13 = .int .i64 0
structure MvC (V : World) (b0 : Bool) (z m0 : Int) (L : Nat → Bool) (x : Nat → Value) (w : World) : Prop where
  bel : Below V.heap.size V w
  c0 : L 0 = true → ∃ oA sA oB sB gA rA, x 0 = (pairS oA sA oB sB gA rA).val ∧ (pairS oA sA oB sB gA rA).Ok w
  c1 : L 1 = true → ∃ B : Nat, x 1 = .slice (some ⟨B, 0, none⟩) 2 2 ∧ w.heap[B]? = some (.cells #[.int .i64 0, .int .i64 0, .bool false, .int .i64 0, .int .i64 0, .bool false] 43 (0, 0))
  c2 : L 2 = true → x 2 = knStep
  c3 : L 3 = true → x 3 = knStep
  c4 : L 4 = true → ∃ B : Nat, x 4 = .slice (some ⟨B, 0, none⟩) 2 2 ∧ w.heap[B]? = some (.cells #[.int .i64 1, .bool false, .int .i64 3000, .int .i64 1000, .int .i64 1, .bool false, .int .i64 3000, .int .i64 1000] 45 (0, 0))
  c5 : L 5 = true → ∃ B : Nat, x 5 = .slice (some ⟨B, 0, none⟩) 2 2 ∧ w.heap[B]? = some (.cells #[.bool b0, .bool false] 4 (0, 0))
  c6 : L 6 = true → ∃ aS cS M cM, MvR aS cS M cM L x ∧ MvP z m0 aS M w
  o : ∀ j, 7 ≤ j → L j = true → L 6 = true

section
variable {V w w' : World} {b0 : Bool} {z m0 : Int} {L : Nat → Bool} {x : Nat → Value}
theorem MvC.new (hb : Below V.heap.size V w) : MvC V b0 z m0 (fun _ => false) (fun _ => undef) w :=
  ⟨hb, fun h => (by cases h), fun h => (by cases h), fun h => (by cases h), fun h => (by cases h), fun h => (by cases h), fun h => (by cases h), fun h => (by cases h), fun _ _ h => (by cases h)⟩
theorem MvC.call (h : MvC V b0 z m0 L x w) (hb : Below w.heap.size w w') : MvC V b0 z m0 L x w' :=
  ⟨h.bel.trans (hb.mono h.bel.size), fun e => (by obtain ⟨a, b, c, d, f, g, e1, e2⟩ := h.c0 e; exact ⟨a, b, c, d, f, g, e1, e2.below hb (Nat.le_refl _)⟩),
    fun e => (by obtain ⟨B, e1, e2⟩ := h.c1 e; exact ⟨B, e1, blk_below hb e2⟩), h.c2, h.c3, fun e => (by obtain ⟨B, e1, e2⟩ := h.c4 e; exact ⟨B, e1, blk_below hb e2⟩), fun e => (by obtain ⟨B, e1, e2⟩ := h.c5 e; exact ⟨B, e1, blk_below hb e2⟩),
    fun e => (by obtain ⟨a, b, c, d, e1, e2⟩ := h.c6 e; exact ⟨a, b, c, d, e1, e2.below hb⟩), h.o⟩
theorem MvR.far {aS : Option Addr} {cS M cM i : Nat} {y : Value} (h : MvR aS cS M cM L x) (hi : i < 6) : MvR aS cS M cM (updF L i true) (updF x i y) := by
  have e : ∀ j, 6 ≤ j → (updF L i true) j = L j ∧ (updF x i y) j = x j := fun j hj => by
    have : ¬ j = i := by omega
    exact ⟨by rw [updF, if_neg this], by rw [updF, if_neg this]⟩
  refine ⟨?_, ?_, ?_, ?_, ?_, ?_, ?_, ?_⟩
  · rw [(e 6 (by omega)).2]; exact h.h6
  · rw [(e 7 (by omega)).1, (e 7 (by omega)).2]; exact h.h7
  · rw [(e 8 (by omega)).1, (e 8 (by omega)).2]; exact h.h8
  · rw [(e 9 (by omega)).1, (e 9 (by omega)).2]; exact h.h9
  · rw [(e 10 (by omega)).1, (e 10 (by omega)).2]; exact h.h10
  · rw [(e 11 (by omega)).1, (e 11 (by omega)).2]; exact h.h11
  · rw [(e 12 (by omega)).1, (e 12 (by omega)).2]; exact h.h12
  · rw [(e 13 (by omega)).1, (e 13 (by omega)).2]; exact h.h13
theorem MvC.c6far {i : Nat} {y : Value} (h : MvC V b0 z m0 L x w) (hi : i < 6) : (updF L i true) 6 = true → ∃ aS cS M cM, MvR aS cS M cM (updF L i true) (updF x i y) ∧ MvP z m0 aS M w := fun e => by
  rw [updF, if_neg (by omega)] at e
  obtain ⟨a, b, c, d, e1, e2⟩ := h.c6 e
  exact ⟨a, b, c, d, e1.far hi, e2⟩
theorem MvC.ofar {i : Nat} (h : MvC V b0 z m0 L x w) (hi : i < 6) : ∀ j, 7 ≤ j → (updF L i true) j = true → (updF L i true) 6 = true := fun j hj e => by
  rw [updF, if_neg (by omega)] at e ⊢
  exact h.o j hj e
theorem MvC.u0 {y : Value} (h : MvC V b0 z m0 L x w) (hy : ∃ oA sA oB sB gA rA, y = (pairS oA sA oB sB gA rA).val ∧ (pairS oA sA oB sB gA rA).Ok w) : MvC V b0 z m0 (updF L 0 true) (updF x 0 y) w :=
  ⟨h.bel, fun _ => hy, h.c1, h.c2, h.c3, h.c4, h.c5, h.c6far (by omega), h.ofar (by omega)⟩
theorem MvC.u1 {y : Value} (h : MvC V b0 z m0 L x w) (hy : ∃ B : Nat, y = .slice (some ⟨B, 0, none⟩) 2 2 ∧ w.heap[B]? = some (.cells #[.int .i64 0, .int .i64 0, .bool false, .int .i64 0, .int .i64 0, .bool false] 43 (0, 0))) : MvC V b0 z m0 (updF L 1 true) (updF x 1 y) w :=
  ⟨h.bel, h.c0, fun _ => hy, h.c2, h.c3, h.c4, h.c5, h.c6far (by omega), h.ofar (by omega)⟩
theorem MvC.u2 {y : Value} (h : MvC V b0 z m0 L x w) (hy : y = knStep) : MvC V b0 z m0 (updF L 2 true) (updF x 2 y) w :=
  ⟨h.bel, h.c0, h.c1, fun _ => hy, h.c3, h.c4, h.c5, h.c6far (by omega), h.ofar (by omega)⟩
theorem MvC.u3 {y : Value} (h : MvC V b0 z m0 L x w) (hy : y = knStep) : MvC V b0 z m0 (updF L 3 true) (updF x 3 y) w :=
  ⟨h.bel, h.c0, h.c1, h.c2, fun _ => hy, h.c4, h.c5, h.c6far (by omega), h.ofar (by omega)⟩
theorem MvC.u4 {y : Value} (h : MvC V b0 z m0 L x w) (hy : ∃ B : Nat, y = .slice (some ⟨B, 0, none⟩) 2 2 ∧ w.heap[B]? = some (.cells #[.int .i64 1, .bool false, .int .i64 3000, .int .i64 1000, .int .i64 1, .bool false, .int .i64 3000, .int .i64 1000] 45 (0, 0))) : MvC V b0 z m0 (updF L 4 true) (updF x 4 y) w :=
  ⟨h.bel, h.c0, h.c1, h.c2, h.c3, fun _ => hy, h.c5, h.c6far (by omega), h.ofar (by omega)⟩
theorem MvC.u5 {y : Value} (h : MvC V b0 z m0 L x w) (hy : ∃ B : Nat, y = .slice (some ⟨B, 0, none⟩) 2 2 ∧ w.heap[B]? = some (.cells #[.bool b0, .bool false] 4 (0, 0))) : MvC V b0 z m0 (updF L 5 true) (updF x 5 y) w :=
  ⟨h.bel, h.c0, h.c1, h.c2, h.c3, h.c4, fun _ => hy, h.c6far (by omega), h.ofar (by omega)⟩
theorem MvC.u6 {aS : Option Addr} {cS M cM : Nat} (h : MvC V b0 z m0 L x w) (hL : L 6 = false) (hy : MvP z m0 aS M w) : MvC V b0 z m0 (updF L 6 true) (updF x 6 (knT aS cS M cM)) w := by
  have ho : ∀ j, 7 ≤ j → L j = false := fun j hj => by
    cases e : L j with
    | false => rfl
    | true => rw [h.o j hj e] at hL; cases hL
  have e : ∀ j, 7 ≤ j → (updF L 6 true) j = true → False := fun j hj e => by
    rw [updF, if_neg (by omega), ho j hj] at e
    cases e
  exact ⟨h.bel, h.c0, h.c1, h.c2, h.c3, h.c4, h.c5, fun _ => ⟨aS, cS, M, cM, ⟨rfl, fun q => (e 7 (by omega) q).elim, fun q => (e 8 (by omega) q).elim, fun q => (e 9 (by omega) q).elim, fun q => (e 10 (by omega) q).elim, fun q => (e 11 (by omega) q).elim, fun q => (e 12 (by omega) q).elim, fun q => (e 13 (by omega) q).elim⟩, hy⟩, fun j hj _ => rfl⟩
theorem MvC.uR {i : Nat} {y : Value} {aS : Option Addr} {cS M cM : Nat} (h : MvC V b0 z m0 L x w) (hi : 7 ≤ i) (h6 : L 6 = true) (hp : MvP z m0 aS M w) (r : MvR aS cS M cM (updF L i true) (updF x i y)) : MvC V b0 z m0 (updF L i true) (updF x i y) w := by
  have e : ∀ j, j < 7 → (updF L i true) j = L j ∧ (updF x i y) j = x j := fun j hj => by
    have : ¬ j = i := by omega
    exact ⟨by rw [updF, if_neg this], by rw [updF, if_neg this]⟩
  refine ⟨h.bel, ?_, ?_, ?_, ?_, ?_, ?_, fun _ => ⟨aS, cS, M, cM, r, hp⟩, fun j _ _ => ?_⟩
  · rw [(e 0 (by omega)).1, (e 0 (by omega)).2]; exact h.c0
  · rw [(e 1 (by omega)).1, (e 1 (by omega)).2]; exact h.c1
  · rw [(e 2 (by omega)).1, (e 2 (by omega)).2]; exact h.c2
  · rw [(e 3 (by omega)).1, (e 3 (by omega)).2]; exact h.c3
  · rw [(e 4 (by omega)).1, (e 4 (by omega)).2]; exact h.c4
  · rw [(e 5 (by omega)).1, (e 5 (by omega)).2]; exact h.c5
  · rw [(e 6 (by omega)).1]; exact h6
theorem MvR.u7 {aS : Option Addr} {cS M cM : Nat} (h : MvR aS cS M cM L x) : MvR aS cS M cM (updF L 7 true) (updF x 7 (knT aS cS M cM)) := ⟨h.h6, fun _ => rfl, h.h8, h.h9, h.h10, h.h11, h.h12, h.h13⟩
theorem MvR.u8 {aS : Option Addr} {cS M cM : Nat} (h : MvR aS cS M cM L x) : MvR aS cS M cM (updF L 8 true) (updF x 8 (.slice aS 2 cS)) := ⟨h.h6, h.h7, fun _ => rfl, h.h9, h.h10, h.h11, h.h12, h.h13⟩
theorem MvR.u9 {aS : Option Addr} {cS M cM : Nat} (h : MvR aS cS M cM L x) : MvR aS cS M cM (updF L 9 true) (updF x 9 (.slice (some ⟨M, 0, none⟩) 2 cM)) := ⟨h.h6, h.h7, h.h8, fun _ => rfl, h.h10, h.h11, h.h12, h.h13⟩
theorem MvR.u10 {aS : Option Addr} {cS M cM : Nat} (h : MvR aS cS M cM L x) : MvR aS cS M cM (updF L 10 true) (updF x 10 (.int .i64 0)) := ⟨h.h6, h.h7, h.h8, h.h9, fun _ => rfl, h.h11, h.h12, h.h13⟩
theorem MvR.u11 {aS : Option Addr} {cS M cM : Nat} (h : MvR aS cS M cM L x) : MvR aS cS M cM (updF L 11 true) (updF x 11 (.slice aS 2 cS)) := ⟨h.h6, h.h7, h.h8, h.h9, h.h10, fun _ => rfl, h.h12, h.h13⟩
theorem MvR.u12 {aS : Option Addr} {cS M cM : Nat} (h : MvR aS cS M cM L x) : MvR aS cS M cM (updF L 12 true) (updF x 12 (.slice (some ⟨M, 0, none⟩) 2 cM)) := ⟨h.h6, h.h7, h.h8, h.h9, h.h10, h.h11, fun _ => rfl, h.h13⟩
theorem MvR.u13 {aS : Option Addr} {cS M cM : Nat} (h : MvR aS cS M cM L x) : MvR aS cS M cM (updF L 13 true) (updF x 13 (.int .i64 0)) := ⟨h.h6, h.h7, h.h8, h.h9, h.h10, h.h11, h.h12, fun _ => rfl⟩
end
end Go.Proofs.Ythalanpmfhhhnaa
