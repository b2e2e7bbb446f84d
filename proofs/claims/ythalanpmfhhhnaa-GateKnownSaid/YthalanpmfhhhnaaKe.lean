/-
  The calls of GateKnown, each at its own arguments.
-/
import Derived.Test.YthalanpmfhhhnaaAw
import Derived.Test.YthalanpmfhhhnaaWh
import Derived.Test.YthalanpmfhhhnaaSb
import Derived.Test.YthalanpmfhhhnaaMz
import Derived.Test.YthalanpmfhhhnaaRo
namespace Go.Proofs.Ythalanpmfhhhnaa
open Go.RowKit
set_option linter.unusedSimpArgs false
set_option linter.unusedVariables false

theorem ev_force0 (oA sA : Option Addr) : forceZ (exG east oA sA) 0 3000 1000 = (600, 20, 0) := by kernel_rfl
theorem ev_force1 (oA sA : Option Addr) : forceZ (exG east oA sA) 1000 3000 1000 = (280, 70, 0) := by kernel_rfl
theorem ev_falls1 (oA sA : Option Addr) : fallsZ (exG east oA sA) 3000 1000 = (-1, 0) := by kernel_rfl
theorem ev_time (oA sA : Option Addr) : timeZ (exG east oA sA) ⟨0, 0, false⟩ 3000 1000 false = (25, 0) := by kernel_rfl
theorem ev_step1 (oA sA : Option Addr) : stepZ (exG east oA sA) ⟨0, 0, false⟩ ⟨1, false, 3000, 1000⟩ = (⟨40, 0, false⟩, ⟨0, 40, 0⟩, 0) := by kernel_rfl
theorem ev_step2 (oA sA : Option Addr) : stepZ (exG east oA sA) ⟨100, 10, false⟩ ⟨2, true, 3000, 1000⟩ = (⟨90, 30, false⟩, ⟨0, -10, 10⟩, 0) := by kernel_rfl
theorem ev_where0 (oA sA : Option Addr) : (whereLo (exG east oA sA) [500, 510, 0], whereHi (exG east oA sA) [500, 510, 0], whereE (exG east oA sA) [500, 510, 0], sureV (exG east oA sA) [500, 510, 0]) = (490, 520, 0, 0) := by kernel_rfl
theorem ev_where1 (oA sA : Option Addr) : (whereLo (exG east oA sA) [500, 900, 0], whereHi (exG east oA sA) [500, 900, 0], whereE (exG east oA sA) [500, 900, 0], sureV (exG east oA sA) [500, 900, 0]) = (490, 910, 0, 0) := by kernel_rfl
theorem ev_where2 (oA sA : Option Addr) : (whereLo (exG east oA sA) [1000, 990, 1], whereHi (exG east oA sA) [1000, 990, 1], whereE (exG east oA sA) [1000, 990, 1], sureV (exG east oA sA) [1000, 990, 1]) = (990, 1000, 0, 2) := by kernel_rfl
theorem ev_move (oA sA oB sB gA rA : Option Addr) (b : Bool) : movE (pairS oA sA oB sB gA rA) [⟨0, 0, false⟩, ⟨0, 0, false⟩] [⟨1, false, 3000, 1000⟩, ⟨1, false, 3000, 1000⟩] [b, false] = 0 := by kernel_rfl
theorem ev_tog1 (oA sA oB sB gA rA : Option Addr) : (togAt (pairS oA sA oB sB gA rA).gates (pairS oA sA oB sB gA rA).rules [⟨0, 0, false⟩, ⟨0, 0, false⟩] [⟨1, false, 3000, 1000⟩, ⟨1, false, 3000, 1000⟩] [false, false] 0, togAt (pairS oA sA oB sB gA rA).gates (pairS oA sA oB sB gA rA).rules [⟨0, 0, false⟩, ⟨0, 0, false⟩] [⟨1, false, 3000, 1000⟩, ⟨1, false, 3000, 1000⟩] [false, false] 1) = ((⟨40, 0, false⟩, ⟨0, 40, 0⟩), (⟨0, 0, false⟩, ⟨132, 0, 0⟩)) := by kernel_rfl
theorem ev_tog2 (oA sA oB sB gA rA : Option Addr) : (togAt (pairS oA sA oB sB gA rA).gates (pairS oA sA oB sB gA rA).rules [⟨0, 0, false⟩, ⟨0, 0, false⟩] [⟨1, false, 3000, 1000⟩, ⟨1, false, 3000, 1000⟩] [true, false] 0, togAt (pairS oA sA oB sB gA rA).gates (pairS oA sA oB sB gA rA).rules [⟨0, 0, false⟩, ⟨0, 0, false⟩] [⟨1, false, 3000, 1000⟩, ⟨1, false, 3000, 1000⟩] [true, false] 1) = ((⟨0, 0, false⟩, ⟨131, 0, 0⟩), (⟨0, 0, false⟩, ⟨132, 0, 0⟩)) := by kernel_rfl

/-- The gate of the examples lies in a box, with its lists. -/
structure KnW (w : World) (B : Nat) (g : GateV) (W : World) : Prop where
  below : Below w.heap.size w W
  gate : GateIn W B g
  ok : g.Ok W
  ex : ∃ p q, g = exG east (some ⟨p, 0, none⟩) (some ⟨q, 0, none⟩)
theorem KnW.call {w W W' : World} {B : Nat} {g : GateV} (h : KnW w B g W) (hb : Below W.heap.size W W') : KnW w B g W' :=
  ⟨h.below.trans (hb.mono h.below.size), h.gate.below hb (Nat.le_refl _), h.ok.below hb (Nat.le_refl _), h.ex⟩
theorem KnW.alloc {w W : World} {B : Nat} {g : GateV} (h : KnW w B g W) (o : Obj) : KnW w B g (W.alloc o) := h.call ((Below.refl _ _).alloc (Nat.le_refl _) o)

section
variable {w W : World} {B : Nat} {g : GateV} (h : KnW w B g W)
include h
theorem kn_force0 : Calls Try.prog 31 #[g.val, .int .i64 0, .int .i64 3000, .int .i64 1000] W fun e w' => e = .returned (.tuple #[.int .i64 600, .int .i64 20, .int .i64 0]) ∧ Below W.heap.size W w' := by
  obtain ⟨p, q, hg⟩ := h.ex
  have ok := h.ok
  subst hg
  have c := force_call _ 0 3000 1000 W ok
  rw [ev_force0] at c
  exact c
theorem kn_force1 : Calls Try.prog 31 #[g.val, .int .i64 1000, .int .i64 3000, .int .i64 1000] W fun e w' => e = .returned (.tuple #[.int .i64 280, .int .i64 70, .int .i64 0]) ∧ Below W.heap.size W w' := by
  obtain ⟨p, q, hg⟩ := h.ex
  have ok := h.ok
  subst hg
  have c := force_call _ 1000 3000 1000 W ok
  rw [ev_force1] at c
  exact c
theorem kn_falls : Calls Try.prog 33 #[g.val, .int .i64 3000, .int .i64 1000] W fun e w' => e = .returned (.tuple #[.int .i64 (-1), .int .i64 0]) ∧ Below W.heap.size W w' := by
  obtain ⟨p, q, hg⟩ := h.ex
  have ok := h.ok
  subst hg
  have c := falls_any _ 3000 1000 W ok
  rw [ev_falls1] at c
  exact c
theorem kn_time : Calls Try.prog 38 #[g.val, .agg #[.int .i64 0, .int .i64 0, .bool false], .int .i64 3000, .int .i64 1000, .bool false] W fun e w' => e = .returned (.tuple #[.int .i64 25, .int .i64 0]) ∧ Below W.heap.size W w' := by
  obtain ⟨p, q, hg⟩ := h.ex
  have ok := h.ok
  subst hg
  have c := time_any _ ⟨0, 0, false⟩ 3000 1000 false W ok
  rw [ev_time] at c
  exact c
theorem kn_step1 : Calls Try.prog 27 #[g.val, .agg #[.int .i64 0, .int .i64 0, .bool false], .agg #[.int .i64 1, .bool false, .int .i64 3000, .int .i64 1000]] W fun e w' => e = .returned (.tuple #[.agg #[.int .i64 40, .int .i64 0, .bool false], .agg #[.int .i64 0, .int .i64 40, .int .i64 0], .int .i64 0]) ∧ Below W.heap.size W w' := by
  obtain ⟨p, q, hg⟩ := h.ex
  have ok := h.ok
  subst hg
  have c := step_any _ ⟨0, 0, false⟩ ⟨1, false, 3000, 1000⟩ W ok
  rw [ev_step1] at c
  exact c
theorem kn_step2 : Calls Try.prog 27 #[g.val, .agg #[.int .i64 100, .int .i64 10, .bool false], .agg #[.int .i64 2, .bool true, .int .i64 3000, .int .i64 1000]] W fun e w' => e = .returned (.tuple #[.agg #[.int .i64 90, .int .i64 30, .bool false], .agg #[.int .i64 0, .int .i64 (-10), .int .i64 10], .int .i64 0]) ∧ Below W.heap.size W w' := by
  obtain ⟨p, q, hg⟩ := h.ex
  have ok := h.ok
  subst hg
  have c := step_any _ ⟨100, 10, false⟩ ⟨2, true, 3000, 1000⟩ W ok
  rw [ev_step2] at c
  exact c
end

/-- Three numbers in a block read as a list. -/
theorem ints3 {W : World} {B : Nat} {x y z : Int} {t : TypeId} (h : W.heap[B]? = some (.cells #[.int .i64 x, .int .i64 y, .int .i64 z] t (0, 0))) : IntsAt W (some ⟨B, 0, none⟩) [x, y, z] := by
  have c := fun k => cell_of_row W B k _ _ _ h
  refine ⟨by simp [maxLen], .inr ⟨B, 0, rfl, (Array.getElem?_eq_some_iff.1 h).1, fun k hk => ?_⟩⟩
  match k, hk with
  | 0, _ => exact (c 0).trans rfl
  | 1, _ => exact (c 1).trans rfl
  | 2, _ => exact (c 2).trans rfl
/-- The readings of example k, and what is told of them: low, high, end. -/
def knR (k : Nat) : List Int := match k with | 0 => [500, 510, 0] | 1 => [500, 900, 0] | _ => [1000, 990, 1]
theorem kn_where {w W : World} {B : Nat} {g : GateV} (h : KnW w B g W) (lo hi en : Int) (r0 r1 r2 : Int) (A : Nat) (hA : W.heap[A]? = some (.cells #[.int .i64 r0, .int .i64 r1, .int .i64 r2] 3 (0, 0)))
    (he : ∀ p q, (whereLo (exG east p q) [r0, r1, r2], whereHi (exG east p q) [r0, r1, r2], whereE (exG east p q) [r0, r1, r2], sureV (exG east p q) [r0, r1, r2]) = (lo, hi, 0, en)) :
    Calls Try.prog 29 #[g.val, .slice (some ⟨A, 0, none⟩) 3 3] W fun e w' => e = .returned (.tuple #[.agg #[.int .i64 lo, .int .i64 hi], .int .i64 0]) ∧ Below W.heap.size W w' := by
  obtain ⟨p, q, hg⟩ := h.ex
  have ok := h.ok
  subst hg
  have c := where_any _ (some ⟨A, 0, none⟩) 3 [r0, r1, r2] W ok (ints3 hA)
  have e := he (some ⟨p, 0, none⟩) (some ⟨q, 0, none⟩)
  simp only [Prod.mk.injEq] at e
  rw [e.1, e.2.1, e.2.2.1] at c
  exact c
theorem kn_sure {w W : World} {B : Nat} {g : GateV} (h : KnW w B g W) (lo hi en : Int) (r0 r1 r2 : Int) (A : Nat) (hA : W.heap[A]? = some (.cells #[.int .i64 r0, .int .i64 r1, .int .i64 r2] 3 (0, 0)))
    (he : ∀ p q, (whereLo (exG east p q) [r0, r1, r2], whereHi (exG east p q) [r0, r1, r2], whereE (exG east p q) [r0, r1, r2], sureV (exG east p q) [r0, r1, r2]) = (lo, hi, 0, en)) :
    Calls Try.prog 44 #[g.val, .slice (some ⟨A, 0, none⟩) 3 3] W fun e w' => e = .returned (.tuple #[.int .i64 en, .int .i64 0]) ∧ Below W.heap.size W w' := by
  obtain ⟨p, q, hg⟩ := h.ex
  have ok := h.ok
  subst hg
  have c := sure_any _ (some ⟨A, 0, none⟩) 3 [r0, r1, r2] W ok (ints3 hA)
  have e := he (some ⟨p, 0, none⟩) (some ⟨q, 0, none⟩)
  simp only [Prod.mk.injEq] at e
  rw [e.2.2.1, e.2.2.2] at c
  exact c
theorem stps2 {W : World} {B : Nat} (h : W.heap[B]? = some (.cells #[.int .i64 1, .bool false, .int .i64 3000, .int .i64 1000, .int .i64 1, .bool false, .int .i64 3000, .int .i64 1000] 45 (0, 0))) : StpsAt W (some ⟨B, 0, none⟩) [⟨1, false, 3000, 1000⟩, ⟨1, false, 3000, 1000⟩] := by
  have c := fun k => cell_of_row W B k _ _ _ h
  refine ⟨by simp [maxLen], .inr ⟨B, 0, rfl, (Array.getElem?_eq_some_iff.1 h).1, fun k hk => ?_⟩⟩
  match k, hk with
  | 0, _ => exact ⟨(c 0).trans rfl, (c 1).trans rfl, (c 2).trans rfl, (c 3).trans rfl⟩
  | 1, _ => exact ⟨(c 4).trans rfl, (c 5).trans rfl, (c 6).trans rfl, (c 7).trans rfl⟩
theorem bools2 {W : World} {B : Nat} {x y : Bool} {t : TypeId} (h : W.heap[B]? = some (.cells #[.bool x, .bool y] t (0, 0))) : BoolsAt W (some ⟨B, 0, none⟩) [x, y] := by
  have c := fun k => cell_of_row W B k _ _ _ h
  refine ⟨by simp [maxLen], .inr ⟨B, 0, rfl, (Array.getElem?_eq_some_iff.1 h).1, fun k hk => ?_⟩⟩
  match k, hk with
  | 0, _ => exact (c 0).trans rfl
  | 1, _ => exact (c 1).trans rfl
theorem kn_move {W : World} {oA sA oB sB gA rA : Option Addr} {B C D : Nat} {b : Bool} {z : St} {m : Mvd} {n : Int} (hok : (pairS oA sA oB sB gA rA).Ok W)
    (hs : W.heap[B]? = some (.cells #[.int .i64 0, .int .i64 0, .bool false, .int .i64 0, .int .i64 0, .bool false] 43 (0, 0)))
    (ht : W.heap[C]? = some (.cells #[.int .i64 1, .bool false, .int .i64 3000, .int .i64 1000, .int .i64 1, .bool false, .int .i64 3000, .int .i64 1000] 45 (0, 0)))
    (hb : W.heap[D]? = some (.cells #[.bool b, .bool false] 4 (0, 0)))
    (he : ∀ oA sA oB sB gA rA, (togAt (pairS oA sA oB sB gA rA).gates (pairS oA sA oB sB gA rA).rules [⟨0, 0, false⟩, ⟨0, 0, false⟩] [⟨1, false, 3000, 1000⟩, ⟨1, false, 3000, 1000⟩] [b, false] 0, togAt (pairS oA sA oB sB gA rA).gates (pairS oA sA oB sB gA rA).rules [⟨0, 0, false⟩, ⟨0, 0, false⟩] [⟨1, false, 3000, 1000⟩, ⟨1, false, 3000, 1000⟩] [b, false] 1) = ((z, m), (⟨0, 0, false⟩, ⟨n, 0, 0⟩))) :
    Calls Try.prog 35 #[(pairS oA sA oB sB gA rA).val, .slice (some ⟨B, 0, none⟩) 2 2, .slice (some ⟨C, 0, none⟩) 2 2, .slice (some ⟨D, 0, none⟩) 2 2] W fun e w' => ∃ aS cS M cM, (e = .returned (.tuple #[.slice aS 2 cS, .slice (some ⟨M, 0, none⟩) 2 cM, .int .i64 0]) ∧ StsAt w' aS [z, ⟨0, 0, false⟩] ∧ M < w'.heap.size ∧
      (w'.cell? ⟨M, 0, none⟩ = some (.int .i64 m.refused) ∧ w'.cell? ⟨M, 1, none⟩ = some (.int .i64 m.moved) ∧ w'.cell? ⟨M, 2, none⟩ = some (.int .i64 m.oil)) ∧ w'.cell? ⟨M, 3, none⟩ = some (.int .i64 n)) ∧ Below W.heap.size W w' := by
  have h := move_any _ (some ⟨B, 0, none⟩) (some ⟨C, 0, none⟩) (some ⟨D, 0, none⟩) 2 2 2 [⟨0, 0, false⟩, ⟨0, 0, false⟩] [⟨1, false, 3000, 1000⟩, ⟨1, false, 3000, 1000⟩] [b, false] W hok (sts2 hs) (stps2 ht) (bools2 hb)
  rw [ev_move] at h
  refine h.mono ?_
  rintro e w' ⟨vS, vM, rfl, hO⟩
  have e := he oA sA oB sB gA rA
  simp only [Prod.mk.injEq] at e
  obtain ⟨a, b2⟩ := hO.good (ev_move _ _ _ _ _ _ _)
  obtain ⟨aS, cS, rfl, o1⟩ := sts_of_row (by show 2 ≤ maxLen; unfold maxLen; omega) a
  obtain ⟨M, cM, rfl, hM, hlt⟩ := b2.form (by show 0 < 2; omega)
  refine ⟨aS, cS, M, cM, ⟨rfl, ?_, hlt, ?_⟩, hO.below⟩
  · have hl : stList (togAt (pairS oA sA oB sB gA rA).gates (pairS oA sA oB sB gA rA).rules [⟨0, 0, false⟩, ⟨0, 0, false⟩] [⟨1, false, 3000, 1000⟩, ⟨1, false, 3000, 1000⟩] [b, false]) 2 = [z, ⟨0, 0, false⟩] := by
      show [(togAt (pairS oA sA oB sB gA rA).gates (pairS oA sA oB sB gA rA).rules [⟨0, 0, false⟩, ⟨0, 0, false⟩] [⟨1, false, 3000, 1000⟩, ⟨1, false, 3000, 1000⟩] [b, false] 0).1, (togAt (pairS oA sA oB sB gA rA).gates (pairS oA sA oB sB gA rA).rules [⟨0, 0, false⟩, ⟨0, 0, false⟩] [⟨1, false, 3000, 1000⟩, ⟨1, false, 3000, 1000⟩] [b, false] 1).1] = _
      rw [e.1, e.2]
    rw [← hl]
    exact o1
  · have c := fun k r (hk : k < 2) (hr : r < 3) => (b2.cellAt (k * 3 + r) (by show k * 3 + r < 2 * 3; omega)).trans (mvRow_get _ 2 k r hk hr)
    have c0 := c 0 0 (by omega) (by omega)
    have c1 := c 0 1 (by omega) (by omega)
    have c2 := c 0 2 (by omega) (by omega)
    have c3 := c 1 0 (by omega) (by omega)
    rw [e.1] at c0 c1 c2
    rw [e.2] at c3
    exact ⟨⟨c0, c1, c2⟩, c3⟩
end Go.Proofs.Ythalanpmfhhhnaa
