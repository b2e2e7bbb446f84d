/-
  The contract of Awake: the calls whose answers are told.
-/
import Derived.Test.YthalanpmfhhhnaaPr
import Derived.Test.YthalanpmfhhhnaaDe
import Derived.Test.YthalanpmfhhhnaaWb
namespace Go.Proofs.Ythalanpmfhhhnaa
open Go.RowKit
set_option linter.unusedSimpArgs false
set_option linter.unusedVariables false

theorem SetV.Ok.alloc {s : SetV} {W : World} (h : s.Ok W) (o : Obj) : s.Ok (W.alloc o) := h.below ((Below.refl _ _).alloc (Nat.le_refl _) o) (Nat.le_refl _)
theorem SetV.Ok.drew {s : SetV} {W : World} (h : s.Ok W) : s.Ok W.drew := h.below (Below.refl _ _).drew (Nat.le_refl _)
theorem run_mk_st2 (W : World) : (Instr.makeSlice 36 (.int .i64 2) (.int .i64 2)).run Try.prog W = .ok (.slice (some ⟨W.heap.size, 0, none⟩) 2 2) (W.alloc (.cells #[.int .i64 0, .int .i64 0, .bool false, .int .i64 0, .int .i64 0, .bool false] 43)) := by
  obtain ⟨i, hi, hz, hs, hb⟩ := info_parts A.stInfo
  have h := run_make (P := Try.prog) W 36 43 i _ Try.underlying36 hi hz .i64 .i64 2 2 (by omega) (by omega) (by rw [hb]; omega) (by omega)
  have hm : madeCells (Value.agg #[.int .i64 0, .int .i64 0, .bool false]).cells (Int.toNat 2 * 3) = #[.int .i64 0, .int .i64 0, .bool false, .int .i64 0, .int .i64 0, .bool false] := by kernel_rfl
  rw [h, hs, hm]
  rfl
theorem sts2 {W : World} {B : Nat} (h : W.heap[B]? = some (.cells #[.int .i64 0, .int .i64 0, .bool false, .int .i64 0, .int .i64 0, .bool false] 43 (0, 0))) : StsAt W (some ⟨B, 0, none⟩) [⟨0, 0, false⟩, ⟨0, 0, false⟩] := by
  have c := fun k => cell_of_row W B k _ _ _ h
  refine ⟨by simp [maxLen], .inr ⟨B, 0, rfl, (Array.getElem?_eq_some_iff.1 h).1, fun k hk => ?_⟩⟩
  match k, hk with
  | 0, _ => exact ⟨(c 0).trans rfl, (c 1).trans rfl, (c 2).trans rfl⟩
  | 1, _ => exact ⟨(c 3).trans rfl, (c 4).trans rfl, (c 5).trans rfl⟩
theorem falls_ex {w : World} {g : GateV} {p q : Nat} (hg : g = exG east (some ⟨p, 0, none⟩) (some ⟨q, 0, none⟩)) (hok : g.Ok w) :
    Calls Try.prog 33 #[g.val, .int .i64 9000, .int .i64 8000] w fun e w' => e = .returned (.tuple #[.int .i64 891, .int .i64 0]) ∧ Below w.heap.size w w' := by
  subst hg
  have h := falls_any _ 9000 8000 w hok
  rw [ev_falls] at h
  exact h
theorem step_ex {w : World} {g : GateV} {p q : Nat} (hg : g = exG east (some ⟨p, 0, none⟩) (some ⟨q, 0, none⟩)) (hok : g.Ok w) :
    Calls Try.prog 27 #[g.val, .agg #[.int .i64 100, .int .i64 100, .bool false], .agg #[.int .i64 2, .bool true, .int .i64 3000, .int .i64 1000]] w fun e w' => e = .returned (.tuple #[.agg #[.int .i64 75, .int .i64 105, .bool false], .agg #[.int .i64 0, .int .i64 (-25), .int .i64 25], .int .i64 0]) ∧ Below w.heap.size w w' := by
  subst hg
  have h := step_any _ ⟨100, 100, false⟩ ⟨2, true, 3000, 1000⟩ w hok
  rw [ev_step] at h
  exact h
theorem delay_ex {w : World} {oA sA oB sB gA rA : Option Addr} {B : Nat} (hok : (pairS oA sA oB sB gA rA).Ok w) (hs : w.heap[B]? = some (.cells #[.int .i64 0, .int .i64 0, .bool false, .int .i64 0, .int .i64 0, .bool false] 43 (0, 0))) :
    Calls Try.prog 25 #[(pairS oA sA oB sB gA rA).val, .slice (some ⟨B, 0, none⟩) 2 2, .int .i64 3000, .int .i64 1000, .bool false] w fun e w' => e = .returned (.tuple #[.int .i64 5, .int .i64 0]) ∧ Below w.heap.size w w' := by
  have h := delay_any _ (some ⟨B, 0, none⟩) 2 [⟨0, 0, false⟩, ⟨0, 0, false⟩] 3000 1000 false w hok (sts2 hs)
  rw [ev_delay] at h
  exact h
theorem where_ex {w : World} {g : GateV} {p q : Nat} (hg : g = exG east (some ⟨p, 0, none⟩) (some ⟨q, 0, none⟩)) (hok : g.Ok w) :
    Calls Try.prog 29 #[g.val, .slice none 0 0] w fun e w' => e = .returned (.tuple #[.agg #[.int .i64 0, .int .i64 0], .int .i64 2]) ∧ Below w.heap.size w w' := by
  subst hg
  have h := where_bad _ none 0 0 w hok (by simp) (.inr (by simp [exG]))
  rw [whereBad, ev_check] at h
  exact h

set_option maxRecDepth 100000 in
set_option maxHeartbeats 4000000 in
theorem awake_any (w : World) : Calls Try.prog 24 #[] w fun e w' => e = .returned (.bool true) ∧ Below w.heap.size w w' := by
  go_enter Try.func24, Try.ntmps24
  go_upto_region 2 with (first
    | (go_at_call 48; refine (ex_any2 _).mono ?_; rintro e w1 ⟨g1, p1, q1, ⟨hg1, _, _⟩, rfl, ok1, hb1⟩; have Hg1 := Lib.hid hg1; have Ok1 := Lib.hid ok1; have Hb1 := Lib.hid hb1; clear hg1 ok1 hb1)
    | (go_at_call 33; refine (falls_ex Hg1.out Ok1.out).mono ?_; rintro e w2 ⟨rfl, hb2⟩; have B2 := Lib.hid (Hb1.out.trans (hb2.mono Hb1.out.size)); clear hb2))
  go_upto_region 3 with (first
    | (go_at_call 48; refine (ex_any2 _).mono ?_; rintro e w3 ⟨g3, p3, q3, ⟨hg3, _, _⟩, rfl, ok3, hb3⟩; have Hg3 := Lib.hid hg3; have Ok3 := Lib.hid ok3; have Hb3 := Lib.hid (B2.out.trans (hb3.mono B2.out.size)); clear hg3 ok3 hb3)
    | (go_at_call 27; refine (step_ex Hg3.out Ok3.out).mono ?_; rintro e w4 ⟨rfl, hb4⟩; have B4 := Lib.hid (Hb3.out.trans (hb4.mono Hb3.out.size)); clear hb4))
  obtain ⟨W5, hW5⟩ : ∃ W5, W5 = (w4.alloc (.cells #[.int .i64 75, .int .i64 105, .bool false] 43)).alloc (.cells #[.int .i64 0, .int .i64 (-25), .int .i64 25] 47) := ⟨_, rfl⟩
  have hs5 : W5.heap[w4.heap.size]? = some (.cells #[.int .i64 75, .int .i64 105, .bool false] 43 (0, 0)) := by rw [hW5]; exact blk_old (blk_new rfl)
  have hm5 : W5.heap[w4.heap.size + 1]? = some (.cells #[.int .i64 0, .int .i64 (-25), .int .i64 25] 47 (0, 0)) := by rw [hW5]; exact blk_new (by simp)
  have hb5 : Below w.heap.size w W5 := by
    rw [hW5]
    exact (B4.out.alloc B4.out.size _).alloc (by have := B4.out.size; simp; omega) _
  rw [← hW5]
  have Hs5 := Lib.hid hs5
  have Hm5 := Lib.hid hm5
  have B5 := Lib.hid hb5
  have T0 := TgS.new W5
  have hmk := run_mk_st2
  clear hW5 hs5 hm5 hb5
  go_region_held3 (fun W => TgS W5 W)
    (first | ((repeat (first | (with_reducible exact T0) | (with_reducible exact tP) | (with_reducible assumption) | (with_reducible refine TgS.drew ?_) | (with_reducible refine TgS.alloc ?_ _))); done))
    (first
      | (go_at_call 49; refine (pair_any _).mono ?_; rintro e w6 ⟨oA, sA, oB, sB, gA, rA, rfl, okP, hbP⟩; have tP := TgS.call (by (repeat (first | (with_reducible exact T0) | (with_reducible exact tP) | (with_reducible assumption) | (with_reducible refine TgS.drew ?_) | (with_reducible refine TgS.alloc ?_ _)))) hbP)
      | (go_at_call 25; refine (delay_ex (by (repeat (first | (with_reducible exact okP) | (with_reducible refine SetV.Ok.alloc ?_ _) | (with_reducible refine SetV.Ok.drew ?_)))) (by (repeat (first | ((with_reducible refine blk_new ?_); simp; done) | (with_reducible refine blk_drew ?_) | (with_reducible refine blk_old ?_) | (with_reducible refine blk_below hbP ?_))))).mono ?_; rintro e w7 ⟨rfl, hb7⟩; have tD := TgS.call (by (repeat (first | (with_reducible exact T0) | (with_reducible exact tP) | (with_reducible assumption) | (with_reducible refine TgS.drew ?_) | (with_reducible refine TgS.alloc ?_ _)))) hb7; have T7 := Lib.hid tD))
  all_goals
    have B7 := Lib.hid (B5.out.trans (T7.out.below.mono B5.out.size))
    have s7 := blk_below T7.out.below Hs5.out
    have m7 := blk_below T7.out.below Hm5.out
    have Hs7 := Lib.hid s7
    have Hm7 := Lib.hid m7
    clear s7 m7 tD hb7 tP hbP okP hmk T0
    go_wp2_with (first
      | (go_at_call 48; refine (ex_any2 _).mono ?_; rintro e w8 ⟨g8, p8, q8, ⟨hg8, _, _⟩, rfl, ok8, hb8⟩; have Hg8 := Lib.hid hg8; have Ok8 := Lib.hid ok8; have Hb8 := Lib.hid hb8; clear hg8 ok8 hb8)
      | (go_at_call 29; refine (where_ex Hg8.out Ok8.out).mono ?_; rintro e w9 ⟨rfl, hb9⟩; have s9 := blk_below hb9 (blk_below Hb8.out Hs7.out); have m9 := blk_below hb9 (blk_below Hb8.out Hm7.out); have a0 := (cell_of_row _ _ 0 _ _ _ s9).trans rfl; have a1 := (cell_of_row _ _ 1 _ _ _ s9).trans rfl; have a2 := (cell_of_row _ _ 2 _ _ _ s9).trans rfl; have c0 := (cell_of_row _ _ 0 _ _ _ m9).trans rfl; have c1 := (cell_of_row _ _ 1 _ _ _ m9).trans rfl; have c2 := (cell_of_row _ _ 2 _ _ _ m9).trans rfl; have l1 := (Array.getElem?_eq_some_iff.1 s9).1; have l2 := (Array.getElem?_eq_some_iff.1 m9).1; have B9 := Lib.hid ((B7.out.trans (Hb8.out.mono B7.out.size)).trans (hb9.mono (Nat.le_trans B7.out.size Hb8.out.size))); clear s9 m9 hb9))
    go_ret
    exact ⟨rfl, B9.out.alloc B9.out.size _⟩
end Go.Proofs.Ythalanpmfhhhnaa
