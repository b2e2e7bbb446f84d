/-
  Contracts of the leaves of the gate chapter: what each small function returns.
-/
import Derived.Test.YthalanpmfhhhnaaNm
namespace Go.Proofs.Ythalanpmfhhhnaa
open Go.RowKit
set_option linter.unusedSimpArgs false
set_option linter.unusedVariables false

theorem ret_int {a b : Int} (h : a = b) : Ending.returned (.int .i64 a) = Ending.returned (.int .i64 b) := by rw [h]

theorem out_any (n lo hi : Int) (w : World) :
    Calls Try.prog 50 #[.int .i64 n, .int .i64 lo, .int .i64 hi] w fun e w' => e = .returned (.bool (outB n lo hi)) ∧ w = w' := by
  by_cases h1 : n < lo
  all_goals
    go_enter Try.func50, Try.ntmps50
    go_wp2
    go_ret
    refine ⟨ret_bool ?_, rfl⟩
    first
      | (have h2 : ¬ n < lo := by omega
         simp [outB, h2])
      | simp [outB, h1]

theorem dry_any (n : Int) (w : World) :
    Calls Try.prog 63 #[.int .i64 n] w fun e w' => e = .returned (.bool (outB n (-20000) 20000)) ∧ w = w' := by
  go_enter Try.func63, Try.ntmps63
  go_wp2_with (go_at_call 50; refine (out_any _ _ _ _).mono ?_; rintro e w' ⟨rfl, rfl⟩)
  go_ret
  exact ⟨rfl, rfl⟩

/-- The first index at which p holds; -1. -/
def idxZ (p : Int → Bool) : List Int → Int → Int
  | [], _ => -1
  | x :: l, k => if p x then k else idxZ p l (k + 1)
theorem idxZ_nonneg (p : Int → Bool) : ∀ (l : List Int) (k : Int), 0 ≤ k → decide (0 ≤ idxZ p l k) = l.any p
  | [], _, _ => rfl
  | x :: l, k, h => by
    by_cases hx : p x = true
    · simp [idxZ, hx, h]
    · simp only [idxZ, hx, List.any_cons, Bool.false_or, if_false, Bool.false_eq_true]
      exact idxZ_nonneg p l (k + 1) (by omega)

theorem beyond1_any (n most : Int) (B : Nat) (w : World) (hc : w.cell? ⟨B, 0, none⟩ = some (.int .i64 most)) :
    Calls Try.prog 95 #[.int .i64 n, .pointer (some ⟨B, 0, none⟩)] w fun e w' => e = .returned (.bool (outB n 0 most)) ∧ w = w' := by
  go_enter Try.func95, Try.ntmps95
  go_wp2_with (go_at_call 50; refine (out_any _ _ _ _).mono ?_; rintro e w' ⟨rfl, rfl⟩)
  go_ret
  exact ⟨rfl, rfl⟩

theorem drop_step {α : Type} {l : List α} {k : Nat} (h : k < l.length) : l.drop k = l[k] :: l.drop (k + 1) := List.drop_eq_getElem_cons h

set_option maxHeartbeats 400000 in
theorem index_any (most : Int) (B : Nat) (a : Option Addr) (l : List Int) (c : Nat) (w : World) (hl : IntsAt w a l) (hc : w.cell? ⟨B, 0, none⟩ = some (.int .i64 most)) :
    Calls Try.prog 108 #[.slice a l.length c, .func (.func 95) #[] #[.pointer (some ⟨B, 0, none⟩)]] w fun e w' => e = .returned (.int .i64 (idxZ (outB · 0 most) l 0)) ∧ w = w' := by
  obtain ⟨hm, hl⟩ := hl
  unfold maxLen at hm
  go_enter Try.func108, Try.ntmps108
  go_wp2
  go_loop [8] (fun i => ∃ k : Nat, k ≤ l.length ∧ i = .int .i64 k ∧ idxZ (outB · 0 most) (l.drop k) k = idxZ (outB · 0 most) l 0) (fun i => l.length - (intOf i).toNat)
  case atStart => exact ⟨0, Nat.zero_le _, rfl, rfl⟩
  case round =>
    obtain ⟨k, hk, rfl, hix⟩ := hrel
    have Hix := Lib.hid hix
    clear hix
    by_cases hlt : k < l.length
    · rcases hl with hl | ⟨b, off, rfl, hb, hl⟩
      · rw [hl] at hlt; exact absurd hlt (by simp)
      · have hck := hl k hlt
        have hs := drop_step hlt
        have Hs := Lib.hid hs
        clear hs hl
        by_cases ho : outB l[k] 0 most = true
        all_goals
          go_wp2_with (go_at_call 95; refine (beyond1_any _ _ B _ hc).mono ?_; rintro e w' ⟨rfl, rfl⟩)
          first
            | (go_ret
               exact ⟨ret_int (by rw [← Hix.out, Hs.out, idxZ, if_pos ho]), rfl⟩)
            | (go_round
               case rel => exact ⟨k + 1, by omega, by go_num, by rw [← Hix.out, Hs.out, idxZ, if_neg ho]; rfl⟩
               case measure => simp [intOf]; omega)
    · have hn : l.drop k = [] := List.drop_eq_nil_of_le (by omega)
      have Hn := Lib.hid hn
      clear hn hl
      go_wp2
      go_ret
      exact ⟨ret_int (by rw [← Hix.out, Hn.out]; rfl), rfl⟩

theorem contains_any (most : Int) (B : Nat) (a : Option Addr) (l : List Int) (c : Nat) (w : World) (hl : IntsAt w a l) (hc : w.cell? ⟨B, 0, none⟩ = some (.int .i64 most)) :
    Calls Try.prog 94 #[.slice a l.length c, .func (.func 95) #[] #[.pointer (some ⟨B, 0, none⟩)]] w fun e w' => e = .returned (.bool (l.any (outB · 0 most))) ∧ w = w' := by
  have hp := idxZ_nonneg (outB · 0 most) l 0 (by omega)
  have Hp := Lib.hid hp
  clear hp
  go_enter Try.func94, Try.ntmps94
  go_wp2_with (go_at_call 108; refine (index_any most B a l c _ hl hc).mono ?_; rintro e w' ⟨rfl, rfl⟩)
  go_ret
  exact ⟨ret_bool Hp.out, rfl⟩

/-- One of some numbers is not from 0 to a limit. -/
def anyB (most : Int) (l : List Int) : Bool := l.any (outB · 0 most)

theorem beyond_any (most : Int) (a : Option Addr) (l : List Int) (c : Nat) (w : World) (hl : IntsAt w a l) :
    Calls Try.prog 53 #[.int .i64 most, .slice a l.length c] w fun e w' => e = .returned (.bool (anyB most l)) ∧ Below w.heap.size w w' := by
  have hl' := fun W (hb : Below w.heap.size w W) => hl.below hb (Nat.le_refl _)
  have Hl := Lib.hid hl'
  clear hl' hl
  go_enter Try.func53, Try.ntmps53
  go_wp2_with (go_at_call 94; refine (contains_any most w.heap.size a l c _ (Hl.out _ ((Below.refl _ _).alloc (Nat.le_refl _) _)) (by simp [go_sem])).mono ?_; rintro e w' ⟨rfl, rfl⟩)
  go_ret
  exact ⟨rfl, (Below.refl _ _).alloc (Nat.le_refl _) _⟩

/-- The error of an own force. -/
def forceE (kind n : Int) : Int :=
  if outB n (-200000) 200000 then 7 else if (n ≠ 0 ∧ kind = 1) ∨ (n < 0 ∧ kind = 2) ∨ (0 < n ∧ kind = 3) then 2 else 0

set_option maxHeartbeats 400000 in
theorem force_any (kind n : Int) (w : World) :
    Calls Try.prog 61 #[.int .i64 kind, .int .i64 n] w fun e w' => e = .returned (.int .i64 (forceE kind n)) ∧ w = w' := by
  by_cases h1 : outB n (-200000) 200000 = true
  · have hf : forceE kind n = 7 := by rw [forceE, if_pos h1]
    have Hf := Lib.hid hf
    clear hf
    go_enter Try.func61, Try.ntmps61
    go_wp2_with (go_at_call 50; refine (out_any _ _ _ _).mono ?_; rintro e w' ⟨rfl, rfl⟩)
    go_ret
    exact ⟨ret_int Hf.out.symm, rfl⟩
  · have hf : forceE kind n = if (n ≠ 0 ∧ kind = 1) ∨ (n < 0 ∧ kind = 2) ∨ (0 < n ∧ kind = 3) then 2 else 0 := by rw [forceE, if_neg h1]
    have Hf := Lib.hid hf
    clear hf
    have hk : kind = 1 ∨ kind = 2 ∨ kind = 3 ∨ ((kind == 1) = false ∧ (kind == 2) = false ∧ (kind == 3) = false) := by simp; omega
    have hn : n < 0 ∨ n = 0 ∨ 0 < n := by omega
    rcases hk with rfl | rfl | rfl | ⟨k1, k2, k3⟩ <;> rcases hn with hn | rfl | hn
    all_goals
      go_enter Try.func61, Try.ntmps61
      go_wp2_with (go_at_call 50; refine (out_any _ _ _ _).mono ?_; rintro e w' ⟨rfl, rfl⟩)
      go_ret
      refine ⟨ret_int ?_, rfl⟩
      rw [Hf.out]
      first
        | (simp at *; done)
        | (simp at *; omega)

/-- The error of a sensor. -/
def sensorE (s : Sen) : Int :=
  if s.kind ≠ 2 ∧ (s.kind ≠ 1 ∨ s.at_ ≠ 0) then 2 else if anyB 5000 [s.at_, s.tol] then 7 else 0

theorem ints_new2 (w : World) (x y : Int) (t : TypeId) : IntsAt (w.alloc (.cells #[.int .i64 x, .int .i64 y] t)) (some ⟨w.heap.size, 0, none⟩) [x, y] :=
  ⟨by simp [maxLen], .inr ⟨w.heap.size, 0, rfl, by simp, fun k hk => by
    match k, hk with
    | 0, _ => simp [go_sem]
    | 1, _ => simp [go_sem]⟩⟩
theorem ints_new1 (w : World) (x : Int) (t : TypeId) : IntsAt (w.alloc (.cells #[.int .i64 x] t)) (some ⟨w.heap.size, 0, none⟩) [x] :=
  ⟨by simp [maxLen], .inr ⟨w.heap.size, 0, rfl, by simp, fun k hk => by
    match k, hk with
    | 0, _ => simp [go_sem]⟩⟩

set_option maxHeartbeats 400000 in
theorem sensor_any (s : Sen) (w : World) :
    Calls Try.prog 68 #[s.val] w fun e w' => e = .returned (.int .i64 (sensorE s)) ∧ Below w.heap.size w w' := by
  by_cases hb : anyB 5000 [s.at_, s.tol] = true
  all_goals
    have hs : sensorE s = if s.kind ≠ 2 ∧ (s.kind ≠ 1 ∨ s.at_ ≠ 0) then 2 else if anyB 5000 [s.at_, s.tol] then 7 else 0 := rfl
    simp only [hb, if_true, if_false, Bool.false_eq_true] at hs
    have Hs := Lib.hid hs
    clear hs
    go_enter Try.func68, Try.ntmps68
    go_wp2_with (go_at_call 53; refine (beyond_any _ _ [s.at_, s.tol] _ _ (by simpa using ints_new2 (w.alloc (.cells s.cells 103)) s.at_ s.tol 3)).mono ?_; rintro e w' ⟨rfl, hbl⟩)
    all_goals
      go_ret
      refine ⟨ret_int ?_, ?_⟩
      · rw [Hs.out]
        simp at *
        first | done | omega
      · first
          | exact (Below.refl _ _).alloc (Nat.le_refl _) _
          | exact (((Below.refl _ _).alloc (Nat.le_refl _) _).alloc (by simp) _).trans (hbl.mono (by simp; omega))
end Go.Proofs.Ythalanpmfhhhnaa
