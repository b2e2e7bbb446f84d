/-
  tide.Name: a name that is allowed.
-/
import Derived.Test.YtgfdindlihfidaaGreatRows
import Derived.Test.YtgfdindlihfidaaGreatPl
import Derived.WalkKit
import Derived.WalkSpells
import Derived.WalkLawsBesides
import Derived.Lib.Hide
import Derived.BigQuiet
import Derived.Deep.QuietTactic
namespace Go.Proofs.YtgfdindlihfidaaGreat
open Go.RowKit
set_option linter.unusedSimpArgs false
set_option linter.unusedVariables false
def outB (n lo hi : Int) : Bool := decide (n < lo) || decide (hi < n)

/-- The sign number c may stand at place i of a name. -/
def chB (i c : Nat) : Bool := (decide (97 ≤ c) && decide (c ≤ 122)) || (decide (0 < i) && (decide (c = 45) || (decide (48 ≤ c) && decide (c ≤ 57))))
/-- The first k signs are right. -/
def ChUpto (s : ByteArray) (k : Nat) : Prop := ∀ j, j < k → chB j (s.data.toList.getD j 0).toNat = true
/-- A text is a name. -/
def nameB (s : ByteArray) : Bool := decide (1 ≤ s.size) && decide (s.size ≤ 24) && (List.range s.size).all fun j => chB j (s.data.toList.getD j 0).toNat

theorem chUpto_succ {s : ByteArray} {k : Nat} (hk : k < s.size) (h : ChUpto s k) (hc : chB k s[k].toNat = true) : ChUpto s (k + 1) := by
  intro j hj
  by_cases e : j = k
  · subst e
    have : s.data.toList.getD j 0 = s[j] := by
      have h2 : j < s.data.toList.length := by simpa using hk
      rw [List.getD_eq_getElem?_getD, List.getElem?_eq_getElem h2]; rfl
    rw [this]; exact hc
  · exact h j (by omega)
theorem nameB_not {s : ByteArray} {k : Nat} (hk : k < s.size) (hc : chB k s[k].toNat = false) : nameB s = false := by
  have h2 : k < s.data.toList.length := by simpa using hk
  have h3 : s.data.toList.getD k 0 = s[k] := by rw [List.getD_eq_getElem?_getD, List.getElem?_eq_getElem h2]; rfl
  unfold nameB
  have : ((List.range s.size).all fun j => chB j (s.data.toList.getD j 0).toNat) = false := by
    rw [List.all_eq_false]
    exact ⟨k, by simpa using hk, by rw [h3, hc]; decide⟩
  rw [this]; simp
theorem nameB_all {s : ByteArray} (h : ChUpto s s.size) : nameB s = (decide (1 ≤ s.size) && decide (s.size ≤ 24)) := by
  unfold nameB
  have : ((List.range s.size).all fun j => chB j (s.data.toList.getD j 0).toNat) = true := by
    rw [List.all_eq_true]
    intro j hj
    exact h j (by simpa using hj)
  rw [this]; simp

theorem chB_true {k c : Nat} (h : (97 ≤ (c : Int) ∧ (c : Int) ≤ 122) ∨ (0 < k ∧ ((c : Int) = 45 ∨ (48 ≤ (c : Int) ∧ (c : Int) ≤ 57)))) : chB k c = true := by
  unfold chB
  simp
  omega
theorem chB_false {k c : Nat} (h : ¬ ((97 ≤ (c : Int) ∧ (c : Int) ≤ 122) ∨ (0 < k ∧ ((c : Int) = 45 ∨ (48 ≤ (c : Int) ∧ (c : Int) ≤ 57))))) : chB k c = false := by
  rw [Bool.eq_false_iff]
  intro h2
  unfold chB at h2
  simp at h2
  omega
theorem ret_bool {a b : Bool} (h : a = b) : Ending.returned (.bool a) = Ending.returned (.bool b) := by rw [h]

theorem isEmpty_size (s : ByteArray) : s.toList.isEmpty = decide (s.size = 0) := by
  have h : s.toList.length = s.size := by rw [ByteArray.toList_eq]; rfl
  rw [Bool.eq_iff_iff, List.isEmpty_iff, ← List.length_eq_zero_iff, h]
  simp

set_option maxHeartbeats 1000000 in
theorem name_any (s : ByteArray) (hs : s.size ≤ maxLen) (w : World) :
    Calls Tryz.prog 46 #[.string s] w fun e w' => e = .returned (.bool (nameB s)) ∧ w = w' := by
  unfold maxLen at hs
  go_enter Tryz.func46, Tryz.ntmps46
  go_wp2
  go_loop [7] (fun i => ∃ k : Nat, k ≤ s.size ∧ i = .int .i64 k ∧ ChUpto s k) (fun i => s.size - (intOf i).toNat)
  case atStart => exact ⟨0, Nat.zero_le _, rfl, fun j hj => absurd hj (by omega)⟩
  case round =>
    obtain ⟨k, hk, rfl, hup⟩ := hrel
    have Hup := Lib.hid hup
    clear hup
    by_cases hlt : k < s.size
    · rcases Nat.eq_zero_or_pos k with rfl | h0
      all_goals
        go_wp2
        all_goals first
          | (go_ret
             refine ⟨?_, rfl⟩
             exact ret_bool (nameB_not hlt (chB_false (by (try simp only [beq_iff_eq, beq_eq_false_iff_ne] at *); omega))).symm)
          | (go_round
             case rel => exact ⟨_, by omega, by go_num, chUpto_succ hlt Hup.out (chB_true (by (try simp only [beq_iff_eq, beq_eq_false_iff_ne] at *); omega))⟩
             case measure => simp [intOf]; omega)
    · obtain rfl : k = s.size := by omega
      have hall := nameB_all Hup.out
      have Hall := Lib.hid hall
      clear hall hk hlt Hup
      rcases Nat.eq_zero_or_pos s.size with hz | hz
      · have hz2 : s.toList.isEmpty = true := by rw [isEmpty_size]; exact decide_eq_true hz
        have Hz := Lib.hid hz
        clear hz
        go_wp2
        go_ret
        exact ⟨ret_bool (by rw [Hall.out, Hz.out]; rfl), rfl⟩
      · have hz2 : s.toList.isEmpty = false := by rw [isEmpty_size]; exact decide_eq_false (by omega)
        go_wp2
        go_ret
        exact ⟨ret_bool (by rw [Hall.out, decide_eq_true (by omega : 1 ≤ s.size)]; simp [decide_eq_decide]; omega), rfl⟩
end Go.Proofs.YtgfdindlihfidaaGreat

/-
  Contracts of the leaves of the gate chapter: what each small function returns.
-/
namespace Go.Proofs.YtgfdindlihfidaaGreat
open Go.RowKit
set_option linter.unusedSimpArgs false
set_option linter.unusedVariables false

theorem ret_int {a b : Int} (h : a = b) : Ending.returned (.int .i64 a) = Ending.returned (.int .i64 b) := by rw [h]

theorem out_any (n lo hi : Int) (w : World) :
    Calls Tryz.prog 22 #[.int .i64 n, .int .i64 lo, .int .i64 hi] w fun e w' => e = .returned (.bool (outB n lo hi)) ∧ w = w' := by
  by_cases h1 : n < lo
  all_goals
    go_enter Tryz.func22, Tryz.ntmps22
    go_wp2
    go_ret
    refine ⟨ret_bool ?_, rfl⟩
    first
      | (have h2 : ¬ n < lo := by omega
         simp [outB, h2])
      | simp [outB, h1]

theorem dry_any (n : Int) (w : World) :
    Calls Tryz.prog 51 #[.int .i64 n] w fun e w' => e = .returned (.bool (outB n (-20000) 20000)) ∧ w = w' := by
  go_enter Tryz.func51, Tryz.ntmps51
  go_wp2_with (go_at_call 22; refine (out_any _ _ _ _).mono ?_; rintro e w' ⟨rfl, rfl⟩)
  go_ret
  exact ⟨rfl, rfl⟩

/-- The first index at which p holds; -1. -/
def idxZ (p : Int → Bool) : List Int → Int → Int
  | [], _ => -1
  | x :: l, k => if p x then k else idxZ p l (k + 1)
theorem idxZ_nonneg (p : Int → Bool) : ∀ (l : List Int) (k : Int), 0 ≤ k → decide (0 ≤ idxZ p l k) = l.any p
  | [], _, _ => rfl
  | x :: l, k, h => by
    by_cases hx : p x = true
    · simp [idxZ, hx, h]
    · simp only [idxZ, hx, List.any_cons, Bool.false_or, if_false, Bool.false_eq_true]
      exact idxZ_nonneg p l (k + 1) (by omega)

theorem beyond1_any (n most : Int) (B : Nat) (w : World) (hc : w.cell? ⟨B, 0, none⟩ = some (.int .i64 most)) :
    Calls Tryz.prog 58 #[.int .i64 n, .pointer (some ⟨B, 0, none⟩)] w fun e w' => e = .returned (.bool (outB n 0 most)) ∧ w = w' := by
  go_enter Tryz.func58, Tryz.ntmps58
  go_wp2_with (go_at_call 22; refine (out_any _ _ _ _).mono ?_; rintro e w' ⟨rfl, rfl⟩)
  go_ret
  exact ⟨rfl, rfl⟩

theorem drop_step {α : Type} {l : List α} {k : Nat} (h : k < l.length) : l.drop k = l[k] :: l.drop (k + 1) := List.drop_eq_getElem_cons h

set_option maxHeartbeats 400000 in
theorem index_any (most : Int) (B : Nat) (a : Option Addr) (l : List Int) (c : Nat) (w : World) (hl : IntsAt w a l) (hc : w.cell? ⟨B, 0, none⟩ = some (.int .i64 most)) :
    Calls Tryz.prog 77 #[.slice a l.length c, .func (.func 58) #[] #[.pointer (some ⟨B, 0, none⟩)]] w fun e w' => e = .returned (.int .i64 (idxZ (outB · 0 most) l 0)) ∧ w = w' := by
  obtain ⟨hm, hl⟩ := hl
  unfold maxLen at hm
  go_enter Tryz.func77, Tryz.ntmps77
  go_wp2
  go_loop [8] (fun i => ∃ k : Nat, k ≤ l.length ∧ i = .int .i64 k ∧ idxZ (outB · 0 most) (l.drop k) k = idxZ (outB · 0 most) l 0) (fun i => l.length - (intOf i).toNat)
  case atStart => exact ⟨0, Nat.zero_le _, rfl, rfl⟩
  case round =>
    obtain ⟨k, hk, rfl, hix⟩ := hrel
    have Hix := Lib.hid hix
    clear hix
    by_cases hlt : k < l.length
    · rcases hl with hl | ⟨b, off, rfl, hb, hl⟩
      · rw [hl] at hlt; exact absurd hlt (by simp)
      · have hck := hl k hlt
        have hs := drop_step hlt
        have Hs := Lib.hid hs
        clear hs hl
        by_cases ho : outB l[k] 0 most = true
        all_goals
          go_wp2_with (go_at_call 58; refine (beyond1_any _ _ B _ hc).mono ?_; rintro e w' ⟨rfl, rfl⟩)
          first
            | (go_ret
               exact ⟨ret_int (by rw [← Hix.out, Hs.out, idxZ, if_pos ho]), rfl⟩)
            | (go_round
               case rel => exact ⟨k + 1, by omega, by go_num, by rw [← Hix.out, Hs.out, idxZ, if_neg ho]; rfl⟩
               case measure => simp [intOf]; omega)
    · have hn : l.drop k = [] := List.drop_eq_nil_of_le (by omega)
      have Hn := Lib.hid hn
      clear hn hl
      go_wp2
      go_ret
      exact ⟨ret_int (by rw [← Hix.out, Hn.out]; rfl), rfl⟩

theorem contains_any (most : Int) (B : Nat) (a : Option Addr) (l : List Int) (c : Nat) (w : World) (hl : IntsAt w a l) (hc : w.cell? ⟨B, 0, none⟩ = some (.int .i64 most)) :
    Calls Tryz.prog 57 #[.slice a l.length c, .func (.func 58) #[] #[.pointer (some ⟨B, 0, none⟩)]] w fun e w' => e = .returned (.bool (l.any (outB · 0 most))) ∧ w = w' := by
  have hp := idxZ_nonneg (outB · 0 most) l 0 (by omega)
  have Hp := Lib.hid hp
  clear hp
  go_enter Tryz.func57, Tryz.ntmps57
  go_wp2_with (go_at_call 77; refine (index_any most B a l c _ hl hc).mono ?_; rintro e w' ⟨rfl, rfl⟩)
  go_ret
  exact ⟨ret_bool Hp.out, rfl⟩

/-- One of some numbers is not from 0 to a limit. -/
def anyB (most : Int) (l : List Int) : Bool := l.any (outB · 0 most)

theorem beyond_any (most : Int) (a : Option Addr) (l : List Int) (c : Nat) (w : World) (hl : IntsAt w a l) :
    Calls Tryz.prog 26 #[.int .i64 most, .slice a l.length c] w fun e w' => e = .returned (.bool (anyB most l)) ∧ Below w.heap.size w w' := by
  have hl' := fun W (hb : Below w.heap.size w W) => hl.below hb (Nat.le_refl _)
  have Hl := Lib.hid hl'
  clear hl' hl
  go_enter Tryz.func26, Tryz.ntmps26
  go_wp2_with (go_at_call 57; refine (contains_any most w.heap.size a l c _ (Hl.out _ ((Below.refl _ _).alloc (Nat.le_refl _) _)) (by simp [go_sem])).mono ?_; rintro e w' ⟨rfl, rfl⟩)
  go_ret
  exact ⟨rfl, (Below.refl _ _).alloc (Nat.le_refl _) _⟩

/-- The error of an own force. -/
def forceE (kind n : Int) : Int :=
  if outB n (-200000) 200000 then 7 else if (n ≠ 0 ∧ kind = 1) ∨ (n < 0 ∧ kind = 2) ∨ (0 < n ∧ kind = 3) then 2 else 0

set_option maxHeartbeats 400000 in
theorem force_any (kind n : Int) (w : World) :
    Calls Tryz.prog 49 #[.int .i64 kind, .int .i64 n] w fun e w' => e = .returned (.int .i64 (forceE kind n)) ∧ w = w' := by
  by_cases h1 : outB n (-200000) 200000 = true
  · have hf : forceE kind n = 7 := by rw [forceE, if_pos h1]
    have Hf := Lib.hid hf
    clear hf
    go_enter Tryz.func49, Tryz.ntmps49
    go_wp2_with (go_at_call 22; refine (out_any _ _ _ _).mono ?_; rintro e w' ⟨rfl, rfl⟩)
    go_ret
    exact ⟨ret_int Hf.out.symm, rfl⟩
  · have hf : forceE kind n = if (n ≠ 0 ∧ kind = 1) ∨ (n < 0 ∧ kind = 2) ∨ (0 < n ∧ kind = 3) then 2 else 0 := by rw [forceE, if_neg h1]
    have Hf := Lib.hid hf
    clear hf
    have hk : kind = 1 ∨ kind = 2 ∨ kind = 3 ∨ ((kind == 1) = false ∧ (kind == 2) = false ∧ (kind == 3) = false) := by simp; omega
    have hn : n < 0 ∨ n = 0 ∨ 0 < n := by omega
    rcases hk with rfl | rfl | rfl | ⟨k1, k2, k3⟩ <;> rcases hn with hn | rfl | hn
    all_goals
      go_enter Tryz.func49, Tryz.ntmps49
      go_wp2_with (go_at_call 22; refine (out_any _ _ _ _).mono ?_; rintro e w' ⟨rfl, rfl⟩)
      go_ret
      refine ⟨ret_int ?_, rfl⟩
      rw [Hf.out]
      first
        | (simp at *; done)
        | (simp at *; omega)

/-- The error of a sensor. -/
def sensorE (s : Sen) : Int :=
  if s.kind ≠ 2 ∧ (s.kind ≠ 1 ∨ s.at_ ≠ 0) then 2 else if anyB 5000 [s.at_, s.tol] then 7 else 0

theorem ints_new2 (w : World) (x y : Int) (t : TypeId) : IntsAt (w.alloc (.cells #[.int .i64 x, .int .i64 y] t)) (some ⟨w.heap.size, 0, none⟩) [x, y] :=
  ⟨by simp [maxLen], .inr ⟨w.heap.size, 0, rfl, by simp, fun k hk => by
    match k, hk with
    | 0, _ => simp [go_sem]
    | 1, _ => simp [go_sem]⟩⟩
theorem ints_new1 (w : World) (x : Int) (t : TypeId) : IntsAt (w.alloc (.cells #[.int .i64 x] t)) (some ⟨w.heap.size, 0, none⟩) [x] :=
  ⟨by simp [maxLen], .inr ⟨w.heap.size, 0, rfl, by simp, fun k hk => by
    match k, hk with
    | 0, _ => simp [go_sem]⟩⟩

set_option maxHeartbeats 400000 in
theorem sensor_any (s : Sen) (w : World) :
    Calls Tryz.prog 56 #[s.val] w fun e w' => e = .returned (.int .i64 (sensorE s)) ∧ Below w.heap.size w w' := by
  by_cases hb : anyB 5000 [s.at_, s.tol] = true
  all_goals
    have hs : sensorE s = if s.kind ≠ 2 ∧ (s.kind ≠ 1 ∨ s.at_ ≠ 0) then 2 else if anyB 5000 [s.at_, s.tol] then 7 else 0 := rfl
    simp only [hb, if_true, if_false, Bool.false_eq_true] at hs
    have Hs := Lib.hid hs
    clear hs
    go_enter Tryz.func56, Tryz.ntmps56
    go_wp2_with (go_at_call 26; refine (beyond_any _ _ [s.at_, s.tol] _ _ (by simpa using ints_new2 (w.alloc (.cells s.cells 129)) s.at_ s.tol 3)).mono ?_; rintro e w' ⟨rfl, hbl⟩)
    all_goals
      go_ret
      refine ⟨ret_int ?_, ?_⟩
      · rw [Hs.out]
        simp at *
        first | done | omega
      · first
          | exact (Below.refl _ _).alloc (Nat.le_refl _) _
          | exact (((Below.refl _ _).alloc (Nat.le_refl _) _).alloc (by simp) _).trans (hbl.mono (by simp; omega))
end Go.Proofs.YtgfdindlihfidaaGreat
