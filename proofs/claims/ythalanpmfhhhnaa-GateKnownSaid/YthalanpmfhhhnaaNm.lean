import Derived.Test.YthalanpmfhhhnaaRows
import Derived.Test.YthalanpmfhhhnaaPl
import Derived.WalkKit
import Derived.WalkSpells
import Derived.WalkLawsBesides
import Derived.Lib.Hide
import Derived.BigQuiet
import Derived.Deep.QuietTactic
namespace Go.Proofs.Ythalanpmfhhhnaa
open Go.RowKit
set_option linter.unusedSimpArgs false
set_option linter.unusedVariables false
def outB (n lo hi : Int) : Bool := decide (n < lo) || decide (hi < n)

theorem in1_any (n lo hi : Int) (w : World) :
    Calls Try.prog 96 #[.int .i64 n, .int .i64 lo, .int .i64 hi] w fun e w' => e = .returned (.bool (!outB n lo hi)) ∧ w = w' := by
  by_cases h1 : lo ≤ n
  all_goals
    go_enter Try.func96, Try.ntmps96
    go_wp2
    go_ret
    refine ⟨?_, rfl⟩
    first
      | (have h2 : ¬ n < lo := by omega
         by_cases h3 : n ≤ hi
         · have h4 : ¬ hi < n := by omega
           simp [outB, h2, h3, h4]
         · have h4 : hi < n := by omega
           simp [outB, h3, h4])
      | (have h2 : n < lo := by omega
         simp [outB, h2])

/-- The sign number c may stand at place i of a name. -/
def chB (i c : Nat) : Bool := (decide (97 ≤ c) && decide (c ≤ 122)) || (decide (0 < i) && (decide (c = 45) || (decide (48 ≤ c) && decide (c ≤ 57))))
/-- The first k signs are right. -/
def ChUpto (s : ByteArray) (k : Nat) : Prop := ∀ j, j < k → chB j (s.data.toList.getD j 0).toNat = true
/-- A text is a name. -/
def nameB (s : ByteArray) : Bool := decide (1 ≤ s.size) && decide (s.size ≤ 24) && (List.range s.size).all fun j => chB j (s.data.toList.getD j 0).toNat

theorem chUpto_succ {s : ByteArray} {k : Nat} (hk : k < s.size) (h : ChUpto s k) (hc : chB k s[k].toNat = true) : ChUpto s (k + 1) := by
  intro j hj
  by_cases e : j = k
  · subst e
    have : s.data.toList.getD j 0 = s[j] := by
      have h2 : j < s.data.toList.length := by simpa using hk
      rw [List.getD_eq_getElem?_getD, List.getElem?_eq_getElem h2]; rfl
    rw [this]; exact hc
  · exact h j (by omega)
theorem nameB_not {s : ByteArray} {k : Nat} (hk : k < s.size) (hc : chB k s[k].toNat = false) : nameB s = false := by
  have h2 : k < s.data.toList.length := by simpa using hk
  have h3 : s.data.toList.getD k 0 = s[k] := by rw [List.getD_eq_getElem?_getD, List.getElem?_eq_getElem h2]; rfl
  unfold nameB
  have : ((List.range s.size).all fun j => chB j (s.data.toList.getD j 0).toNat) = false := by
    rw [List.all_eq_false]
    exact ⟨k, by simpa using hk, by rw [h3, hc]; decide⟩
  rw [this]; simp
theorem nameB_all {s : ByteArray} (h : ChUpto s s.size) : nameB s = (decide (1 ≤ s.size) && decide (s.size ≤ 24)) := by
  unfold nameB
  have : ((List.range s.size).all fun j => chB j (s.data.toList.getD j 0).toNat) = true := by
    rw [List.all_eq_true]
    intro j hj
    exact h j (by simpa using hj)
  rw [this]; simp

theorem chB_true {k c : Nat} (h : (97 ≤ (c : Int) ∧ (c : Int) ≤ 122) ∨ (0 < k ∧ ((c : Int) = 45 ∨ (48 ≤ (c : Int) ∧ (c : Int) ≤ 57)))) : chB k c = true := by
  unfold chB
  simp
  omega
theorem chB_false {k c : Nat} (h : ¬ ((97 ≤ (c : Int) ∧ (c : Int) ≤ 122) ∨ (0 < k ∧ ((c : Int) = 45 ∨ (48 ≤ (c : Int) ∧ (c : Int) ≤ 57))))) : chB k c = false := by
  rw [Bool.eq_false_iff]
  intro h2
  unfold chB at h2
  simp at h2
  omega
theorem ret_bool {a b : Bool} (h : a = b) : Ending.returned (.bool a) = Ending.returned (.bool b) := by rw [h]

theorem isEmpty_size (s : ByteArray) : s.toList.isEmpty = decide (s.size = 0) := by
  have h : s.toList.length = s.size := by rw [ByteArray.toList_eq]; rfl
  rw [Bool.eq_iff_iff, List.isEmpty_iff, ← List.length_eq_zero_iff, h]
  simp

set_option maxHeartbeats 1000000 in
theorem name_any (s : ByteArray) (hs : s.size ≤ maxLen) (w : World) :
    Calls Try.prog 58 #[.string s] w fun e w' => e = .returned (.bool (nameB s)) ∧ w = w' := by
  unfold maxLen at hs
  go_enter Try.func58, Try.ntmps58
  go_wp2
  go_loop [7] (fun i => ∃ k : Nat, k ≤ s.size ∧ i = .int .i64 k ∧ ChUpto s k) (fun i => s.size - (intOf i).toNat)
  case atStart => exact ⟨0, Nat.zero_le _, rfl, fun j hj => absurd hj (by omega)⟩
  case round =>
    obtain ⟨k, hk, rfl, hup⟩ := hrel
    have Hup := Lib.hid hup
    clear hup
    by_cases hlt : k < s.size
    · rcases Nat.eq_zero_or_pos k with rfl | h0
      all_goals
        go_wp2
        all_goals first
          | (go_ret
             refine ⟨?_, rfl⟩
             exact ret_bool (nameB_not hlt (chB_false (by (try simp only [beq_iff_eq, beq_eq_false_iff_ne] at *); omega))).symm)
          | (go_round
             case rel => exact ⟨_, by omega, by go_num, chUpto_succ hlt Hup.out (chB_true (by (try simp only [beq_iff_eq, beq_eq_false_iff_ne] at *); omega))⟩
             case measure => simp [intOf]; omega)
    · obtain rfl : k = s.size := by omega
      have hall := nameB_all Hup.out
      have Hall := Lib.hid hall
      clear hall hk hlt Hup
      rcases Nat.eq_zero_or_pos s.size with hz | hz
      · have hz2 : s.toList.isEmpty = true := by rw [isEmpty_size]; exact decide_eq_true hz
        have Hz := Lib.hid hz
        clear hz
        go_wp2
        go_ret
        exact ⟨ret_bool (by rw [Hall.out, Hz.out]; rfl), rfl⟩
      · have hz2 : s.toList.isEmpty = false := by rw [isEmpty_size]; exact decide_eq_false (by omega)
        go_wp2
        go_ret
        exact ⟨ret_bool (by rw [Hall.out, decide_eq_true (by omega : 1 ≤ s.size)]; simp [decide_eq_decide]; omega), rfl⟩
end Go.Proofs.Ythalanpmfhhhnaa
