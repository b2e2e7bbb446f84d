/-
  Contracts of the leaves of the reference's Check: in, level, rate, force, oil, Name, own, sensors.
-/
import Derived.Test.YthalanpmfhhhnaaCk
namespace Go.Proofs.Ythalanpmfhhhnaa
open Go.RowKit
set_option linter.unusedSimpArgs false
set_option linter.unusedVariables false

theorem in3_any (n lo hi : Int) (w : World) :
    Calls Try.prog 56 #[.int .i64 n, .int .i64 lo, .int .i64 hi] w fun e w' => e = .returned (.bool (!outB n lo hi)) ∧ w = w' := by
  by_cases h1 : lo ≤ n
  all_goals
    go_enter Try.func56, Try.ntmps56
    go_wp2
    go_ret
    refine ⟨?_, rfl⟩
    first
      | (have h2 : ¬ n < lo := by omega
         by_cases h3 : n ≤ hi
         · have h4 : ¬ hi < n := by omega
           simp [outB, h2, h3, h4]
         · have h4 : hi < n := by omega
           simp [outB, h3, h4])
      | (have h2 : n < lo := by omega
         simp [outB, h2])

theorem level_any (n : Int) (w : World) :
    Calls Try.prog 71 #[.int .i64 n] w fun e w' => e = .returned (.bool (!outB n (-20000) 20000)) ∧ w = w' := by
  go_enter Try.func71, Try.ntmps71
  go_wp2_with (go_at_call 56; refine (in3_any _ _ _ _).mono ?_; rintro e w' ⟨rfl, rfl⟩)
  go_ret
  exact ⟨rfl, rfl⟩
theorem rate_any (n : Int) (w : World) :
    Calls Try.prog 72 #[.int .i64 n] w fun e w' => e = .returned (.bool (!outB n 0 10000)) ∧ w = w' := by
  go_enter Try.func72, Try.ntmps72
  go_wp2_with (go_at_call 56; refine (in3_any _ _ _ _).mono ?_; rintro e w' ⟨rfl, rfl⟩)
  go_ret
  exact ⟨rfl, rfl⟩
theorem rforce_any (n : Int) (w : World) :
    Calls Try.prog 73 #[.int .i64 n] w fun e w' => e = .returned (.bool (!outB n 0 200000)) ∧ w = w' := by
  go_enter Try.func73, Try.ntmps73
  go_wp2_with (go_at_call 56; refine (in3_any _ _ _ _).mono ?_; rintro e w' ⟨rfl, rfl⟩)
  go_ret
  exact ⟨rfl, rfl⟩
theorem oil_any (n : Int) (w : World) :
    Calls Try.prog 74 #[.int .i64 n] w fun e w' => e = .returned (.bool (!outB n 0 100000)) ∧ w = w' := by
  go_enter Try.func74, Try.ntmps74
  go_wp2_with (go_at_call 56; refine (in3_any _ _ _ _).mono ?_; rintro e w' ⟨rfl, rfl⟩)
  go_ret
  exact ⟨rfl, rfl⟩

theorem outB_t {n lo hi : Int} (h : n < lo ∨ hi < n) : outB n lo hi = true := by
  unfold outB; simp; exact h
theorem outB_f {n lo hi : Int} (h : ¬ (n < lo ∨ hi < n)) : outB n lo hi = false := by
  unfold outB; simp; omega
theorem outB_ft {n lo hi : Int} (h : outB n lo hi = false) : lo ≤ n ∧ n ≤ hi := by
  unfold outB at h; simp at h; omega
theorem outB_tt {n lo hi : Int} (h : outB n lo hi = true) : n < lo ∨ hi < n := by
  unfold outB at h; simp at h; exact h

set_option maxHeartbeats 1000000 in
theorem rname_any (s : ByteArray) (hs : s.size ≤ maxLen) (w : World) :
    Calls Try.prog 69 #[.string s] w fun e w' => e = .returned (.bool (nameB s)) ∧ w = w' := by
  unfold maxLen at hs
  by_cases ho : outB s.size 1 24 = true
  · have hn : nameB s = false := by
      have := outB_tt ho
      unfold nameB
      have h2 : (decide (1 ≤ s.size) && decide (s.size ≤ 24)) = false := by simp; omega
      rw [h2]; rfl
    have Hn := Lib.hid hn
    clear hn
    go_enter Try.func69, Try.ntmps69
    go_wp2_with (go_at_call 96; refine (in1_any _ _ _ _).mono ?_; rintro e w' ⟨rfl, rfl⟩)
    go_ret
    exact ⟨ret_bool Hn.out.symm, rfl⟩
  · simp only [Bool.not_eq_true] at ho
    have hsz := outB_ft ho
    have h2 : (decide (1 ≤ s.size) && decide (s.size ≤ 24)) = true := by simp; omega
    have H2 := Lib.hid h2
    clear h2 hsz
    go_enter Try.func69, Try.ntmps69
    go_wp2_with (go_at_call 96; refine (in1_any _ _ _ _).mono ?_; rintro e w' ⟨rfl, rfl⟩)
    clear ho
    go_loop [3] (fun i => ∃ k : Nat, k ≤ s.size ∧ i = .int .i64 k ∧ ChUpto s k) (fun i => s.size - (intOf i).toNat)
    case atStart => exact ⟨0, Nat.zero_le _, rfl, fun j hj => absurd hj (by omega)⟩
    case round =>
      obtain ⟨k, hk, rfl, hup⟩ := hrel
      have Hup := Lib.hid hup
      clear hup
      by_cases hlt : k < s.size
      · rcases Nat.eq_zero_or_pos k with rfl | h0
        all_goals
          go_wp2
          all_goals first
            | (go_ret
               refine ⟨?_, rfl⟩
               exact ret_bool (nameB_not hlt (chB_false (by (try simp only [beq_iff_eq, beq_eq_false_iff_ne, bne_iff_ne, bne_eq_false_iff_eq, Bool.not_eq_true', Bool.not_eq_false', decide_eq_true_eq, decide_eq_false_iff_not, ne_eq] at *); omega))).symm)
            | (go_round
               case rel => exact ⟨_, by omega, by go_num, chUpto_succ hlt Hup.out (chB_true (by (try simp only [beq_iff_eq, beq_eq_false_iff_ne, bne_iff_ne, bne_eq_false_iff_eq, Bool.not_eq_true', Bool.not_eq_false', decide_eq_true_eq, decide_eq_false_iff_not, ne_eq] at *); omega))⟩
               case measure => simp [intOf]; omega)
      · obtain rfl : k = s.size := by omega
        have hall := nameB_all Hup.out
        rw [H2.out] at hall
        have Hall := Lib.hid hall
        clear hall hk hlt Hup
        go_wp2
        go_ret
        exact ⟨ret_bool Hall.out.symm, rfl⟩

/-- What the reference's own returns. -/
def ownZ (g : GateV) : Int × Int := if outB g.own.length 2 16 then (0, 3) else scan (forceE g.kind) g.own 0
theorem ret2 {a b a' b' : Int} (h : (a, b) = (a', b')) : Ending.returned (.tuple #[.int .i64 a, .int .i64 b]) = Ending.returned (.tuple #[.int .i64 a', .int .i64 b']) := by
  simp only [Prod.mk.injEq] at h
  obtain ⟨rfl, rfl⟩ := h
  rfl

set_option maxRecDepth 100000 in
set_option maxHeartbeats 1000000 in
theorem own_any (g : GateV) (w : World) (hok : g.Ok w) :
    Calls Try.prog 70 #[g.val] w fun e w' => e = .returned (.tuple #[.int .i64 (ownZ g).1, .int .i64 (ownZ g).2]) ∧ Below w.heap.size w w' := by
  have K0 := Keep.new w g
  have HK := Lib.hid K0
  obtain ⟨hom, hoi⟩ := hok.own.below K0.below (Nat.le_refl _)
  unfold maxLen at hom
  have Hoi := Lib.hid hoi
  clear hoi K0 hok
  by_cases ho : outB g.own.length 2 16 = true
  · have hr : ownZ g = (0, 3) := by rw [ownZ, if_pos ho]
    have Hr := Lib.hid hr
    clear hr
    go_enter Try.func70, Try.ntmps70
    go_wp2_with (go_at_call 56; refine (in3_any _ _ _ _).mono ?_; rintro e w' ⟨rfl, rfl⟩)
    go_ret2
    exact ⟨ret2 (by rw [Hr.out]), HK.out.below⟩
  · have hr : ownZ g = scan (forceE g.kind) g.own 0 := by rw [ownZ, if_neg ho]
    have Hr := Lib.hid hr
    clear hr
    simp only [Bool.not_eq_true] at ho
    go_enter Try.func70, Try.ntmps70
    go_wp2_with (go_at_call 56; refine (in3_any _ _ _ _).mono ?_; rintro e w' ⟨rfl, rfl⟩)
    clear ho
    go_loop [4] (fun i => ∃ k : Nat, k ≤ g.own.length ∧ i = .int .i64 k ∧ scan (forceE g.kind) (g.own.drop k) k = scan (forceE g.kind) g.own 0) (fun i => g.own.length - (intOf i).toNat)
    case atStart => exact ⟨0, Nat.zero_le _, rfl, rfl⟩
    case round =>
      obtain ⟨k, hk, rfl, hix⟩ := hrel
      have Hix := Lib.hid hix
      clear hix
      by_cases hlt : k < g.own.length
      · rcases Hoi.out with hl | ⟨b, off, ha, hb, hl⟩
        · rw [hl] at hlt; exact absurd hlt (by simp)
        · have hck := hl k hlt
          rw [List.getElem?_eq_getElem hlt, Option.getD_some] at hck
          have Ha := Lib.hid ha
          have hst := fun hf => scan_step (f := forceE g.kind) hlt hf
          have hht := fun hf => scan_hit (f := forceE g.kind) hlt hf
          rw [Hix.out] at hst hht
          have Hst := Lib.hid hst
          have Hht := Lib.hid hht
          have c3 : (w.alloc (.cells g.cells 33)).cell? ⟨w.heap.size, 3, none⟩ = some (.slice (some ⟨b, off, none⟩) g.own.length g.ownC) := by
            rw [World.cell?_alloc_at, ← ha]; rfl
            rfl
          clear hl Hoi ha hst hht Hix
          obtain ⟨n, hn⟩ : ∃ n, n = g.own[k] := ⟨_, rfl⟩
          rw [← hn] at hck Hst Hht
          clear hn
          by_cases hb1 : outB n (-200000) 200000 = true
          · have hf : forceE g.kind n = 7 := by rw [forceE, if_pos hb1]
            have hr2 := Hht.out (by rw [hf]; decide)
            rw [hf] at hr2
            have Hr2 := Lib.hid hr2
            clear hf hr2 Hst Hht
            go_wp2_with (go_at_call 56; refine (in3_any _ _ _ _).mono ?_; rintro e w' ⟨rfl, rfl⟩)
            go_ret2
            exact ⟨ret2 (by rw [Hr.out, Hr2.out]), HK.out.below⟩
          · have hf : forceE g.kind n = if (n ≠ 0 ∧ g.kind = 1) ∨ (n < 0 ∧ g.kind = 2) ∨ (0 < n ∧ g.kind = 3) then 2 else 0 := by rw [forceE, if_neg hb1]
            simp only [Bool.not_eq_true] at hb1
            have c1 : (w.alloc (.cells g.cells 33)).cell? ⟨w.heap.size, 1, none⟩ = some (.int .i64 g.kind) := by
              rw [World.cell?_alloc_at]; rfl
              rfl
            have hf2 : (n ≠ 0 ∧ g.kind = 1) ∨ (n < 0 ∧ g.kind = 2) ∨ (0 < n ∧ g.kind = 3) → ownZ g = ((k : Int), 2) := fun h => by
              rw [if_pos h] at hf
              rw [Hr.out, Hht.out (by rw [hf]; decide), hf]
            have hf0 : ¬ ((n ≠ 0 ∧ g.kind = 1) ∨ (n < 0 ∧ g.kind = 2) ∨ (0 < n ∧ g.kind = 3)) → scan (forceE g.kind) (g.own.drop (k + 1)) ((k + 1 : Nat) : Int) = scan (forceE g.kind) g.own 0 := fun h => by
              rw [if_neg h] at hf
              exact (Hst.out hf).symm
            clear Hst Hht hf
            have hE : ∃ F S : Int × Int, F = ownZ g ∧ S = scan (forceE g.kind) (g.own.drop (k + 1)) ((k + 1 : Nat) : Int) := ⟨_, _, rfl, rfl⟩
            obtain ⟨F, S, hF, hS⟩ := hE
            rw [← hF] at hf2
            rw [← hS] at hf0
            have HF := Lib.hid hF
            have HS := Lib.hid hS
            clear hF hS
            obtain ⟨T, hT⟩ : ∃ T, T = scan (forceE g.kind) g.own 0 := ⟨_, rfl⟩
            rw [← hT] at hf0
            have HT := Lib.hid hT
            clear hT
            obtain ⟨kd, hkd⟩ : ∃ kd, kd = g.kind := ⟨_, rfl⟩
            rw [← hkd] at c1 hf2 hf0
            have Hf2 := Lib.hid hf2
            have Hf0 := Lib.hid hf0
            clear hkd hf2 hf0
            have hk : kd = 1 ∨ kd = 2 ∨ kd = 3 ∨ ((kd == 1) = false ∧ (kd == 2) = false ∧ (kd == 3) = false) := by simp; omega
            have hn : n < 0 ∨ n = 0 ∨ 0 < n := by omega
            rcases hk with rfl | rfl | rfl | ⟨k1, k2, k3⟩ <;> rcases hn with hn | rfl | hn
            all_goals
              go_wp2_with (go_at_call 56; refine (in3_any _ _ _ _).mono ?_; rintro e w' ⟨rfl, rfl⟩)
              first
                | (go_ret2
                   exact ⟨ret2 (by rw [← HF.out, Hf2.out (by first | omega | (simp; done) | (simp; omega))]), HK.out.below⟩)
                | (go_round
                   case rel => exact ⟨k + 1, by omega, by go_num, by rw [← HS.out, ← HT.out]; exact Hf0.out (by first | (simp only [beq_eq_false_iff_ne, ne_eq] at k1 k2 k3; omega) | omega | (simp; done) | (simp; omega))⟩
                   case measure => simp [intOf]; omega)
      · have hs := scan_out (f := forceE g.kind) hlt
        rw [Hix.out] at hs
        have hr2 := Hr.out
        rw [hs] at hr2
        have Hr2 := Lib.hid hr2
        clear hr2 hs Hix Hr Hoi
        go_wp2
        go_ret2
        exact ⟨ret2 (by rw [Hr2.out]), HK.out.below⟩
end Go.Proofs.Ythalanpmfhhhnaa
