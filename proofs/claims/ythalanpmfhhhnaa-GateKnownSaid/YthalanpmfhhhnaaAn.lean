/-
  Sensors that agree with a position: the law's and the reference's agrees; the law's enough.
-/
import Derived.Test.YthalanpmfhhhnaaWp
import Derived.Test.YthalanpmfhhhnaaTh
namespace Go.Proofs.Ythalanpmfhhhnaa
open Go.RowKit
set_option linter.unusedSimpArgs false
set_option linter.unusedVariables false

set_option maxHeartbeats 1000000 in
theorem agrees_any (s : Sen) (r p : Int) (w : World) (ha : 0 ≤ s.at_ ∧ s.at_ ≤ 5000) (ht : 0 ≤ s.tol ∧ s.tol ≤ 5000) (hp : 0 ≤ p ∧ p ≤ 5000) :
    Calls Try.prog 84 #[s.val, .int .i64 r, .int .i64 p] w fun e w' => e = .returned (.bool (agrB s r p)) ∧ Below w.heap.size w w' := by
  obtain ⟨a0, a1⟩ := ha
  obtain ⟨t0, t1⟩ := ht
  obtain ⟨p0, p1⟩ := hp
  by_cases hk : s.kind = 1
  · have f1 : (s.kind == 1) = true := by simp [hk]
    by_cases h1 : p - s.tol ≤ r
    · by_cases h2 : r ≤ p + s.tol
      · have hr : agrB s r p = true := by rw [agrB, if_pos hk]; simp [h1, h2]
        have f2 : decide (p - s.tol ≤ r) = true := by simpa using h1
        have f3 : decide (r ≤ p + s.tol) = true := by simpa using h2
        rw [hr]
        clear hr h1 h2 hk
        go_enter Try.func84, Try.ntmps84
        go_wp2
        go_ret
        exact ⟨rfl, (Below.refl _ _).alloc (Nat.le_refl _) _⟩
      · have hr : agrB s r p = false := by rw [agrB, if_pos hk]; simp [h2]
        have f2 : decide (p - s.tol ≤ r) = true := by simpa using h1
        have f3 : decide (r ≤ p + s.tol) = false := by simpa using h2
        rw [hr]
        clear hr h1 h2 hk
        go_enter Try.func84, Try.ntmps84
        go_wp2
        go_ret
        exact ⟨rfl, (Below.refl _ _).alloc (Nat.le_refl _) _⟩
    · have hr : agrB s r p = false := by rw [agrB, if_pos hk]; simp [h1]
      have f2 : decide (p - s.tol ≤ r) = false := by simpa using h1
      rw [hr]
      clear hr h1 hk
      go_enter Try.func84, Try.ntmps84
      go_wp2
      go_ret
      exact ⟨rfl, (Below.refl _ _).alloc (Nat.le_refl _) _⟩
  · have f1 : (s.kind == 1) = false := by simp [hk]
    by_cases hr1 : r = 1
    · have g1 : (r == 1) = true := by simp [hr1]
      have g2 : (r == 0) = false := by simp [hr1]
      by_cases h1 : s.at_ - s.tol ≤ p
      · have hr : agrB s r p = true := by rw [agrB, if_neg hk]; simp [hr1, h1]
        have f2 : decide (s.at_ - s.tol ≤ p) = true := by simpa using h1
        rw [hr]
        clear hr h1 hk hr1
        go_enter Try.func84, Try.ntmps84
        go_wp2
        go_ret
        exact ⟨rfl, (Below.refl _ _).alloc (Nat.le_refl _) _⟩
      · have hr : agrB s r p = false := by rw [agrB, if_neg hk]; simp [hr1, h1]
        have f2 : decide (s.at_ - s.tol ≤ p) = false := by simpa using h1
        rw [hr]
        clear hr h1 hk hr1
        go_enter Try.func84, Try.ntmps84
        go_wp2
        go_ret
        exact ⟨rfl, (Below.refl _ _).alloc (Nat.le_refl _) _⟩
    · have g1 : (r == 1) = false := by simp [hr1]
      by_cases hr0 : r = 0
      · have g2 : (r == 0) = true := by simp [hr0]
        by_cases h1 : p ≤ s.at_ + s.tol
        · have hr : agrB s r p = true := by rw [agrB, if_neg hk]; simp [hr0, h1]
          have f2 : decide (p ≤ s.at_ + s.tol) = true := by simpa using h1
          rw [hr]
          clear hr h1 hk hr1 hr0
          go_enter Try.func84, Try.ntmps84
          go_wp2
          go_ret
          exact ⟨rfl, (Below.refl _ _).alloc (Nat.le_refl _) _⟩
        · have hr : agrB s r p = false := by rw [agrB, if_neg hk]; simp [hr0, h1]
          have f2 : decide (p ≤ s.at_ + s.tol) = false := by simpa using h1
          rw [hr]
          clear hr h1 hk hr1 hr0
          go_enter Try.func84, Try.ntmps84
          go_wp2
          go_ret
          exact ⟨rfl, (Below.refl _ _).alloc (Nat.le_refl _) _⟩
      · have g2 : (r == 0) = false := by simp [hr0]
        have hr : agrB s r p = false := by rw [agrB, if_neg hk]; simp [hr1, hr0]
        rw [hr]
        clear hr hk hr1 hr0
        go_enter Try.func84, Try.ntmps84
        go_wp2
        go_ret
        exact ⟨rfl, (Below.refl _ _).alloc (Nat.le_refl _) _⟩

set_option maxHeartbeats 1000000 in
theorem ragrees_any (s : Sen) (r p : Int) (w : World) (ha : 0 ≤ s.at_ ∧ s.at_ ≤ 5000) (ht : 0 ≤ s.tol ∧ s.tol ≤ 5000) (hp : 0 ≤ p ∧ p ≤ 5000) :
    Calls Try.prog 107 #[s.val, .int .i64 r, .int .i64 p] w fun e w' => e = .returned (.bool (agrB s r p)) ∧ Below w.heap.size w w' := by
  obtain ⟨a0, a1⟩ := ha
  obtain ⟨t0, t1⟩ := ht
  obtain ⟨p0, p1⟩ := hp
  by_cases hk : s.kind = 1
  · have f1 : (s.kind == 1) = true := by simp [hk]
    by_cases h1 : p - s.tol ≤ r
    · by_cases h2 : r ≤ p + s.tol
      · have hr : agrB s r p = true := by rw [agrB, if_pos hk]; simp [h1, h2]
        have f2 : decide (p - s.tol ≤ r) = true := by simpa using h1
        have f3 : decide (r ≤ p + s.tol) = true := by simpa using h2
        rw [hr]
        clear hr h1 h2 hk
        go_enter Try.func107, Try.ntmps107
        go_wp2
        go_ret
        exact ⟨rfl, (Below.refl _ _).alloc (Nat.le_refl _) _⟩
      · have hr : agrB s r p = false := by rw [agrB, if_pos hk]; simp [h2]
        have f2 : decide (p - s.tol ≤ r) = true := by simpa using h1
        have f3 : decide (r ≤ p + s.tol) = false := by simpa using h2
        rw [hr]
        clear hr h1 h2 hk
        go_enter Try.func107, Try.ntmps107
        go_wp2
        go_ret
        exact ⟨rfl, (Below.refl _ _).alloc (Nat.le_refl _) _⟩
    · have hr : agrB s r p = false := by rw [agrB, if_pos hk]; simp [h1]
      have f2 : decide (p - s.tol ≤ r) = false := by simpa using h1
      rw [hr]
      clear hr h1 hk
      go_enter Try.func107, Try.ntmps107
      go_wp2
      go_ret
      exact ⟨rfl, (Below.refl _ _).alloc (Nat.le_refl _) _⟩
  · have f1 : (s.kind == 1) = false := by simp [hk]
    by_cases hr1 : r = 1
    · have g1 : (r == 1) = true := by simp [hr1]
      have g2 : (r == 0) = false := by simp [hr1]
      by_cases h1 : s.at_ - s.tol ≤ p
      · have hr : agrB s r p = true := by rw [agrB, if_neg hk]; simp [hr1, h1]
        have f2 : decide (s.at_ - s.tol ≤ p) = true := by simpa using h1
        rw [hr]
        clear hr h1 hk hr1
        go_enter Try.func107, Try.ntmps107
        go_wp2
        go_ret
        exact ⟨rfl, (Below.refl _ _).alloc (Nat.le_refl _) _⟩
      · have hr : agrB s r p = false := by rw [agrB, if_neg hk]; simp [hr1, h1]
        have f2 : decide (s.at_ - s.tol ≤ p) = false := by simpa using h1
        rw [hr]
        clear hr h1 hk hr1
        go_enter Try.func107, Try.ntmps107
        go_wp2
        go_ret
        exact ⟨rfl, (Below.refl _ _).alloc (Nat.le_refl _) _⟩
    · have g1 : (r == 1) = false := by simp [hr1]
      by_cases hr0 : r = 0
      · have g2 : (r == 0) = true := by simp [hr0]
        by_cases h1 : p ≤ s.at_ + s.tol
        · have hr : agrB s r p = true := by rw [agrB, if_neg hk]; simp [hr0, h1]
          have f2 : decide (p ≤ s.at_ + s.tol) = true := by simpa using h1
          rw [hr]
          clear hr h1 hk hr1 hr0
          go_enter Try.func107, Try.ntmps107
          go_wp2
          go_ret
          exact ⟨rfl, (Below.refl _ _).alloc (Nat.le_refl _) _⟩
        · have hr : agrB s r p = false := by rw [agrB, if_neg hk]; simp [hr0, h1]
          have f2 : decide (p ≤ s.at_ + s.tol) = false := by simpa using h1
          rw [hr]
          clear hr h1 hk hr1 hr0
          go_enter Try.func107, Try.ntmps107
          go_wp2
          go_ret
          exact ⟨rfl, (Below.refl _ _).alloc (Nat.le_refl _) _⟩
      · have g2 : (r == 0) = false := by simp [hr0]
        have hr : agrB s r p = false := by rw [agrB, if_neg hk]; simp [hr1, hr0]
        rw [hr]
        clear hr hk hr1 hr0
        go_enter Try.func107, Try.ntmps107
        go_wp2
        go_ret
        exact ⟨rfl, (Below.refl _ _).alloc (Nat.le_refl _) _⟩

/-- A gate and readings in boxes and below. -/
structure EnW (w : World) (g : GateV) (W : World) : Prop where
  below : Below w.heap.size w W
  gate : GateIn W w.heap.size g
theorem EnW.new (w : World) (g : GateV) : EnW w g (w.alloc (.cells g.cells 33)) := ⟨(Below.refl _ _).alloc (Nat.le_refl _) _, gateIn_new w g⟩
theorem EnW.call {w W W' : World} {g : GateV} (h : EnW w g W) (hb : Below W.heap.size W W') : EnW w g W' := ⟨h.below.trans (hb.mono h.below.size), h.gate.below hb (Nat.le_refl _)⟩

set_option maxRecDepth 100000 in
set_option maxHeartbeats 2000000 in
theorem enough_any (g : GateV) (rA : Option Addr) (rC : Nat) (rs : List Int) (p : Int) (w : World) (hok : g.Ok w) (hri : IntsAt w rA rs) (hc : (checkZ g).2.2 = 0) (hlen : rs.length = g.sens.length) (hp : 0 ≤ p ∧ p ≤ 5000) :
    Calls Try.prog 30 #[g.val, .slice rA rs.length rC, .int .i64 p] w fun e w' => e = .returned (.bool (fitB g rs p)) ∧ Below w.heap.size w w' := by
  obtain ⟨hs6, hsb, hw1, hw2⟩ := check_sens hc
  have H0 := Lib.hid (EnW.new w g)
  have Hsb := Lib.hid (fun s hs => sensorE_bd (hsb s hs))
  have Hlen := Lib.hid hlen
  have Hss := Lib.hid hok.sens
  have Hri := Lib.hid hri
  have Hp := Lib.hid hp
  have l1 : (rs.length : Int) ≤ 6 := by omega
  have l2 : (rs.length : Int) = (g.sens.length : Int) := by omega
  have HL := Lib.hid l2
  obtain ⟨sA, hsA⟩ : ∃ sA, sA = g.senA := ⟨_, rfl⟩
  have HsA := Lib.hid hsA
  clear hsb hlen hok hri hc hp l2 hsA
  go_enter Try.func30, Try.ntmps30
  go_wp2
  go_loopw [7, 8] (fun q i wr => ∃ m : Nat, m ≤ g.sens.length ∧ q = .int .i64 (badN g.sens rs p m) ∧ i = .int .i64 m ∧ EnW w g wr) (fun _ i _ => g.sens.length - (intOf i).toNat)
  case atStart => exact ⟨0, Nat.zero_le _, rfl, rfl, H0.out⟩
  case round =>
    obtain ⟨m, hm, rfl, rfl, hw⟩ := hrel
    have Hw := Lib.hid hw
    have hq := badN_le g.sens rs p m
    have g19 : wr.cell? ⟨w.heap.size, 19, none⟩ = some (.slice sA g.sens.length g.senC) := by rw [HsA.out]; exact hw.gate.cell 19 _ rfl
    have g20 : wr.cell? ⟨w.heap.size, 20, none⟩ = some (.int .i64 g.wrong) := hw.gate.cell 20 _ rfl
    clear hw
    by_cases hml : m < g.sens.length
    · have hmr : m < rs.length := by rw [Hlen.out]; exact hml
      obtain ⟨sb, so, rfl, hsb, hsc⟩ : ∃ b off, sA = some ⟨b, off, none⟩ ∧ b < w.heap.size ∧ _ := by
        rw [HsA.out]
        rcases Hss.out.2 with h | h
        · exact absurd hml (by rw [h]; simp)
        · exact h
      obtain ⟨rb, ro, hra, hrb, hrc⟩ : ∃ b off, rA = some ⟨b, off, none⟩ ∧ b < w.heap.size ∧ _ := by
        rcases Hri.out.2 with h | h
        · exact absurd hmr (by rw [h]; simp)
        · exact h
      subst hra
      have Hz := Lib.hid (hsc m hml)
      have hrm := hrc m hmr
      rw [List.getElem?_eq_getElem hmr, Option.getD_some] at hrm
      have Hrm := Lib.hid hrm
      have Hbd := Lib.hid (Hsb.out g.sens[m] (List.getElem_mem hml))
      have Hbs := Lib.hid (show badN g.sens rs p (m + 1) = badN g.sens rs p m + if agrB g.sens[m] rs[m] p = true then 0 else 1 by rw [badN, agrAt_eq hml hmr])
      have i1 : (m : Int) < (rs.length : Int) := by omega
      have i2 : (m : Int) < (g.sens.length : Int) := by omega
      have i3 : (0 : Int) ≤ (m : Int) := by omega
      have f1 : decide ((m : Int) < (g.sens.length : Int)) = true := by simpa using i2
      have f2 : decide ((m : Int) < (rs.length : Int)) = true := by simpa using i1
      clear hsc hrc hrm g20
      revert Hbs Hz Hrm Hbd hq
      generalize badN g.sens rs p m = q
      generalize g.sens[m] = s
      generalize rs[m] = r
      intro hq Hz Hrm Hbd Hbs
      obtain ⟨B, hB⟩ : ∃ B, B = agrB s r p := ⟨_, rfl⟩
      have hag : ∀ W, Calls Try.prog 84 #[s.val, .int .i64 r, .int .i64 p] W fun e w' => e = .returned (.bool B) ∧ Below W.heap.size W w' := fun W => by
        rw [hB]; exact agrees_any s r p W Hbd.out.2.1 Hbd.out.2.2 Hp.out
      rw [← hB] at Hbs
      have Hag := Lib.hid hag
      have T0 := TgS.new wr
      have hkW : ∀ W, TgS wr W → EnW w g W := fun W h => Hw.out.call h.below
      have hg0 : ∀ W, TgS wr W → W.cell? ⟨w.heap.size, 19, none⟩ = some (.slice (some ⟨sb, so, none⟩) g.sens.length g.senC) := fun W h => by rw [HsA.out]; exact (hkW W h).gate.cell 19 _ rfl
      have hs0 : ∀ W, TgS wr W → W.cell? ⟨sb, so + m * 3, none⟩ = some (.int .i64 s.kind) := fun W h => ((hkW W h).below.cell (p := ⟨sb, so + m * 3, none⟩) hsb).trans Hz.out.1
      have hs1 : ∀ W, TgS wr W → W.cell? ⟨sb, so + m * 3 + 1, none⟩ = some (.int .i64 s.at_) := fun W h => ((hkW W h).below.cell (p := ⟨sb, so + m * 3 + 1, none⟩) hsb).trans Hz.out.2.1
      have hs2 : ∀ W, TgS wr W → W.cell? ⟨sb, so + m * 3 + 2, none⟩ = some (.int .i64 s.tol) := fun W h => ((hkW W h).below.cell (p := ⟨sb, so + m * 3 + 2, none⟩) hsb).trans Hz.out.2.2
      have hr0 : ∀ W, TgS wr W → W.cell? ⟨rb, ro + m, none⟩ = some (.int .i64 r) := fun W h => ((hkW W h).below.cell (p := ⟨rb, ro + m, none⟩) hrb).trans Hrm.out
      clear hkW hB hag
      go_wp2
      clear g19
      go_region_held3 (fun w' => TgS wr w')
        (first
          | with_reducible exact tA
          | with_reducible assumption
          | ((repeat (first | (with_reducible exact T0) | (with_reducible refine TgS.drew ?_) | (with_reducible exact tA) | (with_reducible assumption))); done))
        (first
          | (go_at_call 84; refine (Hag.out _).mono ?_; rintro e w' ⟨rfl, hbA⟩; have tA := TgS.call (by assumption) hbA))
      all_goals
        have tZ : Below wr.heap.size wr _ := TgS.below (by assumption)
        have HZ := Lib.hid (Hw.out.call tZ)
        clear tZ hg0 hs0 hs1 hs2 hr0
        cases B with
        | true =>
          go_wp2
          go_roundw
          case rel => exact ⟨m + 1, by omega, by rw [Hbs.out, if_pos rfl]; try go_num, by go_num, HZ.out⟩
          case measure => simp [intOf]; omega
        | false =>
          go_wp2
          go_roundw
          case rel => exact ⟨m + 1, by omega, by rw [Hbs.out, if_neg (by simp)]; try go_num, by go_num, HZ.out⟩
          case measure => simp [intOf]; omega
    · obtain rfl : m = g.sens.length := by omega
      go_wp2
      go_ret
      exact ⟨ret_bool rfl, Hw.out.below⟩
end Go.Proofs.Ythalanpmfhhhnaa
