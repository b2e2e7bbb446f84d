/-
  basin.Check: what it returns of any basin is a triple; without an error there are rows; of a good basin it is no error.
-/
import Derived.Test.YtgfdindlihfidaaGreatZg
import Derived.Test.YtgfdindlihfidaaGreatGs
import Derived.Test.YtgfdindlihfidaaGreatBk
namespace Go.Proofs.YtgfdindlihfidaaGreat
open Go.RowKit
set_option linter.unusedSimpArgs false
set_option linter.unusedVariables false
attribute [local go_sem high] run_min_z run_max_z
attribute [local go_sem ↓] run_min_z run_max_z

/-- What Check returns. -/
def BasOut (b : BasV) (w : World) (e : Ending) (w' : World) : Prop :=
  ∃ p a er : Int, e = .returned (.tuple #[.int .i64 p, .int .i64 a, .int .i64 er]) ∧ (er = 0 → 2 ≤ b.rows.length ∧ b.rows.length ≤ 12) ∧ (b.Good → p = 0 ∧ a = 0 ∧ er = 0) ∧ Below w.heap.size w w'
theorem BasOut.bad {b : BasV} {w w' : World} {p a er : Int} (h : er ≠ 0) (hg : ¬ b.Good) (hb : Below w.heap.size w w') : BasOut b w (.returned (.tuple #[.int .i64 p, .int .i64 a, .int .i64 er])) w' :=
  ⟨p, a, er, rfl, fun h0 => absurd h0 h, fun h1 => absurd h1 hg, hb⟩

/-- What the walk keeps. -/
structure BaW (w : World) (b : BasV) (W : World) : Prop where
  below : Below w.heap.size w W
  blk : W.heap[w.heap.size]? = some (.cells b.cells 32 (0, 0))
theorem BaW.new (w : World) (b : BasV) : BaW w b (w.alloc (.cells b.cells 32)) := ⟨(Below.refl _ _).alloc (Nat.le_refl _) _, heap_alloc_new w _⟩
theorem BaW.lt {w W : World} {b : BasV} (h : BaW w b W) : w.heap.size < W.heap.size := (Array.getElem?_eq_some_iff.1 h.blk).1
theorem BaW.call {w W W' : World} {b : BasV} (h : BaW w b W) (hb : Below W.heap.size W W') : BaW w b W' := ⟨h.below.trans (hb.mono h.below.size), (hb.block _ h.lt).trans h.blk⟩
theorem BaW.alloc {w W : World} {b : BasV} (h : BaW w b W) (o : Obj) : BaW w b (W.alloc o) := h.call ((Below.refl _ _).alloc (Nat.le_refl _) o)
theorem BaW.drew {w W : World} {b : BasV} (h : BaW w b W) : BaW w b W.drew := h.call (Below.refl _ _).drew
theorem BaW.drewN {w W : World} {b : BasV} (h : BaW w b W) (n : Nat) : BaW w b (W.drewN n) := h.call (below_drewN (Below.refl _ _) n)
theorem BaW.cell {w W : World} {b : BasV} (h : BaW w b W) (k : Nat) (v : Value) (hv : b.cells[k]? = some v) : W.cell? ⟨w.heap.size, k, none⟩ = some v := by
  rw [cell_of_row W _ k _ _ _ h.blk, hv]

theorem run_tail (rb ro n c : Nat) (hn : 1 ≤ n) (hc : 2 ≤ c) (W : World) :
    (Instr.sliceAt 29 (.slice (some ⟨rb, ro, none⟩) n c) (some (.int .i64 1)) none none).run Tryz.prog W = .ok (.slice (some ⟨rb, ro + 2, none⟩) (n - 1) (c - 1)) W := by
  have h1 : ¬ c = 1 := by omega
  have h2 : (1 : Int) ≤ (n : Int) := by omega
  simp [Instr.sliceAt, Instr.slice, Instr.sliceBounds, Instr.sliceBound, go_sem, h1, h2]

/-- A polder's name, as a gate's. -/
def pg (p : PolV) : GateV := ⟨p.nm, 0, 0, none, 0, [], 0, 0, 0, 0, 0, 0, 0, 0, 0, 0, 0, 0, 0, 0, 0, none, 0, [], 0⟩
theorem BaW.map {w W W' : World} {b : BasV} (h : BaW w b W) {M : Nat} (hM : w.heap.size < M) (hg : W.grownBy W' (some M)) : BaW w b W' :=
  ⟨h.below.grown hg h.below.size (fun b hb => by cases hb; omega), blk_grown hg (fun e => by cases e; omega) h.blk⟩

set_option maxRecDepth 100000 in
set_option maxHeartbeats 4000000 in
theorem bcheck_any (b : BasV) (w : World) (hok : b.Ok w) :
    Calls Tryz.prog 72 #[b.val] w (BasOut b w) := by
  have hgm := hok.rows.1
  have hpm := hok.pols.1
  unfold maxLen at hgm hpm
  have Hok := Lib.hid hok
  have K0 := Lib.hid (BaW.new w b)
  have c0 : (w.alloc (.cells b.cells 32)).cell? ⟨w.heap.size, 0, none⟩ = some (.slice b.rA b.rows.length b.rC) := K0.out.cell 0 _ rfl
  clear hok
  by_cases hl : outB b.rows.length 2 12 = true
  · have hng : ¬ b.Good := fun h => by
      have := h.len
      rw [outB] at hl; simp at hl; omega
    have Hng := Lib.hid hng
    clear hng
    go_enter Tryz.func72, Tryz.ntmps72
    go_wp2_with (go_at_call 84; refine (bout_any _ _ _ _).mono ?_; rintro e w' ⟨rfl, rfl⟩)
    go_ret3
    exact BasOut.bad (by decide) Hng.out K0.out.below
  · simp only [Bool.not_eq_true] at hl
    have hlen : 2 ≤ b.rows.length ∧ b.rows.length ≤ 12 := by
      rw [outB] at hl; simp at hl; omega
    obtain ⟨hl2, hl12⟩ := hlen
    obtain ⟨rb, ro, ha, hrb, hrw⟩ : ∃ rb ro, b.rA = some ⟨rb, ro, none⟩ ∧ rb < w.heap.size ∧ ∀ k, (h : k < b.rows.length) → w.cell? ⟨rb, ro + k * 2, none⟩ = some (.int .i64 b.rows[k].level) ∧ w.cell? ⟨rb, ro + k * 2 + 1, none⟩ = some (.int .i64 b.rows[k].vol) := by
      rcases Hok.out.rows.2 with h | h
      · rw [h] at hl2; exact absurd hl2 (by simp)
      · exact h
    have Ha := Lib.hid ha
    have Hrw := Lib.hid hrw
    rw [ha] at c0
    clear ha hrw
    go_enter Tryz.func72, Tryz.ntmps72
    go_wp2_with (go_at_call 84; refine (bout_any _ _ _ _).mono ?_; rintro e w' ⟨rfl, rfl⟩)
    clear hl
    go_loopw [21] (fun i wr => ∃ k : Nat, k ≤ b.rows.length ∧ i = .int .i64 k ∧ BaW w b wr ∧ (∀ j, j < k → RowGood b.rows j)) (fun i _ => b.rows.length - (intOf i).toNat)
    case atStart => exact ⟨0, Nat.zero_le _, rfl, K0.out, fun j hj => absurd hj (by omega)⟩
    case round =>
      obtain ⟨k, hk, rfl, hkp, hgd⟩ := hrel
      have Hkp := Lib.hid hkp
      have Hgd := Lib.hid hgd
      clear hgd c0
      have c0 : wr.cell? ⟨w.heap.size, 0, none⟩ = some (.slice (some ⟨rb, ro, none⟩) b.rows.length b.rC) := by rw [hkp.cell 0 _ rfl, ← Ha.out]; rfl
      clear hkp
      by_cases hlt : k < b.rows.length
      · have hr : ∀ k, (h : k < b.rows.length) → wr.cell? ⟨rb, ro + k * 2, none⟩ = some (.int .i64 b.rows[k].level) ∧ wr.cell? ⟨rb, ro + k * 2 + 1, none⟩ = some (.int .i64 b.rows[k].vol) := fun k h =>
          ⟨(Hkp.out.below.cell (p := ⟨rb, ro + k * 2, none⟩) hrb).trans (Hrw.out k h).1, (Hkp.out.below.cell (p := ⟨rb, ro + k * 2 + 1, none⟩) hrb).trans (Hrw.out k h).2⟩
        · obtain ⟨d0, d1⟩ := hr k hlt
          have HK2 := Lib.hid (Hkp.out.alloc (.cells b.rows[k].cells 144))
          have Hx := Lib.hid (show ∀ h : b.Good, RowGood b.rows k from fun h => h.rows k)
          have i1 : (0 : Int) ≤ (k : Int) := by omega
          have i2 : (k : Int) < (b.rows.length : Int) := by omega
          by_cases e1 : outB b.rows[k].level (-20000) 20000 = true
          · have hng := Lib.hid (show ¬ b.Good from fun h => by have := (h.rows k hlt).1; rw [e1] at this; cases this)
            clear hr Hx
            revert e1 d0 d1 HK2
            generalize b.rows[k] = x
            intro d0 d1 HK2 e1
            go_wp2_with (first | (go_at_call 84; refine (bout_any _ _ _ _).mono ?_; rintro e w' ⟨rfl, rfl⟩) | (go_at_call 85; refine (bhigh_any _ _).mono ?_; rintro e w' ⟨rfl, rfl⟩))
            go_ret3
            exact BasOut.bad (by decide) hng.out HK2.out.below
          · simp only [Bool.not_eq_true] at e1
            by_cases e2 : outB b.rows[k].vol 0 1000000000 = true
            · have hng := Lib.hid (show ¬ b.Good from fun h => by have := (h.rows k hlt).2.1; rw [e2] at this; cases this)
              clear hr Hx
              revert e1 e2 d0 d1 HK2
              generalize b.rows[k] = x
              intro d0 d1 HK2 e1 e2
              go_wp2_with (first | (go_at_call 84; refine (bout_any _ _ _ _).mono ?_; rintro e w' ⟨rfl, rfl⟩) | (go_at_call 85; refine (bhigh_any _ _).mono ?_; rintro e w' ⟨rfl, rfl⟩))
              go_ret3
              exact BasOut.bad (by decide) hng.out HK2.out.below
            · simp only [Bool.not_eq_true] at e2
              rcases Nat.eq_zero_or_pos k with rfl | h0
              · have hgd2 : ∀ j, j < 0 + 1 → RowGood b.rows j := fun j hj => by
                  obtain rfl : j = 0 := by omega
                  exact fun h => ⟨e1, e2, fun j hj => absurd hj (by omega)⟩
                have Hgd2 := Lib.hid hgd2
                clear hgd2 hr Hx
                revert d0 d1 HK2 e1 e2
                generalize b.rows[0] = x
                intro d0 d1 HK2 e1 e2
                simp only [Nat.zero_mul, Nat.add_zero] at d0 d1
                go_wp2_with (first | (go_at_call 84; refine (bout_any _ _ _ _).mono ?_; rintro e w' ⟨rfl, rfl⟩) | (go_at_call 85; refine (bhigh_any _ _).mono ?_; rintro e w' ⟨rfl, rfl⟩))
                go_quiet (fail)
                all_goals
                  go_wp2
                  go_roundw
                  case rel => first | exact ⟨0 + 1, by omega, by go_num, HK2.out.drewN _, Hgd2.out⟩ | ((repeat apply Exists.intro); exact ⟨⟨0 + 1, by omega, by go_num, HK2.out.drewN _, Hgd2.out⟩, rfl⟩)
                  case measure => simp [intOf]; omega
              · obtain ⟨m, rfl⟩ : ∃ m, k = m + 1 := ⟨k - 1, by omega⟩
                have hm : m < b.rows.length := by omega
                obtain ⟨p0, p1⟩ := hr m hm
                have g1 := (BaW.alloc Hkp.out (.cells b.rows[m + 1].cells 144)).below
                by_cases e3 : b.rows[m + 1].level ≤ b.rows[m].level
                · have hng := Lib.hid (show ¬ b.Good from fun h => by have := ((h.rows (m + 1) hlt).2.2 m rfl).1; omega)
                  clear hr Hx g1
                  revert d0 d1 HK2 e1 e2 p0 p1 e3
                  generalize b.rows[m + 1] = x
                  generalize b.rows[m] = y
                  intro d0 d1 HK2 e1 e2 p0 p1 e3
                  have q1 : decide (x.level ≤ y.level) = true := by simpa using e3
                  have q3 : decide ((0 : Int) < ((m + 1 : Nat) : Int)) = true := by simp
                  have q4 : IntKind.i64.wrap (((m + 1 : Nat) : Int) - 1) = (m : Int) := by rw [IntWalk.i64_in _ (by omega)]; omega
                  have q5 : (0 : Int) ≤ (m : Int) := by omega
                  have q7 : w.heap.size < wr.heap.size := Hkp.out.lt
                  have q8 : rb < wr.heap.size := by omega
                  have q6 : (m : Int) < (b.rows.length : Int) := by omega
                  go_wp2_with (first | (go_at_call 84; refine (bout_any _ _ _ _).mono ?_; rintro e w' ⟨rfl, rfl⟩) | (go_at_call 85; refine (bhigh_any _ _).mono ?_; rintro e w' ⟨rfl, rfl⟩))
                  go_quiet (fail)
                  all_goals
                    go_wp2
                    go_ret3
                    exact BasOut.bad (by decide) hng.out (HK2.out.drewN _).below
                · by_cases e4 : b.rows[m + 1].vol ≤ b.rows[m].vol
                  · have hng := Lib.hid (show ¬ b.Good from fun h => by have := ((h.rows (m + 1) hlt).2.2 m rfl).2; omega)
                    clear hr Hx g1
                    revert d0 d1 HK2 e1 e2 p0 p1 e3 e4
                    generalize b.rows[m + 1] = x
                    generalize b.rows[m] = y
                    intro d0 d1 HK2 e1 e2 p0 p1 e3 e4
                    have q1 : decide (x.level ≤ y.level) = false := by simpa using e3
                    have q2 : decide (x.vol ≤ y.vol) = true := by simpa using e4
                    have q3 : decide ((0 : Int) < ((m + 1 : Nat) : Int)) = true := by simp
                    have q4 : IntKind.i64.wrap (((m + 1 : Nat) : Int) - 1) = (m : Int) := by rw [IntWalk.i64_in _ (by omega)]; omega
                    have q5 : (0 : Int) ≤ (m : Int) := by omega
                    have q7 : w.heap.size < wr.heap.size := Hkp.out.lt
                    have q8 : rb < wr.heap.size := by omega
                    have q6 : (m : Int) < (b.rows.length : Int) := by omega
                    go_wp2_with (first | (go_at_call 84; refine (bout_any _ _ _ _).mono ?_; rintro e w' ⟨rfl, rfl⟩) | (go_at_call 85; refine (bhigh_any _ _).mono ?_; rintro e w' ⟨rfl, rfl⟩))
                    go_quiet (fail)
                    all_goals
                      go_wp2
                      go_ret3
                      exact BasOut.bad (by decide) hng.out (HK2.out.drewN _).below
                  · have hgd2 : ∀ j, j < m + 1 + 1 → RowGood b.rows j := fun j hj => by
                      by_cases ej : j < m + 1
                      · exact Hgd.out j ej
                      · obtain rfl : j = m + 1 := by omega
                        exact fun h => ⟨e1, e2, fun i hi => by
                          obtain rfl : i = m := by omega
                          exact ⟨by omega, by omega⟩⟩
                    have Hgd2 := Lib.hid hgd2
                    clear hgd2 hr Hx g1
                    revert d0 d1 HK2 e1 e2 p0 p1 e3 e4
                    generalize b.rows[m + 1] = x
                    generalize b.rows[m] = y
                    intro d0 d1 HK2 e1 e2 p0 p1 e3 e4
                    have q1 : decide (x.level ≤ y.level) = false := by simpa using e3
                    have q2 : decide (x.vol ≤ y.vol) = false := by simpa using e4
                    have q3 : decide ((0 : Int) < ((m + 1 : Nat) : Int)) = true := by simp
                    have q4 : IntKind.i64.wrap (((m + 1 : Nat) : Int) - 1) = (m : Int) := by rw [IntWalk.i64_in _ (by omega)]; omega
                    have q5 : (0 : Int) ≤ (m : Int) := by omega
                    have q7 : w.heap.size < wr.heap.size := Hkp.out.lt
                    have q8 : rb < wr.heap.size := by omega
                    have q6 : (m : Int) < (b.rows.length : Int) := by omega
                    go_wp2_with (first | (go_at_call 84; refine (bout_any _ _ _ _).mono ?_; rintro e w' ⟨rfl, rfl⟩) | (go_at_call 85; refine (bhigh_any _ _).mono ?_; rintro e w' ⟨rfl, rfl⟩))
                    go_quiet (fail)
                    all_goals
                      go_wp2
                      go_roundw
                      case rel => first | exact ⟨m + 1 + 1, by omega, by go_num, HK2.out.drewN _, Hgd2.out⟩ | ((repeat apply Exists.intro); exact ⟨⟨m + 1 + 1, by omega, by go_num, HK2.out.drewN _, Hgd2.out⟩, rfl⟩)
                      case measure => simp [intOf]; omega
      · obtain rfl : k = b.rows.length := by omega
        have hall : ∀ j, RowGood b.rows j := fun j => by
          by_cases ej : j < b.rows.length
          · exact Hgd.out j ej
          · exact fun h => absurd h ej
        have Hall := Lib.hid hall
        have c1 : wr.cell? ⟨w.heap.size, 1, none⟩ = some (.int .i64 b.leak) := Hkp.out.cell 1 _ rfl
        have c2 : wr.cell? ⟨w.heap.size, 2, none⟩ = some (.int .i64 b.crest) := Hkp.out.cell 2 _ rfl
        have c3 : wr.cell? ⟨w.heap.size, 3, none⟩ = some (.int .i64 b.over) := Hkp.out.cell 3 _ rfl
        have c4 : wr.cell? ⟨w.heap.size, 4, none⟩ = some (.slice b.pA b.pols.length b.pC) := Hkp.out.cell 4 _ rfl
        clear hall Hgd hlt hk
        have hcase : (outB b.leak 0 10000 = true ∨ (outB b.leak 0 10000 = false ∧ outB b.over 0 10000 = true) ∨ (outB b.leak 0 10000 = false ∧ outB b.over 0 10000 = false ∧ outB b.crest (-20000) 20000 = true)) ∨
            (outB b.leak 0 10000 = false ∧ outB b.over 0 10000 = false ∧ outB b.crest (-20000) 20000 = false) := by
          by_cases h1 : outB b.leak 0 10000 = true <;> by_cases h2 : outB b.over 0 10000 = true <;> by_cases h3 : outB b.crest (-20000) 20000 = true <;> simp_all
        rcases hcase with hbad | ⟨l1, l2, l3⟩
        · have hng := Lib.hid (show ¬ b.Good from fun h => by
            have a1 := h.leak
            have a2 := h.over
            have a3 := h.crest
            simp_all)
          rcases hbad with l1 | ⟨l1, l2⟩ | ⟨l1, l2, l3⟩
          all_goals
            go_wp2_with (first | (go_at_call 84; refine (bout_any _ _ _ _).mono ?_; rintro e w' ⟨rfl, rfl⟩) | (go_at_call 85; refine (bhigh_any _ _).mono ?_; rintro e w' ⟨rfl, rfl⟩))
            go_ret3
            exact BasOut.bad (by decide) hng.out Hkp.out.below
        · by_cases hp6 : 6 < b.pols.length
          · have hng := Lib.hid (show ¬ b.Good from fun h => by rw [h.nopol] at hp6; exact absurd hp6 (by simp))
            go_wp2_with (first | (go_at_call 84; refine (bout_any _ _ _ _).mono ?_; rintro e w' ⟨rfl, rfl⟩) | (go_at_call 85; refine (bhigh_any _ _).mono ?_; rintro e w' ⟨rfl, rfl⟩))
            go_ret3
            exact BasOut.bad (by decide) hng.out Hkp.out.below
          · have hmm := @run_makeMap Tryz.prog
            have q7 : w.heap.size < wr.heap.size := Hkp.out.lt
            have q8 : rb < wr.heap.size := by omega
            go_wp2_with (first | (go_at_call 84; refine (bout_any _ _ _ _).mono ?_; rintro e w' ⟨rfl, rfl⟩) | (go_at_call 85; refine (bhigh_any _ _).mono ?_; rintro e w' ⟨rfl, rfl⟩))
            obtain ⟨hk0, hk1⟩ := outB_ft l1
            obtain ⟨wv, hwv⟩ : ∃ wv, wv = wr := ⟨_, rfl⟩
            subst hwv
            have K1 := Lib.hid (Hkp.out.alloc (.map #[] 0))
            have N1 := Lib.hid (namesAt_new wv)
            obtain ⟨M, hM⟩ : ∃ M, M = wv.heap.size := ⟨_, rfl⟩
            rw [← hM] at N1
            have hM1 : w.heap.size < M := by omega
            have hM2 : M < (wv.alloc (.map #[] 0)).heap.size := by simp; omega
            rw [← hM]
            clear hmm c0 c1 c2 c3 c4 Hkp hp6 hM
            generalize wv.alloc (.map #[] 0) = W1 at K1 N1 hM2 ⊢
            go_loopw [90, 8] (fun i g wr => ∃ (k : Nat) (z : Int), k ≤ b.pols.length ∧ i = .int .i64 k ∧ g = .int .i64 z ∧ 0 ≤ z ∧ z ≤ 10000 ∧ (b.pols = [] → z = b.leak) ∧ BaW w b wr ∧ NamesAt wr M ((b.pols.map pg).take k) ∧ M < wr.heap.size) (fun i _ _ => b.pols.length - (intOf i).toNat)
            case atStart => exact ⟨0, b.leak, Nat.zero_le _, rfl, rfl, hk0, hk1, fun _ => rfl, K1.out, N1.out, hM2⟩
            case round =>
              clear hk0 hk1 hM2 q7
              obtain ⟨k, z, hk, rfl, rfl, hz0, hz1, hzl, hkp, hnm, hM2⟩ := hrel
              have Hkp := Lib.hid hkp
              have Hnm := Lib.hid hnm
              have Hzl := Lib.hid hzl
              have c0 : wr.cell? ⟨w.heap.size, 0, none⟩ = some (.slice (some ⟨rb, ro, none⟩) b.rows.length b.rC) := by rw [hkp.cell 0 _ rfl, ← Ha.out]; rfl
              have q7 : w.heap.size < wr.heap.size := Hkp.out.lt
              have hrl : wr.cell? ⟨rb, ro, none⟩ = some (.int .i64 b.rows[0].level) := (hkp.below.cell (p := ⟨rb, ro, none⟩) hrb).trans (by simpa using (Hrw.out 0 (by omega)).1)
              clear hkp hnm hzl
              by_cases hlt : k < b.pols.length
              · have hng := Lib.hid (show ¬ b.Good from fun h => by rw [h.nopol] at hlt; exact absurd hlt (by simp))
                obtain ⟨pb, po, hpa, hpb, hpw⟩ : ∃ pb po, b.pA = some ⟨pb, po, none⟩ ∧ pb < w.heap.size ∧ _ := by
                  rcases Hok.out.pols.2.2 with h | h
                  · rw [h] at hlt; exact absurd hlt (by simp)
                  · exact h
                have hnn := Hok.out.pols.2.1 b.pols[k] (List.getElem_mem hlt)
                obtain ⟨x0, x1, x2, x3⟩ := hpw k hlt
                have d0 := (Hkp.out.below.cell (p := ⟨pb, po + k * 4, none⟩) hpb).trans x0
                have d1 := (Hkp.out.below.cell (p := ⟨pb, po + k * 4 + 1, none⟩) hpb).trans x1
                have d2 := (Hkp.out.below.cell (p := ⟨pb, po + k * 4 + 2, none⟩) hpb).trans x2
                have d3 := (Hkp.out.below.cell (p := ⟨pb, po + k * 4 + 3, none⟩) hpb).trans x3
                have i1 : (0 : Int) ≤ (k : Int) := by omega
                have i2 : (k : Int) < (b.pols.length : Int) := by omega
                have i3 : 0 < b.rows.length := by omega
                have HK2 := Lib.hid (Hkp.out.alloc (.cells b.pols[k].cells 146))
                have HN2 := Lib.hid (Hnm.out.below ((Below.refl wr.heap.size wr).alloc (Nat.le_refl _) (.cells b.pols[k].cells 146)) hM2)
                have htk := Lib.hid (show (b.pols.map pg).take (k + 1) = (b.pols.map pg).take k ++ [pg b.pols[k]] by rw [List.take_succ_eq_append_getElem (by simpa using hlt)]; simp)
                have hlen2 : ((b.pols.map pg).take k).length < maxLen := by unfold maxLen; simp; omega
                have Hl2 := Lib.hid hlen2
                have q9 : pb < wr.heap.size := Nat.lt_of_lt_of_le hpb Hkp.out.below.size
                have q10 : rb < wr.heap.size := Nat.lt_of_lt_of_le hrb Hkp.out.below.size
                rw [hpa]
                clear hpw x0 x1 x2 x3 hpa hlen2
                revert hnn d0 d1 d2 d3 HK2 HN2 htk
                generalize b.pols[k] = x
                intro hnn d0 d1 d2 d3 HK2 HN2 htk
                cases hn1 : nameB x.nm with
                | false =>
                  go_wp2_with (first | (go_at_call 84; refine (bout_any _ _ _ _).mono ?_; rintro e w' ⟨rfl, rfl⟩) | (go_at_call 85; refine (bhigh_any _ _).mono ?_; rintro e w' ⟨rfl, rfl⟩) | (go_at_call 46; refine (name_any _ hnn _).mono ?_; rintro e w' ⟨rfl, rfl⟩))
                  go_ret3
                  exact BasOut.bad (by decide) hng.out HK2.out.below
                | true =>
                  have hlk := names_look (g := pg x) HN2.out hnn
                  simp only [pg] at hlk
                  cases hs : seenB ((b.pols.map pg).take k) x.nm with
                  | true =>
                    rw [hs] at hlk
                    go_wp2_with (first | (go_at_call 84; refine (bout_any _ _ _ _).mono ?_; rintro e w' ⟨rfl, rfl⟩) | (go_at_call 85; refine (bhigh_any _ _).mono ?_; rintro e w' ⟨rfl, rfl⟩) | (go_at_call 46; refine (name_any _ hnn _).mono ?_; rintro e w' ⟨rfl, rfl⟩))
                    go_ret3
                    exact BasOut.bad (by decide) hng.out HK2.out.below
                  | false =>
                    rw [hs] at hlk
                    have hcase : (outB x.sill b.rows[0].level 20000 = true ∨ (outB x.sill b.rows[0].level 20000 = false ∧ outB x.take 0 10000 = true) ∨ (outB x.sill b.rows[0].level 20000 = false ∧ outB x.take 0 10000 = false ∧ outB x.room 0 1000000000 = true)) ∨
                        (outB x.sill b.rows[0].level 20000 = false ∧ outB x.take 0 10000 = false ∧ outB x.room 0 1000000000 = false) := by
                      by_cases h1 : outB x.sill b.rows[0].level 20000 = true <;> by_cases h2 : outB x.take 0 10000 = true <;> by_cases h3 : outB x.room 0 1000000000 = true <;> simp_all
                    rcases hcase with hbad | ⟨m1, m2, m3⟩
                    · rcases hbad with m1 | ⟨m1, m2⟩ | ⟨m1, m2, m3⟩
                      all_goals
                        go_wp2_with (first | (go_at_call 84; refine (bout_any _ _ _ _).mono ?_; rintro e w' ⟨rfl, rfl⟩) | (go_at_call 85; refine (bhigh_any _ _).mono ?_; rintro e w' ⟨rfl, rfl⟩) | (go_at_call 46; refine (name_any _ hnn _).mono ?_; rintro e w' ⟨rfl, rfl⟩))
                        go_quiet ((go_at_call 84; first | exact quiet_add_left (bout_any _ _ _ _) | exact quiet_left (bout_any _ _ _ _)))
                        all_goals
                          go_wp2
                          go_ret3
                          exact BasOut.bad (by decide) hng.out (HK2.out.drewN _).below
                    · obtain ⟨t0, t1⟩ := outB_ft m2
                      go_wp2_with (first | (go_at_call 84; refine (bout_any _ _ _ _).mono ?_; rintro e w' ⟨rfl, rfl⟩) | (go_at_call 85; refine (bhigh_any _ _).mono ?_; rintro e w' ⟨rfl, rfl⟩) | (go_at_call 46; refine (name_any _ hnn _).mono ?_; rintro e w' ⟨rfl, rfl⟩))
                      go_quiet ((go_at_call 84; first | exact quiet_add_left (bout_any _ _ _ _) | exact quiet_left (bout_any _ _ _ _)))
                      have hkey := WideMaps.keyOf_string_mk (P := Tryz.prog) Tryz.underlying9 hnn
                      have hM3 : M < (wr.alloc (.cells x.cells 146)).heap.size := by simp; omega
                      all_goals
                        go_wp2_with (at_mapUpdate; refine wpList_mapUpdate_own _ rfl _ _ _ 85 rfl 9 4 (Maps.string_keyed Tryz.underlying9) Tryz.underlying85 _ M _ _ rfl (HN2.out.below (below_drewN (Below.refl _ _) _) hM3) Hl2.out _ _ _ rfl rfl hkey _ [] (plainElem_bool Tryz.underlying4 true) ?_)
                        intro w2 hown2 hgrow2
                        have K3 := (HK2.out.drewN _).map hM1 hgrow2
                        have N3 : NamesAt w2 M ((b.pols.map pg).take (k + 1)) := by
                          rw [htk.out]; unfold NamesAt; rw [nmSet_snoc, List.length_append]; exact World.ownsMap.mono hown2 (by first | exact Nat.le_refl _ | omega | (simp; omega) | simp)
                        have e0 := hgrow2.block wr.heap.size (by simp) (fun e => by cases e; omega)
                        have z2 : w2.cell? ⟨wr.heap.size, 2, none⟩ = some (.int .i64 x.take) := (World.cell?_of_block e0).trans (by simp [go_sem])
                        have hM4 := N3.lt
                        have HK3 := Lib.hid K3
                        have HN3 := Lib.hid N3
                        clear hown2 hgrow2 K3 N3 e0 hkey hlk
                        go_wp2
                        go_roundw
                        case rel => first | exact ⟨k + 1, max z x.take, by omega, by go_num, rfl, by omega, by omega, fun h => absurd h (by intro h; rw [h] at hlt; exact absurd hlt (by simp)), HK3.out, HN3.out, hM4⟩ | ((repeat apply Exists.intro); exact ⟨⟨k + 1, max z x.take, by omega, by go_num, rfl, by omega, by omega, fun h => absurd h (by intro h; rw [h] at hlt; exact absurd hlt (by simp)), HK3.out, HN3.out, hM4⟩, rfl⟩)
                        case measure => simp [intOf]; omega
              · obtain ⟨wv, hwv⟩ : ∃ wv, wv = wr := ⟨_, rfl⟩
                subst hwv
                have hcap := Hok.out.cap
                have hsl := run_tail rb ro b.rows.length b.rC (by omega) (by omega)
                clear hrl hM2 Hnm
                go_wp2
                clear hsl
                obtain ⟨n, hn⟩ : ∃ n, b.rows.length = n + 1 := ⟨b.rows.length - 1, by omega⟩
                have hn1 : b.rows.length - 1 = n := by omega
                have Hn := Lib.hid hn
                rw [hn1]
                have hn2 : n ≤ 11 := by omega
                clear hn hn1
                go_loopw [139] (fun i wr => ∃ k : Nat, k ≤ n ∧ i = .int .i64 k ∧ BaW w b wr ∧ (∀ j, (h : j + 1 < b.rows.length) → j < k → z * (b.rows[j + 1].level - b.rows[j].level) ≤ b.rows[j + 1].vol - b.rows[j].vol)) (fun i _ => n - (intOf i).toNat)
                case atStart => exact ⟨0, Nat.zero_le _, rfl, Hkp.out, fun j _ h => absurd h (by omega)⟩
                case round =>
                  clear Hkp c0 q7 q8 hlt hk
                  obtain ⟨m, hm, rfl, hkp, hsl⟩ := hrel
                  have Hkp := Lib.hid hkp
                  have Hsl := Lib.hid hsl
                  have c0 : wr.cell? ⟨w.heap.size, 0, none⟩ = some (.slice (some ⟨rb, ro, none⟩) b.rows.length b.rC) := by rw [hkp.cell 0 _ rfl, ← Ha.out]; rfl
                  have q7 : w.heap.size < wr.heap.size := Hkp.out.lt
                  have q8 : rb < wr.heap.size := Nat.lt_of_lt_of_le hrb hkp.below.size
                  clear hkp hsl
                  by_cases hlt : m < n
                  · have hm1 : m + 1 < b.rows.length := by have := Hn.out; omega
                    have hm0 : m < b.rows.length := by omega
                    obtain ⟨x0, x1⟩ := Hrw.out (m + 1) hm1
                    obtain ⟨y0, y1⟩ := Hrw.out m hm0
                    rw [show ro + (m + 1) * 2 = ro + 2 + m * 2 by omega] at x0 x1
                    have d0 := (Hkp.out.below.cell (p := ⟨rb, ro + 2 + m * 2, none⟩) hrb).trans x0
                    have d1 := (Hkp.out.below.cell (p := ⟨rb, ro + 2 + m * 2 + 1, none⟩) hrb).trans x1
                    have p0 := (Hkp.out.below.cell (p := ⟨rb, ro + m * 2, none⟩) hrb).trans y0
                    have p1 := (Hkp.out.below.cell (p := ⟨rb, ro + m * 2 + 1, none⟩) hrb).trans y1
                    obtain ⟨o1, o2, _⟩ := Hall.out (m + 1) hm1
                    obtain ⟨o3, o4, _⟩ := Hall.out m hm0
                    have b1 := outB_ft o1
                    have b2 := outB_ft o2
                    have b3 := outB_ft o3
                    have b4 := outB_ft o4
                    have bm := mul_bd (A := 10000) (B := 40000) (a := z) (b := b.rows[m + 1].level - b.rows[m].level) (by omega) (by omega) (by omega) (by omega)
                    have i1 : (0 : Int) ≤ (m : Int) := by omega
                    have i2 : (m : Int) < (n : Int) := by omega
                    have i4 : (m : Int) < (b.rows.length : Int) := by omega
                    have HK2 := Lib.hid ((Hkp.out.alloc (.cells b.rows[m + 1].cells 144)).alloc (.cells b.rows[m].cells 144))
                    have hgo := Lib.hid (show ∀ h : b.Good, z * (b.rows[m + 1].level - b.rows[m].level) ≤ b.rows[m + 1].vol - b.rows[m].vol from fun h => by rw [Hzl.out h.nopol]; exact h.slope m hm1)
                    have hst := Lib.hid (show z * (b.rows[m + 1].level - b.rows[m].level) ≤ b.rows[m + 1].vol - b.rows[m].vol → ∀ j, (h : j + 1 < b.rows.length) → j < m + 1 → z * (b.rows[j + 1].level - b.rows[j].level) ≤ b.rows[j + 1].vol - b.rows[j].vol from fun hh j h hj => by
                      by_cases e : j < m
                      · exact Hsl.out j h e
                      · obtain rfl : j = m := by omega
                        exact hh)
                    clear x0 x1 y0 y1 o1 o2 o3 o4
                    revert d0 d1 p0 p1 b1 b2 b3 b4 bm HK2 hgo hst
                    generalize b.rows[m + 1] = y
                    generalize b.rows[m] = x
                    intro d0 d1 p0 p1 b1 b2 b3 b4 bm HK2 hgo hst
                    obtain ⟨b10, b11⟩ := b1
                    obtain ⟨b20, b21⟩ := b2
                    obtain ⟨b30, b31⟩ := b3
                    obtain ⟨b40, b41⟩ := b4
                    obtain ⟨bm0, bm1⟩ := bm
                    have qw : IntKind.i64.wrap (z * (y.level - x.level)) = z * (y.level - x.level) := IntWalk.i64_in _ (by omega)
                    by_cases hh : z * (y.level - x.level) ≤ y.vol - x.vol
                    · have HS := Lib.hid (hst.out hh)
                      have qd : decide (y.vol - x.vol < z * (y.level - x.level)) = false := by simp; omega
                      clear hgo hst
                      go_wp2
                      go_roundw
                      case rel => first | exact ⟨m + 1, by omega, by go_num, HK2.out, HS.out⟩ | ((repeat apply Exists.intro); exact ⟨⟨m + 1, by omega, by go_num, HK2.out, HS.out⟩, rfl⟩)
                      case measure => simp [intOf]; omega
                    · have hng := Lib.hid (show ¬ b.Good from fun h => hh (hgo.out h))
                      have qd : decide (y.vol - x.vol < z * (y.level - x.level)) = true := by simp; omega
                      clear hgo hst
                      go_wp2
                      go_ret3
                      exact BasOut.bad (by decide) hng.out HK2.out.below
                  · go_wp2
                    go_ret3
                    exact ⟨0, 0, 0, rfl, fun _ => ⟨hl2, hl12⟩, fun _ => ⟨rfl, rfl, rfl⟩, Hkp.out.below⟩
end Go.Proofs.YtgfdindlihfidaaGreat
