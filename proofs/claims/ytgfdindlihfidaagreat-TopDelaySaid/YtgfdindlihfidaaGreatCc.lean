/-
  closure.Check: what it returns of any task is a triple; without an error the task fits; of a good task it is no error.
-/
import Derived.Test.YtgfdindlihfidaaGreatBc
import Derived.Test.YtgfdindlihfidaaGreatZg
namespace Go.Proofs.YtgfdindlihfidaaGreat
open Go.RowKit
set_option linter.unusedSimpArgs false
set_option linter.unusedVariables false

/-- A task without polders that is as stated. -/
structure TaskV.Good (t : TaskV) : Prop where
  bas : t.bas.Good
  hist : outB t.hists.length 1 8 = false
  n : outB t.river.length 1 60 = false
  all : ∀ k, (h : k < t.hists.length) → (h0 : 0 < t.hists.length) → t.hists[k].from_ = t.hists[0].from_ ∧ t.hists[k].vals.length = t.river.length ∧ outB t.hists[k].from_ 0 (200000 - t.river.length + 1) = false ∧ t.hists[k].vals.any (outB · (-20000) 20000) = false
  flows : t.river.any (outB · 0 10000000) = false
  filled : t.filled = []
  out : outB t.out 0 10000000 = false
  limit : (h : 0 < t.bas.rows.length) → outB t.limit t.bas.rows[0].level 20000 = false
  delay : outB t.delay 0 30 = false
/-- What is known of a task without an error. -/
structure TaskV.Fit (t : TaskV) : Prop where
  rows : 2 ≤ t.bas.rows.length ∧ t.bas.rows.length ≤ 12
  hist : 1 ≤ t.hists.length ∧ t.hists.length ≤ 8
  n : 1 ≤ t.river.length ∧ t.river.length ≤ 60
  all : ∀ k, (h : k < t.hists.length) → t.hists[k].vals.length = t.river.length ∧ 0 ≤ t.hists[k].from_ ∧ t.hists[k].from_ ≤ 200001
  delay : 0 ≤ t.delay ∧ t.delay ≤ 30

/-- What Check returns. -/
def TskOut (t : TaskV) (w : World) (e : Ending) (w' : World) : Prop :=
  ∃ p a er : Int, e = .returned (.tuple #[.int .i64 p, .int .i64 a, .int .i64 er]) ∧ (er = 0 → t.Fit) ∧ (t.Good → p = 0 ∧ a = 0 ∧ er = 0) ∧ Below w.heap.size w w'
theorem TskOut.bad {t : TaskV} {w w' : World} {p a er : Int} (h : er ≠ 0) (hg : ¬ t.Good) (hb : Below w.heap.size w w') : TskOut t w (.returned (.tuple #[.int .i64 p, .int .i64 a, .int .i64 er])) w' :=
  ⟨p, a, er, rfl, fun h0 => absurd h0 h, fun h1 => absurd h1 hg, hb⟩

/-- What the walk keeps. -/
structure TkW (w : World) (t : TaskV) (W : World) : Prop where
  below : Below w.heap.size w W
  blk : W.heap[w.heap.size]? = some (.cells t.cells 36 (0, 0))
theorem TkW.new (w : World) (t : TaskV) : TkW w t (w.alloc (.cells t.cells 36)) := ⟨(Below.refl _ _).alloc (Nat.le_refl _) _, heap_alloc_new w _⟩
theorem TkW.lt {w W : World} {t : TaskV} (h : TkW w t W) : w.heap.size < W.heap.size := (Array.getElem?_eq_some_iff.1 h.blk).1
theorem TkW.call {w W W' : World} {t : TaskV} (h : TkW w t W) (hb : Below W.heap.size W W') : TkW w t W' := ⟨h.below.trans (hb.mono h.below.size), (hb.block _ h.lt).trans h.blk⟩
theorem TkW.alloc {w W : World} {t : TaskV} (h : TkW w t W) (o : Obj) : TkW w t (W.alloc o) := h.call ((Below.refl _ _).alloc (Nat.le_refl _) o)
theorem TkW.drewN {w W : World} {t : TaskV} (h : TkW w t W) (n : Nat) : TkW w t (W.drewN n) := h.call (below_drewN (Below.refl _ _) n)
theorem TkW.cell {w W : World} {t : TaskV} (h : TkW w t W) (k : Nat) (v : Value) (hv : t.cells[k]? = some v) : W.cell? ⟨w.heap.size, k, none⟩ = some v := by
  rw [cell_of_row W _ k _ _ _ h.blk, hv]

theorem PolsAt.row {w : World} {a : Option Addr} {l : List PolV} (h : PolsAt w a l) {k : Nat} (hk : k < l.length) : ∃ b off, a = some ⟨b, off, none⟩ ∧ b < w.heap.size ∧ ∀ k, (h : k < l.length) →
    w.cell? ⟨b, off + k * 4, none⟩ = some (.string l[k].nm) ∧ w.cell? ⟨b, off + k * 4 + 1, none⟩ = some (.int .i64 l[k].sill) ∧ w.cell? ⟨b, off + k * 4 + 2, none⟩ = some (.int .i64 l[k].take) ∧ w.cell? ⟨b, off + k * 4 + 3, none⟩ = some (.int .i64 l[k].room) := by
  rcases h.2.2 with h | h
  · rw [h] at hk; exact absurd hk (by simp)
  · exact h
theorem SersAt.row {w : World} {a : Option Addr} {l : List SerV} (h : SersAt w a l) {k : Nat} (hk : k < l.length) : ∃ b off, a = some ⟨b, off, none⟩ ∧ b < w.heap.size ∧ ∀ k, (h : k < l.length) →
    w.cell? ⟨b, off + k * 2, none⟩ = some (.int .i64 l[k].from_) ∧ w.cell? ⟨b, off + k * 2 + 1, none⟩ = some (.slice l[k].vA l[k].vals.length l[k].vC) := by
  rcases h.2.2 with h | h
  · rw [h] at hk; exact absurd hk (by simp)
  · exact h
theorem RowsAt.row {w : World} {a : Option Addr} {l : List RowV} (h : RowsAt w a l) {k : Nat} (hk : k < l.length) : ∃ b off, a = some ⟨b, off, none⟩ ∧ b < w.heap.size ∧ ∀ k, (h : k < l.length) →
    w.cell? ⟨b, off + k * 2, none⟩ = some (.int .i64 l[k].level) ∧ w.cell? ⟨b, off + k * 2 + 1, none⟩ = some (.int .i64 l[k].vol) := by
  rcases h.2 with h | h
  · rw [h] at hk; exact absurd hk (by simp)
  · exact h

theorem ck3c_any (B : Nat) (t : TaskV) (k : Nat) (v : Int) (W : World) (hk : k < t.bas.pols.length) (hB : W.heap[B]? = some (.cells t.cells 36 (0, 0))) (hp : PolsAt W t.bas.pA t.bas.pols) :
    Calls Tryz.prog 75 #[.int .i64 k, .int .i64 v, .pointer (some ⟨B, 0, none⟩)] W fun e W' => e = .returned (.bool (outB v 0 t.bas.pols[k].room)) ∧ W = W' := by
  have hm := hp.1
  unfold maxLen at hm
  obtain ⟨pb, po, hpa, hpb, hpw⟩ := hp.row hk
  have d3 := (hpw k hk).2.2.2
  have c4 : W.cell? ⟨B, 4, none⟩ = some (.slice (some ⟨pb, po, none⟩) t.bas.pols.length t.bas.pC) := by rw [cell_of_row _ _ 4 _ _ _ hB, ← hpa]; rfl
  have i1 : (0 : Int) ≤ (k : Int) := by omega
  have i2 : (k : Int) < (t.bas.pols.length : Int) := by omega
  clear hpw hpa hp hB
  generalize t.bas.pols[k] = x at d3 ⊢
  go_enter Tryz.func75, Tryz.ntmps75
  go_wp2_with (go_at_call 18; refine (cout_any _ _ _ _).mono ?_; rintro e w' ⟨rfl, rfl⟩)
  go_ret
  exact ⟨rfl, rfl⟩

theorem flowq_eq {v : Int} {b : Bool} (h : outB v 0 10000000 = b) (W : World) : Calls Tryz.prog 74 #[.int .i64 v] W fun e W' => e = .returned (.bool b) ∧ W = W' := h ▸ flow_pure.2 v W
theorem cout_eq {n lo hi : Int} {b : Bool} (h : outB n lo hi = b) (W : World) : Calls Tryz.prog 18 #[.int .i64 n, .int .i64 lo, .int .i64 hi] W fun e W' => e = .returned (.bool b) ∧ W = W' := h ▸ cout_any n lo hi W
theorem flowq_any (v : Int) (W : World) : Calls Tryz.prog 74 #[.int .i64 v] W fun e W' => e = .returned (.bool (outB v 0 10000000)) ∧ W = W' := flow_pure.2 v W

/-- More is in polder k than it has room for. -/
def roomB (t : TaskV) (k : Nat) : Bool := match t.filled[k]?, t.bas.pols[k]? with | some f, some p => outB f 0 p.room | _, _ => false
theorem roomW {w : World} {t : TaskV} (hok : t.Ok w) (hl : t.filled.length = t.bas.pols.length) (W : World) (hW : TkW w t W) :
    Calls Tryz.prog 67 #[.slice t.fA t.filled.length t.fC, .func (.func 75) #[] #[.pointer (some ⟨w.heap.size, 0, none⟩)]] W fun e w' => e = .returned (.int .i64 (whereZ (roomB t) t.filled.length 0)) ∧ TkW w t w' :=
  where_any _ _ (enters_of Tryz.func75 (by kernel_rfl) rfl) _ _ _ (roomB t) (fun W => TkW w t W) (fun W hW => hok.filled.below hW.below (Nat.le_refl _)) (fun k hk W hW => by
    have hp : k < t.bas.pols.length := by omega
    have e : roomB t k = outB t.filled[k] 0 t.bas.pols[k].room := by
      unfold roomB
      rw [List.getElem?_eq_getElem hk, List.getElem?_eq_getElem hp]
    rw [e]
    refine (ck3c_any w.heap.size t k t.filled[k] W hp hW.blk (hok.bas.pols.below hW.below (Nat.le_refl _))).mono ?_
    rintro e w' ⟨rfl, rfl⟩
    exact ⟨rfl, hW⟩) W hW

set_option maxRecDepth 100000 in
set_option maxHeartbeats 4000000 in
theorem ccheck_any (t : TaskV) (w : World) (hok : t.Ok w) :
    Calls Tryz.prog 43 #[t.val] w (TskOut t w) := by
  have hhm := hok.hists.1
  have hvm := hok.river.1
  have hfm := hok.filled.1
  have hpm := hok.bas.pols.1
  have hrm := hok.bas.rows.1
  unfold maxLen at hhm hvm hfm hpm hrm
  have Hok := Lib.hid hok
  have K0 := Lib.hid (TkW.new w t)
  have Hok1 := Lib.hid (hok.bas.below K0.out.below (Nat.le_refl _))
  clear hok
  go_enter Tryz.func43, Tryz.ntmps43
  go_wp2_with fail
  refine (bcheck_any t.bas _ Hok1.out).mono ?_
  rintro e w1 ⟨p, a, er, rfl, hr, hg, hb1⟩
  have hk1 := K0.out.call hb1
  have HK1 := Lib.hid hk1
  have Hr := Lib.hid hr
  have Hg := Lib.hid hg
  clear hb1 hr hg Hok1 K0
  by_cases her : er = 0
  · subst her
    have hrows := Hr.out rfl
    have c6 : w1.cell? ⟨w.heap.size, 6, none⟩ = some (.slice t.hA t.hists.length t.hC) := hk1.cell 6 _ rfl
    clear hk1 Hr Hg
    by_cases h1 : outB t.hists.length 1 8 = true
    · have hng := Lib.hid (show ¬ t.Good from fun h => by rw [h.hist] at h1; cases h1)
      go_wp2_with (first | (go_at_call 18; refine (cout_any _ _ _ _).mono ?_; rintro e w' ⟨rfl, rfl⟩) | (go_at_call 57; refine (containsF_any _ _ wild_pure _ _ _ _ hiv).mono ?_; rintro e w' ⟨rfl, rfl⟩))
      go_ret3
      exact TskOut.bad (by decide) hng.out HK1.out.below
    · simp only [Bool.not_eq_true] at h1
      have hh := outB_len h1
      obtain ⟨hb, ho, hha, hhb, hhw⟩ := Hok.out.hists.row (k := 0) (by omega)
      have Hha := Lib.hid hha
      have Hhw := Lib.hid hhw
      rw [hha] at c6
      obtain ⟨x0, x1⟩ := hhw 0 (by omega)
      simp only [Nat.zero_mul, Nat.add_zero] at x0 x1
      have d0 := (HK1.out.below.cell (p := ⟨hb, ho, none⟩) hhb).trans x0
      have d1 := (HK1.out.below.cell (p := ⟨hb, ho + 1, none⟩) hhb).trans x1
      have i0 : 0 < t.hists.length := by omega
      obtain ⟨f0, hf0⟩ : ∃ f0, f0 = t.hists[0] := ⟨_, rfl⟩
      rw [← hf0] at d0 d1
      have Hf0 := Lib.hid hf0
      have hfv : IntsAt w f0.vA f0.vals := hf0 ▸ Hok.out.hists.2.1 _ (List.getElem_mem (by omega))
      have hfm := hfv.1
      unfold maxLen at hfm
      clear hha hhw x0 x1 hf0 hfv
      by_cases h2 : outB f0.vals.length 1 60 = true
      · have hng := Lib.hid (show ¬ t.Good from fun h => by
          have e := (h.all 0 (by omega) (by omega)).2.1
          have e2 := h.n
          rw [← e, ← Hf0.out, h2] at e2
          cases e2)
        go_wp2_with (first | (go_at_call 18; refine (cout_any _ _ _ _).mono ?_; rintro e w' ⟨rfl, rfl⟩) | (go_at_call 57; refine (containsF_any _ _ wild_pure _ _ _ _ hiv).mono ?_; rintro e w' ⟨rfl, rfl⟩))
        go_ret3
        exact TskOut.bad (by decide) hng.out HK1.out.below
      · simp only [Bool.not_eq_true] at h2
        have hn := outB_len h2
        have q7 : w.heap.size < w1.heap.size := HK1.out.lt
        have q8 : hb < w1.heap.size := Nat.lt_of_lt_of_le hhb HK1.out.below.size
        go_wp2_with (first | (go_at_call 18; refine (cout_any _ _ _ _).mono ?_; rintro e w' ⟨rfl, rfl⟩) | (go_at_call 57; refine (containsF_any _ _ wild_pure _ _ _ _ hiv).mono ?_; rintro e w' ⟨rfl, rfl⟩))
        have K2 := HK1.out.alloc (.cells f0.cells 106)
        have F2 : (w1.alloc (.cells f0.cells 106)).heap[w1.heap.size]? = some (.cells f0.cells 106 (0, 0)) := heap_alloc_new _ _
        obtain ⟨F, hF⟩ : ∃ F, F = w1.heap.size := ⟨_, rfl⟩
        rw [← hF] at F2 ⊢
        have hFw : w.heap.size < F := by omega
        have HK2 := Lib.hid K2
        have HF2 := Lib.hid F2
        clear K2 F2 c6 d0 d1 q7 q8 hF h1 h2
        generalize w1.alloc (.cells f0.cells 106) = W1 at HK2 HF2 ⊢
        go_loopw [44] (fun i wr => ∃ k : Nat, k ≤ t.hists.length ∧ i = .int .i64 k ∧ TkW w t wr ∧ wr.heap[F]? = some (.cells f0.cells 106 (0, 0)) ∧ (∀ j, (h : j < t.hists.length) → j < k → t.hists[j].from_ = f0.from_ ∧ t.hists[j].vals.length = f0.vals.length ∧ outB t.hists[j].from_ 0 (200000 - f0.vals.length + 1) = false)) (fun i _ => t.hists.length - (intOf i).toNat)
        case atStart => exact ⟨0, Nat.zero_le _, rfl, HK2.out, HF2.out, fun j _ hj => absurd hj (by omega)⟩
        case round =>
          obtain ⟨k, hk, rfl, hkp, hfp, hal⟩ := hrel
          have Hkp := Lib.hid hkp
          have Hfp := Lib.hid hfp
          have Hal := Lib.hid hal
          have f0c : wr.cell? ⟨F, 0, none⟩ = some (.int .i64 f0.from_) := (cell_of_row _ _ 0 _ _ _ hfp).trans rfl
          have q7 : w.heap.size < wr.heap.size := hkp.lt
          have q8 : hb < wr.heap.size := Nat.lt_of_lt_of_le hhb hkp.below.size
          have q9 : F < wr.heap.size := (Array.getElem?_eq_some_iff.1 hfp).1
          clear hkp hfp hal
          by_cases hlt : k < t.hists.length
          · obtain ⟨x0, x1⟩ := Hhw.out k hlt
            have d0 := (Hkp.out.below.cell (p := ⟨hb, ho + k * 2, none⟩) hhb).trans x0
            have d1 := (Hkp.out.below.cell (p := ⟨hb, ho + k * 2 + 1, none⟩) hhb).trans x1
            have i1 : (0 : Int) ≤ (k : Int) := by omega
            have i2 : (k : Int) < (t.hists.length : Int) := by omega
            have HK3 := Lib.hid (Hkp.out.alloc (.cells t.hists[k].cells 106))
            have HF3 := Lib.hid ((Below.block ((Below.refl wr.heap.size wr).alloc (Nat.le_refl _) (.cells t.hists[k].cells 106)) F q9).trans Hfp.out)
            have hiv := (Hok.out.hists.2.1 _ (List.getElem_mem hlt)).below HK3.out.below (Nat.le_refl _)
            have hvm2 := hiv.1
            unfold maxLen at hvm2
            have hgo := Lib.hid (show ∀ h : t.Good, t.hists[k].from_ = f0.from_ ∧ t.hists[k].vals.length = f0.vals.length ∧ outB t.hists[k].from_ 0 (200000 - f0.vals.length + 1) = false ∧ t.hists[k].vals.any (outB · (-20000) 20000) = false from fun h => by
              obtain ⟨a1, a2, a3, a4⟩ := h.all k hlt (by omega)
              obtain ⟨_, b2, _, _⟩ := h.all 0 (by omega) (by omega)
              rw [← Hf0.out] at a1 b2
              exact ⟨a1, a2.trans b2.symm, by rw [b2]; exact a3, a4⟩)
            have hst := Lib.hid (show t.hists[k].from_ = f0.from_ → t.hists[k].vals.length = f0.vals.length → outB t.hists[k].from_ 0 (200000 - f0.vals.length + 1) = false → ∀ j, (h : j < t.hists.length) → j < k + 1 → t.hists[j].from_ = f0.from_ ∧ t.hists[j].vals.length = f0.vals.length ∧ outB t.hists[j].from_ 0 (200000 - f0.vals.length + 1) = false from fun a b c j h hj => by
              by_cases e : j < k
              · exact Hal.out j h e
              · obtain rfl : j = k := by omega
                exact ⟨a, b, c⟩)
            clear x0 x1
            revert d0 d1 HK3 HF3 hiv hvm2 hgo hst
            generalize t.hists[k] = x
            intro d0 d1 HK3 HF3 hiv hvm2 hgo hst
            by_cases e1 : x.from_ = f0.from_
            · by_cases e2 : x.vals.length = f0.vals.length
              · have q1 : (x.from_ != f0.from_) = false := by simp [e1]
                have q2 : ((x.vals.length : Int) != (f0.vals.length : Int)) = false := by simp [e2]
                have E1 := Lib.hid e1
                have E2 := Lib.hid e2
                clear e1 e2
                cases e3 : outB x.from_ 0 (200000 - f0.vals.length + 1) with
                | true =>
                  have hng := Lib.hid (show ¬ t.Good from fun h => by have := (hgo.out h).2.2.1; rw [e3] at this; cases this)
                  clear hgo hst
                  go_wp2_with (first | (go_at_call 18; refine (cout_any _ _ _ _).mono ?_; rintro e w' ⟨rfl, rfl⟩) | (go_at_call 57; refine (containsF_any _ _ wild_pure _ _ _ _ hiv).mono ?_; rintro e w' ⟨rfl, rfl⟩))
                  go_ret3
                  exact TskOut.bad (by decide) hng.out HK3.out.below
                | false =>
                  cases e4 : x.vals.any (outB · (-20000) 20000) with
                  | true =>
                    have hng := Lib.hid (show ¬ t.Good from fun h => by have := (hgo.out h).2.2.2; rw [e4] at this; cases this)
                    clear hgo hst
                    go_wp2_with (first | (go_at_call 18; refine (cout_any _ _ _ _).mono ?_; rintro e w' ⟨rfl, rfl⟩) | (go_at_call 57; refine (containsF_any _ _ wild_pure _ _ _ _ hiv).mono ?_; rintro e w' ⟨rfl, rfl⟩))
                    go_ret3
                    exact TskOut.bad (by decide) hng.out HK3.out.below
                  | false =>
                    have HS := Lib.hid (hst.out E1.out E2.out e3)
                    clear hgo hst
                    go_wp2_with (first | (go_at_call 18; refine (cout_any _ _ _ _).mono ?_; rintro e w' ⟨rfl, rfl⟩) | (go_at_call 57; refine (containsF_any _ _ wild_pure _ _ _ _ hiv).mono ?_; rintro e w' ⟨rfl, rfl⟩))
                    go_roundw
                    case rel => first | exact ⟨k + 1, by omega, by go_num, HK3.out, HF3.out, HS.out⟩ | ((repeat apply Exists.intro); exact ⟨⟨k + 1, by omega, by go_num, HK3.out, HF3.out, HS.out⟩, rfl⟩)
                    case measure => simp [intOf]; omega
              · have hng := Lib.hid (show ¬ t.Good from fun h => e2 (hgo.out h).2.1)
                have q1 : (x.from_ != f0.from_) = false := by simp [e1]
                have q2 : ((x.vals.length : Int) != (f0.vals.length : Int)) = true := by simp; omega
                clear hgo hst e1 e2
                go_wp2_with (first | (go_at_call 18; refine (cout_any _ _ _ _).mono ?_; rintro e w' ⟨rfl, rfl⟩) | (go_at_call 57; refine (containsF_any _ _ wild_pure _ _ _ _ hiv).mono ?_; rintro e w' ⟨rfl, rfl⟩))
                go_ret3
                exact TskOut.bad (by decide) hng.out HK3.out.below
            · have hng := Lib.hid (show ¬ t.Good from fun h => e1 (hgo.out h).1)
              have q1 : (x.from_ != f0.from_) = true := by simp [e1]
              clear hgo hst e1
              go_wp2_with (first | (go_at_call 18; refine (cout_any _ _ _ _).mono ?_; rintro e w' ⟨rfl, rfl⟩) | (go_at_call 57; refine (containsF_any _ _ wild_pure _ _ _ _ hiv).mono ?_; rintro e w' ⟨rfl, rfl⟩))
              go_ret3
              exact TskOut.bad (by decide) hng.out HK3.out.below
          · have hall := Lib.hid (show ∀ j, (h : j < t.hists.length) → t.hists[j].from_ = f0.from_ ∧ t.hists[j].vals.length = f0.vals.length ∧ outB t.hists[j].from_ 0 (200000 - f0.vals.length + 1) = false from fun j h => Hal.out j h (by omega))
            have c0 : wr.cell? ⟨w.heap.size, 0, none⟩ = some (.slice t.bas.rA t.bas.rows.length t.bas.rC) := Hkp.out.cell 0 _ rfl
            have c4 : wr.cell? ⟨w.heap.size, 4, none⟩ = some (.slice t.bas.pA t.bas.pols.length t.bas.pC) := Hkp.out.cell 4 _ rfl
            have c5 : wr.cell? ⟨w.heap.size, 5, none⟩ = some (.slice t.fA t.filled.length t.fC) := Hkp.out.cell 5 _ rfl
            have c7 : wr.cell? ⟨w.heap.size, 7, none⟩ = some (.slice t.rA t.river.length t.rC) := Hkp.out.cell 7 _ rfl
            have c8 : wr.cell? ⟨w.heap.size, 8, none⟩ = some (.int .i64 t.out) := Hkp.out.cell 8 _ rfl
            have c9 : wr.cell? ⟨w.heap.size, 9, none⟩ = some (.int .i64 t.limit) := Hkp.out.cell 9 _ rfl
            have c10 : wr.cell? ⟨w.heap.size, 10, none⟩ = some (.int .i64 t.delay) := Hkp.out.cell 10 _ rfl
            have hn0 := Lib.hid (show ∀ h : t.Good, t.river.length = f0.vals.length from fun h => by rw [Hf0.out]; exact (h.all 0 (by omega) (by omega)).2.1.symm)
            clear Hal Hfp f0c q9 HF2 HK2
            by_cases e5 : t.river.length = f0.vals.length
            · have q5 : ((t.river.length : Int) != (f0.vals.length : Int)) = false := by simp [e5]
              have E5 := Lib.hid e5
              have hnr : 1 ≤ t.river.length ∧ t.river.length ≤ 60 := by omega
              have hiv := Hok.out.river.below Hkp.out.below (Nat.le_refl _)
              clear e5
              cases e6 : t.river.any (outB · 0 10000000) with
              | true =>
                have hng := Lib.hid (show ¬ t.Good from fun h => by have := h.flows; rw [e6] at this; cases this)
                go_wp2_with (first | (go_at_call 18; refine (cout_any _ _ _ _).mono ?_; rintro e w' ⟨rfl, rfl⟩) | (go_at_call 57; refine (containsF_any _ _ flow_pure _ _ _ _ hiv).mono ?_; rintro e w' ⟨rfl, rfl⟩))
                go_ret3
                exact TskOut.bad (by decide) hng.out Hkp.out.below
              | false =>
                by_cases e7 : t.filled.length = t.bas.pols.length
                · have q7b : ((t.filled.length : Int) != (t.bas.pols.length : Int)) = false := by simp [e7]
                  have E7 := Lib.hid e7
                  obtain ⟨rb, ro, hra, hrb, hrw⟩ := Hok.out.bas.rows.row (k := 0) (by omega)
                  obtain ⟨x0, _⟩ := hrw 0 (by omega)
                  simp only [Nat.zero_mul, Nat.add_zero] at x0
                  have r0 := (Hkp.out.below.cell (p := ⟨rb, ro, none⟩) hrb).trans x0
                  have q10 : rb < wr.heap.size := Nat.lt_of_lt_of_le hrb Hkp.out.below.size
                  rw [hra] at c0
                  have i3 : 0 < t.bas.rows.length := by omega
                  have hlim := Lib.hid (show ∀ h : t.Good, outB t.limit t.bas.rows[0].level 20000 = false from fun h => h.limit i3)
                  clear hra hrw x0 e7
                  revert r0 hlim
                  generalize t.bas.rows[0] = x
                  intro r0 hlim
                  have hcase : (outB t.out 0 10000000 = true ∨ (outB t.out 0 10000000 = false ∧ outB t.limit x.level 20000 = true) ∨ (outB t.out 0 10000000 = false ∧ outB t.limit x.level 20000 = false ∧ outB t.delay 0 30 = true)) ∨
                      (outB t.out 0 10000000 = false ∧ outB t.limit x.level 20000 = false ∧ outB t.delay 0 30 = false) := by
                    by_cases h1 : outB t.out 0 10000000 = true <;> by_cases h2 : outB t.limit x.level 20000 = true <;> by_cases h3 : outB t.delay 0 30 = true <;> simp_all
                  rcases hcase with hbad | ⟨m1, m2, m3⟩
                  · have hng := Lib.hid (show ¬ t.Good from fun h => by
                      have a1 := h.out
                      have a2 := hlim.out h
                      have a3 := h.delay
                      simp_all)
                    rcases hbad with m1 | ⟨m1, m2⟩ | ⟨m1, m2, m3⟩
                    all_goals
                      go_wp2_with (first | (go_at_call 18; refine (cout_any _ _ _ _).mono ?_; rintro e w' ⟨rfl, rfl⟩) | (go_at_call 57; refine (containsF_any _ _ flow_pure _ _ _ _ hiv).mono ?_; rintro e w' ⟨rfl, rfl⟩))
                      go_big_quiet ((first
                        | (go_at_call 74; first | with_reducible exact quiet_add_left (flowq_eq m1 _) | with_reducible exact quiet_left (flowq_eq m1 _))
                        | (go_at_call 18; first | with_reducible exact quiet_add_left (cout_eq m2 _) | with_reducible exact quiet_left (cout_eq m2 _) | with_reducible exact quiet_add_left (cout_eq m3 _) | with_reducible exact quiet_left (cout_eq m3 _))))
                      all_goals
                        go_wp2
                        go_ret3
                        exact TskOut.bad (by decide) hng.out (Hkp.out.drewN _).below
                  · have hde := outB_ft m3
                    go_wp2_with (first | (go_at_call 18; refine (cout_any _ _ _ _).mono ?_; rintro e w' ⟨rfl, rfl⟩) | (go_at_call 57; refine (containsF_any _ _ flow_pure _ _ _ _ hiv).mono ?_; rintro e w' ⟨rfl, rfl⟩))
                    go_big_quiet ((first
                      | (go_at_call 74; first | with_reducible exact quiet_add_left (flowq_eq m1 _) | with_reducible exact quiet_left (flowq_eq m1 _))
                      | (go_at_call 18; first | with_reducible exact quiet_add_left (cout_eq m2 _) | with_reducible exact quiet_left (cout_eq m2 _) | with_reducible exact quiet_add_left (cout_eq m3 _) | with_reducible exact quiet_left (cout_eq m3 _))))
                    have hwh := roomW Hok.out E7.out
                    have Hwh := Lib.hid hwh
                    have hz0 := Lib.hid (show t.Good → whereZ (roomB t) t.filled.length 0 = -1 from fun h => by rw [h.filled]; rfl)
                    have hfit := Lib.hid (show t.Fit from ⟨hrows, by omega, hnr, fun j h => by
                      obtain ⟨_, a2, a3⟩ := hall.out j h
                      obtain ⟨b1, b2⟩ := outB_ft a3
                      exact ⟨by have := E5.out; omega, b1, by omega⟩, hde⟩)
                    have K5 := Hkp.out.drewN nq
                    have HK5 := Lib.hid K5
                    clear hwh K5 hlim hall hn0
                    generalize wr.drewN nq = W5 at HK5 ⊢
                    obtain ⟨z, hz⟩ : ∃ z, z = whereZ (roomB t) t.filled.length 0 := ⟨_, rfl⟩
                    rw [← hz] at hz0
                    have hwz := Lib.hid (show ∀ W, TkW w t W → Calls Tryz.prog 67 #[.slice t.fA t.filled.length t.fC, .func (.func 75) #[] #[.pointer (some ⟨w.heap.size, 0, none⟩)]] W fun e w' => e = .returned (.int .i64 z) ∧ TkW w t w' from hz ▸ Hwh.out)
                    have c5b : W5.cell? ⟨w.heap.size, 5, none⟩ = some (.slice t.fA t.filled.length t.fC) := HK5.out.cell 5 _ rfl
                    clear hz Hwh c0 c4 c5 c7 c8 c9 c10 r0 q7 q8 q10
                    by_cases hzz : 0 ≤ z
                    · go_wp2_with (go_at_call 67; refine (hwz.out _ HK5.out).mono ?_; rintro e w' ⟨rfl, hj⟩; have HJ := Lib.hid hj; clear hj)
                      go_ret3
                      exact TskOut.bad (by decide) (fun h => by have := hz0.out h; omega) HJ.out.below
                    · go_wp2_with (go_at_call 67; refine (hwz.out _ HK5.out).mono ?_; rintro e w' ⟨rfl, hj⟩; have HJ := Lib.hid hj; clear hj)
                      go_ret3
                      exact ⟨0, 0, 0, rfl, fun _ => hfit.out, fun _ => ⟨rfl, rfl, rfl⟩, HJ.out.below⟩
                · have hng := Lib.hid (show ¬ t.Good from fun h => e7 (by rw [h.filled, h.bas.nopol]; rfl))
                  have q7b : ((t.filled.length : Int) != (t.bas.pols.length : Int)) = true := by simp; omega
                  clear e7
                  go_wp2_with (first | (go_at_call 18; refine (cout_any _ _ _ _).mono ?_; rintro e w' ⟨rfl, rfl⟩) | (go_at_call 57; refine (containsF_any _ _ flow_pure _ _ _ _ hiv).mono ?_; rintro e w' ⟨rfl, rfl⟩))
                  go_ret3
                  exact TskOut.bad (by decide) hng.out Hkp.out.below
            · have hng := Lib.hid (show ¬ t.Good from fun h => e5 (hn0.out h))
              have q5 : ((t.river.length : Int) != (f0.vals.length : Int)) = true := by simp; omega
              clear e5
              go_wp2_with fail
              go_ret3
              exact TskOut.bad (by decide) hng.out Hkp.out.below
  · have h1 : (er != 0) = true := by simp [her]
    have Her := Lib.hid her
    clear her
    go_wp2
    go_ret3
    exact ⟨1, 0, er, rfl, fun h => absurd h Her.out, fun h => absurd (Hg.out h.bas).2.2 Her.out, HK1.out.below⟩
end Go.Proofs.YtgfdindlihfidaaGreat
