/-
  The walk of GateLatest: it returns true.
-/
import Derived.Test.YthalanpmfhhhnaaLp
import Derived.Test.YthalanpmfhhhnaaGm
import Derived.Test.YthalanpmfhhhnaaAw
namespace Go.Proofs.Ythalanpmfhhhnaa
open Go.RowKit
set_option linter.unusedSimpArgs false
set_option linter.unusedVariables false
attribute [local go_sem ↓] loadAt_gate
attribute [local go_sem] run_gateMid
attribute [local go_sem high] run_min_z run_max_z
attribute [local go_sem ↓] run_min_z run_max_z

/-- The set without its rules. -/
def bare (s : SetV) : SetV := ⟨s.gA, s.gC, s.gates, none, 0, []⟩
theorem delay_len {s : SetV} {sts : List St} {t : Stp} {d : Int} (h : delayZ s sts t = (d, 0)) : sts.length = s.gates.length := by
  by_cases hl : sts.length = s.gates.length
  · exact hl
  · exfalso
    unfold delayZ at h
    split at h
    · rename_i hc; simp only [Prod.mk.injEq] at h; exact hc h.2
    · simp at h
theorem latest_bare {s : SetV} {sts : List St} {o i d : Int} {pw : Bool} (h : delayZ (bare s) sts ⟨1, pw, o, i⟩ = (d, 0)) :
    sts.length = s.gates.length ∧ ∃ f : Nat → Int, (∀ k, (h1 : k < s.gates.length) → (h2 : k < sts.length) → timeZ s.gates[k] sts[k] o i pw = (f k, 0) ∧ 0 ≤ f k ∧ f k ≤ 2000) ∧ d = (lateUpto f s.gates.length + 9) / 10 ∧ s.gates.length ≤ 6 :=
  ⟨delay_len (s := bare s) h, latest_law (s := bare s) rfl (delay_len (s := bare s) h) h⟩

set_option maxRecDepth 100000 in
set_option maxHeartbeats 8000000 in
theorem glatest_any (s : SetV) (sA : Option Addr) (sC : Nat) (sts : List St) (o i : Int) (pw : Bool) (w : World) (hok : s.Ok w) (hms : StsAt w sA sts) :
    Calls Try.prog 13 #[s.val, .slice sA sts.length sC, .agg #[.int .i64 o, .int .i64 i, .bool pw]] w fun e w' => e = .returned (.bool true) ∧ Below w.heap.size w w' := by
  have hb0 := Bk.new2 w (.cells s.cells 25) (.cells #[.int .i64 o, .int .i64 i, .bool pw] 38)
  have HB := Lib.hid hb0
  have Hok := Lib.hid (fun W (h : Below w.heap.size w W) => hok.below h (Nat.le_refl _))
  have Hms := Lib.hid (fun W (h : Below w.heap.size w W) => hms.below h (Nat.le_refl _))
  have Hm0 := Lib.hid hms
  have Hg0 := Lib.hid hok.gs
  have hgm := hok.gs.1
  have hsm := hms.1
  unfold maxLen at hgm hsm
  clear hb0 hok hms
  go_enter Try.func13, Try.ntmps13
  go_upto_region 1 with (fail)
  obtain ⟨W, hW⟩ : ∃ W, W = (w.alloc (.cells s.cells 25)).alloc (.cells #[.int .i64 o, .int .i64 i, .bool pw] 38) := ⟨_, rfl⟩
  have hz : W.heap.size = w.heap.size + 2 := by rw [hW]; simp
  rw [← hW] at HB ⊢
  clear hW
  have y0 : W.cell? ⟨w.heap.size, 0, none⟩ = some (.slice s.gA s.gates.length s.gC) := HB.out.cell 0 0 rfl rfl
  have y1 : W.cell? ⟨w.heap.size, 1, none⟩ = some (.slice s.rA s.rules.length s.rC) := HB.out.cell 0 1 rfl rfl
  go_upto_region 3 with (fail)
  have hp := HB.out.push (by rw [hz]; simp) (.cells (bare s).cells 25)
  obtain ⟨V, hV⟩ : ∃ V, V = W.alloc (.cells #[.slice s.gA s.gates.length s.gC, .slice none 0 0] 25) := ⟨_, rfl⟩
  have hv : Bk w [.cells s.cells 25, .cells #[.int .i64 o, .int .i64 i, .bool pw] 38, .cells (bare s).cells 25] V := by rw [hV]; exact hp
  have HV := Lib.hid hv
  rw [← hV]
  clear hV hp hv y0 y1 HB hz
  have x0 : V.cell? ⟨w.heap.size + 1, 0, none⟩ = some (.int .i64 o) := HV.out.cell 1 0 rfl rfl
  have x1 : V.cell? ⟨w.heap.size + 1, 1, none⟩ = some (.int .i64 i) := HV.out.cell 1 1 rfl rfl
  have x2 : V.cell? ⟨w.heap.size + 1, 2, none⟩ = some (.bool pw) := HV.out.cell 1 2 rfl rfl
  have z0 : V.cell? ⟨w.heap.size + 2, 0, none⟩ = some (.slice s.gA s.gates.length s.gC) := HV.out.cell 2 0 rfl rfl
  have z1 : V.cell? ⟨w.heap.size + 2, 1, none⟩ = some (.slice none 0 0) := HV.out.cell 2 1 rfl rfl
  obtain ⟨d, e, hde⟩ : ∃ d e, delayZ (bare s) sts ⟨1, pw, o, i⟩ = (d, e) := ⟨_, _, rfl⟩
  have hdl : ∀ X, Below w.heap.size w X → Calls Try.prog 25 #[.agg #[.slice s.gA s.gates.length s.gC, .slice none 0 0], .slice sA sts.length sC, .int .i64 o, .int .i64 i, .bool pw] X fun e' w' => e' = .returned (.tuple #[.int .i64 d, .int .i64 e]) ∧ Below X.heap.size X w' := fun X hX => by
    have h := delay_any (bare s) sA sC sts o i pw X ⟨(Hok.out X hX).gs, by unfold maxLen; simp [bare], .inl rfl⟩ (Hms.out X hX)
    rw [hde] at h
    exact h
  have Hdl := Lib.hid hdl
  have Hde := Lib.hid hde
  clear hdl hde
  by_cases he : e = 0
  · subst he
    obtain ⟨hl, f, hf, hd, hn⟩ := latest_bare Hde.out
    have Hf := Lib.hid hf
    have Hd := Lib.hid hd
    have hls : (s.gates.length : Int) ≤ 6 := by omega
    have e1 : ((0 : Int) == 9) = false := rfl
    have e2 : ((s.gates.length : Int) != (s.gates.length : Int)) = false := by simp
    clear hf hd hn
    rw [hl] at Hdl ⊢
    go_wp2_with (first
      | (go_at_call 25; refine (Hdl.out _ HV.out.below).mono ?_; rintro e w1 ⟨rfl, hb1⟩; have H1 := HV.out.call hb1; have a0 : w1.cell? ⟨w.heap.size, 0, none⟩ = some (.slice s.gA s.gates.length s.gC) := H1.cell 0 0 rfl rfl; have HV1 := Lib.hid H1; clear hb1 H1))
    go_loopw [10, 11] (fun l j wr => ∃ k : Nat, k ≤ s.gates.length ∧ l = .int .i64 (lateUpto f k) ∧ j = .int .i64 k ∧ Bk w [.cells s.cells 25, .cells #[.int .i64 o, .int .i64 i, .bool pw] 38, .cells (bare s).cells 25] wr) (fun _ j _ => s.gates.length - (intOf j).toNat)
    case atStart => exact ⟨0, Nat.zero_le _, rfl, rfl, HV1.out⟩
    case round =>
      obtain ⟨k, hk, rfl, rfl, hbk⟩ := hrel
      have Hbk := Lib.hid hbk
      have a0 : wr.cell? ⟨w.heap.size, 0, none⟩ = some (.slice s.gA s.gates.length s.gC) := hbk.cell 0 0 rfl rfl
      clear hbk
      by_cases hlt : k < s.gates.length
      · have hks : k < sts.length := by omega
        obtain ⟨b, off, ha, hb, hgl⟩ : ∃ b off, s.gA = some ⟨b, off, none⟩ ∧ b < w.heap.size ∧ ∀ k, (h : k < s.gates.length) → w.rangeAt b (off + k * 21) s.gates[k].cells.toList := by
          rcases Hg0.out.2.2 with h | h
          · exact absurd hlt (by rw [h]; simp)
          · exact h
        obtain ⟨sb, so, hsa, hsb, hsl⟩ : ∃ b off, sA = some ⟨b, off, none⟩ ∧ _ := by
          rcases Hm0.out.2 with h | h
          · exact absurd hks (by rw [h]; simp)
          · exact h
        subst hsa
        have Hrg := Lib.hid (hgl k hlt)
        have Hcs := Lib.hid (hsl k hks)
        have Hgo := Lib.hid (Hg0.out.2.1 s.gates[k] (List.getElem_mem hlt))
        have Hti := Lib.hid (Hf.out k hlt hks)
        have hlk : lateUpto f (k + 1) = max (lateUpto f k) (f k) := rfl
        have Hlk := Lib.hid hlk
        have i1 : (0 : Int) ≤ (k : Int) := by omega
        have i2 : (k : Int) < (s.gates.length : Int) := by omega
        clear hgl hsl hlk
        revert Hrg Hcs Hti Hgo
        generalize s.gates[k] = g
        generalize sts[k] = x
        intro Hrg Hcs Hgo Hti
        have T0 := TgS.new wr
        have hkW : ∀ V, TgS wr V → Bk w [.cells s.cells 25, .cells #[.int .i64 o, .int .i64 i, .bool pw] 38, .cells (bare s).cells 25] V := fun V h => Hbk.out.call h.below
        have hg0 : ∀ V, TgS wr V → IsMid V b (off + k * 21) := fun V h => ⟨g, range_below Hrg.out hb (hkW V h).below⟩
        have hg1 : ∀ V, TgS wr V → rowMid V b (off + k * 21) = g.val := fun V h => rowMid_gate (range_below Hrg.out hb (hkW V h).below)
        have hc0 : ∀ V, TgS wr V → V.cell? ⟨w.heap.size, 0, none⟩ = some (.slice (some ⟨b, off, none⟩) s.gates.length s.gC) := fun V h => by rw [← ha]; exact (hkW V h).cell 0 0 rfl rfl
        have ho0 : ∀ V, TgS wr V → V.cell? ⟨w.heap.size + 1, 0, none⟩ = some (.int .i64 o) := fun V h => (hkW V h).cell 1 0 rfl rfl
        have ho1 : ∀ V, TgS wr V → V.cell? ⟨w.heap.size + 1, 1, none⟩ = some (.int .i64 i) := fun V h => (hkW V h).cell 1 1 rfl rfl
        have ho2 : ∀ V, TgS wr V → V.cell? ⟨w.heap.size + 1, 2, none⟩ = some (.bool pw) := fun V h => (hkW V h).cell 1 2 rfl rfl
        have hs0 : ∀ V, TgS wr V → V.cell? ⟨sb, so + k * 3, none⟩ = some (.int .i64 x.pos) := fun V h => ((hkW V h).below.cell (p := ⟨sb, so + k * 3, none⟩) hsb).trans Hcs.out.1
        have hs1 : ∀ V, TgS wr V → V.cell? ⟨sb, so + k * 3 + 1, none⟩ = some (.int .i64 x.charge) := fun V h => ((hkW V h).below.cell (p := ⟨sb, so + k * 3 + 1, none⟩) hsb).trans Hcs.out.2.1
        have hs2 : ∀ V, TgS wr V → V.cell? ⟨sb, so + k * 3 + 2, none⟩ = some (.bool x.bolted) := fun V h => ((hkW V h).below.cell (p := ⟨sb, so + k * 3 + 2, none⟩) hsb).trans Hcs.out.2.2
        have hti : ∀ V, TgS wr V → Calls Try.prog 38 #[g.val, x.val, .int .i64 o, .int .i64 i, .bool pw] V fun e w' => e = .returned (.tuple #[.int .i64 (f k), .int .i64 0]) ∧ Below V.heap.size V w' := fun V h => by
          have h2 := time_any g x o i pw V (Hgo.out.below (hkW V h).below (Nat.le_refl _))
          rw [Hti.out.1] at h2
          exact h2
        have Hti2 := Lib.hid hti
        have HkW := Lib.hid hkW
        clear hkW hti ha
        go_upto_region 12 with (fail)
        go_region_held3 (fun w' => TgS wr w')
          (first
            | with_reducible exact tB
            | with_reducible assumption
            | ((repeat (first | (with_reducible exact T0) | (with_reducible refine TgS.drew ?_) | (with_reducible exact tB) | (with_reducible assumption))); done))
          (first
            | (go_at_call 38; refine (Hti2.out _ (by assumption)).mono ?_; rintro e w' ⟨rfl, hbB⟩; have tB := TgS.call (by assumption) hbB))
        have HT := Lib.hid (HkW.out _ tB)
        clear tB hbB hg0 hg1 hc0 ho0 ho1 ho2 hs0 hs1 hs2 HkW Hti2
        go_wp2
        go_roundw
        case rel => first | exact ⟨k + 1, by omega, by rw [Hlk.out], by go_num, HT.out⟩ | ((repeat apply Exists.intro); exact ⟨⟨k + 1, by omega, by rw [Hlk.out], by go_num, HT.out⟩, rfl⟩)
        case measure => simp [intOf]; omega
      · have hke : k = s.gates.length := by omega
        subst hke
        have hl0 := late_0 (f := f) s.gates.length
        have hl1 := late_le (f := f) (J := 2000) (by omega) s.gates.length (fun k hk => (Hf.out k hk (by omega)).2.2)
        have hq : (d == (lateUpto f s.gates.length + 10 - 1) / 10) = true := by
          rw [beq_iff_eq, Hd.out]
          congr 1
          omega
        go_wp2_with (first
          | (go_at_call 24; refine (awake_any _).mono ?_; rintro e w5 ⟨rfl, hb5⟩; have HB5 := Lib.hid (Hbk.out.call hb5); clear hb5))
        go_ret
        exact ⟨rfl, HB5.out.below⟩
  · have e0 : (e != 0) = true := by simp [he]
    cases hq : (e == 9) with
    | true =>
      go_wp2_with (first
        | (go_at_call 25; refine (Hdl.out _ HV.out.below).mono ?_; rintro e w1 ⟨rfl, hb1⟩; have H1 := HV.out.call hb1; have a0 : w1.cell? ⟨w.heap.size, 0, none⟩ = some (.slice s.gA s.gates.length s.gC) := H1.cell 0 0 rfl rfl; have HV1 := Lib.hid H1; clear hb1 H1)
        | (go_at_call 24; refine (awake_any _).mono ?_; rintro e w5 ⟨rfl, hb5⟩; have HB5 := Lib.hid (HV1.out.call hb5); clear hb5))
      go_ret
      exact ⟨rfl, HB5.out.below⟩
    | false =>
      cases hr : ((sts.length : Int) != (s.gates.length : Int)) with
      | true =>
        go_wp2_with (first
          | (go_at_call 25; refine (Hdl.out _ HV.out.below).mono ?_; rintro e w1 ⟨rfl, hb1⟩; have H1 := HV.out.call hb1; have a0 : w1.cell? ⟨w.heap.size, 0, none⟩ = some (.slice s.gA s.gates.length s.gC) := H1.cell 0 0 rfl rfl; have HV1 := Lib.hid H1; clear hb1 H1)
          | (go_at_call 24; refine (awake_any _).mono ?_; rintro e w5 ⟨rfl, hb5⟩; have HB5 := Lib.hid (HV1.out.call hb5); clear hb5))
        go_ret
        exact ⟨rfl, HB5.out.below⟩
      | false =>
        go_wp2_with (first
          | (go_at_call 25; refine (Hdl.out _ HV.out.below).mono ?_; rintro e w1 ⟨rfl, hb1⟩; have H1 := HV.out.call hb1; have a0 : w1.cell? ⟨w.heap.size, 0, none⟩ = some (.slice s.gA s.gates.length s.gC) := H1.cell 0 0 rfl rfl; have HV1 := Lib.hid H1; clear hb1 H1)
          | (go_at_call 24; refine (awake_any _).mono ?_; rintro e w5 ⟨rfl, hb5⟩; have HB5 := Lib.hid (HV1.out.call hb5); clear hb5))
        go_ret
        exact ⟨rfl, HB5.out.below⟩
end Go.Proofs.Ythalanpmfhhhnaa
