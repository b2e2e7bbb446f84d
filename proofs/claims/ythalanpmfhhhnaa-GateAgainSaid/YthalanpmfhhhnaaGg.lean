/-
  The walk of GateAgain, joined: it returns true of every gate, state and steps.
-/
import Derived.Test.YthalanpmfhhhnaaGa
namespace Go.Proofs.Ythalanpmfhhhnaa
open Go.RowKit
set_option linter.unusedSimpArgs false
set_option linter.unusedVariables false

set_option maxRecDepth 100000 in
set_option maxHeartbeats 4000000 in
theorem gagain_any (g : GateV) (s : St) (tA : Option Addr) (tC : Nat) (l : List Stp) (w : World) (hok : g.Ok w) (hti : StpsAt w tA l) (hcp : l.length ≤ tC) (hcp2 : tC ≤ maxLen) :
    Calls Try.prog 15 #[g.val, s.val, .slice tA l.length tC] w fun e w' => e = .returned (.bool true) ∧ Below w.heap.size w w' := by
  have Hok := Lib.hid (fun W (h : Below w.heap.size w W) => hok.below h (Nat.le_refl _))
  have Hti := Lib.hid (fun W (h : Below w.heap.size w W) => hti.below h (Nat.le_refl _))
  have c1 : ∀ W, Below w.heap.size w W → Calls Try.prog 41 #[g.val, s.val, .slice tA l.length tC] W fun e w' => ∃ (a : Option Addr) (c : Nat), (e = .returned (.tuple #[.slice a (runL g s l).length c, .int .i64 (runE g s l)]) ∧ StsAt w' a (runL g s l)) ∧ Below W.heap.size W w' := fun W h => run_list g s tA tC l W (Hok.out W h) (Hti.out W h)
  by_cases hE : runE g s l = 0
  · have hrl := runL_0 hE
    by_cases hl : l.length = 0
    · rw [hrl] at c1
      rw [hE] at c1
      have C1 := Lib.hid c1
      have H0 := Lib.hid (Bk.new2 w (.cells g.cells 33) (.cells s.cells 43))
      rw [hl] at C1 ⊢
      clear c1 hrl hE hl hok hti hcp hcp2 Hok Hti
      generalize runL g s l = L at *
      go_enter Try.func15, Try.ntmps15
      go_wp2_with (first
        | (with_reducible show wpList _ _ _ (({ dst := _, op := .load 33 (.tmp 3), type := _, pos := _, after := _, guard := none } : Oper) :: _) _ _; refine wpList_load_gate (H0.out.gate 0 rfl) rfl (.tmp 3) rfl rfl ?_)
        | (with_reducible show wpList _ _ _ (({ dst := _, op := .load 43 (.tmp 4), type := _, pos := _, after := _, guard := none } : Oper) :: _) _ _; refine wpList_load_st (H0.out.blk 1 _ rfl) rfl (.tmp 4) rfl rfl ?_)
        | (go_at_call 41; refine (C1.out _ H0.out.below).mono ?_; rintro e w1 ⟨aA, cA, ⟨rfl, _⟩, hb1⟩; have H1 := Lib.hid (H0.out.call hb1); clear hb1)
        | (go_at_call 24; refine (awake_any _).mono ?_; rintro e w2 ⟨rfl, hb2⟩; have H2 := Lib.hid (H1.out.call hb2); clear hb2))
      go_ret
      exact ⟨rfl, H2.out.below⟩
    · obtain ⟨h, hh⟩ : ∃ h, h = l.length / 2 := ⟨_, rfl⟩
      have hn : 0 < l.length := by omega
      have hht : h < l.length := by omega
      obtain ⟨tb, tof, rfl, htb, htl⟩ : ∃ b off, tA = some ⟨b, off, none⟩ ∧ b < w.heap.size ∧ _ := by
        rcases hti.2 with h | h
        · exact absurd hn (by rw [h]; simp)
        · exact h
      obtain ⟨m, hm⟩ := run_step hE hn
      obtain ⟨t0, t1, t2, t3⟩ := htl 0 hn
      simp only [Nat.zero_mul, Nat.add_zero] at t0 t1 t2 t3
      have h1 := run_take hE h
      have h2 := run_drop hE h
      have hl1 : (runL g s (l.take h)).length = h := by rw [runL_0 h1]; simp; omega
      have hl2 : (runL g (aft g s l h) (l.drop h)).length = l.length - h := by rw [runL_0 h2]; simp
      have htk : ∀ W, Below w.heap.size w W → StpsAt W (some ⟨tb, tof, none⟩) (l.take h) := fun W hW => by
        obtain ⟨q1, q2⟩ := Hti.out W hW
        refine ⟨by simp; omega, .inr ⟨tb, tof, rfl, Nat.lt_of_lt_of_le htb hW.size, fun k hk => ?_⟩⟩
        have hk2 : k < l.length := by simp at hk; omega
        have e : (l.take h)[k] = l[k] := by simp
        rw [e]
        have := htl k hk2
        exact ⟨(hW.cell (p := ⟨tb, tof + k * 4, none⟩) htb).trans this.1, (hW.cell (p := ⟨tb, tof + k * 4 + 1, none⟩) htb).trans this.2.1, (hW.cell (p := ⟨tb, tof + k * 4 + 2, none⟩) htb).trans this.2.2.1, (hW.cell (p := ⟨tb, tof + k * 4 + 3, none⟩) htb).trans this.2.2.2⟩
      have hdr : ∀ W, Below w.heap.size w W → StpsAt W (some ⟨tb, tof + h * 4, none⟩) (l.drop h) := fun W hW => by
        obtain ⟨q1, q2⟩ := Hti.out W hW
        refine ⟨by simp; omega, .inr ⟨tb, tof + h * 4, rfl, Nat.lt_of_lt_of_le htb hW.size, fun k hk => ?_⟩⟩
        have hk2 : h + k < l.length := by simp at hk; omega
        have e : (l.drop h)[k] = l[h + k] := by simp
        rw [e, show tof + h * 4 + k * 4 = tof + (h + k) * 4 by omega]
        have := htl (h + k) hk2
        exact ⟨(hW.cell (p := ⟨tb, tof + (h + k) * 4, none⟩) htb).trans this.1, (hW.cell (p := ⟨tb, tof + (h + k) * 4 + 1, none⟩) htb).trans this.2.1, (hW.cell (p := ⟨tb, tof + (h + k) * 4 + 2, none⟩) htb).trans this.2.2.1, (hW.cell (p := ⟨tb, tof + (h + k) * 4 + 3, none⟩) htb).trans this.2.2.2⟩
      refine gagain_good w g s (aft g s l h) (aft g s l 1) m l[0] tb tof l.length h tC (runL g s l) (runL g s (l.take h)) (runL g (aft g s l h) (l.drop h)) (Lib.hid ⟨hht, (runE_0 hE).2.1, by omega, hcp, hcp2, htb, t0, t1, t2, t3, hrl, hl1, hl2, run_split hE (by omega), ?_, ?_, ?_, ?_, ?_, ?_, ?_⟩)
      · intro k hk h0
        subst h0
        rw [runL_get hE]
      · intro k hk h0
        rw [runL_get h1, h0, hl1, aft_take _ (Nat.le_refl _)]
      · intro h0
        rw [h0]
        rfl
      · intro W hW
        have := c1 W hW
        rw [hrl, hE] at this
        exact this
      · intro W hW
        have := run_list g s (some ⟨tb, tof, none⟩) tC (l.take h) W (Hok.out W hW) (htk W hW)
        rw [hl1, h1, show (l.take h).length = h by simp; omega] at this
        exact this
      · intro W hW
        have := run_list g (aft g s l h) (some ⟨tb, tof + h * 4, none⟩) (tC - h) (l.drop h) W (Hok.out W hW) (hdr W hW)
        rw [hl2, h2, show (l.drop h).length = l.length - h by simp] at this
        exact this
      · intro W hW
        have := step_any g s l[0] W (Hok.out W hW)
        rw [hm] at this
        exact this
  · have C1 := Lib.hid c1
    have H0 := Lib.hid (Bk.new2 w (.cells g.cells 33) (.cells s.cells 43))
    have f1 : (runE g s l != 0) = true := by simp [hE]
    have hlm := hti.1
    unfold maxLen at hlm
    clear c1 hE hok hti hcp hcp2 Hok Hti
    generalize runL g s l = L at *
    go_enter Try.func15, Try.ntmps15
    go_wp2_with (first
      | (with_reducible show wpList _ _ _ (({ dst := _, op := .load 33 (.tmp 3), type := _, pos := _, after := _, guard := none } : Oper) :: _) _ _; refine wpList_load_gate (H0.out.gate 0 rfl) rfl (.tmp 3) rfl rfl ?_)
      | (with_reducible show wpList _ _ _ (({ dst := _, op := .load 43 (.tmp 4), type := _, pos := _, after := _, guard := none } : Oper) :: _) _ _; refine wpList_load_st (H0.out.blk 1 _ rfl) rfl (.tmp 4) rfl rfl ?_)
      | (go_at_call 41; refine (C1.out _ H0.out.below).mono ?_; rintro e w1 ⟨aA, cA, ⟨rfl, _⟩, hb1⟩; have H1 := Lib.hid (H0.out.call hb1); clear hb1)
      | (go_at_call 24; refine (awake_any _).mono ?_; rintro e w2 ⟨rfl, hb2⟩; have H2 := Lib.hid (H1.out.call hb2); clear hb2))
    go_ret
    exact ⟨rfl, H2.out.below⟩
end Go.Proofs.Ythalanpmfhhhnaa
