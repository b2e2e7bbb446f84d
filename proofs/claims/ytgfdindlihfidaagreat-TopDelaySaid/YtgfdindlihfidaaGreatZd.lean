/-
  gate.all: the error of the first gate whose state or step is odd.
-/
import Derived.Test.YtgfdindlihfidaaGreatRo
import Derived.Test.YtgfdindlihfidaaGreatTh
import Derived.BigQuiet
namespace Go.Proofs.YtgfdindlihfidaaGreat
open Go.RowKit
set_option linter.unusedSimpArgs false
set_option linter.unusedVariables false

theorem rangeAt_gate {W : World} {b off : Nat} {g : GateV} (hg : W.rangeAt b off g.cells.toList) : (Instr.loadAt 60 (.pointer (some ⟨b, off, none⟩))).run Tryz.prog W = .ok g.val W :=
  run_loadAt_mid W b off 60 g.cells.toList _ hg Tryz.underlying60 rfl A.gateSize

/-- The error at gate k. -/
def oddAt (gs : List GateV) (sts : List St) (tf : Nat → Stp) (k : Nat) : Int :=
  match gs[k]?, sts[k]? with
  | some g, some s => oddE g s (tf k)
  | _, _ => 0
/-- The first of n numbers from the k-th on that is not 0. -/
def nzFirst (f : Nat → Int) : Nat → Nat → Int
  | 0, _ => 0
  | n + 1, k => if f k = 0 then nzFirst f n (k + 1) else f k
theorem nzFirst_step {f : Nat → Int} {n k : Nat} (hk : k < n) (h : f k = 0) : nzFirst f (n - k) k = nzFirst f (n - (k + 1)) (k + 1) := by
  rw [show n - k = (n - (k + 1)) + 1 from by omega, nzFirst, if_pos h]
theorem nzFirst_hit {f : Nat → Int} {n k : Nat} (hk : k < n) (h : f k ≠ 0) : nzFirst f (n - k) k = f k := by
  rw [show n - k = (n - (k + 1)) + 1 from by omega, nzFirst, if_neg h]
theorem nzFirst_out {f : Nat → Int} {n k : Nat} (hk : n ≤ k) : nzFirst f (n - k) k = 0 := by
  rw [show n - k = 0 from by omega, nzFirst]
theorem nzFirst_0 {f : Nat → Int} : ∀ {n k : Nat}, nzFirst f n k = 0 → ∀ j, k ≤ j → j < k + n → f j = 0
  | 0, _, _, j, h1, h2 => absurd h2 (by omega)
  | n + 1, k, h, j, h1, h2 => by
    rw [nzFirst] at h
    by_cases h0 : f k = 0
    · rw [if_pos h0] at h
      by_cases e : j = k
      · rw [e]; exact h0
      · exact nzFirst_0 h j (by omega) (by omega)
    · rw [if_neg h0] at h; exact absurd h h0
/-- What all returns. -/
def allE (gs : List GateV) (sts : List St) (tf : Nat → Stp) : Int := nzFirst (oddAt gs sts tf) gs.length 0
theorem oddAt_eq {gs : List GateV} {sts : List St} {tf : Nat → Stp} {k : Nat} (h1 : k < gs.length) (h2 : k < sts.length) : oddAt gs sts tf k = oddE gs[k] sts[k] (tf k) := by
  unfold oddAt
  rw [List.getElem?_eq_getElem h1, List.getElem?_eq_getElem h2]

attribute [local go_sem ↓] loadAt_gate
attribute [local go_sem] run_gateLoad

set_option maxRecDepth 100000 in
set_option maxHeartbeats 4000000 in
theorem all_any (s : SetV) (sA : Option Addr) (sC : Nat) (sts : List St) (fid : FuncId) (cap : Value) (tf : Nat → Stp) (w : World) (hok : s.Ok w) (hn : s.gates.length ≤ 6) (hms : StsAt w sA sts) (h1 : sts.length = s.gates.length)
    (hen : Enters Tryz.prog fid) (hf : ∀ k : Nat, k < s.gates.length → ∀ W, Below w.heap.size w W → Calls Tryz.prog fid #[.int .i64 k, cap] W fun e w' => e = .returned (tf k).val ∧ Below W.heap.size W w') :
    Calls Tryz.prog 10 #[s.val, .slice sA sts.length sC, .func (.func fid) #[] #[cap]] w fun e w' => e = .returned (.int .i64 (allE s.gates sts tf)) ∧ Below w.heap.size w w' := by
  have hgm := hok.gs.1
  unfold maxLen at hgm
  have Hok := Lib.hid hok
  have Hms := Lib.hid hms
  have Hf := Lib.hid hf
  have K0 := Lib.hid (TgW.new w s)
  have c0 := K0.out.cell 0 _ rfl
  obtain ⟨r, hr⟩ : ∃ r, r = allE s.gates sts tf := ⟨_, rfl⟩
  rw [← hr, h1]
  have Hr := Lib.hid hr
  clear hok hms hf hr
  go_enter Tryz.func10, Tryz.ntmps10
  go_wp2
  go_loopw [6, 13] (fun z i wr => ∃ k : Nat, k ≤ s.gates.length ∧ z = .int .i64 0 ∧ i = .int .i64 k ∧ TgW w s wr ∧ nzFirst (oddAt s.gates sts tf) (s.gates.length - k) k = r) (fun _ i _ => s.gates.length - (intOf i).toNat)
  case atStart => exact ⟨0, Nat.zero_le _, rfl, rfl, K0.out, Hr.out.symm⟩
  case round =>
    obtain ⟨k, hk, rfl, rfl, hkp, hix⟩ := hrel
    have Hkp := Lib.hid hkp
    have Hix := Lib.hid hix
    clear hkp hix c0
    by_cases hlt : k < s.gates.length
    · obtain ⟨_, hgo, hgat⟩ := Hok.out.gs.below Hkp.out.below (Nat.le_refl _)
      rcases hgat with hl | ⟨b, off, ha, hb, hl⟩
      · rw [hl] at hlt; exact absurd hlt (by simp)
      · rw [ha]
        have hks : k < sts.length := by omega
        obtain ⟨sb, so, hsa, hsb, hsl⟩ : ∃ b off, sA = some ⟨b, off, none⟩ ∧ _ := by
          rcases Hms.out.2 with h | h
          · exact absurd hks (by rw [h]; simp)
          · exact h
        subst hsa
        have Hrg := Lib.hid (hl k hlt)
        have Hcs := Lib.hid (hsl k hks)
        have Hoe := Lib.hid (oddAt_eq (tf := tf) hlt hks)
        clear hl ha hgo hsl
        revert Hrg Hcs Hoe
        generalize s.gates[k] = g
        generalize sts[k] = x
        intro Hrg Hcs Hoe
        have hft : ∀ W, Below wr.heap.size wr W → Calls Tryz.prog fid #[.int .i64 k, cap] W fun e w' => e = .returned (tf k).val ∧ Below W.heap.size W w' := fun W hW => Hf.out k hlt W (Hkp.out.below.trans (hW.mono Hkp.out.below.size))
        have Hft := Lib.hid hft
        clear hft
        generalize tf k = t at Hoe Hft
        go_upto_region 4 with (first
            | (with_reducible show wpList _ _ _ (({ dst := _, op := .load 60 (.tmp 16), type := _, pos := _, after := _, guard := none } : Oper) :: _) _ _; refine wpList_load_gate_mid Hrg.out rfl (.tmp 16) rfl rfl ?_)
            | (with_reducible show wpList _ _ _ (({ dst := _, op := .store 60 (.tmp 8) (.tmp 17), type := _, pos := _, after := _, guard := none } : Oper) :: _) _ _; refine wpList_store_gate_new rfl (.tmp 8) (.tmp 17) rfl rfl rfl rfl ?_))
        obtain ⟨W1, hW1⟩ : ∃ W1, W1 = wr.alloc (.cells g.cells 60) := ⟨_, rfl⟩
        have hz1 : W1.heap.size = wr.heap.size + 1 := by rw [hW1]; simp
        have bw1 : Below wr.heap.size wr W1 := by rw [hW1]; exact (Below.refl _ _).alloc (Nat.le_refl _) _
        have bw2 : ∀ W, TgS W1 W → Below wr.heap.size wr W := fun W h => bw1.trans (h.below.mono (by omega))
        have hk2 : ∀ W, TgS W1 W → Below w.heap.size w W := fun W h => Hkp.out.below.trans ((bw2 W h).mono Hkp.out.below.size)
        have hkW : ∀ W, TgS W1 W → TgW w s W := fun W h => ⟨hk2 W h, ((bw2 W h).block _ Hkp.out.lt).trans Hkp.out.blk, Nat.lt_of_lt_of_le Hkp.out.lt (bw2 W h).size⟩
        have hgi : ∀ W, TgS W1 W → GateIn W wr.heap.size g := fun W h => (hW1 ▸ gateIn_new wr g : GateIn W1 wr.heap.size g).below h.below (Nat.le_refl _)
        have hg0 : ∀ W, TgS W1 W → IsGate W wr.heap.size := fun W h => ⟨g, hgi W h⟩
        have hg1 : ∀ W, TgS W1 W → rowOf W wr.heap.size = g.val := fun W h => rowOf_gate (hgi W h)
        have hs0 : ∀ W, TgS W1 W → W.cell? ⟨sb, so + k * 3, none⟩ = some (.int .i64 x.pos) := fun W h => ((hk2 W h).cell (p := ⟨sb, so + k * 3, none⟩) hsb).trans Hcs.out.1
        have hs1 : ∀ W, TgS W1 W → W.cell? ⟨sb, so + k * 3 + 1, none⟩ = some (.int .i64 x.charge) := fun W h => ((hk2 W h).cell (p := ⟨sb, so + k * 3 + 1, none⟩) hsb).trans Hcs.out.2.1
        have hs2 : ∀ W, TgS W1 W → W.cell? ⟨sb, so + k * 3 + 2, none⟩ = some (.bool x.bolted) := fun W h => ((hk2 W h).cell (p := ⟨sb, so + k * 3 + 2, none⟩) hsb).trans Hcs.out.2.2
        have i1 : (0 : Int) ≤ (k : Int) := by omega
        have i2 : (k : Int) < (s.gates.length : Int) := by omega
        have Hft2 := Lib.hid (fun W (h : TgS W1 W) => Hft.out W (bw2 W h))
        have HkW := Lib.hid hkW
        have T0 := TgS.new W1
        rw [← hW1]
        unfold Enters at hen
        clear hz1 hW1 bw2 bw1 hk2 hgi hkW Hft Hcs Hrg
        go_region_held3 (fun w' => TgS W1 w')
            (first
              | with_reducible exact tB
              | with_reducible exact tA
              | with_reducible assumption
              | ((repeat (first | (with_reducible exact T0) | (with_reducible refine TgS.drew ?_) | (with_reducible exact tB) | (with_reducible exact tA) | (with_reducible assumption))); done))
            (first
              | (refine (Hft2.out _ (by assumption)).mono ?_; rintro e w' ⟨rfl, hbA⟩; have tA := TgS.call (by assumption) hbA)
              | (go_at_call 29; refine (odd_any g x t _).mono ?_; rintro e w' ⟨rfl, hbB⟩; have tB := TgS.call (by assumption) hbB))
        have HT := Lib.hid (HkW.out _ tB)
        clear tA tB hbA hbB hg0 hg1 hs0 hs1 hs2 HkW Hft2
        by_cases ho : oddE g x t = 0
        · have h := nzFirst_step (f := oddAt s.gates sts tf) (n := s.gates.length) hlt (Hoe.out.trans ho)
          rw [Hix.out] at h
          have H := Lib.hid h
          rw [ho]
          clear h Hoe Hix
          go_wp2
          go_roundw
          case rel => first | exact ⟨k + 1, by omega, rfl, by go_num, HT.out, H.out.symm⟩ | ((repeat apply Exists.intro); exact ⟨⟨k + 1, by omega, rfl, by go_num, HT.out, H.out.symm⟩, rfl⟩)
          case measure => simp [intOf]; omega
        · have h := nzFirst_hit (f := oddAt s.gates sts tf) (n := s.gates.length) hlt (by rw [Hoe.out]; exact ho)
          rw [Hix.out, Hoe.out] at h
          have H := Lib.hid h
          have hne : (oddE g x t != 0) = true := by simp [ho]
          clear h Hoe Hix
          go_wp2
          go_ret
          exact ⟨ret_int H.out.symm, HT.out.below⟩
    · have hz := nzFirst_out (f := oddAt s.gates sts tf) (n := s.gates.length) (k := k) (by omega)
      rw [Hix.out] at hz
      go_wp2
      go_ret
      exact ⟨ret_int hz.symm, Hkp.out.below⟩
end Go.Proofs.YtgfdindlihfidaaGreat

/-
  Move's closure: the step of gate i.
-/
namespace Go.Proofs.YtgfdindlihfidaaGreat
open Go.RowKit
set_option linter.unusedSimpArgs false
set_option linter.unusedVariables false

set_option maxRecDepth 100000 in
theorem mv1_any (C : Nat) (tA : Option Addr) (tC : Nat) (ts : List Stp) (k : Nat) (w : World) (hk : k < ts.length) (hC : w.heap[C]? = some (.cells #[.slice tA ts.length tC] 45 (0, 0))) (hms : StpsAt w tA ts) :
    Calls Tryz.prog 21 #[.int .i64 k, .pointer (some ⟨C, 0, none⟩)] w fun e w' => e = .returned ts[k].val ∧ Below w.heap.size w w' := by
  obtain ⟨tb, tof, rfl, htb, htl⟩ : ∃ b off, tA = some ⟨b, off, none⟩ ∧ _ := by
    rcases hms.2 with h | h
    · exact absurd hk (by rw [h]; simp)
    · exact h
  obtain ⟨c0, c1, c2, c3⟩ := htl k hk
  have hlC : C < w.heap.size := (Array.getElem?_eq_some_iff.1 hC).1
  have s0 := (cell_of_row _ _ 0 _ _ _ hC).trans rfl
  have j1 : (0 : Int) ≤ (k : Int) := by omega
  have j2 : (k : Int) < (ts.length : Int) := by omega
  clear htl hms hC
  generalize ts[k] = t at c0 c1 c2 c3 ⊢
  go_enter Tryz.func21, Tryz.ntmps21
  go_wp2
  refine bodyPost_ret (v := t.val) (by simp [results, Tryz.results21, go_sem, *]) rfl ⟨rfl, ?_⟩
  exact (Below.refl _ _).alloc (Nat.le_refl _) _
end Go.Proofs.YtgfdindlihfidaaGreat
