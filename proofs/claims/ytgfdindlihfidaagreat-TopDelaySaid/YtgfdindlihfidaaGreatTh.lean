/-
  The walk of gate.together.
-/
import Derived.Test.YtgfdindlihfidaaGreatTr
import Derived.Deep.DeepCutAuto
import Derived.Deep.Onto
namespace Go.Proofs.YtgfdindlihfidaaGreat
open Go.RowKit
set_option linter.unusedSimpArgs false
set_option linter.unusedVariables false

theorem below_cellR {W W' : World} (h : Below W.heap.size W W') (b o : Nat) (hb : b < W.heap.size) : W'.cell? ⟨b, o, none⟩ = W.cell? ⟨b, o, none⟩ := h.cell (p := ⟨b, o, none⟩) hb
theorem below_frozenR {W W' : World} (h : Below W.heap.size W W') (b o : Nat) (hb : b < W.heap.size) : W'.frozen? ⟨b, o, none⟩ = W.frozen? ⟨b, o, none⟩ := World.frozen?_of_block (h.block b hb)
theorem below_ltR {W W' : World} (h : Below W.heap.size W W') (b : Nat) (hb : b < W.heap.size) : b < W'.heap.size := Nat.lt_of_lt_of_le hb h.size
/-- What lies in block B. -/
def rowOf (W : World) (B : Nat) : Value := match W.heap[B]? with | some (.cells c _ _) => .agg c | _ => undef
/-- A gate lies in block B. -/
def IsGate (W : World) (B : Nat) : Prop := ∃ g, GateIn W B g
theorem rowOf_gate {W : World} {B : Nat} {g : GateV} (h : GateIn W B g) : rowOf W B = g.val := by rw [rowOf, h.blk]
theorem run_load_rowOf {W : World} {B : Nat} (h : IsGate W B) : (Instr.loadAt 60 (.pointer (some ⟨B, 0, none⟩))).run Tryz.prog W = .ok (rowOf W B) W := by
  obtain ⟨g, hg⟩ := h
  rw [rowOf_gate hg]
  exact run_load_gate hg
/-- The load of a gate, with a name of its own: so that the walk does not lay it open. -/
def gateLoad (v : Value) : Sem Value := Instr.loadAt 60 v
theorem loadAt_gate (v : Value) : Instr.loadAt 60 v = gateLoad v := rfl
theorem run_gateLoad {W : World} {B : Nat} (h : IsGate W B) : (gateLoad (.pointer (some ⟨B, 0, none⟩))).run Tryz.prog W = .ok (rowOf W B) W := run_load_rowOf h
attribute [local go_sem ↓] loadAt_gate
attribute [local go_sem] run_gateLoad
theorem drew_size (W : World) : W.drew.heap.size = W.heap.size := rfl
theorem TgS.set {wr W : World} (h : TgS wr W) {b o : Nat} (hb : wr.heap.size ≤ b) (v : Value) : TgS wr (W.setCell ⟨b, o, none⟩ v) := ⟨h.below.setCell hb v⟩

set_option maxRecDepth 100000 in
set_option maxHeartbeats 8000000 in
theorem tog_any (s : SetV) (sA tA bA : Option Addr) (sC tC bC : Nat) (sts : List St) (ts : List Stp) (bs : List Bool) (w : World) (hin : TogIn w s sA sts tA ts bA bs) :
    Calls Tryz.prog 12 #[s.val, .slice sA sts.length sC, .slice tA ts.length tC, .slice bA bs.length bC] w fun e w' =>
      ∃ vS vM, e = .returned (.tuple #[vS, vM]) ∧ w'.ownsRow w.heap.size 62 3 vS s.gates.length (stRow (togAt s.gates s.rules sts ts bs) s.gates.length) ∧
        w'.ownsRow w.heap.size 95 3 vM s.gates.length (mvRow (togAt s.gates s.rules sts ts bs) s.gates.length) ∧ (vS.ownBlock = none ∨ vS.ownBlock ≠ vM.ownBlock) ∧ Below w.heap.size w w' := by
  have hgm := hin.set.gs.1
  have hn := hin.ln
  have h1 := hin.l1
  have h2 := hin.l2
  have h3 := hin.l3
  unfold maxLen at hgm
  have Hin := Lib.hid hin
  have K0 := Lib.hid (TgW.new w s)
  clear hin
  have c0 := K0.out.cell 0 _ rfl
  obtain ⟨f, hf⟩ : ∃ f, f = togAt s.gates s.rules sts ts bs := ⟨_, rfl⟩
  rw [← hf]
  have Hf := Lib.hid hf
  clear hf
  rw [h1, h2, h3]
  go_enter Tryz.func12, Tryz.ntmps12
  go_wp2
  go_loopw [8, 9, 17] (fun x y i wr => ∃ k : Nat, k ≤ s.gates.length ∧ i = .int .i64 k ∧ TgW w s wr ∧ wr.ownsRow (w.heap.size + 1) 62 3 x k (stRow f k) ∧ wr.ownsRow (w.heap.size + 1) 95 3 y k (mvRow f k) ∧ (x.ownBlock = none ∨ x.ownBlock ≠ y.ownBlock)) (fun _ _ i _ => s.gates.length - (intOf i).toNat)
  case atStart => exact ⟨0, Nat.zero_le _, rfl, K0.out, World.ownsRow_nil _ _ _ _, World.ownsRow_nil _ _ _ _, .inl rfl⟩
  case round =>
    obtain ⟨k, hk, rfl, hkp, ho1, ho2, hne⟩ := hrel
    have Hkp := Lib.hid hkp
    have Ho1 := Lib.hid ho1
    have Ho2 := Lib.hid ho2
    have Hne := Lib.hid hne
    clear hkp ho1 ho2 hne c0
    by_cases hlt : k < s.gates.length
    · obtain ⟨_, hgo, hgat⟩ := Hin.out.set.gs.below Hkp.out.below (Nat.le_refl _)
      rcases hgat with hl | ⟨b, off, ha, hb, hl⟩
      · rw [hl] at hlt; exact absurd hlt (by simp)
      · rw [ha]
        have hks : k < sts.length := by omega
        have hkt : k < ts.length := by omega
        have hkb : k < bs.length := by omega
        obtain ⟨sb, so, hsa, hsb, hsl⟩ : ∃ b off, sA = some ⟨b, off, none⟩ ∧ _ := by
          rcases Hin.out.ms.2 with h | h
          · exact absurd hks (by rw [h]; simp)
          · exact h
        obtain ⟨tb, tof, hta, htb, htl⟩ : ∃ b off, tA = some ⟨b, off, none⟩ ∧ _ := by
          rcases Hin.out.mt.2 with h | h
          · exact absurd hkt (by rw [h]; simp)
          · exact h
        obtain ⟨bb, bo, hba, hbb, hbl⟩ : ∃ b off, bA = some ⟨b, off, none⟩ ∧ _ := by
          rcases Hin.out.mb.2 with h | h
          · exact absurd hkb (by rw [h]; simp)
          · exact h
        subst hsa hta hba
        have Hsl := Lib.hid hsl
        have Htl := Lib.hid htl
        have Hbl := Lib.hid hbl
        clear hsl htl hbl
        have Hrg := Lib.hid (hl k hlt)
        have Hgo := Lib.hid (hgo _ (List.getElem_mem hlt))
        have Hgd := Lib.hid (Hin.out.good _ (List.getElem_mem hlt))
        have Hso := Lib.hid (Hin.out.stok k hlt hks)
        have Hlv := Lib.hid (Hin.out.lv _ (List.getElem_mem hkt))
        have Hfk := Lib.hid (togAt_eq (rules := s.rules) hlt hks hkt hkb)
        have Hcs := Lib.hid (Hsl.out k hks)
        have Hct := Lib.hid (Htl.out k hkt)
        have Hcb := Lib.hid (Hbl.out k hkb)
        have Hrf : Hid (∀ W : World, Below wr.heap.size wr W → Calls Tryz.prog 31 #[s.val, .slice (some ⟨sb, so, none⟩) s.gates.length sC, .int .i64 k, ts[k].val, .bool bs[k]] W fun e w' => e = .returned (.int .i64 (refE s.rules sts k sts[k] ts[k] bs[k])) ∧ Below W.heap.size W w') :=
          Lib.hid fun W hW => h1 ▸ refused_any s (some ⟨sb, so, none⟩) sC sts k ts[k] bs[k] W hks ((Hin.out.set.rs.below Hkp.out.below (Nat.le_refl _)).below hW (Nat.le_refl _)) ((Hin.out.ms.below Hkp.out.below (Nat.le_refl _)).below hW (Nat.le_refl _)) Hin.out.rin
        clear hl ha hgo
        revert Hrg Hgo Hgd Hso Hlv Hfk Hcs Hct Hcb Hrf
        generalize s.gates[k] = g
        generalize sts[k] = x
        generalize ts[k] = t
        generalize bs[k] = bv
        generalize refE s.rules sts k x t bv = r
        intro Hrg Hgo Hgd Hso Hlv Hfk Hcs Hct Hcb Hrf
        go_upto_region 4 with (first
            | (with_reducible show wpList _ _ _ (({ dst := _, op := .load 60 (.tmp 20), type := _, pos := _, after := _, guard := none } : Oper) :: _) _ _; refine wpList_load_gate_mid Hrg.out rfl (.tmp 20) rfl rfl ?_)
            | (with_reducible show wpList _ _ _ (({ dst := _, op := .store 60 (.tmp 11) (.tmp 21), type := _, pos := _, after := _, guard := none } : Oper) :: _) _ _; refine wpList_store_gate_new rfl (.tmp 11) (.tmp 21) rfl rfl rfl rfl ?_))
        have hdo : ∀ W : World, Below wr.heap.size wr W → Calls Tryz.prog 30 #[g.val, x.val, t.val, .int .i64 r] W fun e w' => e = .returned (.tuple #[(f k).1.val, (f k).2.val]) ∧ Below W.heap.size W w' := fun W hW => by
          have h := do_any g x t r W Hgd.out (Hgo.out.own.below hW (Nat.le_refl _)) Hso.out Hlv.out
          rw [Hf.out, Hfk.out]
          exact h
        have Hdo := Lib.hid hdo
        clear hdo
        obtain ⟨z, hzf⟩ : ∃ z, z = f k := ⟨_, rfl⟩
        rw [← hzf] at Hdo
        have Hzf := Lib.hid hzf
        clear hzf
        simp only [Act.put]
        go_cut [12, 13] (fun p q wx => ∃ P Q : Nat, p = .pointer (some ⟨P, 0, none⟩) ∧ q = .pointer (some ⟨Q, 0, none⟩) ∧ wr.heap.size < P ∧ wr.heap.size < Q ∧ P < wx.heap.size ∧ Q < wx.heap.size ∧ Below wr.heap.size wr wx ∧ (wx.cell? ⟨P, 0, none⟩ = some (.int .i64 z.1.pos) ∧ wx.cell? ⟨P, 1, none⟩ = some (.int .i64 z.1.charge) ∧ wx.cell? ⟨P, 2, none⟩ = some (.bool z.1.bolted)) ∧ (wx.cell? ⟨Q, 0, none⟩ = some (.int .i64 z.2.refused) ∧ wx.cell? ⟨Q, 1, none⟩ = some (.int .i64 z.2.moved) ∧ wx.cell? ⟨Q, 2, none⟩ = some (.int .i64 z.2.oil)))
        case first =>
          obtain ⟨W1, hW1⟩ : ∃ W1, W1 = wr.alloc (.cells g.cells 60) := ⟨_, rfl⟩
          have hz1 : W1.heap.size = wr.heap.size + 1 := by rw [hW1]; simp
          have bw1 : Below wr.heap.size wr W1 := by rw [hW1]; exact (Below.refl _ _).alloc (Nat.le_refl _) _
          have bw2 : ∀ W, TgS W1 W → Below wr.heap.size wr W := fun W h => bw1.trans (h.below.mono (by omega))
          have hk2 : ∀ W, TgS W1 W → Below w.heap.size w W := fun W h => Hkp.out.below.trans ((bw2 W h).mono Hkp.out.below.size)
          have hgi : ∀ W, TgS W1 W → GateIn W wr.heap.size g := fun W h => (hW1 ▸ gateIn_new wr g : GateIn W1 wr.heap.size g).below h.below (Nat.le_refl _)
          have hg0 : ∀ W, TgS W1 W → IsGate W wr.heap.size := fun W h => ⟨g, hgi W h⟩
          have hg1 : ∀ W, TgS W1 W → rowOf W wr.heap.size = g.val := fun W h => rowOf_gate (hgi W h)
          have hx0 : ∀ W, TgS W1 W → W.cell? ⟨w.heap.size, 0, none⟩ = some (.slice s.gA s.gates.length s.gC) := fun W h => (World.cell?_of_block ((bw2 W h).block _ Hkp.out.lt)).trans (Hkp.out.cell 0 _ rfl)
          have hx1 : ∀ W, TgS W1 W → W.cell? ⟨w.heap.size, 1, none⟩ = some (.slice s.rA s.rules.length s.rC) := fun W h => (World.cell?_of_block ((bw2 W h).block _ Hkp.out.lt)).trans (Hkp.out.cell 1 _ rfl)
          have hs0 : ∀ W, TgS W1 W → W.cell? ⟨sb, so + k * 3, none⟩ = some (.int .i64 x.pos) := fun W h => ((hk2 W h).cell (p := ⟨sb, so + k * 3, none⟩) hsb).trans Hcs.out.1
          have hs1 : ∀ W, TgS W1 W → W.cell? ⟨sb, so + k * 3 + 1, none⟩ = some (.int .i64 x.charge) := fun W h => ((hk2 W h).cell (p := ⟨sb, so + k * 3 + 1, none⟩) hsb).trans Hcs.out.2.1
          have hs2 : ∀ W, TgS W1 W → W.cell? ⟨sb, so + k * 3 + 2, none⟩ = some (.bool x.bolted) := fun W h => ((hk2 W h).cell (p := ⟨sb, so + k * 3 + 2, none⟩) hsb).trans Hcs.out.2.2
          have ht0 : ∀ W, TgS W1 W → W.cell? ⟨tb, tof + k * 4, none⟩ = some (.int .i64 t.order) := fun W h => ((hk2 W h).cell (p := ⟨tb, tof + k * 4, none⟩) htb).trans Hct.out.1
          have ht1 : ∀ W, TgS W1 W → W.cell? ⟨tb, tof + k * 4 + 1, none⟩ = some (.bool t.power) := fun W h => ((hk2 W h).cell (p := ⟨tb, tof + k * 4 + 1, none⟩) htb).trans Hct.out.2.1
          have ht2 : ∀ W, TgS W1 W → W.cell? ⟨tb, tof + k * 4 + 2, none⟩ = some (.int .i64 t.outer) := fun W h => ((hk2 W h).cell (p := ⟨tb, tof + k * 4 + 2, none⟩) htb).trans Hct.out.2.2.1
          have ht3 : ∀ W, TgS W1 W → W.cell? ⟨tb, tof + k * 4 + 3, none⟩ = some (.int .i64 t.inner) := fun W h => ((hk2 W h).cell (p := ⟨tb, tof + k * 4 + 3, none⟩) htb).trans Hct.out.2.2.2
          have hbl : ∀ W, TgS W1 W → W.cell? ⟨bb, bo + k, none⟩ = some (.bool bv) := fun W h => ((hk2 W h).cell (p := ⟨bb, bo + k, none⟩) hbb).trans Hcb.out
          have i1 : (0 : Int) ≤ (k : Int) := by omega
          have i2 : (k : Int) < (s.gates.length : Int) := by omega
          have hrf : ∀ W, TgS W1 W → Calls Tryz.prog 31 #[s.val, .slice (some ⟨sb, so, none⟩) s.gates.length sC, .int .i64 k, t.val, .bool bv] W fun e w' => e = .returned (.int .i64 r) ∧ Below W.heap.size W w' := fun W h => Hrf.out W (bw2 W h)
          have hdo : ∀ W, TgS W1 W → Calls Tryz.prog 30 #[g.val, x.val, t.val, .int .i64 r] W fun e w' => e = .returned (.tuple #[z.1.val, z.2.val]) ∧ Below W.heap.size W w' := fun W h => Hdo.out W (bw2 W h)
          have Hrf2 := Lib.hid hrf
          have Hdo2 := Lib.hid hdo
          have Hbw := Lib.hid bw2
          have T0 := TgS.new W1
          rw [← hW1]
          have HW1 := Lib.hid hW1
          have Hz1 := Lib.hid hz1
          clear hz1 hW1 hrf hdo bw2 bw1 hk2 hgi
          go_region_held3 (fun w' => TgS W1 w')
            (first
              | with_reducible exact tB
              | with_reducible exact tA
              | with_reducible assumption
              | with_reducible exact TgS.drew T0
              | ((repeat (first | with_reducible exact T0 | with_reducible refine TgS.drew ?_ | with_reducible exact tB | with_reducible exact tA | with_reducible assumption | with_reducible refine TgS.alloc ?_ _ | with_reducible refine TgS.set ?_ (by omega) _)); done))
            (first
              | (go_at_call 31; refine (Hrf2.out _ (by assumption)).mono ?_; rintro e w' ⟨rfl, hbA⟩; have tA := TgS.call (by assumption) hbA; have ssA := tA.below.size; have szA := hbA.size; have hcA := below_cellR hbA; have hfA := below_frozenR hbA; have hlA := below_ltR hbA; (try simp only [World.size_alloc, drew_size] at szA hcA hfA hlA))
              | (go_at_call 30; refine (Hdo2.out _ (by assumption)).mono ?_; rintro e w' ⟨rfl, hbB⟩; have tB := TgS.call (by assumption) hbB; have ssB := tB.below.size; have szB := hbB.size; have hcB := below_cellR hbB; have hfB := below_frozenR hbB; have hlB := below_ltR hbB; (try simp only [World.size_alloc, drew_size] at szB hcB hfB hlB); have hlC := fun (b : Nat) hb => hlB b (Nat.lt_of_lt_of_le (hlA b hb) (by omega)); (first | have hcC := fun (b o : Nat) hb => (hcB b o (hlA b hb)).trans (hcA b o hb) | have hcC := fun (b o : Nat) hb => (hcB b o (Nat.lt_succ_of_lt (hlA b hb))).trans ((World.cell?_alloc_lt _ _ _ (hlA b hb)).trans (hcA b o hb)) | skip); (first | have hfC := fun (b o : Nat) hb => (hfB b o (hlA b hb)).trans (hfA b o hb) | have hfC := fun (b o : Nat) hb => (hfB b o (Nat.lt_succ_of_lt (hlA b hb))).trans ((World.frozen?_alloc_past _ _ _ (hlA b hb)).trans (hfA b o hb)) | skip)))
          all_goals
            have htop := Hbw.out _ (by assumption)
            have Htop := Lib.hid htop
            clear htop
            go_wp2_with fail
            go_meet
            refine ⟨_, _, rfl, rfl, ?_, ?_, ?_, ?_, Htop.out, ?_⟩
          all_goals first
            | (simp; done)
            | (have hz := Hz1.out; simp; omega)
            | (have hz := Hz1.out; simp [go_sem, World.setCell]; omega)
            | ((with_reducible apply ends1); (focus (repeat (first | ((with_reducible refine blk_new ?_); simp; done) | ((with_reducible refine blk_new ?_); simp [World.setCell]; done) | (with_reducible refine blk_drew ?_) | (with_reducible refine blk_old ?_) | (with_reducible apply blk_set3) | (with_reducible refine blk_set_other (by first | omega | (simp; omega)) ?_) | (with_reducible refine blk_below hbB ?_) | (with_reducible refine blk_below hbA ?_)))); (focus (repeat (first | ((with_reducible refine blk_new ?_); simp; done) | ((with_reducible refine blk_new ?_); simp [World.setCell]; done) | (with_reducible refine blk_drew ?_) | (with_reducible refine blk_old ?_) | (with_reducible apply blk_set3) | (with_reducible refine blk_set_other (by first | omega | (simp; omega)) ?_) | (with_reducible refine blk_below hbB ?_) | (with_reducible refine blk_below hbA ?_)))); (focus (first | omega | (simp; done) | (simp; omega))))
            | ((with_reducible apply ends2); (focus (repeat (first | ((with_reducible refine blk_new ?_); simp; done) | ((with_reducible refine blk_new ?_); simp [World.setCell]; done) | (with_reducible refine blk_drew ?_) | (with_reducible refine blk_old ?_) | (with_reducible apply blk_set3) | (with_reducible refine blk_set_other (by first | omega | (simp; omega)) ?_) | (with_reducible refine blk_below hbB ?_) | (with_reducible refine blk_below hbA ?_)))); (focus (repeat (first | ((with_reducible refine blk_new ?_); simp; done) | ((with_reducible refine blk_new ?_); simp [World.setCell]; done) | (with_reducible refine blk_drew ?_) | (with_reducible refine blk_old ?_) | (with_reducible apply blk_set3) | (with_reducible refine blk_set_other (by first | omega | (simp; omega)) ?_) | (with_reducible refine blk_below hbB ?_) | (with_reducible refine blk_below hbA ?_)))); (focus (first | omega | (simp; done) | (simp; omega))))
            | ((with_reducible apply And.intro); (focus ((with_reducible apply cells3); (focus (repeat (first | ((with_reducible refine blk_new ?_); simp; done) | ((with_reducible refine blk_new ?_); simp [World.setCell]; done) | (with_reducible refine blk_drew ?_) | (with_reducible refine blk_old ?_) | (with_reducible apply blk_set3) | (with_reducible refine blk_set_other (by first | omega | (simp; omega)) ?_) | (with_reducible refine blk_below hbB ?_) | (with_reducible refine blk_below hbA ?_)))))); (focus ((with_reducible apply cells3); (focus (repeat (first | ((with_reducible refine blk_new ?_); simp; done) | ((with_reducible refine blk_new ?_); simp [World.setCell]; done) | (with_reducible refine blk_drew ?_) | (with_reducible refine blk_old ?_) | (with_reducible apply blk_set3) | (with_reducible refine blk_set_other (by first | omega | (simp; omega)) ?_) | (with_reducible refine blk_below hbB ?_) | (with_reducible refine blk_below hbA ?_)))))))
        case rest =>
          obtain ⟨P, Q, rfl, rfl, hP, hQ, hPl, hQl, hbx, hp, hq⟩ := hcut
          obtain ⟨i1, hi1, hz1, hs1, hb1⟩ := info_parts A.stInfo
          obtain ⟨i2, hi2, hz2, hs2, hb2⟩ := info_parts A.mvInfo
          have HX := Lib.hid (row_below Ho1.out hbx)
          have HY := Lib.hid (row_below Ho2.out hbx)
          have LX : ∀ b', u8.ownBlock = some b' → w.heap.size + 1 ≤ b' ∧ b' < wr.heap.size := Ho1.out.lt
          have LY : ∀ b', u9.ownBlock = some b' → w.heap.size + 1 ≤ b' ∧ b' < wr.heap.size := Ho2.out.lt
          have T0 := TwK.new wc u8.ownBlock u9.ownBlock
          have hcp : ∀ W o, TwK wc u8.ownBlock u9.ownBlock W → W.cell? ⟨P, o, none⟩ = wc.cell? ⟨P, o, none⟩ := fun W o h => h.cell hPl (fun e => by have := (LX P e.symm).2; omega) (fun e => by have := (LY P e.symm).2; omega)
          have hcq : ∀ W o, TwK wc u8.ownBlock u9.ownBlock W → W.cell? ⟨Q, o, none⟩ = wc.cell? ⟨Q, o, none⟩ := fun W o h => h.cell hQl (fun e => by have := (LX Q e.symm).2; omega) (fun e => by have := (LY Q e.symm).2; omega)
          have hp0 : ∀ W, TwK wc u8.ownBlock u9.ownBlock W → W.cell? ⟨P, 0, none⟩ = some (.int .i64 z.1.pos) := fun W h => (hcp W 0 h).trans hp.1
          have hp1 : ∀ W, TwK wc u8.ownBlock u9.ownBlock W → W.cell? ⟨P, 1, none⟩ = some (.int .i64 z.1.charge) := fun W h => (hcp W 1 h).trans hp.2.1
          have hp2 : ∀ W, TwK wc u8.ownBlock u9.ownBlock W → W.cell? ⟨P, 2, none⟩ = some (.bool z.1.bolted) := fun W h => (hcp W 2 h).trans hp.2.2
          have hq0 : ∀ W, TwK wc u8.ownBlock u9.ownBlock W → W.cell? ⟨Q, 0, none⟩ = some (.int .i64 z.2.refused) := fun W h => (hcq W 0 h).trans hq.1
          have hq1 : ∀ W, TwK wc u8.ownBlock u9.ownBlock W → W.cell? ⟨Q, 1, none⟩ = some (.int .i64 z.2.moved) := fun W h => (hcq W 1 h).trans hq.2.1
          have hq2 : ∀ W, TwK wc u8.ownBlock u9.ownBlock W → W.cell? ⟨Q, 2, none⟩ = some (.int .i64 z.2.oil) := fun W h => (hcq W 2 h).trans hq.2.2
          have zr := hbx.size
          have zw := Hkp.out.lt
          clear hp hq hcp hcq Hdo Hrf Hcs Hct Hcb Hrg
          go_upto_region 5 with fail
          go_region_held3 (fun w' => TwK wc u8.ownBlock u9.ownBlock w')
            (first | ((repeat (first | (with_reducible exact T0) | (with_reducible assumption) | (with_reducible refine TwK.drew ?_) | (with_reducible refine TwK.alloc ?_ _))); done))
            (first
              | (refine step_append_lies _ rfl (.tmp 47) (.tmp 49) 26 rfl (w.heap.size + 1) 62 i1 _ 3 24 Tryz.underlying26 hi1 hz1 hs1 hb1 rfl (by decide) u8 k (stRow f k) rfl (by (repeat (first | (with_reducible exact HX.out) | (with_reducible exact HY.out) | (with_reducible assumption) | (with_reducible refine World.ownsRow.alloc ?_ _) | (with_reducible refine World.ownsRow.drew ?_)))) ⟨_, 0, none⟩ 1 1 z.1.cells.toList rfl rfl (World.news_of_block (cs := z.1.cells) (t := 62) (fr := (0, 0)) (by (repeat (first | ((with_reducible refine blk_new ?_); simp; done) | (with_reducible refine blk_drew ?_) | (with_reducible refine blk_old ?_))))) (one_st z.1) (by decide) (by unfold maxLen; omega) (by omega) (by (first | omega | (simp; omega))) _ rfl ?_; intro gX cX wX ownX grX atX ltX; have tX := TwK.grownX (wx := wc) (y := u9.ownBlock) (by (repeat (first | (with_reducible exact T0) | (with_reducible assumption) | (with_reducible refine TwK.drew ?_) | (with_reducible refine TwK.alloc ?_ _)))) grX; have sX := tX.size; have oYX := World.ownsRow.kept (by (repeat (first | (with_reducible exact HX.out) | (with_reducible exact HY.out) | (with_reducible assumption) | (with_reducible refine World.ownsRow.alloc ?_ _) | (with_reducible refine World.ownsRow.drew ?_))) : World.ownsRow _ (w.heap.size + 1) 95 3 u9 k (mvRow f k)) grX (ne_symm_row Hne.out); (try simp only [World.size_alloc, drew_size] at atX))
              | (refine step_append_lies _ rfl (.tmp 51) (.tmp 53) 50 rfl (w.heap.size + 1) 95 i2 _ 3 24 Tryz.underlying50 hi2 hz2 hs2 hb2 rfl (by decide) u9 k (mvRow f k) rfl (by (repeat (first | (with_reducible exact HX.out) | (with_reducible exact HY.out) | (with_reducible assumption) | (with_reducible refine World.ownsRow.alloc ?_ _) | (with_reducible refine World.ownsRow.drew ?_)))) ⟨_, 0, none⟩ 1 1 z.2.cells.toList rfl rfl (World.news_of_block (cs := z.2.cells) (t := 95) (fr := (0, 0)) (by (repeat (first | ((with_reducible refine blk_new ?_); simp; done) | (with_reducible refine blk_drew ?_) | (with_reducible refine blk_old ?_) | (with_reducible refine blk_grown grX (fun e => by have := (LX _ e.symm).2; omega) ?_))))) (one_mv z.2) (by decide) (by unfold maxLen; omega) (by omega) (by (first | omega | (simp; omega))) _ rfl ?_; intro gY cY wY ownY grY atY ltY; have tY := TwK.grownY (wx := wc) (x := u8.ownBlock) (by (repeat (first | (with_reducible exact T0) | (with_reducible assumption) | (with_reducible refine TwK.drew ?_) | (with_reducible refine TwK.alloc ?_ _)))) grY; have sY := tY.size; have oXY := World.ownsRow.kept (by (repeat (first | (with_reducible exact HX.out) | (with_reducible exact HY.out) | (with_reducible assumption) | (with_reducible refine World.ownsRow.alloc ?_ _) | (with_reducible refine World.ownsRow.drew ?_))) : World.ownsRow _ (w.heap.size + 1) 62 3 (.slice (some ⟨gX, 0, none⟩) (k + 1) cX) (k + 1) (stRow f k ++ z.1.cells.toList)) grY (far_row2 (fun b hb => (LY b hb).2) (ne_symm_row Hne.out) atX (by omega)); (try simp only [World.size_alloc, drew_size] at atY)))
          all_goals
            have e1 : stRow f (k + 1) = stRow f k ++ z.1.cells.toList := by rw [stRow_succ, Hzf.out]
            have e2 : mvRow f (k + 1) = mvRow f k ++ z.2.cells.toList := by rw [mvRow_succ, Hzf.out]
            rw [← e1] at oXY
            rw [← e2] at ownY
            have hT := TgW.tw Hkp.out hbx tY (fun b hb => (LX b hb).1) (fun b hb => (LY b hb).1)
            have hN : gX ≠ gY := far_both (fun b hb => (LX b hb).2) (fun b hb => (LY b hb).2) Hne.out atX atY (by omega) ltX (by have := grY.size; first | omega | (simp at this; omega)) (by omega)
            have HT := Lib.hid hT
            have HO1 := Lib.hid oXY
            have HO2 := Lib.hid ownY
            have HN := Lib.hid hN
            clear e1 e2 hT oXY ownY hN ownX oYX
            go_wp2_with fail
            go_roundw
            case rel => first | exact ⟨k + 1, by omega, by go_num, HT.out, HO1.out, HO2.out, .inr (by simpa [Value.ownBlock] using HN.out)⟩ | ((repeat apply Exists.intro); exact ⟨⟨k + 1, by omega, by go_num, HT.out, HO1.out, HO2.out, .inr (by simpa [Value.ownBlock] using HN.out)⟩, rfl⟩)
            case measure => simp [intOf]; omega
    · have hke : k = s.gates.length := by omega
      subst hke
      go_wp2
      refine bodyPost_ret (v := .tuple #[u8, u9]) (by simp [results, Tryz.results12, go_sem, *]) rfl ⟨u8, u9, rfl, Ho1.out.mono (by omega), Ho2.out.mono (by omega), Hne.out, Hkp.out.below⟩
end Go.Proofs.YtgfdindlihfidaaGreat
