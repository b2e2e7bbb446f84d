/-
  The walk of GateKnown: it returns true.
-/
import Derived.Test.YthalanpmfhhhnaaKe
import Derived.Test.YthalanpmfhhhnaaRx
import Derived.Test.YthalanpmfhhhnaaAp
import Derived.Test.YthalanpmfhhhnaaGm
import Derived.Test.YthalanpmfhhhnaaIw
import Derived.Test.YthalanpmfhhhnaaDl
import Derived.Great.BuildSlice
namespace Go.Proofs.Ythalanpmfhhhnaa
open Go.RowKit
set_option linter.unusedSimpArgs false
set_option linter.unusedVariables false
attribute [local go_sem ↓] loadAt_gate
attribute [local go_sem] run_gateLoad

theorem stsPair {W : World} {B : Nat} {a b : St} (h : W.heap[B]? = some (.cells #[.int .i64 a.pos, .int .i64 a.charge, .bool a.bolted, .int .i64 b.pos, .int .i64 b.charge, .bool b.bolted] 43 (0, 0))) : StsAt W (some ⟨B, 0, none⟩) [a, b] := by
  have c := fun k => cell_of_row W B k _ _ _ h
  refine ⟨by simp [maxLen], .inr ⟨B, 0, rfl, (Array.getElem?_eq_some_iff.1 h).1, fun k hk => ?_⟩⟩
  match k, hk with
  | 0, _ => exact ⟨(c 0).trans rfl, (c 1).trans rfl, (c 2).trans rfl⟩
  | 1, _ => exact ⟨(c 3).trans rfl, (c 4).trans rfl, (c 5).trans rfl⟩
def sgA : Nat → Nat := fun j => #[183, 184, 185, 186, 187, 188, 189, 182, 190, 191, 192, 25, 26, 4].getD j (100000 + j)
def sgB : Nat → Nat := fun j => #[194, 195, 196, 197, 198, 199, 200, 193, 201, 202, 203, 27, 28, 7].getD j (100000 + j)
theorem sgA_lt : ∀ j, j < 14 → sgA j < 256 := by decide
theorem sgB_lt : ∀ j, j < 14 → sgB j < 256 := by decide
theorem sgA_inj' : ∀ i, i < 14 → ∀ j, j < 14 → sgA i = sgA j → i = j := by decide
theorem sgB_inj' : ∀ i, i < 14 → ∀ j, j < 14 → sgB i = sgB j → i = j := by decide
theorem sgA_inj : ∀ i j, i < 14 → j < 14 → sgA i = sgA j → i = j := fun i j hi hj h => sgA_inj' i hi j hj h
theorem sgB_inj : ∀ i j, i < 14 → j < 14 → sgB i = sgB j → i = j := fun i j hi hj h => sgB_inj' i hi j hj h
theorem sgA_v0 : sgA 0 = 183 := rfl
theorem sgB_v0 : sgB 0 = 194 := rfl
theorem sgA_v1 : sgA 1 = 184 := rfl
theorem sgB_v1 : sgB 1 = 195 := rfl
theorem sgA_v2 : sgA 2 = 185 := rfl
theorem sgB_v2 : sgB 2 = 196 := rfl
theorem sgA_v3 : sgA 3 = 186 := rfl
theorem sgB_v3 : sgB 3 = 197 := rfl
theorem sgA_v4 : sgA 4 = 187 := rfl
theorem sgB_v4 : sgB 4 = 198 := rfl
theorem sgA_v5 : sgA 5 = 188 := rfl
theorem sgB_v5 : sgB 5 = 199 := rfl
theorem sgA_v6 : sgA 6 = 189 := rfl
theorem sgB_v6 : sgB 6 = 200 := rfl
theorem sgA_v7 : sgA 7 = 182 := rfl
theorem sgB_v7 : sgB 7 = 193 := rfl
theorem sgA_v8 : sgA 8 = 190 := rfl
theorem sgB_v8 : sgB 8 = 201 := rfl
theorem sgA_v9 : sgA 9 = 191 := rfl
theorem sgB_v9 : sgB 9 = 202 := rfl
theorem sgA_v10 : sgA 10 = 192 := rfl
theorem sgB_v10 : sgB 10 = 203 := rfl
theorem sgA_v11 : sgA 11 = 25 := rfl
theorem sgB_v11 : sgB 11 = 27 := rfl
theorem sgA_v12 : sgA 12 = 26 := rfl
theorem sgB_v12 : sgB 12 = 28 := rfl
theorem sgA_v13 : sgA 13 = 4 := rfl
theorem sgB_v13 : sgB 13 = 7 := rfl
theorem sgA_24 : ∀ j, j < 14 → sgA j ≠ 24 := by decide
theorem sgB_24 : ∀ j, j < 14 → sgB j ≠ 24 := by decide
theorem setAll14 (σ : Nat → Nat) (x : Nat → Value) (T : Array Value) : setAll σ x 14 T = (((((((((((((T.setIfInBounds (σ 0) (x 0)).setIfInBounds (σ 1) (x 1)).setIfInBounds (σ 2) (x 2)).setIfInBounds (σ 3) (x 3)).setIfInBounds (σ 4) (x 4)).setIfInBounds (σ 5) (x 5)).setIfInBounds (σ 6) (x 6)).setIfInBounds (σ 7) (x 7)).setIfInBounds (σ 8) (x 8)).setIfInBounds (σ 9) (x 9)).setIfInBounds (σ 10) (x 10)).setIfInBounds (σ 11) (x 11)).setIfInBounds (σ 12) (x 12)).setIfInBounds (σ 13) (x 13) := rfl
/-- The lists of the examples lie behind W8. -/
theorem kn_at {W8 W9 : World} (h : Bk W8 ([.cells #[.int .i64 500, .int .i64 510, .int .i64 0] 3, .cells #[.int .i64 500, .int .i64 900, .int .i64 0] 3, .cells #[.int .i64 1000, .int .i64 990, .int .i64 1] 3, .cells #[.slice (some ⟨W8.heap.size, 0, none⟩) 3 3, .slice (some ⟨W8.heap.size + 1, 0, none⟩) 3 3, .slice (some ⟨W8.heap.size + 1 + 1, 0, none⟩) 3 3] 30, .cells #[.int .i64 490, .int .i64 520, .int .i64 490, .int .i64 910, .int .i64 990, .int .i64 1000] 53, .cells #[.int .i64 0, .int .i64 0, .int .i64 2] 3]) W9) (k : Nat) (hk : k < 3) : ∃ (A : Nat) (r0 r1 r2 lo hi en : Int), W9.heap[A]? = some (.cells #[.int .i64 r0, .int .i64 r1, .int .i64 r2] 3 (0, 0)) ∧
    (W9.cell? ⟨W8.heap.size + 1 + 1 + 1 + 1, k * 2, none⟩ = some (.int .i64 lo) ∧ W9.cell? ⟨W8.heap.size + 1 + 1 + 1 + 1, k * 2 + 1, none⟩ = some (.int .i64 hi)) ∧ W9.cell? ⟨W8.heap.size + 1 + 1 + 1 + 1 + 1, k, none⟩ = some (.int .i64 en) ∧
    W9.cell? ⟨W8.heap.size + 1 + 1 + 1, k, none⟩ = some (.slice (some ⟨A, 0, none⟩) 3 3) ∧
    ∀ p q, (whereLo (exG east p q) [r0, r1, r2], whereHi (exG east p q) [r0, r1, r2], whereE (exG east p q) [r0, r1, r2], sureV (exG east p q) [r0, r1, r2]) = (lo, hi, 0, en) := by
  match k, hk with
  | 0, _ => exact ⟨_, _, _, _, _, _, _, h.blk 0 _ rfl, ⟨h.cell 4 0 rfl rfl, h.cell 4 1 rfl rfl⟩, h.cell 5 0 rfl rfl, h.cell 3 0 rfl rfl, ev_where0⟩
  | 1, _ => exact ⟨_, _, _, _, _, _, _, h.blk 1 _ rfl, ⟨h.cell 4 2 rfl rfl, h.cell 4 3 rfl rfl⟩, h.cell 5 1 rfl rfl, h.cell 3 1 rfl rfl, ev_where1⟩
  | 2, _ => exact ⟨_, _, _, _, _, _, _, h.blk 2 _ rfl, ⟨h.cell 4 4 rfl rfl, h.cell 4 5 rfl rfl⟩, h.cell 5 2 rfl rfl, h.cell 3 2 rfl rfl, ev_where2⟩

set_option maxRecDepth 100000 in
set_option maxHeartbeats 16000000 in
theorem gknown_any (w : World) :
    Calls Try.prog 18 #[] w fun e w' => e = .returned (.bool true) ∧ Below w.heap.size w w' := by
  go_enter Try.func18, Try.ntmps18
  go_upto_region 12 with (first
    | (go_at_call 48; refine (ex_any2 _).mono ?_; rintro e w1 ⟨g, p, q, ⟨hg, _, _⟩, rfl, ok1, hb1⟩; have K1 : Hid (KnW w w1.heap.size g (w1.alloc (.cells g.cells 33))) := Lib.hid ⟨hb1.alloc hb1.size _, gateIn_new w1 g, ok1.below ((Below.refl _ _).alloc (Nat.le_refl _) _) (Nat.le_refl _), p, q, hg⟩; clear ok1 hb1 hg)
    | (with_reducible show wpList _ _ _ (({ dst := _, op := .store 33 (.tmp 1) (.tmp 29), type := _, pos := _, after := _, guard := none } : Oper) :: _) _ _; refine wpList_store_gate_new rfl (.tmp 1) (.tmp 29) rfl rfl rfl rfl ?_)
    | (go_at_call 31; ((with_reducible refine (kn_force1 K2.out).mono ?_); rintro e w3 ⟨rfl, hb⟩; have K3 := Lib.hid (K2.out.call hb); clear hb))
    | (go_at_call 31; ((with_reducible refine (kn_force0 K1.out).mono ?_); rintro e w2 ⟨rfl, hb⟩; have K2 := Lib.hid (K1.out.call hb); clear hb))
    | (go_at_call 33; ((with_reducible refine (kn_falls K3.out).mono ?_); rintro e w4 ⟨rfl, hb⟩; have K4 := Lib.hid (K3.out.call hb); clear hb))
    | (go_at_call 38; ((with_reducible refine (kn_time K4.out).mono ?_); rintro e w5 ⟨rfl, hb⟩; have K5 := Lib.hid (K4.out.call hb); clear hb))
    | (go_at_call 27; ((with_reducible refine (kn_step2 K6.out).mono ?_); rintro e w7 ⟨rfl, hb⟩; have S1 := blk_below hb (blk_old (blk_new rfl) : ((w6.alloc (.cells #[.int .i64 40, .int .i64 0, .bool false] 43)).alloc (.cells #[.int .i64 0, .int .i64 40, .int .i64 0] 47)).heap[w6.heap.size]? = some (.cells #[.int .i64 40, .int .i64 0, .bool false] 43 (0, 0))); have s0 := bcl S1 0 _ rfl; have s1 := bcl S1 1 _ rfl; have s2 := bcl S1 2 _ rfl; have l1 : w6.heap.size < w7.heap.size := (Array.getElem?_eq_some_iff.1 S1).1; have K7 := Lib.hid (((K6.out.call hb).alloc (.cells #[.int .i64 90, .int .i64 30, .bool false] 43)).alloc (.cells #[.int .i64 0, .int .i64 (-10), .int .i64 10] 47)); clear hb S1))
    | (go_at_call 27; ((with_reducible refine (kn_step1 K5.out).mono ?_); rintro e w6 ⟨rfl, hb⟩; have K6 := Lib.hid (((K5.out.call hb).alloc (.cells #[.int .i64 40, .int .i64 0, .bool false] 43)).alloc (.cells #[.int .i64 0, .int .i64 40, .int .i64 0] 47)); clear hb))
    | (with_reducible show wpList _ _ _ (({ dst := _, op := .load 33 (.tmp 1), type := _, pos := _, after := _, guard := none } : Oper) :: _) _ _; refine wpList_load_gate K6.out.gate rfl (.tmp 1) rfl rfl ?_)
    | (with_reducible show wpList _ _ _ (({ dst := _, op := .load 33 (.tmp 1), type := _, pos := _, after := _, guard := none } : Oper) :: _) _ _; refine wpList_load_gate K5.out.gate rfl (.tmp 1) rfl rfl ?_)
    | (with_reducible show wpList _ _ _ (({ dst := _, op := .load 33 (.tmp 1), type := _, pos := _, after := _, guard := none } : Oper) :: _) _ _; refine wpList_load_gate K4.out.gate rfl (.tmp 1) rfl rfl ?_)
    | (with_reducible show wpList _ _ _ (({ dst := _, op := .load 33 (.tmp 1), type := _, pos := _, after := _, guard := none } : Oper) :: _) _ _; refine wpList_load_gate K3.out.gate rfl (.tmp 1) rfl rfl ?_)
    | (with_reducible show wpList _ _ _ (({ dst := _, op := .load 33 (.tmp 1), type := _, pos := _, after := _, guard := none } : Oper) :: _) _ _; refine wpList_load_gate K2.out.gate rfl (.tmp 1) rfl rfl ?_)
    | (with_reducible show wpList _ _ _ (({ dst := _, op := .load 33 (.tmp 1), type := _, pos := _, after := _, guard := none } : Oper) :: _) _ _; refine wpList_load_gate K1.out.gate rfl (.tmp 1) rfl rfl ?_))
  obtain ⟨W8, hW8⟩ : ∃ W8, W8 = (w7.alloc (.cells #[.int .i64 90, .int .i64 30, .bool false] 43)).alloc (.cells #[.int .i64 0, .int .i64 (-10), .int .i64 10] 47) := ⟨_, rfl⟩
  rw [← hW8] at K7 ⊢
  have K8 := K7
  clear hW8 s0 s1 s2 l1 K7 K6 K5 K4 K3 K2
  go_wp2
  have hb9 := (Bk.new5 W8 (.cells #[.int .i64 500, .int .i64 510, .int .i64 0] 3) (.cells #[.int .i64 500, .int .i64 900, .int .i64 0] 3) (.cells #[.int .i64 1000, .int .i64 990, .int .i64 1] 3) (.cells #[.slice (some ⟨W8.heap.size, 0, none⟩) 3 3, .slice (some ⟨W8.heap.size + 1, 0, none⟩) 3 3, .slice (some ⟨W8.heap.size + 1 + 1, 0, none⟩) 3 3] 30) (.cells #[.int .i64 490, .int .i64 520, .int .i64 490, .int .i64 910, .int .i64 990, .int .i64 1000] 53)).push (by simp) (.cells #[.int .i64 0, .int .i64 0, .int .i64 2] 3)
  generalize hW9 : World.alloc (World.alloc (World.alloc (World.alloc (World.alloc (World.alloc W8 _) _) _) _) _) _ = W9 at hb9 ⊢
  have K9 := Lib.hid (K8.out.call hb9.below)
  have HB9 := Lib.hid hb9
  have lN := hb9.lt 5 rfl
  have HK := Lib.hid (kn_at hb9)
  clear hW9 hb9
  go_loopw [19] (fun j wr => ∃ k : Nat, k ≤ 3 ∧ j = .int .i64 k ∧ Below W9.heap.size W9 wr) (fun j _ => 3 - (intOf j).toNat)
  case atStart => exact ⟨0, by omega, rfl, Below.refl _ _⟩
  case round =>
    obtain ⟨k, hk, rfl, hd⟩ := hrel
    have Hd := Lib.hid hd
    have KR := Lib.hid (K9.out.call hd)
    clear hd
    by_cases hlt : k < 3
    · as_aux_lemma =>
        obtain ⟨A, r0, r1, r2, lo, hi, en, hA, hS, hN, hT, hev⟩ := HK.out k hlt
        have HA := Lib.hid hA
        have Hev := Lib.hid hev
        have k1 : (0 : Int) ≤ (k : Int) := by omega
        have k2 : (k : Int) < 3 := by omega
        have dk : decide ((k : Int) < 3) = true := by simp; omega
        have Hst := Lib.hid (And.intro hS (And.intro hN hT))
        clear hA hS hN hT hev
        go_wp2
        try simp only [Act.put]
        go_cut [20, 21] (fun p z wx => ∃ P : Nat, p = .pointer (some ⟨P, 0, none⟩) ∧ z = .int .i64 0 ∧ P < wx.heap.size ∧ Below wr.heap.size wr wx ∧ wx.cell? ⟨P, 0, none⟩ = some (.int .i64 lo) ∧ wx.cell? ⟨P, 1, none⟩ = some (.int .i64 hi))
        case first =>
          have T0 := TgS.new wr
          have hkW : ∀ V, TgS wr V → KnW w w1.heap.size g V := fun V h => KR.out.call h.below
          have hg0 : ∀ V, TgS wr V → IsGate V w1.heap.size := fun V h => ⟨g, (hkW V h).gate⟩
          have hg1 : ∀ V, TgS wr V → rowOf V w1.heap.size = g.val := fun V h => rowOf_gate (hkW V h).gate
          have hb9 : ∀ V, TgS wr V → Below W9.heap.size W9 V := fun V h => Hd.out.trans (h.below.mono Hd.out.size)
          have ht0 : ∀ V, TgS wr V → V.cell? ⟨W8.heap.size + 1 + 1 + 1, k, none⟩ = some (.slice (some ⟨A, 0, none⟩) 3 3) := fun V h => ((hb9 V h).cell (p := ⟨W8.heap.size + 1 + 1 + 1, k, none⟩) (show W8.heap.size + 1 + 1 + 1 < W9.heap.size by omega)).trans Hst.out.2.2
          have hwh : ∀ V, TgS wr V → Calls Try.prog 29 #[g.val, .slice (some ⟨A, 0, none⟩) 3 3] V fun e w' => e = .returned (.tuple #[.agg #[.int .i64 lo, .int .i64 hi], .int .i64 0]) ∧ Below V.heap.size V w' := fun V h => kn_where (hkW V h) lo hi en r0 r1 r2 A (blk_below (hb9 V h) HA.out) Hev.out
          have Hwh := Lib.hid hwh
          clear hkW hb9 hwh
          go_region_held3 (fun w' => TgS wr w')
            (first
            | with_reducible exact tB
            | with_reducible assumption
            | ((repeat (first | (with_reducible exact T0) | (with_reducible refine TgS.drew ?_) | (with_reducible refine TgS.alloc ?_ _) | (with_reducible refine TgS.set ?_ (by omega) _) | (with_reducible exact tB) | (with_reducible assumption))); done))
            (first
              | (go_at_call 29; refine (Hwh.out _ (by assumption)).mono ?_; rintro e w' ⟨rfl, hbB⟩; have tB := TgS.call (by assumption) hbB; have ssB := tB.below.size; have szB := hbB.size; have hcB := below_cellR hbB; have hfB := below_frozenR hbB; have hlB := below_ltR hbB; (try simp only [World.size_alloc, drew_size] at szB hcB hfB hlB)))
          all_goals
            have htop : Below wr.heap.size wr _ := TgS.below (by assumption)
            have Htop := Lib.hid htop
            clear htop
            go_wp2_with fail
            go_meet
            refine ⟨_, rfl, rfl, ?_, Htop.out, ?_, ?_⟩
          all_goals first
            | omega
            | (simp; done)
            | (simp; omega)
            | (simp [go_sem, World.setCell]; done)
            | (simp [go_sem, World.setCell]; omega)
            | ((with_reducible refine bcl (cs := #[.int .i64 lo, .int .i64 hi]) (t := 53) ?_ _ _ rfl); (focus (repeat (first | ((with_reducible refine blk_new ?_); simp; done) | ((with_reducible refine blk_new ?_); simp [World.setCell]; done) | (with_reducible refine blk_drew ?_) | (with_reducible refine blk_old ?_) | (with_reducible apply blk_set2) | (with_reducible apply blk_set3) | (with_reducible refine blk_set_other (by first | omega | (simp; omega)) ?_) | (with_reducible refine blk_below hbB ?_)))))
        case rest =>
          obtain ⟨P1, rfl, rfl, hP1, hb1, c0, c1⟩ := hcut
          have Hd2 := Lib.hid (Hd.out.trans (hb1.mono Hd.out.size))
          have KR2 := Lib.hid (KR.out.call hb1)
          obtain ⟨wv, hwv⟩ : ∃ wv, wv = wc := ⟨_, rfl⟩
          subst hwv
          have C0 := Lib.hid (And.intro c0 c1)
          clear hb1 c0 c1
          go_wp2
          try simp only [Act.put]
          go_cut [22, 23] (fun a z wx => a = .int .i64 en ∧ z = .int .i64 0 ∧ Below wv.heap.size wv wx)
          case first =>
            have T0 := TgS.new wv
            have hkW : ∀ V, TgS wv V → KnW w w1.heap.size g V := fun V h => KR2.out.call h.below
            have hg0 : ∀ V, TgS wv V → IsGate V w1.heap.size := fun V h => ⟨g, (hkW V h).gate⟩
            have hg1 : ∀ V, TgS wv V → rowOf V w1.heap.size = g.val := fun V h => rowOf_gate (hkW V h).gate
            have hb9 : ∀ V, TgS wv V → Below W9.heap.size W9 V := fun V h => Hd2.out.trans (h.below.mono Hd2.out.size)
            have ht0 : ∀ V, TgS wv V → V.cell? ⟨W8.heap.size + 1 + 1 + 1, k, none⟩ = some (.slice (some ⟨A, 0, none⟩) 3 3) := fun V h => ((hb9 V h).cell (p := ⟨W8.heap.size + 1 + 1 + 1, k, none⟩) (show W8.heap.size + 1 + 1 + 1 < W9.heap.size by omega)).trans Hst.out.2.2
            have hwh : ∀ V, TgS wv V → Calls Try.prog 44 #[g.val, .slice (some ⟨A, 0, none⟩) 3 3] V fun e w' => e = .returned (.tuple #[.int .i64 en, .int .i64 0]) ∧ Below V.heap.size V w' := fun V h => kn_sure (hkW V h) lo hi en r0 r1 r2 A (blk_below (hb9 V h) HA.out) Hev.out
            have Hwh := Lib.hid hwh
            clear hkW hb9 hwh
            go_region_held3 (fun w' => TgS wv w')
              (first
            | with_reducible exact tB
            | with_reducible assumption
            | ((repeat (first | (with_reducible exact T0) | (with_reducible refine TgS.drew ?_) | (with_reducible refine TgS.alloc ?_ _) | (with_reducible refine TgS.set ?_ (by omega) _) | (with_reducible exact tB) | (with_reducible assumption))); done))
              (first
                | (go_at_call 44; refine (Hwh.out _ (by assumption)).mono ?_; rintro e w' ⟨rfl, hbB⟩; have tB := TgS.call (by assumption) hbB))
            all_goals
              have htop : Below wv.heap.size wv _ := TgS.below (by assumption)
              have Htop := Lib.hid htop
              clear htop
              go_wp2_with fail
              go_meet
              exact ⟨rfl, rfl, Htop.out⟩
          case rest =>
            obtain ⟨rfl, rfl, hb2⟩ := hcut
            have Hd3 := Lib.hid (Hd2.out.trans (hb2.mono Hd2.out.size))
            have d0 := (hb2.cell (p := ⟨P1, 0, none⟩) hP1).trans C0.out.1
            have d1 := (hb2.cell (p := ⟨P1, 1, none⟩) hP1).trans C0.out.2
            have e0 : wc.cell? ⟨W8.heap.size + 1 + 1 + 1 + 1, k * 2, none⟩ = some (.int .i64 lo) := (Hd3.out.cell (p := ⟨W8.heap.size + 1 + 1 + 1 + 1, k * 2, none⟩) (show W8.heap.size + 1 + 1 + 1 + 1 < W9.heap.size by omega)).trans Hst.out.1.1
            have e1 : wc.cell? ⟨W8.heap.size + 1 + 1 + 1 + 1, k * 2 + 1, none⟩ = some (.int .i64 hi) := (Hd3.out.cell (p := ⟨W8.heap.size + 1 + 1 + 1 + 1, k * 2 + 1, none⟩) (show W8.heap.size + 1 + 1 + 1 + 1 < W9.heap.size by omega)).trans Hst.out.1.2
            have n0 : wc.cell? ⟨W8.heap.size + 1 + 1 + 1 + 1 + 1, k, none⟩ = some (.int .i64 en) := (Hd3.out.cell (p := ⟨W8.heap.size + 1 + 1 + 1 + 1 + 1, k, none⟩) (show W8.heap.size + 1 + 1 + 1 + 1 + 1 < W9.heap.size by omega)).trans Hst.out.2.1
            clear hb2
            go_wp2
            go_quiet (fail)
            go_wp2
            go_roundw
            case rel => exact ⟨k + 1, by omega, by go_num, Hd3.out.trans (below_drewN (Below.refl _ _) _)⟩
            case measure => simp [intOf]; omega
    · obtain rfl : k = 3 := by omega
      clear HK HB9 lN
      go_wp2
      obtain ⟨V, hV⟩ : ∃ V, V = wr.alloc (.cells #[.int .i64 1, .bool false, .int .i64 3000, .int .i64 1000] 45) := ⟨_, rfl⟩
      obtain ⟨P4, hP4⟩ : ∃ P4, P4 = wr.heap.size := ⟨_, rfl⟩
      have hVP : V.heap[P4]? = some (.cells #[.int .i64 1, .bool false, .int .i64 3000, .int .i64 1000] 45 (0, 0)) := by rw [hV, hP4]; exact blk_new rfl
      have KV : Hid (KnW w w1.heap.size g V) := by rw [hV]; exact Lib.hid (KR.out.alloc _)
      rw [← hV, ← hP4]
      have HVP := Lib.hid hVP
      clear hV hP4 hVP Hd KR
      refine wp_region_inv (n := 14) (by kernel_rfl) rfl (by kernel_rfl) sgA (fun j hj => sgA_lt j hj) sgA_inj (MvC V false 40 0) (MvC.new (Below.refl _ _).drew) ?_ ?_
      · as_aux_lemma =>
          intro i o L x b v ho hS hC hL haft
          have hi : i < 14 := (Array.getElem?_eq_some_iff.1 ho).1
          have hi2 : i = 0 ∨ i = 1 ∨ i = 2 ∨ i = 3 ∨ i = 4 ∨ i = 5 ∨ i = 6 ∨ i = 7 ∨ i = 8 ∨ i = 9 ∨ i = 10 ∨ i = 11 ∨ i = 12 ∨ i = 13 := by omega
          have HC := Lib.hid hC
          have HS := Lib.hid hS
          have HL := Lib.hid hL
          have h24 : b.tmps[24]? = some (.pointer (some ⟨P4, 0, none⟩)) := hS.out 24 (fun j hj _ => sgA_24 j hj)
          have HV := Lib.hid (blk_below hC.bel HVP.out)
          have hal : ∀ o, Below v.heap.size v (v.alloc o) := fun o => (Below.refl _ _).alloc (Nat.le_refl _) o
          have Hal := Lib.hid hal
          clear hal hC hS hL
          rcases hi2 with rfl | rfl | rfl | rfl | rfl | rfl | rfl | rfl | rfl | rfl | rfl | rfl | rfl | rfl
          · obtain rfl := Option.some.inj ho
            refine ⟨rfl, rfl, ?_⟩
            clear ho haft
            go_simp
            refine (pair_any v).mono ?_
            rintro e v' ⟨oA, sA, oB, sB, gA, rA, rfl, okP, hbP⟩
            exact ⟨_, rfl, (HC.out.call hbP).u0 ⟨oA, sA, oB, sB, gA, rA, rfl, okP⟩⟩
          · obtain rfl := Option.some.inj ho
            refine ⟨rfl, rfl, ?_⟩
            have hmk := run_mk_st2
            clear ho haft
            go_simp
            exact ⟨_, rfl, (HC.out.call (Hal.out _)).u1 ⟨v.heap.size, rfl, heap_alloc_new _ _⟩⟩
          · obtain rfl := Option.some.inj ho
            refine ⟨rfl, rfl, ?_⟩
            have t0 : v.cell? ⟨P4, 0, none⟩ = some (.int .i64 1) := bcl HV.out 0 _ rfl
            have t1 : v.cell? ⟨P4, 1, none⟩ = some (.bool false) := bcl HV.out 1 _ rfl
            have t2 : v.cell? ⟨P4, 2, none⟩ = some (.int .i64 3000) := bcl HV.out 2 _ rfl
            have t3 : v.cell? ⟨P4, 3, none⟩ = some (.int .i64 1000) := bcl HV.out 3 _ rfl
            clear ho haft
            go_simp
            exact ⟨_, rfl, HC.out.u2 rfl⟩
          · obtain rfl := Option.some.inj ho
            refine ⟨rfl, rfl, ?_⟩
            have t0 : v.cell? ⟨P4, 0, none⟩ = some (.int .i64 1) := bcl HV.out 0 _ rfl
            have t1 : v.cell? ⟨P4, 1, none⟩ = some (.bool false) := bcl HV.out 1 _ rfl
            have t2 : v.cell? ⟨P4, 2, none⟩ = some (.int .i64 3000) := bcl HV.out 2 _ rfl
            have t3 : v.cell? ⟨P4, 3, none⟩ = some (.int .i64 1000) := bcl HV.out 3 _ rfl
            clear ho haft
            go_simp
            exact ⟨_, rfl, HC.out.u3 rfl⟩
          · obtain rfl := Option.some.inj ho
            refine ⟨rfl, rfl, ?_⟩
            have l2 : L 2 = true := haft { on := 2, ground := .data } (by simp) rfl
            have l3 : L 3 = true := haft { on := 3, ground := .data } (by simp) rfl
            have e2 : b.eval (.tmp 185) = knStep := (HS.out.eval (j := 2) (by omega) l2 rfl).trans (HC.out.c2 l2)
            have e3 : b.eval (.tmp 186) = knStep := (HS.out.eval (j := 3) (by omega) l3 rfl).trans (HC.out.c3 l3)
            obtain ⟨i1, hi1, hz1, hs1, hb1⟩ := info_parts A.stpInfo
            have hp : ((#[(0, Operand.tmp 185), (1, Operand.tmp 186)] : Array (Nat × Operand)).map fun (i, x) => (i, b.eval x)).toList = [(0, knStep), (1, knStep)] := by
              rw [Array.toList_map]
              show [(0, b.eval (.tmp 185)), (1, b.eval (.tmp 186))] = _
              rw [e2, e3]
            refine wp_buildSlice 62 45 2 #[(0, Operand.tmp 185), (1, Operand.tmp 186)] rfl #[.int .i64 1, .bool false, .int .i64 3000, .int .i64 1000, .int .i64 1, .bool false, .int .i64 3000, .int .i64 1000] i1 _ Try.underlying62 hi1 hz1 (by rw [hs1]; decide) (by rw [hs1]; decide) (by rw [hp, hs1]; kernel_rfl) ?_
            exact ⟨_, rfl, (HC.out.call (Hal.out _)).u4 ⟨v.heap.size, rfl, heap_alloc_new _ _⟩⟩
          · obtain rfl := Option.some.inj ho
            refine ⟨rfl, rfl, ?_⟩
            clear ho haft
            go_simp
            exact ⟨_, rfl, (HC.out.call (Hal.out _)).u5 ⟨v.heap.size, rfl, heap_alloc_new _ _⟩⟩
          · obtain rfl := Option.some.inj ho
            refine ⟨rfl, rfl, ?_⟩
            have l0 : L 0 = true := haft { on := 0, ground := .data } (by simp) rfl
            have l1 : L 1 = true := haft { on := 1, ground := .data } (by simp) rfl
            have l4 : L 4 = true := haft { on := 4, ground := .data } (by simp) rfl
            have l5 : L 5 = true := haft { on := 5, ground := .data } (by simp) rfl
            obtain ⟨oA, sA, oB, sB, gA, rA, e0, okP⟩ := HC.out.c0 l0
            obtain ⟨B1, e1, b1⟩ := HC.out.c1 l1
            obtain ⟨B4, e4, b4⟩ := HC.out.c4 l4
            obtain ⟨B5, e5, b5⟩ := HC.out.c5 l5
            have h0 : b.tmps[183]? = some (pairS oA sA oB sB gA rA).val := by have := HS.out.at_ 0 (by omega) l0; rw [e0] at this; exact this
            have h1 : b.tmps[184]? = some (.slice (some ⟨B1, 0, none⟩) 2 2) := by have := HS.out.at_ 1 (by omega) l1; rw [e1] at this; exact this
            have h4 : b.tmps[187]? = some (.slice (some ⟨B4, 0, none⟩) 2 2) := by have := HS.out.at_ 4 (by omega) l4; rw [e4] at this; exact this
            have h5 : b.tmps[188]? = some (.slice (some ⟨B5, 0, none⟩) 2 2) := by have := HS.out.at_ 5 (by omega) l5; rw [e5] at this; exact this
            have Hmv := Lib.hid (kn_move (b := false) okP b1 b4 b5 ev_tog1)
            clear l0 l1 l4 l5 e0 e1 e4 e5 b1 b4 b5 okP
            clear ho haft
            go_simp
            refine Hmv.out.mono ?_
            rintro e v' ⟨aS, cS, M, cM, ⟨rfl, hsS, hM, ⟨m0, m1, m2⟩, m3⟩, hbM⟩
            exact ⟨_, rfl, (HC.out.call hbM).u6 HL.out ⟨hsS, hM, m0, m1, m2, m3⟩⟩
          · obtain rfl := Option.some.inj ho
            refine ⟨rfl, rfl, ?_⟩
            have l6 : L 6 = true := haft { on := 6, ground := .data } (by simp) rfl
            obtain ⟨aS, cS, M, cM, r, hp⟩ := HC.out.c6 l6
            have h6 : b.tmps[189]? = some (knT aS cS M cM) := by have := HS.out.at_ 6 (by omega) l6; rw [r.h6] at this; exact this
            have R := Lib.hid (HC.out.uR (by omega) l6 hp r.u7)
            clear l6 r hp
            clear ho haft
            go_simp
            exact ⟨_, rfl, R.out⟩
          · obtain rfl := Option.some.inj ho
            refine ⟨rfl, rfl, ?_⟩
            have l7 : L 7 = true := haft { on := 7, ground := .data } (by simp) rfl
            have l6 : L 6 = true := HC.out.o 7 (by omega) l7
            obtain ⟨aS, cS, M, cM, r, hp⟩ := HC.out.c6 l6
            have h7 : b.tmps[182]? = some (knT aS cS M cM) := by have := HS.out.at_ 7 (by omega) l7; rw [r.h7 l7] at this; exact this
            have R := Lib.hid (HC.out.uR (by omega) l6 hp r.u8)
            clear l6 l7 r hp
            clear ho haft
            go_simp
            exact ⟨_, rfl, R.out⟩
          · obtain rfl := Option.some.inj ho
            refine ⟨rfl, rfl, ?_⟩
            have l7 : L 7 = true := haft { on := 7, ground := .data } (by simp) rfl
            have l6 : L 6 = true := HC.out.o 7 (by omega) l7
            obtain ⟨aS, cS, M, cM, r, hp⟩ := HC.out.c6 l6
            have h7 : b.tmps[182]? = some (knT aS cS M cM) := by have := HS.out.at_ 7 (by omega) l7; rw [r.h7 l7] at this; exact this
            have R := Lib.hid (HC.out.uR (by omega) l6 hp r.u9)
            clear l6 l7 r hp
            clear ho haft
            go_simp
            exact ⟨_, rfl, R.out⟩
          · obtain rfl := Option.some.inj ho
            refine ⟨rfl, rfl, ?_⟩
            have l7 : L 7 = true := haft { on := 7, ground := .data } (by simp) rfl
            have l6 : L 6 = true := HC.out.o 7 (by omega) l7
            obtain ⟨aS, cS, M, cM, r, hp⟩ := HC.out.c6 l6
            have h7 : b.tmps[182]? = some (knT aS cS M cM) := by have := HS.out.at_ 7 (by omega) l7; rw [r.h7 l7] at this; exact this
            have R := Lib.hid (HC.out.uR (by omega) l6 hp r.u10)
            clear l6 l7 r hp
            clear ho haft
            go_simp
            exact ⟨_, rfl, R.out⟩
          · obtain rfl := Option.some.inj ho
            refine ⟨rfl, rfl, ?_⟩
            have l7 : L 8 = true := haft { on := 8, ground := .data } (by simp) rfl
            have l6 : L 6 = true := HC.out.o 8 (by omega) l7
            obtain ⟨aS, cS, M, cM, r, hp⟩ := HC.out.c6 l6
            have h7 : b.tmps[190]? = some (.slice aS 2 cS) := by have := HS.out.at_ 8 (by omega) l7; rw [r.h8 l7] at this; exact this
            have R := Lib.hid (HC.out.uR (by omega) l6 hp r.u11)
            clear l6 l7 r hp
            clear ho haft
            go_simp
            exact ⟨_, rfl, R.out⟩
          · obtain rfl := Option.some.inj ho
            refine ⟨rfl, rfl, ?_⟩
            have l7 : L 9 = true := haft { on := 9, ground := .data } (by simp) rfl
            have l6 : L 6 = true := HC.out.o 9 (by omega) l7
            obtain ⟨aS, cS, M, cM, r, hp⟩ := HC.out.c6 l6
            have h7 : b.tmps[191]? = some (.slice (some ⟨M, 0, none⟩) 2 cM) := by have := HS.out.at_ 9 (by omega) l7; rw [r.h9 l7] at this; exact this
            have R := Lib.hid (HC.out.uR (by omega) l6 hp r.u12)
            clear l6 l7 r hp
            clear ho haft
            go_simp
            exact ⟨_, rfl, R.out⟩
          · obtain rfl := Option.some.inj ho
            refine ⟨rfl, rfl, ?_⟩
            have l7 : L 10 = true := haft { on := 10, ground := .data } (by simp) rfl
            have l6 : L 6 = true := HC.out.o 10 (by omega) l7
            obtain ⟨aS, cS, M, cM, r, hp⟩ := HC.out.c6 l6
            have h7 : b.tmps[192]? = some (.int .i64 0) := by have := HS.out.at_ 10 (by omega) l7; rw [r.h10 l7] at this; exact this
            have R := Lib.hid (HC.out.uR (by omega) l6 hp r.u13)
            clear l6 l7 r hp
            clear ho haft
            go_simp
            exact ⟨_, rfl, R.out⟩
      · intro x v hC
        obtain ⟨aS1, cS1, M1, cM1, r, hp⟩ := hC.c6 rfl
        have hb1 := hC.bel
        rw [setAll14]
        simp only [sgA_v0, sgA_v1, sgA_v2, sgA_v3, sgA_v4, sgA_v5, sgA_v6, sgA_v7, sgA_v8, sgA_v9, sgA_v10, sgA_v11, sgA_v12, sgA_v13, r.h11 rfl, r.h12 rfl, r.h13 rfl, List.setIfInBounds_toArray, List.set_cons_zero, List.set_cons_succ]
        obtain ⟨V2, hV2⟩ : ∃ V2, V2 = v := ⟨_, rfl⟩
        subst hV2
        have KV2 := Lib.hid (KV.out.call hb1)
        have HVP2 := Lib.hid (blk_below hb1 HVP.out)
        have HP1 := Lib.hid hp
        clear hb1 hp hC r
        generalize x 0 = y0
        generalize x 1 = y1
        generalize x 2 = y2
        generalize x 3 = y3
        generalize x 4 = y4
        generalize x 5 = y5
        generalize x 6 = y6
        generalize x 7 = y7
        generalize x 8 = y8
        generalize x 9 = y9
        generalize x 10 = y10
        clear x
        go_wp2
        refine wp_region_inv (n := 14) (by kernel_rfl) rfl (by kernel_rfl) sgB (fun j hj => sgB_lt j hj) sgB_inj (MvC V2 true 0 131) (MvC.new (Below.refl _ _).drew) ?_ ?_
        · as_aux_lemma =>
            intro i o L x b v ho hS hC hL haft
            have hi : i < 14 := (Array.getElem?_eq_some_iff.1 ho).1
            have hi2 : i = 0 ∨ i = 1 ∨ i = 2 ∨ i = 3 ∨ i = 4 ∨ i = 5 ∨ i = 6 ∨ i = 7 ∨ i = 8 ∨ i = 9 ∨ i = 10 ∨ i = 11 ∨ i = 12 ∨ i = 13 := by omega
            have HC := Lib.hid hC
            have HS := Lib.hid hS
            have HL := Lib.hid hL
            have h24 : b.tmps[24]? = some (.pointer (some ⟨P4, 0, none⟩)) := hS.out 24 (fun j hj _ => sgB_24 j hj)
            have HV := Lib.hid (blk_below hC.bel HVP2.out)
            have hal : ∀ o, Below v.heap.size v (v.alloc o) := fun o => (Below.refl _ _).alloc (Nat.le_refl _) o
            have Hal := Lib.hid hal
            clear hal hC hS hL
            rcases hi2 with rfl | rfl | rfl | rfl | rfl | rfl | rfl | rfl | rfl | rfl | rfl | rfl | rfl | rfl
            · obtain rfl := Option.some.inj ho
              refine ⟨rfl, rfl, ?_⟩
              clear ho haft
              go_simp
              refine (pair_any v).mono ?_
              rintro e v' ⟨oA, sA, oB, sB, gA, rA, rfl, okP, hbP⟩
              exact ⟨_, rfl, (HC.out.call hbP).u0 ⟨oA, sA, oB, sB, gA, rA, rfl, okP⟩⟩
            · obtain rfl := Option.some.inj ho
              refine ⟨rfl, rfl, ?_⟩
              have hmk := run_mk_st2
              clear ho haft
              go_simp
              exact ⟨_, rfl, (HC.out.call (Hal.out _)).u1 ⟨v.heap.size, rfl, heap_alloc_new _ _⟩⟩
            · obtain rfl := Option.some.inj ho
              refine ⟨rfl, rfl, ?_⟩
              have t0 : v.cell? ⟨P4, 0, none⟩ = some (.int .i64 1) := bcl HV.out 0 _ rfl
              have t1 : v.cell? ⟨P4, 1, none⟩ = some (.bool false) := bcl HV.out 1 _ rfl
              have t2 : v.cell? ⟨P4, 2, none⟩ = some (.int .i64 3000) := bcl HV.out 2 _ rfl
              have t3 : v.cell? ⟨P4, 3, none⟩ = some (.int .i64 1000) := bcl HV.out 3 _ rfl
              clear ho haft
              go_simp
              exact ⟨_, rfl, HC.out.u2 rfl⟩
            · obtain rfl := Option.some.inj ho
              refine ⟨rfl, rfl, ?_⟩
              have t0 : v.cell? ⟨P4, 0, none⟩ = some (.int .i64 1) := bcl HV.out 0 _ rfl
              have t1 : v.cell? ⟨P4, 1, none⟩ = some (.bool false) := bcl HV.out 1 _ rfl
              have t2 : v.cell? ⟨P4, 2, none⟩ = some (.int .i64 3000) := bcl HV.out 2 _ rfl
              have t3 : v.cell? ⟨P4, 3, none⟩ = some (.int .i64 1000) := bcl HV.out 3 _ rfl
              clear ho haft
              go_simp
              exact ⟨_, rfl, HC.out.u3 rfl⟩
            · obtain rfl := Option.some.inj ho
              refine ⟨rfl, rfl, ?_⟩
              have l2 : L 2 = true := haft { on := 2, ground := .data } (by simp) rfl
              have l3 : L 3 = true := haft { on := 3, ground := .data } (by simp) rfl
              have e2 : b.eval (.tmp 196) = knStep := (HS.out.eval (j := 2) (by omega) l2 rfl).trans (HC.out.c2 l2)
              have e3 : b.eval (.tmp 197) = knStep := (HS.out.eval (j := 3) (by omega) l3 rfl).trans (HC.out.c3 l3)
              obtain ⟨i1, hi1, hz1, hs1, hb1⟩ := info_parts A.stpInfo
              have hp : ((#[(0, Operand.tmp 196), (1, Operand.tmp 197)] : Array (Nat × Operand)).map fun (i, x) => (i, b.eval x)).toList = [(0, knStep), (1, knStep)] := by
                rw [Array.toList_map]
                show [(0, b.eval (.tmp 196)), (1, b.eval (.tmp 197))] = _
                rw [e2, e3]
              refine wp_buildSlice 62 45 2 #[(0, Operand.tmp 196), (1, Operand.tmp 197)] rfl #[.int .i64 1, .bool false, .int .i64 3000, .int .i64 1000, .int .i64 1, .bool false, .int .i64 3000, .int .i64 1000] i1 _ Try.underlying62 hi1 hz1 (by rw [hs1]; decide) (by rw [hs1]; decide) (by rw [hp, hs1]; kernel_rfl) ?_
              exact ⟨_, rfl, (HC.out.call (Hal.out _)).u4 ⟨v.heap.size, rfl, heap_alloc_new _ _⟩⟩
            · obtain rfl := Option.some.inj ho
              refine ⟨rfl, rfl, ?_⟩
              clear ho haft
              go_simp
              exact ⟨_, rfl, (HC.out.call (Hal.out _)).u5 ⟨v.heap.size, rfl, heap_alloc_new _ _⟩⟩
            · obtain rfl := Option.some.inj ho
              refine ⟨rfl, rfl, ?_⟩
              have l0 : L 0 = true := haft { on := 0, ground := .data } (by simp) rfl
              have l1 : L 1 = true := haft { on := 1, ground := .data } (by simp) rfl
              have l4 : L 4 = true := haft { on := 4, ground := .data } (by simp) rfl
              have l5 : L 5 = true := haft { on := 5, ground := .data } (by simp) rfl
              obtain ⟨oA, sA, oB, sB, gA, rA, e0, okP⟩ := HC.out.c0 l0
              obtain ⟨B1, e1, b1⟩ := HC.out.c1 l1
              obtain ⟨B4, e4, b4⟩ := HC.out.c4 l4
              obtain ⟨B5, e5, b5⟩ := HC.out.c5 l5
              have h0 : b.tmps[194]? = some (pairS oA sA oB sB gA rA).val := by have := HS.out.at_ 0 (by omega) l0; rw [e0] at this; exact this
              have h1 : b.tmps[195]? = some (.slice (some ⟨B1, 0, none⟩) 2 2) := by have := HS.out.at_ 1 (by omega) l1; rw [e1] at this; exact this
              have h4 : b.tmps[198]? = some (.slice (some ⟨B4, 0, none⟩) 2 2) := by have := HS.out.at_ 4 (by omega) l4; rw [e4] at this; exact this
              have h5 : b.tmps[199]? = some (.slice (some ⟨B5, 0, none⟩) 2 2) := by have := HS.out.at_ 5 (by omega) l5; rw [e5] at this; exact this
              have Hmv := Lib.hid (kn_move (b := true) okP b1 b4 b5 ev_tog2)
              clear l0 l1 l4 l5 e0 e1 e4 e5 b1 b4 b5 okP
              clear ho haft
              go_simp
              refine Hmv.out.mono ?_
              rintro e v' ⟨aS, cS, M, cM, ⟨rfl, hsS, hM, ⟨m0, m1, m2⟩, m3⟩, hbM⟩
              exact ⟨_, rfl, (HC.out.call hbM).u6 HL.out ⟨hsS, hM, m0, m1, m2, m3⟩⟩
            · obtain rfl := Option.some.inj ho
              refine ⟨rfl, rfl, ?_⟩
              have l6 : L 6 = true := haft { on := 6, ground := .data } (by simp) rfl
              obtain ⟨aS, cS, M, cM, r, hp⟩ := HC.out.c6 l6
              have h6 : b.tmps[200]? = some (knT aS cS M cM) := by have := HS.out.at_ 6 (by omega) l6; rw [r.h6] at this; exact this
              have R := Lib.hid (HC.out.uR (by omega) l6 hp r.u7)
              clear l6 r hp
              clear ho haft
              go_simp
              exact ⟨_, rfl, R.out⟩
            · obtain rfl := Option.some.inj ho
              refine ⟨rfl, rfl, ?_⟩
              have l7 : L 7 = true := haft { on := 7, ground := .data } (by simp) rfl
              have l6 : L 6 = true := HC.out.o 7 (by omega) l7
              obtain ⟨aS, cS, M, cM, r, hp⟩ := HC.out.c6 l6
              have h7 : b.tmps[193]? = some (knT aS cS M cM) := by have := HS.out.at_ 7 (by omega) l7; rw [r.h7 l7] at this; exact this
              have R := Lib.hid (HC.out.uR (by omega) l6 hp r.u8)
              clear l6 l7 r hp
              clear ho haft
              go_simp
              exact ⟨_, rfl, R.out⟩
            · obtain rfl := Option.some.inj ho
              refine ⟨rfl, rfl, ?_⟩
              have l7 : L 7 = true := haft { on := 7, ground := .data } (by simp) rfl
              have l6 : L 6 = true := HC.out.o 7 (by omega) l7
              obtain ⟨aS, cS, M, cM, r, hp⟩ := HC.out.c6 l6
              have h7 : b.tmps[193]? = some (knT aS cS M cM) := by have := HS.out.at_ 7 (by omega) l7; rw [r.h7 l7] at this; exact this
              have R := Lib.hid (HC.out.uR (by omega) l6 hp r.u9)
              clear l6 l7 r hp
              clear ho haft
              go_simp
              exact ⟨_, rfl, R.out⟩
            · obtain rfl := Option.some.inj ho
              refine ⟨rfl, rfl, ?_⟩
              have l7 : L 7 = true := haft { on := 7, ground := .data } (by simp) rfl
              have l6 : L 6 = true := HC.out.o 7 (by omega) l7
              obtain ⟨aS, cS, M, cM, r, hp⟩ := HC.out.c6 l6
              have h7 : b.tmps[193]? = some (knT aS cS M cM) := by have := HS.out.at_ 7 (by omega) l7; rw [r.h7 l7] at this; exact this
              have R := Lib.hid (HC.out.uR (by omega) l6 hp r.u10)
              clear l6 l7 r hp
              clear ho haft
              go_simp
              exact ⟨_, rfl, R.out⟩
            · obtain rfl := Option.some.inj ho
              refine ⟨rfl, rfl, ?_⟩
              have l7 : L 8 = true := haft { on := 8, ground := .data } (by simp) rfl
              have l6 : L 6 = true := HC.out.o 8 (by omega) l7
              obtain ⟨aS, cS, M, cM, r, hp⟩ := HC.out.c6 l6
              have h7 : b.tmps[201]? = some (.slice aS 2 cS) := by have := HS.out.at_ 8 (by omega) l7; rw [r.h8 l7] at this; exact this
              have R := Lib.hid (HC.out.uR (by omega) l6 hp r.u11)
              clear l6 l7 r hp
              clear ho haft
              go_simp
              exact ⟨_, rfl, R.out⟩
            · obtain rfl := Option.some.inj ho
              refine ⟨rfl, rfl, ?_⟩
              have l7 : L 9 = true := haft { on := 9, ground := .data } (by simp) rfl
              have l6 : L 6 = true := HC.out.o 9 (by omega) l7
              obtain ⟨aS, cS, M, cM, r, hp⟩ := HC.out.c6 l6
              have h7 : b.tmps[202]? = some (.slice (some ⟨M, 0, none⟩) 2 cM) := by have := HS.out.at_ 9 (by omega) l7; rw [r.h9 l7] at this; exact this
              have R := Lib.hid (HC.out.uR (by omega) l6 hp r.u12)
              clear l6 l7 r hp
              clear ho haft
              go_simp
              exact ⟨_, rfl, R.out⟩
            · obtain rfl := Option.some.inj ho
              refine ⟨rfl, rfl, ?_⟩
              have l7 : L 10 = true := haft { on := 10, ground := .data } (by simp) rfl
              have l6 : L 6 = true := HC.out.o 10 (by omega) l7
              obtain ⟨aS, cS, M, cM, r, hp⟩ := HC.out.c6 l6
              have h7 : b.tmps[203]? = some (.int .i64 0) := by have := HS.out.at_ 10 (by omega) l7; rw [r.h10 l7] at this; exact this
              have R := Lib.hid (HC.out.uR (by omega) l6 hp r.u13)
              clear l6 l7 r hp
              clear ho haft
              go_simp
              exact ⟨_, rfl, R.out⟩
        · intro x v hC
          obtain ⟨aS, cS, M, cM, r, hp⟩ := hC.c6 rfl
          have hb1 := hC.bel
          rw [setAll14]
          simp only [sgB_v0, sgB_v1, sgB_v2, sgB_v3, sgB_v4, sgB_v5, sgB_v6, sgB_v7, sgB_v8, sgB_v9, sgB_v10, sgB_v11, sgB_v12, sgB_v13, r.h11 rfl, r.h12 rfl, r.h13 rfl, List.setIfInBounds_toArray, List.set_cons_zero, List.set_cons_succ]
          have HP2 := Lib.hid hp
          have HPa := Lib.hid (HP1.out.below hb1)
          have KV3 := Lib.hid (KV2.out.call hb1)
          clear hb1 hp hC r
          go_wp2_with (first
            | (go_at_call 37; refine (states_same aS1 (some ⟨v.heap.size, 0, none⟩) cS1 2 [⟨40, 0, false⟩, ⟨0, 0, false⟩] _ (HPa.out.sts.below ((Below.refl _ _).alloc (Nat.le_refl _) _) (Nat.le_refl _)) (stsPair (a := ⟨40, 0, false⟩) (b := ⟨0, 0, false⟩) (blk_new rfl))).mono ?_; rintro e w10 ⟨rfl, hb10⟩; have hbv : Below v.heap.size v w10 := ((Below.refl _ _).alloc (Nat.le_refl _) _).trans (hb10.mono (by simp)); have P1 := HPa.out.below hbv; have P2 := HP2.out.below hbv; have x0 := P1.a0; have x1 := P1.a1; have x2 := P1.a2; have x3 := P1.a3; have y0 := P2.a0; have y3 := P2.a3; have K10 := Lib.hid (KV3.out.call hbv); clear hbv hb10 P1 P2)
            | (go_at_call 24; refine (awake_any _).mono ?_; rintro e w11 ⟨rfl, hb11⟩; have K11 := Lib.hid (K10.out.call hb11); clear hb11))
          go_ret
          exact ⟨rfl, K11.out.below⟩
end Go.Proofs.Ythalanpmfhhhnaa
