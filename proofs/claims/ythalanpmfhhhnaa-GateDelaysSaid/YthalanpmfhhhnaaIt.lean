/-
  The walk of GateInTime: it returns true.
-/
import Derived.Test.YthalanpmfhhhnaaIp
import Derived.Test.YthalanpmfhhhnaaAw
import Derived.Test.YthalanpmfhhhnaaFa
namespace Go.Proofs.Ythalanpmfhhhnaa
open Go.RowKit
set_option linter.unusedSimpArgs false
set_option linter.unusedVariables false

/-- The cells of n steps, all the same. -/
def spRow (t : Stp) (n : Nat) : List Value := (List.range n).flatMap fun _ => t.cells.toList
theorem spRow_succ (t : Stp) (k : Nat) : spRow t (k + 1) = spRow t k ++ t.cells.toList := by
  simp [spRow, List.range_succ, List.flatMap_append]
theorem spRow_len (t : Stp) : ∀ n, (spRow t n).length = n * 4
  | 0 => rfl
  | n + 1 => by rw [spRow_succ, List.length_append, spRow_len t n]; simp; omega
theorem spRow_get (t : Stp) : ∀ n k r, k < n → r < 4 → (spRow t n)[k * 4 + r]? = t.cells.toList[r]?
  | 0, k, r, h, _ => absurd h (by omega)
  | n + 1, k, r, h, hr => by
    rw [spRow_succ]
    by_cases e : k < n
    · rw [List.getElem?_append_left (by rw [spRow_len]; omega)]
      exact spRow_get t n k r e hr
    · have e2 : k = n := by omega
      subst e2
      rw [List.getElem?_append_right (by rw [spRow_len]; omega), spRow_len]
      congr 1; omega
theorem stps_of_row {w : World} {base n : Nat} {v : Value} {t : Stp} (hm : n ≤ maxLen) (h : w.ownsRow base 45 4 v n (spRow t n)) : ∃ a cap, v = .slice a n cap ∧ StpsAt w a (List.replicate n t) := by
  by_cases h0 : n = 0
  · subst h0
    rcases h.2 with ⟨rfl, _⟩ | ⟨g, cap, cur, rfl, _⟩
    · exact ⟨none, 0, rfl, by simp, .inl (by simp)⟩
    · exact ⟨_, cap, rfl, by simp, .inl (by simp)⟩
  · obtain ⟨g, cap, rfl, hb, hlt⟩ := h.form (by omega)
    refine ⟨_, cap, rfl, by simpa using hm, .inr ⟨g, 0, rfl, hlt, fun k hk => ?_⟩⟩
    have hk' : k < n := by simpa using hk
    have c := fun r (hr : r < 4) => (h.cellAt (k * 4 + r) (by omega)).trans (spRow_get t n k r hk' hr)
    have c0 := c 0 (by omega)
    have c1 := c 1 (by omega)
    have c2 := c 2 (by omega)
    have c3 := c 3 (by omega)
    simp only [Nat.zero_add, List.getElem_replicate]
    exact ⟨c0, c1, c2, c3⟩
theorem one_stp (x : Stp) : ∀ u ∈ x.cells.toList, u.oneCell' = true := fun u hu => by
  simp at hu
  rcases hu with rfl | rfl | rfl | rfl <;> rfl

/-- The boxes of GateInTime. -/
structure ItW (w : World) (g : GateV) (s : St) (o i : Int) (pw : Bool) (W : World) : Prop where
  below : Below w.heap.size w W
  gate : GateIn W w.heap.size g
  st : W.heap[w.heap.size + 1]? = some (.cells s.cells 43 (0, 0))
  sd : W.heap[w.heap.size + 1 + 1]? = some (.cells #[.int .i64 o, .int .i64 i, .bool pw] 38 (0, 0))
theorem ItW.new (w : World) (g : GateV) (s : St) (o i : Int) (pw : Bool) : ItW w g s o i pw (((w.alloc (.cells g.cells 33)).alloc (.cells s.cells 43)).alloc (.cells #[.int .i64 o, .int .i64 i, .bool pw] 38)) :=
  ⟨(((Below.refl _ _).alloc (Nat.le_refl _) _).alloc (by simp) _).alloc (by simp; omega) _, ((gateIn_new w g).alloc _).alloc _, blk_old (blk_new (by simp)), blk_new (by simp)⟩
theorem ItW.call {w W W' : World} {g : GateV} {s : St} {o i : Int} {pw : Bool} (h : ItW w g s o i pw W) (hb : Below W.heap.size W W') : ItW w g s o i pw W' :=
  ⟨h.below.trans (hb.mono h.below.size), h.gate.below hb (Nat.le_refl _), blk_below hb h.st, blk_below hb h.sd⟩
theorem ItW.alloc {w W : World} {g : GateV} {s : St} {o i : Int} {pw : Bool} (h : ItW w g s o i pw W) (x : Obj) : ItW w g s o i pw (W.alloc x) := h.call ((Below.refl _ _).alloc (Nat.le_refl _) x)
theorem ItW.lt {w W : World} {g : GateV} {s : St} {o i : Int} {pw : Bool} (h : ItW w g s o i pw W) : w.heap.size + 1 + 1 < W.heap.size := (Array.getElem?_eq_some_iff.1 h.sd).1
theorem ItW.grown {w W W' : World} {g : GateV} {s : St} {o i : Int} {pw : Bool} {row : Option Nat} (h : ItW w g s o i pw W) (hg : W.grownBy W' row) (hr : ∀ b, row = some b → w.heap.size + 3 ≤ b) : ItW w g s o i pw W' := by
  have l := h.lt
  have n0 : some w.heap.size ≠ row := fun e => by have := hr _ e.symm; omega
  have n1 : some (w.heap.size + 1) ≠ row := fun e => by have := hr _ e.symm; omega
  have n2 : some (w.heap.size + 1 + 1) ≠ row := fun e => by have := hr _ e.symm; omega
  exact ⟨h.below.grown hg h.below.size (fun b hb => by have := hr b hb; omega), ⟨by have := hg.size; have := h.gate.lt; omega, blk_grown hg n0 h.gate.blk⟩, blk_grown hg n1 h.st, blk_grown hg n2 h.sd⟩

set_option maxRecDepth 100000 in
set_option maxHeartbeats 8000000 in
theorem intime_main (g : GateV) (s : St) (o i : Int) (pw : Bool) (n : Nat) (w : World) (hok : g.Ok w) (hn : n ≤ 300) (ht : timeZ g s o i pw = ((n : Int), 0)) :
    Calls Try.prog 16 #[g.val, s.val, .agg #[.int .i64 o, .int .i64 i, .bool pw]] w fun e w' => e = .returned (.bool true) ∧ Below w.heap.size w w' := by
  have h0 := ItW.new w g s o i pw
  have H0 := Lib.hid h0
  have Ok0 := Lib.hid (hok.below h0.below (Nat.le_refl _))
  have OkW := Lib.hid hok
  obtain ⟨_, hlaw⟩ := in_time ht
  obtain ⟨hrun, hpos⟩ := hlaw (n + 3) (by omega)
  have HT := Lib.hid ht
  have Hrun := Lib.hid hrun
  have Hpos := Lib.hid hpos
  have d1 : decide ((n : Int) > 300) = false := by simp; omega
  have d2 : decide ((n : Int) < 0) = false := by simp
  have w3 : IntKind.i64.wrap ((n : Int) + 3) = (n : Int) + 3 := by rw [IntKind.wrap_i64]; omega
  clear hok h0 ht hlaw hrun hpos
  go_enter Try.func16, Try.ntmps16
  go_wp2_with (first
    | (with_reducible show wpList _ _ _ (({ dst := _, op := .load 33 (.tmp 3), type := _, pos := _, after := _, guard := none } : Oper) :: _) _ _; refine wpList_load_gate H0.out.gate rfl (.tmp 3) rfl rfl ?_)
    | (go_at_call 38; refine (time_any g s o i pw _ Ok0.out).mono ?_; rintro e w1 ⟨rfl, hb1⟩; rw [HT.out]; have H1 := Lib.hid (H0.out.call hb1); clear hb1))
  go_loopw [9, 10] (fun v j wr => ∃ k : Nat, k ≤ n + 3 ∧ j = .int .i64 k ∧ ItW w g s o i pw wr ∧ wr.ownsRow (w.heap.size + 3) 45 4 v k (spRow ⟨1, pw, o, i⟩ k)) (fun _ j _ => n + 3 - (intOf j).toNat)
  case atStart => exact ⟨0, Nat.zero_le _, rfl, H1.out, World.ownsRow_nil _ _ _ _⟩
  case round =>
    obtain ⟨k, hk, rfl, hit, hown⟩ := hrel
    have Hit := Lib.hid hit
    have Hown := Lib.hid hown
    have s0 := (cell_of_row _ _ 0 _ _ _ hit.sd).trans rfl
    have s1 := (cell_of_row _ _ 1 _ _ _ hit.sd).trans rfl
    have s2 := (cell_of_row _ _ 2 _ _ _ hit.sd).trans rfl
    have lt := hit.lt
    clear hit hown
    by_cases hlt : k < n + 3
    · have hd : decide ((k : Int) < (n : Int) + 3) = true := by simp; omega
      obtain ⟨i1, hi1, hz1, hs1, hb1⟩ := info_parts A.stpInfo
      go_wp2_with (at_builtin; refine wpList_append_lies _ rfl (.tmp 42) (.tmp 50) 62 rfl (w.heap.size + 3) 45 i1 _ 4 32 Try.underlying62 hi1 hz1 hs1 hb1 rfl (by decide) u9 k (spRow ⟨1, pw, o, i⟩ k) rfl (Hown.out.alloc _) ⟨_, 0, none⟩ 1 1 (Stp.mk 1 pw o i).cells.toList rfl rfl (World.news_of_block (cs := (Stp.mk 1 pw o i).cells) (t := 45) (fr := (0, 0)) (blk_new rfl)) (one_stp _) (by decide) (by unfold maxLen; omega) (by omega) (by simp; omega) _ rfl ?_; intro gX cX wX ownX grX atX ltX; have HoX := Lib.hid ownX; have HgX := Lib.hid grX; clear ownX grX atX ltX)
      have hitX := (Hit.out.alloc (.cells (Stp.mk 1 pw o i).cells 45)).grown HgX.out (fun b hb => (Hown.out.lt b hb).1)
      have HitX := Lib.hid hitX
      clear hitX
      go_roundw
      case rel => first | exact ⟨k + 1, by omega, by go_num, HitX.out, by rw [spRow_succ]; exact HoX.out⟩ | ((repeat apply Exists.intro); exact ⟨⟨k + 1, by omega, by go_num, HitX.out, by rw [spRow_succ]; exact HoX.out⟩, rfl⟩)
      case measure => simp [intOf]; omega
    · have hke : k = n + 3 := by omega
      subst hke
      have hd : decide (((n + 3 : Nat) : Int) < (n : Int) + 3) = false := by simp
      obtain ⟨aT, cT, rfl, hsT⟩ := stps_of_row (by unfold maxLen; omega) Hown.out
      have hru : Calls Try.prog 41 #[g.val, s.val, .slice aT (n + 3) cT] wr fun e w' => ∃ aN cN, e = .returned (.tuple #[.slice aN (n + 3) cN, .int .i64 0]) ∧ StsAt w' aN (stList (runF g s (List.replicate (n + 3) ⟨1, pw, o, i⟩)) (n + 3)) ∧ Below wr.heap.size wr w' := by
        have h := run_any g s aT cT (List.replicate (n + 3) ⟨1, pw, o, i⟩) wr (OkW.out.below Hit.out.below (Nat.le_refl _)) hsT
        rw [List.length_replicate, Hrun.out] at h
        refine h.mono ?_
        rintro e w' ⟨v, rfl, h1, _, hb⟩
        obtain ⟨aN, cN, rfl, hs⟩ := sts_of_row (by unfold maxLen; omega) (h1 rfl)
        exact ⟨aN, cN, rfl, hs, hb⟩
      have Hru := Lib.hid hru
      clear hru hsT Hown
      go_wp2_with (first
        | (with_reducible show wpList _ _ _ (({ dst := _, op := .load 33 (.tmp 3), type := _, pos := _, after := _, guard := none } : Oper) :: _) _ _; refine wpList_load_gate Hit.out.gate rfl (.tmp 3) rfl rfl ?_)
        | (with_reducible show wpList _ _ _ (({ dst := _, op := .load 43 (.tmp 4), type := _, pos := _, after := _, guard := none } : Oper) :: _) _ _; refine wpList_load_st Hit.out.st rfl (.tmp 4) rfl rfl ?_)
        | (go_at_call 41; refine Hru.out.mono ?_; rintro e w5 ⟨aN, cN, rfl, hsN, hb5⟩; have H5 := Lib.hid (Hit.out.call hb5); have HsN := Lib.hid hsN; clear hsN hb5))
      have g2 := H5.out.gate.cell 2 _ rfl
      obtain ⟨bN, oN, haN, hbN, hcN⟩ : ∃ b off, aN = some ⟨b, off, none⟩ ∧ _ := by
        rcases HsN.out.2 with h | h
        · have hl := congrArg List.length h
          rw [stList_len] at hl
          simp at hl
        · exact h
      subst haN
      have hcell : ∀ k : Nat, k < n + 3 → w5.cell? ⟨bN, oN + k * 3, none⟩ = some (.int .i64 (aft g s (List.replicate (n + 3) ⟨1, pw, o, i⟩) (k + 1)).pos) := fun k hk => by
        have h := (hcN k (by rw [stList_len]; exact hk)).1
        rw [h]
        simp [stList, runF]
      have Hcell := Lib.hid hcell
      have Hg2 := Lib.hid g2
      clear hcell hcN g2
      go_loopw [12] (fun j wr => ∃ (k m : Nat), k ≤ n + 3 ∧ j = .int .i64 k ∧ wr = w5.drewN m) (fun j _ => n + 3 - (intOf j).toNat)
      case atStart => exact ⟨0, 0, Nat.zero_le _, rfl, rfl⟩
      case round =>
        obtain ⟨k, m, hk, rfl, rfl⟩ := hrel
        by_cases hlt : k < n + 3
        · have c0 := Hcell.out k hlt
          have g2 := Hg2.out
          have hq := Hpos.out (k + 1) (by omega)
          have j1 : (0 : Int) ≤ (k : Int) := by omega
          have j2 : (k : Int) < ((n + 3 : Nat) : Int) := by omega
          have j3 : (k : Int) < (n : Int) + 3 := by omega
          have wk : IntKind.i64.wrap ((k : Int) + 1) = (k : Int) + 1 := by rw [IntKind.wrap_i64]; omega
          revert c0 hq
          generalize (aft g s (List.replicate (n + 3) ⟨1, pw, o, i⟩) (k + 1)).pos = q
          intro c0 hq
          by_cases hb : n ≤ k + 1
          · have e1 : (q == g.travel) = true := by
              rw [decide_eq_true (show (n : Int) ≤ ((k + 1 : Nat) : Int) by omega)] at hq
              simpa using hq
            have e2 : decide ((k : Int) + 1 ≥ (n : Int)) = true := by simp; omega
            clear hq hb
            go_wp2_with fail
            go_quiet (fail)
            go_wp2
            go_roundw
            case rel => first | exact ⟨k + 1, _, by omega, by go_num, rfl⟩ | (simp only [World.drewN_drewN]; exact ⟨k + 1, _, by omega, by go_num, rfl⟩)
            case measure => simp [intOf]; omega
          · have e1 : (q == g.travel) = false := by
              rw [decide_eq_false (show ¬ (n : Int) ≤ ((k + 1 : Nat) : Int) by omega)] at hq
              simpa using hq
            have e2 : decide ((k : Int) + 1 ≥ (n : Int)) = false := by simp; omega
            clear hq hb
            go_wp2_with fail
            go_quiet (fail)
            go_wp2
            go_roundw
            case rel => first | exact ⟨k + 1, _, by omega, by go_num, rfl⟩ | (simp only [World.drewN_drewN]; exact ⟨k + 1, _, by omega, by go_num, rfl⟩)
            case measure => simp [intOf]; omega
        · have hd3 : decide ((k : Int) < ((n + 3 : Nat) : Int)) = false := by simp; omega
          go_wp2_with ((go_at_call 24; refine (awake_any _).mono ?_; rintro e w9 ⟨rfl, hb9⟩; have B9 := Lib.hid ((H5.out.call (below_drewN (Below.refl _ _) _)).call hb9); clear hb9))
          go_ret
          exact ⟨rfl, B9.out.below⟩

set_option maxRecDepth 100000 in
set_option maxHeartbeats 2000000 in
theorem intime_any (g : GateV) (s : St) (o i : Int) (pw : Bool) (w : World) (hok : g.Ok w) :
    Calls Try.prog 16 #[g.val, s.val, .agg #[.int .i64 o, .int .i64 i, .bool pw]] w fun e w' => e = .returned (.bool true) ∧ Below w.heap.size w w' := by
  obtain ⟨n, E, ht⟩ : ∃ n E, timeZ g s o i pw = (n, E) := ⟨_, _, rfl⟩
  have h0 := ItW.new w g s o i pw
  have H0 := Lib.hid h0
  have Ok0 := Lib.hid (hok.below h0.below (Nat.le_refl _))
  have HT := Lib.hid ht
  clear h0
  by_cases hE : E = 0
  · subst hE
    obtain ⟨hn, _⟩ := in_time ht
    by_cases h3 : n ≤ 300
    · obtain ⟨m, rfl⟩ := Int.eq_ofNat_of_zero_le hn.1
      exact intime_main g s o i pw m w hok (by omega) ht
    · have d1 : decide (n > 300) = true := by simp; omega
      clear ht hn h3 hok
      go_enter Try.func16, Try.ntmps16
      go_wp2_with (first
      | (with_reducible show wpList _ _ _ (({ dst := _, op := .load 33 (.tmp 3), type := _, pos := _, after := _, guard := none } : Oper) :: _) _ _; refine wpList_load_gate H0.out.gate rfl (.tmp 3) rfl rfl ?_)
      | (go_at_call 38; refine (time_any g s o i pw _ Ok0.out).mono ?_; rintro e w1 ⟨rfl, hb1⟩; rw [HT.out]; have H1 := Lib.hid (H0.out.call hb1); clear hb1)
      | (go_at_call 24; refine (awake_any _).mono ?_; rintro e w9 ⟨rfl, hb9⟩; have B9 := Lib.hid (H1.out.call hb9); clear hb9))
      go_ret
      exact ⟨rfl, B9.out.below⟩
  · have h1 : (E != 0) = true := by simp [hE]
    clear ht hE hok
    go_enter Try.func16, Try.ntmps16
    go_wp2_with (first
    | (with_reducible show wpList _ _ _ (({ dst := _, op := .load 33 (.tmp 3), type := _, pos := _, after := _, guard := none } : Oper) :: _) _ _; refine wpList_load_gate H0.out.gate rfl (.tmp 3) rfl rfl ?_)
    | (go_at_call 38; refine (time_any g s o i pw _ Ok0.out).mono ?_; rintro e w1 ⟨rfl, hb1⟩; rw [HT.out]; have H1 := Lib.hid (H0.out.call hb1); clear hb1)
    | (go_at_call 24; refine (awake_any _).mono ?_; rintro e w9 ⟨rfl, hb9⟩; have B9 := Lib.hid (H1.out.call hb9); clear hb9))
    go_ret
    exact ⟨rfl, B9.out.below⟩
end Go.Proofs.Ythalanpmfhhhnaa
