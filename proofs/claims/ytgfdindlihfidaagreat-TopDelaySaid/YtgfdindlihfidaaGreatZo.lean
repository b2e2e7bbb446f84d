/-
  Awake of law 05: it returns true.
-/
import Derived.Test.YtgfdindlihfidaaGreatDd
import Derived.Test.YtgfdindlihfidaaGreatTa
import Derived.Test.YtgfdindlihfidaaGreatZf
namespace Go.Proofs.YtgfdindlihfidaaGreat
open Go.RowKit Go.Shelf
set_option linter.unusedSimpArgs false
set_option linter.unusedVariables false
set_option maxRecDepth 100000 in
set_option maxHeartbeats 4000000 in
theorem awake5_any (w : World) : Calls Tryz.prog 5 #[] w fun e w' => e = .returned (.bool true) ∧ Below w.heap.size w w' := by
  go_enter Tryz.func5, Tryz.ntmps5
  go_wp2_with (first
    | (go_at_call 14; refine Hid.out ?_))
  refine Lib.hid ?_
  refine (task_any w).mono ?_
  rintro e w1 ⟨t, rfl, hok, hL, hcap, hb1⟩
  have H0 := Lib.hid (last_zero t w1 hok hL hcap)
  have HB1 := Lib.hid hb1
  clear hok hL hcap hb1
  go_wp2_with (first
    | (go_at_call 13; (with_reducible refine H0.out.mono ?_); rintro e w2 ⟨rfl, hb2⟩; have HB2 := Lib.hid hb2; clear hb2)
    | (go_at_call 14; refine Hid.out ?_))
  refine Lib.hid ?_
  refine (task_any w2).mono ?_
  rintro e w3 ⟨t3, rfl, hok3, hL3, hcap3, hb3⟩
  have HB3 := Lib.hid hb3
  have HD := Lib.hid (fun V (hb : Below w3.heap.size w3 V) => decide_law t3 V (hok3.below hb (Nat.le_refl _)) hL3)
  clear hok3 hL3 hcap3 hb3
  go_wp2_with (first
    | (go_at_call 16; refine (rules_any _).mono ?_; rintro e w4 ⟨rfl, hb4⟩; have HB4 := Lib.hid hb4; have HD4 := Lib.hid (HD.out w4 hb4); clear hb4)
    | (go_at_call 15; (with_reducible refine HD4.out.mono ?_); rintro e w5 ⟨⟨a, c, b, d, rfl⟩, hb5⟩; have HB5 := Lib.hid hb5; clear hb5)
    | (go_at_call 14; refine Hid.out ?_))
  refine Lib.hid ?_
  obtain ⟨W6, hW6⟩ : ∃ W6, W6 = w5.alloc (.cells #[.int .i64 10, .int .i64 15, .slice a 2 c, .slice b 4 d] 70) := ⟨_, rfl⟩
  rw [← hW6]
  have hX6 : W6.heap[w5.heap.size]? = some (.cells #[.int .i64 10, .int .i64 15, .slice a 2 c, .slice b 4 d] 70 (0, 0)) := by rw [hW6]; exact blk_new rfl
  have hb6 : Below w5.heap.size w5 W6 := by rw [hW6]; exact (Below.refl _ _).alloc (Nat.le_refl _) _
  have HB6 := Lib.hid hb6
  have HX6 := Lib.hid hX6
  clear hb6 hX6 hW6
  refine (task_any W6).mono ?_
  rintro e w7 ⟨t7, rfl, hok7, hL7, hcap7, hb7⟩
  have HB7 := Lib.hid hb7
  have H7 := Lib.hid (last_two t7 w7 hok7 hL7)
  clear hok7 hL7 hcap7 hb7
  go_wp2_with (first | (go_at_call 13; refine Hid.out ?_))
  refine Lib.hid ?_
  refine H7.out.mono ?_
  rintro e w8 ⟨rfl, hb8⟩
  have hX8 := blk_below hb8 (blk_below HB7.out HX6.out)
  have HB8 := Lib.hid hb8
  have c0 : w8.cell? ⟨w5.heap.size, 0, none⟩ = some (.int .i64 10) := (cell_of_row _ _ 0 _ _ _ hX8).trans rfl
  have c1 : w8.cell? ⟨w5.heap.size, 1, none⟩ = some (.int .i64 15) := (cell_of_row _ _ 1 _ _ _ hX8).trans rfl
  have c3 : w8.cell? ⟨w5.heap.size, 3, none⟩ = some (.slice b 4 d) := (cell_of_row _ _ 3 _ _ _ hX8).trans rfl
  have q0 : ∀ V, (binOp .eql 42 (.agg #[.int .i64 10, .int .i64 15]) (.agg #[.int .i64 10, .int .i64 15])).run Tryz.prog V = .ok (.bool true) V := fun V => run_eqplan 10 15 10 15 V
  clear hX8 hb8
  go_wp2_with fail
  go_ret
  exact ⟨rfl, ((((((HB1.out.trans (HB2.out.mono HB1.out.size)).trans (HB3.out.mono (by have := HB1.out.size; have := HB2.out.size; omega))).trans (HB4.out.mono (by have := HB1.out.size; have := HB2.out.size; have := HB3.out.size; omega))).trans (HB5.out.mono (by have := HB1.out.size; have := HB2.out.size; have := HB3.out.size; have := HB4.out.size; omega))).trans (HB6.out.mono (by have := HB1.out.size; have := HB2.out.size; have := HB3.out.size; have := HB4.out.size; have := HB5.out.size; omega))).trans (HB7.out.mono (by have := HB1.out.size; have := HB2.out.size; have := HB3.out.size; have := HB4.out.size; have := HB5.out.size; have := HB6.out.size; omega))).trans (HB8.out.mono (by have := HB1.out.size; have := HB2.out.size; have := HB3.out.size; have := HB4.out.size; have := HB5.out.size; have := HB6.out.size; have := HB7.out.size; omega))⟩
end Go.Proofs.YtgfdindlihfidaaGreat

/-
  TopDelay: the row of steps, the lists that Move returns, what the walk keeps.
-/
namespace Go.Proofs.YtgfdindlihfidaaGreat
open Go.RowKit Go.Shelf
set_option linter.unusedSimpArgs false
set_option linter.unusedVariables false

/-- n times one step, cell by cell. -/
def spRow (t : Stp) (n : Nat) : List Value := (List.range n).flatMap fun _ => t.cells.toList
theorem spRow_succ (t : Stp) (k : Nat) : spRow t (k + 1) = spRow t k ++ t.cells.toList := by
  simp [spRow, List.range_succ, List.flatMap_append]
theorem spRow_len (t : Stp) : ∀ n, (spRow t n).length = n * 4
  | 0 => rfl
  | n + 1 => by rw [spRow_succ, List.length_append, spRow_len t n]; simp; omega
theorem spRow_get (t : Stp) : ∀ n k r, k < n → r < 4 → (spRow t n)[k * 4 + r]? = t.cells.toList[r]?
  | 0, k, r, h, _ => absurd h (by omega)
  | n + 1, k, r, h, hr => by
    rw [spRow_succ]
    by_cases e : k < n
    · rw [List.getElem?_append_left (by rw [spRow_len]; omega)]
      exact spRow_get t n k r e hr
    · have e2 : k = n := by omega
      subst e2
      rw [List.getElem?_append_right (by rw [spRow_len]; omega), spRow_len]
      congr 1; omega
theorem stps_of_row {w : World} {base n : Nat} {v : Value} {t : Stp} (hm : n ≤ maxLen) (h : w.ownsRow base 47 4 v n (spRow t n)) : ∃ a cap, v = .slice a n cap ∧ StpsAt w a (List.replicate n t) := by
  by_cases h0 : n = 0
  · subst h0
    rcases h.2 with ⟨rfl, _⟩ | ⟨g, cap, cur, rfl, _⟩
    · exact ⟨none, 0, rfl, by simp, .inl (by simp)⟩
    · exact ⟨_, cap, rfl, by simp, .inl (by simp)⟩
  · obtain ⟨g, cap, rfl, hb, hlt⟩ := h.form (by omega)
    refine ⟨_, cap, rfl, by simpa using hm, .inr ⟨g, 0, rfl, hlt, fun k hk => ?_⟩⟩
    have hk' : k < n := by simpa using hk
    have c := fun r (hr : r < 4) => (h.cellAt (k * 4 + r) (by omega)).trans (spRow_get t n k r hk' hr)
    have c0 := c 0 (by omega)
    have c1 := c 1 (by omega)
    have c2 := c 2 (by omega)
    have c3 := c 3 (by omega)
    simp only [Nat.zero_add, List.getElem_replicate]
    exact ⟨c0, c1, c2, c3⟩
theorem one_stp (x : Stp) : ∀ u ∈ x.cells.toList, u.oneCell' = true := fun u hu => by
  simp at hu
  rcases hu with rfl | rfl | rfl | rfl <;> rfl

/-- Where Move found no fault: the next states. -/
theorem MovOut.next {w w' : World} {s : SetV} {sts : List St} {ts : List Stp} {bs : List Bool} {vS vM : Value} (h : MovOut w w' s sts ts bs vS vM) (h0 : movE s sts ts bs = 0) (hm : s.gates.length ≤ maxLen) :
    ∃ a c, vS = .slice a s.gates.length c ∧ StsAt w' a (stList (togAt s.gates s.rules sts ts bs) s.gates.length) := by
  obtain ⟨a, _⟩ := h.good h0
  obtain ⟨aS, cS, rfl, h1⟩ := sts_of_row hm a
  exact ⟨aS, cS, rfl, h1⟩
theorem bools_blk {V : World} {Q n : Nat} (h : V.heap[Q]? = some (.cells (mkBool n) 4 (0, 0))) (hn : n ≤ 6) : BoolsAt V (some ⟨Q, 0, none⟩) (List.replicate n false) := by
  refine ⟨by simp [maxLen]; omega, .inr ⟨Q, 0, rfl, (Array.getElem?_eq_some_iff.1 h).1, fun j hj => ?_⟩⟩
  have hj' : j < n := by simpa using hj
  simp only [Nat.zero_add, List.getElem_replicate]
  exact (cell_of_row V Q j _ _ _ h).trans (mkBool_get hj')

abbrev mvdCells (s : SetV) (sA : Option Addr) (l sC : Nat) (o i : Int) (pw : Bool) : Array Value := #[.slice s.gA s.gates.length s.gC, .slice s.rA s.rules.length s.rC, .slice sA l sC, .int .i64 o, .int .i64 i, .bool pw]
/-- What the walk keeps: the gates and levels, the plan. -/
structure TdW (w : World) (mc : Array Value) (PB : Nat) (c o : Int) (V : World) : Prop where
  below : Below w.heap.size w V
  mv : V.heap[w.heap.size]? = some (.cells mc 28 (0, 0))
  pl : V.heap[PB]? = some (.cells #[.int .i64 c, .int .i64 o] 42 (0, 0))
section
variable {w V V' : World} {mc : Array Value} {PB : Nat} {c o : Int}
theorem TdW.call (h : TdW w mc PB c o V) (hb : Below V.heap.size V V') : TdW w mc PB c o V' := ⟨h.below.trans (hb.mono h.below.size), blk_below hb h.mv, blk_below hb h.pl⟩
theorem TdW.alloc (h : TdW w mc PB c o V) (x : Obj) : TdW w mc PB c o (V.alloc x) := h.call ((Below.refl _ _).alloc (Nat.le_refl _) x)
theorem TdW.lt (h : TdW w mc PB c o V) : w.heap.size < V.heap.size ∧ PB < V.heap.size := ⟨(Array.getElem?_eq_some_iff.1 h.mv).1, (Array.getElem?_eq_some_iff.1 h.pl).1⟩
theorem TdW.grown {row : Option Nat} {B : Nat} (h : TdW w mc PB c o V) (hg : V.grownBy V' row) (hr : ∀ b, row = some b → B ≤ b) (hB : PB < B) (hw : w.heap.size < B) : TdW w mc PB c o V' :=
  ⟨h.below.grown hg h.below.size (fun k e => by have := hr k e; omega), blk_grownB h.mv hg hr hw, blk_grownB h.pl hg hr hB⟩
theorem TdW.drewN (h : TdW w mc PB c o V) (n : Nat) : TdW w mc PB c o (V.drewN n) := h.call (below_drewN (Below.refl _ _) n)
end
end Go.Proofs.YtgfdindlihfidaaGreat

/-
  TopDelay: the walk: it returns true.
-/
namespace Go.Proofs.YtgfdindlihfidaaGreat
open Go.RowKit Go.Shelf
set_option linter.unusedSimpArgs false
set_option linter.unusedVariables false
attribute [local go_sem ↓] loadAt_task
attribute [local go_sem] run_taskLoad

set_option maxRecDepth 100000 in
set_option maxHeartbeats 8000000 in
theorem topdelay_any (s : SetV) (sA : Option Addr) (sC : Nat) (sts : List St) (o i : Int) (pw : Bool) (t : TaskV) (tick : Int) (ht : -9223372036854775808 ≤ tick ∧ tick ≤ 9223372036854775807) (w : World) (hok : s.Ok w) (hms : StsAt w sA sts) (hokt : t.Ok w) :
    Calls Tryz.prog 3 #[.agg (mvdCells s sA sts.length sC o i pw), t.val, .int .i64 tick] w fun e w' => e = .returned (.bool true) ∧ Below w.heap.size w w' := by
  obtain ⟨n, er, hz⟩ : ∃ n er, delayZ s sts ⟨1, pw, o, i⟩ = (n, er) := ⟨_, _, rfl⟩
  have K0 := Lib.hid (Bk.new2 w (.cells (mvdCells s sA sts.length sC o i pw) 28) (.cells t.cells 36))
  obtain ⟨W0, hW0⟩ : ∃ W0, W0 = (w.alloc (.cells (mvdCells s sA sts.length sC o i pw) 28)).alloc (.cells t.cells 36) := ⟨_, rfl⟩
  rw [← hW0] at K0
  have HW0 := Lib.hid hW0
  have HD := Lib.hid (by
    have h := delay_any s sA sC sts o i pw W0 (hok.below K0.out.below (Nat.le_refl _)) (hms.below K0.out.below (Nat.le_refl _))
    rw [hz] at h
    exact h : Calls Tryz.prog 4 #[s.val, .slice sA sts.length sC, .int .i64 o, .int .i64 i, .bool pw] W0 fun e w' => e = .returned (.tuple #[.int .i64 n, .int .i64 er]) ∧ Below W0.heap.size W0 w')
  have Hok := Lib.hid hok
  have Hms := Lib.hid hms
  have Hokt := Lib.hid hokt
  have HZ := Lib.hid hz
  clear hok hms hokt hW0 hz
  go_enter Tryz.func3, Tryz.ntmps3
  go_upto_region 1 with fail
  rw [← HW0.out]
  have m0 : W0.cell? ⟨w.heap.size, 0, none⟩ = some (.slice s.gA s.gates.length s.gC) := K0.out.cell 0 0 rfl rfl
  have m1 : W0.cell? ⟨w.heap.size, 1, none⟩ = some (.slice s.rA s.rules.length s.rC) := K0.out.cell 0 1 rfl rfl
  have m2 : W0.cell? ⟨w.heap.size, 2, none⟩ = some (.slice sA sts.length sC) := K0.out.cell 0 2 rfl rfl
  have m3 : W0.cell? ⟨w.heap.size, 3, none⟩ = some (.int .i64 o) := K0.out.cell 0 3 rfl rfl
  have m4 : W0.cell? ⟨w.heap.size, 4, none⟩ = some (.int .i64 i) := K0.out.cell 0 4 rfl rfl
  have m5 : W0.cell? ⟨w.heap.size, 5, none⟩ = some (.bool pw) := K0.out.cell 0 5 rfl rfl
  go_upto_region 2 with (go_at_call 4; (with_reducible refine HD.out.mono ?_); rintro e w1 ⟨rfl, hb1⟩; have K1 := Lib.hid (K0.out.call hb1); clear hb1)
  clear m0 m1 m2 m3 m4 m5
  by_cases he : er = 0
  · subst he
    obtain ⟨D, hDF⟩ := delay_law HZ.out
    have HDF := Lib.hid hDF
    have hn0 := hDF.eq
    have hDle := hDF.le
    clear hDF
    have d1 : decide (n < 0) = false := by simp; omega
    by_cases h30 : n > 30
    · have d2 : decide (n > 30) = true := by simpa using h30
      clear h30 hn0
      go_wp2_with (first | (go_at_call 5; refine (awake5_any _).mono ?_; rintro e w2 ⟨rfl, hb2⟩; have HB2 := Lib.hid (K1.out.call hb2); clear hb2))
      go_ret
      exact ⟨rfl, HB2.out.below⟩
    · have d2 : decide (n > 30) = false := by simpa using h30
      have HN := Lib.hid (show 0 ≤ n ∧ n ≤ 30 ∧ n = ((D : Int) + 9) / 10 from ⟨by omega, by omega, hn0⟩)
      clear h30 hn0
      go_upto_region 4 with fail
      clear d1 d2
      have q0 : w1.cell? ⟨w.heap.size + 1, 10, none⟩ = some (.int .i64 t.delay) := K1.out.cell 1 10 rfl rfl
      have q1 : w1.frozen? ⟨w.heap.size + 1, 10, none⟩ = false := K1.out.froz 1 10 rfl
      have q2 : w.heap.size + 1 < w1.heap.size := K1.out.lt 1 rfl
      go_upto_region 5 with fail
      obtain ⟨t2, ht2⟩ : ∃ t2 : TaskV, t2 = { t with delay := n } := ⟨_, rfl⟩
      have hok2 : t2.Ok w := by rw [ht2]; exact ⟨Hokt.out.bas, Hokt.out.filled, Hokt.out.hists, Hokt.out.river⟩
      have hdl2 : t2.delay = n := by rw [ht2]
      obtain ⟨W2, hW2⟩ : ∃ W2, W2 = w1.setCell ⟨w.heap.size + 1, 10, none⟩ (.int .i64 n) := ⟨_, rfl⟩
      rw [← hW2]
      have K2 := Lib.hid (show Bk w [.cells (mvdCells s sA sts.length sC o i pw) 28, .cells t2.cells 36] W2 by
        rw [hW2, ht2]
        exact K1.out.set 1 10 (.int .i64 n) rfl)
      clear q0 q1 q2 hW2
      have it0 : IsTask W2 (w.heap.size + 1) := ⟨t2, K2.out.blk 1 _ rfl⟩
      have ir0 : rowOf W2 (w.heap.size + 1) = t2.val := rowOf_task (K2.out.blk 1 _ rfl)
      have HP := Lib.hid (plan_all t2 tick ht W2 (hok2.below K2.out.below (Nat.le_refl _)))
      have Hd2 := Lib.hid hdl2
      clear hok2 hdl2 ht2 ht
      go_upto_region 6 with (go_at_call 6; (with_reducible refine HP.out.mono ?_); rintro e w3 ⟨c, op, er, rfl, her, hb3⟩; have K3 := Lib.hid (K2.out.call hb3); have Her := Lib.hid her; clear hb3 her)
      clear it0 ir0
      by_cases he : er = 0
      · subst he
        obtain ⟨hc0, hc1, hco, _, _⟩ := Her.out rfl
        rw [Hd2.out] at hco
        have Hco := Lib.hid hco
        clear hco
        go_upto_region 8 with fail
        obtain ⟨W4, hW4⟩ : ∃ W4, W4 = w3.alloc (.cells #[.int .i64 c, .int .i64 op] 42) := ⟨_, rfl⟩
        rw [← hW4]
        have T4 := Lib.hid (show TdW w (mvdCells s sA sts.length sC o i pw) w3.heap.size c op W4 by
          have hb : Below w3.heap.size w3 W4 := by rw [hW4]; exact (Below.refl _ _).alloc (Nat.le_refl _) _
          exact ⟨(K3.out.call hb).below, (K3.out.call hb).blk 0 _ rfl, by rw [hW4]; exact blk_new rfl⟩)
        have hs4 : W4.heap.size = w3.heap.size + 1 := by rw [hW4]; simp
        have hs3 := K3.out.lt 1 rfl
        have hgl := HDF.out.n6
        clear hW4
        go_wp2
        go_loopw [10, 11] (fun v j wr => ∃ k : Nat, k ≤ s.gates.length ∧ j = .int .i64 k ∧ TdW w (mvdCells s sA sts.length sC o i pw) w3.heap.size c op wr ∧ wr.ownsRow W4.heap.size 47 4 v k (spRow ⟨1, pw, o, i⟩ k)) (fun _ j _ => s.gates.length - (intOf j).toNat)
        case atStart => exact ⟨0, Nat.zero_le _, rfl, T4.out, World.ownsRow_nil _ _ _ _⟩
        case round =>
          obtain ⟨k, hk, rfl, hit, hown⟩ := hrel
          have Hit := Lib.hid hit
          have Hown := Lib.hid hown
          have m0 : wr.cell? ⟨w.heap.size, 0, none⟩ = some (.slice s.gA s.gates.length s.gC) := (cell_of_row _ _ 0 _ _ _ hit.mv).trans rfl
          have m2 : wr.cell? ⟨w.heap.size, 2, none⟩ = some (.slice sA sts.length sC) := (cell_of_row _ _ 2 _ _ _ hit.mv).trans rfl
          have m3 : wr.cell? ⟨w.heap.size, 3, none⟩ = some (.int .i64 o) := (cell_of_row _ _ 3 _ _ _ hit.mv).trans rfl
          have m4 : wr.cell? ⟨w.heap.size, 4, none⟩ = some (.int .i64 i) := (cell_of_row _ _ 4 _ _ _ hit.mv).trans rfl
          have m5 : wr.cell? ⟨w.heap.size, 5, none⟩ = some (.bool pw) := (cell_of_row _ _ 5 _ _ _ hit.mv).trans rfl
          have lt := hit.lt
          clear hit hown
          by_cases hlt : k < s.gates.length
          · have hd : decide ((k : Int) < (s.gates.length : Int)) = true := by simp; omega
            obtain ⟨i1, hi1, hz1, hs1, hb1⟩ := info_parts A.stpInfo
            go_wp2_with (at_builtin; refine wpList_append_lies _ rfl (.tmp 62) (.tmp 70) 45 rfl W4.heap.size 47 i1 _ 4 32 Tryz.underlying45 hi1 hz1 hs1 hb1 rfl (by decide) u10 k (spRow ⟨1, pw, o, i⟩ k) rfl (Hown.out.alloc _) ⟨_, 0, none⟩ 1 1 (Stp.mk 1 pw o i).cells.toList rfl rfl (World.news_of_block (cs := (Stp.mk 1 pw o i).cells) (t := 47) (fr := (0, 0)) (blk_new rfl)) (one_stp _) (by decide) (by unfold maxLen; omega) (by omega) (by simp; omega) _ rfl ?_; intro gX cX wX ownX grX atX ltX; have HoX := Lib.hid ownX; have HgX := Lib.hid grX; clear ownX grX atX ltX)
            have hitX := (Hit.out.alloc (.cells (Stp.mk 1 pw o i).cells 47)).grown HgX.out (fun b hb => (Hown.out.lt b hb).1) (by omega) (by omega)
            exact ⟨⟨k + 1, by omega, by go_num, hitX, by rw [spRow_succ]; exact HoX.out⟩, by simp [intOf]; omega⟩
          · obtain rfl : k = s.gates.length := by omega
            have hd : decide ((s.gates.length : Int) < (s.gates.length : Int)) = false := by simp
            obtain ⟨aT, cT, rfl, hsT⟩ := stps_of_row (by unfold maxLen; omega) Hown.out
            have HsT := Lib.hid hsT
            clear hsT Hown m3 m4 m5
            go_upto_region 13 with fail
            obtain ⟨wv, hwv⟩ : ∃ wv, wv = wr := ⟨_, rfl⟩
            subst hwv
            have S0 := TgS.new wv
            have f0 : ∀ V, TgS wv V → V.cell? ⟨w.heap.size, 0, none⟩ = some (.slice s.gA s.gates.length s.gC) := fun V h => (h.below.cell (p := ⟨w.heap.size, 0, none⟩) lt.1).trans m0
            have f2 : ∀ V, TgS wv V → V.cell? ⟨w.heap.size, 2, none⟩ = some (.slice sA sts.length sC) := fun V h => (h.below.cell (p := ⟨w.heap.size, 2, none⟩) lt.1).trans m2
            have hmk := run_mk_bool s.gates.length hgl.2
            clear m0 m2
            go_region_held3 (fun V => TgS wv V)
              (first
                | with_reducible assumption
                | ((repeat (first | (with_reducible exact S0) | (with_reducible refine TgS.drew ?_) | (with_reducible refine TgS.alloc ?_ _))); done))
              (first | fail)
            rename_i hHeld
            have T5 := Lib.hid ((Hit.out.alloc (.cells (mkBool s.gates.length) 4)).call (Below.refl _ _).drew)
            have hb5 : Below wv.heap.size wv ((wv.alloc (.cells (mkBool s.gates.length) 4)).drew) := ((Below.refl _ _).alloc (Nat.le_refl _) _).drew
            have HS5 := Lib.hid (HsT.out.below hb5 (Nat.le_refl _))
            have HBo := Lib.hid (bools_blk (V := (wv.alloc (.cells (mkBool s.gates.length) 4)).drew) (Q := wv.heap.size) (blk_new rfl) hgl.2)
            have hs5 : wv.heap.size < ((wv.alloc (.cells (mkBool s.gates.length) 4)).drew).heap.size := by show wv.heap.size < (wv.alloc (.cells (mkBool s.gates.length) 4)).heap.size; simp
            have hlen := HDF.out.len
            rw [hlen]
            clear hHeld S0 f0 f2 hmk hb5 HsT Hit
            generalize (wv.alloc (.cells (mkBool s.gates.length) 4)).drew = W5 at T5 HS5 HBo hs5 ⊢
            generalize wv.heap.size = BQ at HBo hs5 lt ⊢
            go_wp2
            go_loopw [12, 14] (fun v dn wx => ∃ k : Nat, k ≤ D ∧ dn = .int .i64 k ∧ TdW w (mvdCells s sA sts.length sC o i pw) w3.heap.size c op wx ∧ Below W5.heap.size W5 wx ∧ ∃ a cc, v = .slice a s.gates.length cc ∧ StsAt wx a (runS s.gates s.rules (List.replicate s.gates.length ⟨1, pw, o, i⟩) (List.replicate s.gates.length false) k sts)) (fun _ dn _ => D - (intOf dn).toNat)
            case atStart => exact ⟨0, Nat.zero_le _, rfl, T5.out, Below.refl _ _, sA, sC, rfl, Hms.out.below T5.out.below (Nat.le_refl _)⟩
            case round =>
              obtain ⟨k, hk, rfl, hT, hb6, a, cc, rfl, hst⟩ := hrel
              have HT6 := Lib.hid hT
              have HB6 := Lib.hid hb6
              have Hst := Lib.hid hst
              have m0 : wr.cell? ⟨w.heap.size, 0, none⟩ = some (.slice s.gA s.gates.length s.gC) := (cell_of_row _ _ 0 _ _ _ hT.mv).trans rfl
              have m1 : wr.cell? ⟨w.heap.size, 1, none⟩ = some (.slice s.rA s.rules.length s.rC) := (cell_of_row _ _ 1 _ _ _ hT.mv).trans rfl
              have lt6 := hT.lt
              have HSH := Lib.hid (by
                have h := tshut_any s a cc _ wr (Hok.out.below hT.below (Nat.le_refl _)) hst (HDF.out.lenS k) hgl.2
                rw [HDF.out.lenS k] at h
                exact h : Calls Tryz.prog 7 #[s.val, .slice a s.gates.length cc] wr fun e w' => e = .returned (.bool (shutUpto s.gates (runS s.gates s.rules (List.replicate s.gates.length ⟨1, pw, o, i⟩) (List.replicate s.gates.length false) k sts) s.gates.length)) ∧ Below wr.heap.size wr w')
              clear hT hb6 hst
              by_cases hlt : k < D
              · have HSH2 := Lib.hid (by
                  have h := HSH.out
                  rw [HDF.out.no k hlt] at h
                  exact h : Calls Tryz.prog 7 #[s.val, .slice a s.gates.length cc] wr fun e w' => e = .returned (.bool false) ∧ Below wr.heap.size wr w')
                have HMV := Lib.hid (show ∀ V, Below wr.heap.size wr V → Calls Tryz.prog 8 #[s.val, .slice a s.gates.length cc, .slice aT s.gates.length cT, .slice (some ⟨BQ, 0, none⟩) s.gates.length s.gates.length] V fun e w' =>
                    ∃ a' c' vM, e = .returned (.tuple #[.slice a' s.gates.length c', vM, .int .i64 0]) ∧ StsAt w' a' (runS s.gates s.rules (List.replicate s.gates.length ⟨1, pw, o, i⟩) (List.replicate s.gates.length false) (k + 1) sts) ∧ Below V.heap.size V w' from fun V hV => by
                  have hw : Below w.heap.size w V := HT6.out.below.trans (hV.mono HT6.out.below.size)
                  have h5 : Below W5.heap.size W5 V := HB6.out.trans (hV.mono HB6.out.size)
                  have h := move_any s a aT (some ⟨BQ, 0, none⟩) cc cT s.gates.length _ (List.replicate s.gates.length ⟨1, pw, o, i⟩) (List.replicate s.gates.length false) V (Hok.out.below hw (Nat.le_refl _)) (Hst.out.below hV (Nat.le_refl _)) (HS5.out.below h5 (Nat.le_refl _)) (HBo.out.below h5 (Nat.le_refl _))
                  rw [HDF.out.lenS k, List.length_replicate, List.length_replicate, HDF.out.mov k] at h
                  refine h.mono ?_
                  rintro e w' ⟨vS, vM, rfl, hO⟩
                  obtain ⟨a', c', rfl, hs'⟩ := hO.next (HDF.out.mov k) (by unfold maxLen; omega)
                  exact ⟨a', c', vM, rfl, hs', hO.below⟩)
                have hn1 := HN.out
                have wn : IntKind.i64.wrap (n * 10) = n * 10 := by rw [IntKind.wrap_i64]; omega
                have wk : IntKind.i64.wrap ((k : Int) + 1) = (k : Int) + 1 := by rw [IntKind.wrap_i64]; omega
                have hne : ((k : Int) == n * 10) = false := by
                  have : ¬ (k : Int) = n * 10 := by omega
                  simpa using this
                clear HSH hn1
                go_wp2_with (first
                  | (go_at_call 7; refine HSH2.out.mono ?_; rintro e w7 ⟨rfl, hb7⟩; have HT7 := Lib.hid (HT6.out.call hb7); have HB7 := Lib.hid hb7; have p0 : w7.cell? ⟨w.heap.size, 0, none⟩ = some (.slice s.gA s.gates.length s.gC) := (cell_of_row _ _ 0 _ _ _ HT7.out.mv).trans rfl; have p1 : w7.cell? ⟨w.heap.size, 1, none⟩ = some (.slice s.rA s.rules.length s.rC) := (cell_of_row _ _ 1 _ _ _ HT7.out.mv).trans rfl; clear hb7 m0 m1)
                  | (go_at_call 8; refine (HMV.out _ HB7.out).mono ?_; rintro e w8 ⟨a', c', vM, rfl, hs8, hb8⟩; have HT8 := Lib.hid (HT7.out.call hb8); have HB8 := Lib.hid hb8; have HS8 := Lib.hid hs8; clear hb8 hs8 p0 p1))
                exact ⟨⟨k + 1, by omega, by go_num, HT8.out, HB6.out.trans ((HB7.out.trans (HB8.out.mono HB7.out.size)).mono HB6.out.size), a', c', rfl, HS8.out⟩, by simp [intOf]; omega⟩
              · obtain rfl : k = D := by omega
                have HSH2 := Lib.hid (by
                  have h := HSH.out
                  rw [HDF.out.yes] at h
                  exact h : Calls Tryz.prog 7 #[s.val, .slice a s.gates.length cc] wr fun e w' => e = .returned (.bool true) ∧ Below wr.heap.size wr w')
                have hn1 := HN.out
                have hc2 := Hco.out
                have wc : IntKind.i64.wrap (c + n) = c + n := by rw [IntKind.wrap_i64]; omega
                have wd : IntKind.i64.wrap ((k : Int) + 10) = (k : Int) + 10 := by rw [IntKind.wrap_i64]; omega
                have wd1 : IntKind.i64.wrap ((k : Int) + 10 - 1) = (k : Int) + 9 := by rw [IntKind.wrap_i64]; omega
                have htd : ((k : Int) + 9).tdiv 10 = n := by rw [Int.tdiv_eq_ediv_of_nonneg (by omega)]; omega
                have wq : IntKind.i64.wrap (((k : Int) + 9).tdiv 10) = n := by rw [htd, IntKind.wrap_i64]; omega
                have wn1 : IntKind.i64.wrap n = n := by rw [IntKind.wrap_i64]; omega
                have wn2 : wrap64 n = n := by unfold wrap64; omega
                have hg : decide (op > c + n) = true := by simpa using hc2
                have hg2 : decide (c + n < op) = true := by simpa using hc2
                have hee : (n == n) = true := by simp
                have hk0 : 0 ≤ (k : Int) + 9 := by omega
                clear HSH hn1 hc2
                go_wp2_with (first
                  | (go_at_call 7; refine HSH2.out.mono ?_; rintro e w7 ⟨rfl, hb7⟩; have HT7 := Lib.hid (HT6.out.call hb7); have p0 : w7.cell? ⟨w3.heap.size, 0, none⟩ = some (.int .i64 c) := (cell_of_row _ _ 0 _ _ _ HT7.out.pl).trans rfl; have p1 : w7.cell? ⟨w3.heap.size, 1, none⟩ = some (.int .i64 op) := (cell_of_row _ _ 1 _ _ _ HT7.out.pl).trans rfl; clear hb7 m0 m1)
                  | (go_at_call 5; refine (awake5_any _).mono ?_; rintro e w8 ⟨rfl, hb8⟩; have HT8 := Lib.hid (HT7.out.call hb8); clear hb8))
                go_ret
                exact ⟨rfl, HT8.out.below⟩
      · have e1 : (er != 0) = true := by simpa using he
        clear he
        go_wp2_with (first | (go_at_call 5; refine (awake5_any _).mono ?_; rintro e w4 ⟨rfl, hb4⟩; have HB4 := Lib.hid ((K3.out.alloc _).call hb4); clear hb4))
        go_ret
        exact ⟨rfl, HB4.out.below⟩
  · have e1 : (er != 0) = true := by simpa using he
    clear he
    go_wp2_with (first | (go_at_call 5; refine (awake5_any _).mono ?_; rintro e w2 ⟨rfl, hb2⟩; have HB2 := Lib.hid (K1.out.call hb2); clear hb2))
    go_ret
    exact ⟨rfl, HB2.out.below⟩
end Go.Proofs.YtgfdindlihfidaaGreat
