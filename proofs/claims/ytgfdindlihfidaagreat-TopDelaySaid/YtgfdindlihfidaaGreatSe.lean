/-
  The contract of gate.CheckSet.
-/
import Derived.Test.YtgfdindlihfidaaGreatGs
import Derived.Deep.WholeRow
import Derived.Laws.Tables
namespace Go.Proofs.YtgfdindlihfidaaGreat
open Go.RowKit
set_option linter.unusedSimpArgs false
set_option linter.unusedVariables false

/-- The number of gates and a rule lie in blocks. -/
structure RulIn (w : World) (N B : Nat) (n : Int) (r : Rul) : Prop where
  lt0 : N < w.heap.size
  num : w.cell? ⟨N, 0, none⟩ = some (.int .i64 n)
  lt : B < w.heap.size
  blk : w.heap[B]? = some (.cells r.cells 88 (0, 0))

theorem RulIn.below {w W : World} {N B : Nat} {n : Int} {r : Rul} {B0 : Nat} (h : RulIn w N B n r) (hb : Below B0 w W) (hB : w.heap.size ≤ B0) : RulIn W N B n r :=
  ⟨Nat.lt_of_lt_of_le h.lt0 hb.size, (hb.cell (p := ⟨N, 0, none⟩) (Nat.lt_of_lt_of_le h.lt0 hB)).trans h.num, Nat.lt_of_lt_of_le h.lt hb.size, (hb.block B (Nat.lt_of_lt_of_le h.lt hB)).trans h.blk⟩
theorem RulIn.cell {w : World} {N B : Nat} {n : Int} {r : Rul} (h : RulIn w N B n r) (k : Nat) (v : Value) (hv : r.cells[k]? = some v) : w.cell? ⟨B, k, none⟩ = some v := by
  rw [cell_of_row w B k _ _ _ h.blk, hv]

theorem rl1_any (N B : Nat) (n : Int) (r : Rul) (h1 : 1 ≤ n) (h2 : n ≤ 6) (w : World) (hg : RulIn w N B n r) :
    Calls Tryz.prog 25 #[.pointer (some ⟨N, 0, none⟩), .pointer (some ⟨B, 0, none⟩)] w fun e w' => e = .returned (.bool (anyB (n - 1) [r.gate, r.other])) ∧ Below w.heap.size w w' := by
  have c0 := hg.cell 0 _ rfl
  have c1 := hg.cell 1 _ rfl
  have cn := hg.num
  have Hg := Lib.hid hg
  clear hg
  go_enter Tryz.func25, Tryz.ntmps25
  go_wp2_with fail
  refine (beyond_any _ _ [r.gate, r.other] _ _ (ints_new2 w r.gate r.other 3)).mono ?_
  rintro e w1 ⟨rfl, hb1⟩
  have hb2 := ((Below.refl w.heap.size w).alloc (Nat.le_refl _) (.cells #[.int .i64 r.gate, .int .i64 r.other] 3)).trans (hb1.mono (by simp))
  have Hb2 := Lib.hid hb2
  clear hb1 hb2
  go_wp2
  go_ret
  exact ⟨rfl, Hb2.out⟩

theorem rl2_any (N B : Nat) (n : Int) (r : Rul) (w : World) (hg : RulIn w N B n r) :
    Calls Tryz.prog 27 #[.pointer (some ⟨B, 0, none⟩)] w fun e w' => e = .returned (.bool (decide (r.gate = r.other))) ∧ Below w.heap.size w w' := by
  have c0 := hg.cell 0 _ rfl
  have c1 := hg.cell 1 _ rfl
  have Hg := Lib.hid hg
  clear hg
  go_enter Tryz.func27, Tryz.ntmps27
  go_wp2
  go_ret
  exact ⟨ret_bool (by first | rfl | simp), Below.refl _ _⟩

theorem rl3_any (N B : Nat) (n : Int) (r : Rul) (w : World) (hg : RulIn w N B n r) :
    Calls Tryz.prog 28 #[.pointer (some ⟨B, 0, none⟩)] w fun e w' => e = .returned (.bool (anyB 5000 [r.lo, r.hi] || decide (r.hi < r.lo))) ∧ Below w.heap.size w w' := by
  have c2 := hg.cell 2 _ rfl
  have c3 := hg.cell 3 _ rfl
  have Hg := Lib.hid hg
  clear hg
  by_cases h0 : anyB 5000 [r.lo, r.hi] = true
  all_goals
    try simp only [Bool.not_eq_true] at h0
    go_enter Tryz.func28, Tryz.ntmps28
    go_wp2_with fail
    refine (beyond_any _ _ [r.lo, r.hi] _ _ (ints_new2 w r.lo r.hi 3)).mono ?_
    rintro e w1 ⟨rfl, hb1⟩
    have hb2 := ((Below.refl w.heap.size w).alloc (Nat.le_refl _) (.cells #[.int .i64 r.lo, .int .i64 r.hi] 3)).trans (hb1.mono (by simp))
    have hg2 := Hg.out.below hb2 (Nat.le_refl _)
    have d2 := hg2.cell 2 _ rfl
    have d3 := hg2.cell 3 _ rfl
    have Hb2 := Lib.hid hb2
    clear hb1 hb2 hg2
    rw [h0]
    go_wp2
    go_ret
    exact ⟨ret_bool (by simp [h0]), Hb2.out⟩

/-- The three faults of a rule. -/
def fltsR (N B : Nat) (n : Int) (r : Rul) : List Flt :=
  [⟨25, #[.pointer (some ⟨N, 0, none⟩), .pointer (some ⟨B, 0, none⟩)], 4, anyB (n - 1) [r.gate, r.other]⟩, ⟨27, #[.pointer (some ⟨B, 0, none⟩)], 2, decide (r.gate = r.other)⟩,
   ⟨28, #[.pointer (some ⟨B, 0, none⟩)], 7, anyB 5000 [r.lo, r.hi] || decide (r.hi < r.lo)⟩]
theorem fltsR_E (N B : Nat) (n : Int) (r : Rul) : firstE (fltsR N B n r) = ruleE n r := by
  simp only [fltsR, firstE, ruleE, decide_eq_true_eq]
theorem fltsR_ok (N B : Nat) (n : Int) (r : Rul) (h1 : 1 ≤ n) (h2 : n ≤ 6) (w : World) (hg : RulIn w N B n r) : FltsOk w (fltsR N B n r) :=
  ⟨⟨enters_of Tryz.func25 (by kernel_rfl) rfl, fun W hb => rl1_any N B n r h1 h2 W (hg.below hb (Nat.le_refl _))⟩, fun _ =>
   ⟨⟨enters_of Tryz.func27 (by kernel_rfl) rfl, fun W hb => rl2_any N B n r W (hg.below hb (Nat.le_refl _))⟩, fun _ =>
    ⟨⟨enters_of Tryz.func28 (by kernel_rfl) rfl, fun W hb => rl3_any N B n r W (hg.below hb (Nat.le_refl _))⟩, fun _ => trivial⟩⟩⟩
theorem fltsR_at (w : World) (N B : Nat) (n : Int) (r : Rul) (t : TypeId) :
    FltsAt (w.alloc (.cells #[.func (.func 25) #[] #[.pointer (some ⟨N, 0, none⟩), .pointer (some ⟨B, 0, none⟩)], .int .i64 4, .func (.func 27) #[] #[.pointer (some ⟨B, 0, none⟩)], .int .i64 2, .func (.func 28) #[] #[.pointer (some ⟨B, 0, none⟩)], .int .i64 7] t)) w.heap.size 0 (fltsR N B n r) := by
  refine ⟨by simp, fun k h => ?_⟩
  match k, h with
  | 0, _ => exact ⟨by simp [go_sem, fltsR], by simp [go_sem, fltsR]⟩
  | 1, _ => exact ⟨by simp [go_sem, fltsR], by simp [go_sem, fltsR]⟩
  | 2, _ => exact ⟨by simp [go_sem, fltsR], by simp [go_sem, fltsR]⟩

/-- A gate is loaded out of the middle of a block of gates. -/
theorem wpList_load_gate_mid {ops : Array Oper} {rest : List Oper} {o : Oper} {a : Act} {w : World} {Q : Exit → Act → World → Prop} {b off : Nat} {g : GateV} (hg : w.rangeAt b off g.cells.toList) (hgd : o.guard = none) (x : Operand)
    (ho : o.op = .load 60 x) (hx : a.eval x = .pointer (some ⟨b, off, none⟩)) (h : wpList Tryz.prog ops Q rest (a.put o.dst g.val) w) : wpList Tryz.prog ops Q (o :: rest) a w :=
  wpList_load_mid hgd 60 x ho b off hx g.cells.toList _ hg Tryz.underlying60 rfl A.gateSize h

/-- A gate is stored into the block that has just been made. -/
theorem wpList_store_gate_new {ops : Array Oper} {rest : List Oper} {o : Oper} {a : Act} {w : World} {Q : Exit → Act → World → Prop} {old : Array Value} {g : GateV} (hgd : o.guard = none) (x y : Operand)
    (ho : o.op = .store 60 x y) (hx : a.eval x = .pointer (some ⟨w.heap.size, 0, none⟩)) (hy : a.eval y = g.val) (hs : old.size = 21)
    (h : wpList Tryz.prog ops Q rest (a.put o.dst undef) (w.alloc (.cells g.cells 60))) : wpList Tryz.prog ops Q (o :: rest) a (w.alloc (.cells old 60)) :=
  wpList_store_row hgd 60 x y ho w.heap.size g.cells hx hy 60 old (heap_alloc_new w _) A.gateSize hs (by rw [← Array.all_toList]; rfl) (by rw [World.setRow_alloc_new]; exact h)

theorem outB_len {n : Nat} {lo hi : Int} (h : outB n lo hi = false) : lo ≤ n ∧ (n : Int) ≤ hi := by
  unfold outB at h
  simp at h
  exact h

/-- What the walk of CheckSet keeps: the world below, the set in its block, the number of gates in its block. -/
structure SeW (w : World) (s : SetV) (W : World) : Prop where
  below : Below w.heap.size w W
  gs : W.cell? ⟨w.heap.size, 0, none⟩ = some (.slice s.gA s.gates.length s.gC)
  rs : W.cell? ⟨w.heap.size, 1, none⟩ = some (.slice s.rA s.rules.length s.rC)
  num : W.cell? ⟨w.heap.size + 1, 0, none⟩ = some (.int .i64 s.gates.length)
  lt : w.heap.size + 1 < W.heap.size
theorem SeW.new (w : World) (s : SetV) : SeW w s ((w.alloc (.cells s.cells 25)).alloc (.cells #[.int .i64 s.gates.length] 3)) :=
  ⟨((Below.refl _ _).alloc (Nat.le_refl _) _).alloc (by simp) _, by simp [go_sem], by simp [go_sem], by simp [go_sem], by simp⟩
theorem SeW.call {w W W' : World} {s : SetV} (h : SeW w s W) (hb : Below W.heap.size W W') : SeW w s W' :=
  ⟨h.below.trans (hb.mono h.below.size), (hb.cell (p := ⟨w.heap.size, 0, none⟩) (by have := h.lt; show w.heap.size < _; omega)).trans h.gs, (hb.cell (p := ⟨w.heap.size, 1, none⟩) (by have := h.lt; show w.heap.size < _; omega)).trans h.rs,
   (hb.cell (p := ⟨w.heap.size + 1, 0, none⟩) h.lt).trans h.num, Nat.lt_of_lt_of_le h.lt hb.size⟩
theorem SeW.map {w W W' : World} {s : SetV} (h : SeW w s W) (hg : W.grownBy W' (some (w.heap.size + 1 + 1))) : SeW w s W' := by
  have h1 := h.lt
  have e0 := hg.block w.heap.size (by omega) (by simp; omega)
  have e1 := hg.block (w.heap.size + 1) (by omega) (by simp)
  exact ⟨h.below.grown hg h.below.size (fun j hj => by cases hj; omega), (World.cell?_of_block e0).trans h.gs, (World.cell?_of_block e0).trans h.rs, (World.cell?_of_block e1).trans h.num, Nat.lt_of_lt_of_le h1 hg.size⟩
theorem SeW.alloc {w W : World} {s : SetV} (h : SeW w s W) (o : Obj) : SeW w s (W.alloc o) :=
  h.call ((Below.refl W.heap.size W).alloc (Nat.le_refl _) o)

set_option maxRecDepth 100000 in
set_option maxHeartbeats 1000000 in
theorem set_any (s : SetV) (w : World) (hok : s.Ok w) :
    Calls Tryz.prog 9 #[s.val] w fun e w' => e = .returned (.tuple #[.int .i64 (setE s).1, .int .i64 (setE s).2.1, .int .i64 (setE s).2.2]) ∧ Below w.heap.size w w' := by
  have hmm := @run_makeMap Tryz.prog
  have hgm := hok.gs.1
  have hrm := hok.rs.1
  unfold maxLen at hgm hrm
  have Hok := Lib.hid hok
  clear hok
  have K0 := Lib.hid (SeW.new w s)
  by_cases ho : outB s.gates.length 1 6 = true
  · have hr : setE s = (1, 0, 3) := by rw [setE, if_pos ho]
    have Hr := Lib.hid hr
    clear hr
    go_enter Tryz.func9, Tryz.ntmps9
    go_wp2_with (go_at_call 22; refine (out_any _ _ _ _).mono ?_; rintro e w' ⟨rfl, rfl⟩)
    go_ret3
    exact ⟨ret3 (by rw [Hr.out]), K0.out.below⟩
  · simp only [Bool.not_eq_true] at ho
    obtain ⟨hn1, hn2⟩ := outB_len ho
    have hr : setE s = if (gscan s.gates [] 0).2 ≠ 0 then (1, (gscan s.gates [] 0).1, (gscan s.gates [] 0).2) else
        if 12 < s.rules.length then (2, 0, 3) else
        if (scan (ruleE s.gates.length) s.rules 0).2 ≠ 0 then (2, (scan (ruleE s.gates.length) s.rules 0).1, (scan (ruleE s.gates.length) s.rules 0).2) else (0, 0, 0) := by rw [setE, if_neg (by simp [ho])]
    have Hr := Lib.hid hr
    clear hr
    go_enter Tryz.func9, Tryz.ntmps9
    go_wp2_with (go_at_call 22; refine (out_any _ _ _ _).mono ?_; rintro e w' ⟨rfl, rfl⟩)
    go_loopw [20] (fun i wr => ∃ k : Nat, k ≤ s.gates.length ∧ i = .int .i64 k ∧ gscan (s.gates.drop k) (s.gates.take k) k = gscan s.gates [] 0 ∧ SeW w s wr ∧ NamesAt wr (w.heap.size + 1 + 1) (s.gates.take k)) (fun i _ => s.gates.length - (intOf i).toNat)
    case atStart => exact ⟨0, Nat.zero_le _, rfl, rfl, K0.out.alloc _, by have h := namesAt_new ((w.alloc (.cells s.cells 25)).alloc (.cells #[.int .i64 s.gates.length] 3)); simpa using h⟩
    case round =>
      obtain ⟨k, hk, rfl, hix, hkp, hnm⟩ := hrel
      have Hix := Lib.hid hix
      have Hkp := Lib.hid hkp
      have Hnm := Lib.hid hnm
      have f1 := hkp.gs
      have f2 := hkp.rs
      clear hix hkp hnm
      by_cases hlt : k < s.gates.length
      · obtain ⟨_, hgo, hgat⟩ := Hok.out.gs.below Hkp.out.below (Nat.le_refl _)
        rcases hgat with hl | ⟨b, off, ha, hb, hl⟩
        · rw [hl] at hlt; exact absurd hlt (by simp)
        · rw [ha]
          have hrg := hl k hlt
          have hgo := hgo s.gates[k] (List.getElem_mem hlt)
          have hst := gscan_step (l := s.gates) hlt
          have hht := gscan_hit (l := s.gates) hlt
          have htk : s.gates.take (k + 1) = s.gates.take k ++ [s.gates[k]] := List.take_succ_eq_append_getElem hlt
          have Hst := Lib.hid hst
          have Hht := Lib.hid hht
          have Htk := Lib.hid htk
          have Hgo := Lib.hid hgo
          have Hrg := Lib.hid hrg
          clear hl hrg hgo hst hht htk ha
          revert Hst Hht Htk Hgo Hrg
          generalize s.gates[k] = g
          intro Hst Hht Htk Hgo Hrg
          go_wp2_with (first
            | (with_reducible show wpList _ _ _ (({ dst := _, op := .load 60 (.tmp 23), type := _, pos := _, after := _, guard := none } : Oper) :: _) _ _; refine wpList_load_gate_mid Hrg.out rfl (.tmp 23) rfl rfl ?_)
            | (with_reducible show wpList _ _ _ (({ dst := _, op := .store 60 (.tmp 8) (.tmp 24), type := _, pos := _, after := _, guard := none } : Oper) :: _) _ _; refine wpList_store_gate_new rfl (.tmp 8) (.tmp 24) rfl rfl rfl rfl ?_)
            | (with_reducible show wpList _ _ _ (({ dst := _, op := .load 60 (.tmp 8), type := _, pos := _, after := _, guard := none } : Oper) :: _) _ _; refine wpList_load_gate (gateIn_new wr g) rfl (.tmp 8) rfl rfl ?_))
          have hok1 := Hgo.out.below ((Below.refl wr.heap.size wr).alloc (Nat.le_refl _) (.cells g.cells 60)) (Nat.le_refl _)
          refine (check_any g _ hok1).mono ?_
          rintro e w1 ⟨rfl, hb1⟩
          have K2 := (Hkp.out.alloc (.cells g.cells 60)).call hb1
          have N2 := (Hnm.out.below ((Below.refl wr.heap.size wr).alloc (Nat.le_refl _) (.cells g.cells 60)) Hnm.out.lt).below hb1 (by have := Hnm.out.lt; simp; omega)
          have c0 := ((gateIn_new wr g).below hb1 (Nat.le_refl _)).cell 0 _ rfl
          have f3 := K2.gs
          have f4 := K2.rs
          have hlk := names_look N2 Hgo.out.nm
          have hgE : gateE (s.gates.take k) g = if (checkZ g).2.2 = 0 then (if seenB (s.gates.take k) g.nm then 5 else 0) else (checkZ g).2.2 := rfl
          have HK2 := Lib.hid K2
          have HN2 := Lib.hid N2
          have HgE := Lib.hid hgE
          clear hb1 K2 N2 hgE hok1 Hrg Hkp Hnm f1 f2
          revert HgE
          generalize checkZ g = z
          obtain ⟨z1, z2, z3⟩ := z
          intro HgE
          by_cases he : z3 = 0
          · subst he
            by_cases hs : seenB (s.gates.take k) g.nm = true
            · rw [hs] at hlk
              have hE : gateE (s.gates.take k) g = 5 := by rw [HgE.out, if_pos rfl, if_pos hs]
              have h := Hht.out (by rw [hE]; decide)
              rw [hE, Hix.out] at h
              have H := Lib.hid h
              clear h hE hs
              go_wp2
              go_ret3
              exact ⟨ret3 (by rw [Hr.out, H.out]; simp), HK2.out.below⟩
            · simp only [Bool.not_eq_true] at hs
              rw [hs] at hlk
              have hE : gateE (s.gates.take k) g = 0 := by rw [HgE.out, if_pos rfl, hs]; rfl
              have h := Hst.out hE
              have H := Lib.hid h
              clear h hE hs
              have hkey := WideMaps.keyOf_string_mk (P := Tryz.prog) Tryz.underlying9 Hgo.out.nm
              have hbt : (s.gates.take k).length < maxLen := by unfold maxLen; simp; omega
              go_wp2_with (at_mapUpdate; refine wpList_mapUpdate_own _ rfl _ _ _ 85 rfl 9 4 (Maps.string_keyed Tryz.underlying9) Tryz.underlying85 _ (w.heap.size + 1 + 1) _ _ rfl HN2.out hbt _ _ _ rfl rfl hkey _ [] (plainElem_bool Tryz.underlying4 true) ?_)
              intro w2 hown2 hgrow2
              have K3 := HK2.out.map hgrow2
              have N3 : NamesAt w2 (w.heap.size + 1 + 1) (s.gates.take (k + 1)) := by
                rw [Htk.out]; unfold NamesAt; rw [nmSet_snoc, List.length_append]; exact World.ownsMap.mono hown2 (by simp; omega)
              have HK3 := Lib.hid K3
              have HN3 := Lib.hid N3
              clear hown2 hgrow2 K3 N3 hlk c0 f3 f4
              go_wp2
              go_roundw
              case rel => exact ⟨k + 1, by omega, by go_num, by rw [← Hix.out, H.out], HK3.out, HN3.out⟩
              case measure => simp [intOf]; omega
          · have hE : gateE (s.gates.take k) g = z3 := by rw [HgE.out, if_neg he]
            have h := Hht.out (by rw [hE]; exact he)
            rw [hE, Hix.out] at h
            have H := Lib.hid h
            have he1 : (z3 == 0) = false := by simpa using he
            have he2 : (z3 != 0) = true := by simpa using he
            have he3 := Lib.hid he
            clear h hE he
            go_wp2
            go_ret3
            exact ⟨ret3 (by rw [Hr.out, H.out]; simp [he3.out]), HK2.out.below⟩
      · have hs := gscan_out hlt
        rw [Hix.out] at hs
        have hr2 := Hr.out
        rw [hs, if_neg (by simp)] at hr2
        have Hr2 := Lib.hid hr2
        clear hr2 hs Hr Hix Hnm
        by_cases h12 : 12 < s.rules.length
        · have hr3 := Hr2.out
          rw [if_pos h12] at hr3
          have Hr3 := Lib.hid hr3
          clear hr3 Hr2
          go_wp2
          go_ret3
          exact ⟨ret3 (by rw [Hr3.out]), Hkp.out.below⟩
        · have hr3 := Hr2.out
          rw [if_neg h12] at hr3
          have Hr3 := Lib.hid hr3
          clear hr3 Hr2
          go_wp2
          go_loopw [54] (fun i wr => ∃ k : Nat, k ≤ s.rules.length ∧ i = .int .i64 k ∧ scan (ruleE s.gates.length) (s.rules.drop k) k = scan (ruleE s.gates.length) s.rules 0 ∧ SeW w s wr) (fun i _ => s.rules.length - (intOf i).toNat)
          case atStart => exact ⟨0, Nat.zero_le _, rfl, rfl, Hkp.out⟩
          case round =>
            clear f1 f2 Hkp hlt hk
            obtain ⟨k, hk, rfl, hix, hkp⟩ := hrel
            have Hix := Lib.hid hix
            have Hkp := Lib.hid hkp
            have f1 := hkp.gs
            have f2 := hkp.rs
            have f3 := hkp.num
            clear hix hkp
            by_cases hlt : k < s.rules.length
            · obtain ⟨_, hrat⟩ := Hok.out.rs.below Hkp.out.below (Nat.le_refl _)
              rcases hrat with hl | ⟨b, off, ha, hb, hl⟩
              · rw [hl] at hlt; exact absurd hlt (by simp)
              · rw [ha]
                obtain ⟨d0, d1, d2, d3⟩ := hl k hlt
                have hst := scan_step (f := ruleE s.gates.length) hlt
                have hht := scan_hit (f := ruleE s.gates.length) hlt
                have Hst := Lib.hid hst
                have Hht := Lib.hid hht
                clear hl hst hht ha
                revert Hst Hht d0 d1 d2 d3
                generalize s.rules[k] = r
                intro d0 d1 d2 d3 Hst Hht
                go_wp2_with fail
                have hin : RulIn (wr.alloc (.cells r.cells 88)) (w.heap.size + 1) wr.heap.size s.gates.length r :=
                  ⟨by have := Hkp.out.lt; simp; omega, (Hkp.out.alloc (.cells r.cells 88)).num, by simp, heap_alloc_new wr _⟩
                have hin2 := hin.below ((Below.refl _ _).alloc (Nat.le_refl _) (.cells #[.func (.func 25) #[] #[.pointer (some ⟨w.heap.size + 1, 0, none⟩), .pointer (some ⟨wr.heap.size, 0, none⟩)], .int .i64 4, .func (.func 27) #[] #[.pointer (some ⟨wr.heap.size, 0, none⟩)], .int .i64 2, .func (.func 28) #[] #[.pointer (some ⟨wr.heap.size, 0, none⟩)], .int .i64 7] 92)) (Nat.le_refl _)
                have hat := fltsR_at (wr.alloc (.cells r.cells 88)) (w.heap.size + 1) wr.heap.size s.gates.length r 92
                simp only [World.size_alloc] at hat
                refine (first_any (wr.heap.size + 1) 0 (fltsR (w.heap.size + 1) wr.heap.size s.gates.length r) 3 _ (by simp [fltsR]) hat (fltsR_ok (w.heap.size + 1) wr.heap.size s.gates.length r hn1 hn2 _ hin2)).mono ?_
                rintro e w1 ⟨rfl, hb1⟩
                rw [fltsR_E]
                have K2 := ((Hkp.out.alloc _).alloc _).call hb1
                have HK2 := Lib.hid K2
                have f4 := K2.gs
                have f5 := K2.rs
                have f6 := K2.num
                clear hin hin2 hat hb1 K2 d0 d1 d2 d3 f1 f2 f3 Hkp hb
                by_cases he : ruleE s.gates.length r = 0
                · have h := Hst.out he
                  have H := Lib.hid h
                  rw [he]
                  clear h he Hst Hht
                  go_wp2
                  go_roundw
                  case rel => exact ⟨k + 1, by omega, by go_num, by rw [← Hix.out, H.out], HK2.out⟩
                  case measure => simp [intOf]; omega
                · have h := Hht.out he
                  rw [Hix.out] at h
                  have H := Lib.hid h
                  have He := Lib.hid he
                  clear h Hst Hht
                  revert H He he
                  generalize ruleE s.gates.length r = z
                  intro he H He
                  have he2 : (z != 0) = true := by simpa using he
                  clear he
                  go_wp2
                  go_ret3
                  exact ⟨ret3 (by rw [Hr3.out, H.out]; simp [He.out]), HK2.out.below⟩
            · have hs := scan_out (f := ruleE s.gates.length) hlt
              rw [Hix.out] at hs
              have hr4 := Hr3.out
              rw [hs, if_neg (by simp)] at hr4
              have Hr4 := Lib.hid hr4
              clear hr4 hs Hr3 Hix
              go_wp2
              go_ret3
              exact ⟨ret3 (by rw [Hr4.out]), Hkp.out.below⟩
end Go.Proofs.YtgfdindlihfidaaGreat
