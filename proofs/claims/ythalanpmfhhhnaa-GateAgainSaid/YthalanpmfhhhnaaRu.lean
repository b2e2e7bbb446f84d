/-
  The walk of gate.Run: steps one after the other.
-/
import Derived.Test.YthalanpmfhhhnaaAl
import Derived.Test.YthalanpmfhhhnaaTi
namespace Go.Proofs.Ythalanpmfhhhnaa
open Go.RowKit
set_option linter.unusedSimpArgs false
set_option linter.unusedVariables false

/-- The state after k of some steps. -/
def aft (g : GateV) (s : St) (l : List Stp) : Nat → St
  | 0 => s
  | k + 1 => match l[k]? with | some t => (aloneZ g (aft g s l k) t).1 | none => aft g s l k
theorem aft_succ {g : GateV} {s : St} {l : List Stp} {k : Nat} (h : k < l.length) : aft g s l (k + 1) = (aloneZ g (aft g s l k) l[k]).1 := by
  rw [aft, List.getElem?_eq_getElem h]
/-- The error at step k. -/
def runOdd (g : GateV) (s : St) (l : List Stp) (k : Nat) : Int := match l[k]? with | some t => oddE g (aft g s l k) t | none => 0
theorem runOdd_eq {g : GateV} {s : St} {l : List Stp} {k : Nat} (h : k < l.length) : runOdd g s l k = oddE g (aft g s l k) l[k] := by
  rw [runOdd, List.getElem?_eq_getElem h]
/-- The error of Run. -/
def runE (g : GateV) (s : St) (l : List Stp) : Int :=
  if (checkZ g).2.2 ≠ 0 then (checkZ g).2.2 else if 2000 < l.length then 3 else if lostE g s ≠ 0 then lostE g s else nzFirst (runOdd g s l) l.length 0
/-- The states of Run, with nothing beside them. -/
def runF (g : GateV) (s : St) (l : List Stp) (k : Nat) : St × Mvd := (aft g s l (k + 1), ⟨0, 0, 0⟩)

theorem row_blk {w W : World} {base size n : Nat} {e : TypeId} {v : Value} {xs : List Value} (h : w.ownsRow base e size v n xs) (hb : ∀ b, base ≤ b → b < w.heap.size → W.heap[b]? = w.heap[b]?) : W.ownsRow base e size v n xs := by
  refine ⟨h.1, ?_⟩
  rcases h.2 with hn | ⟨g, cap, cur, rfl, hbg, hgg, rest⟩
  · exact .inl hn
  · refine .inr ⟨g, cap, cur, rfl, hbg, ?_, rest⟩
    rw [hb g hbg (Array.getElem?_eq_some_iff.1 hgg).1]
    exact hgg

/-- The boxes of Run. -/
structure RuW (w : World) (g : GateV) (s : St) (W : World) : Prop where
  below : Below w.heap.size w W
  gate : GateIn W w.heap.size g
  st : W.heap[w.heap.size + 1]? = some (.cells s.cells 43 (0, 0))
theorem RuW.new (w : World) (g : GateV) (s : St) : RuW w g s ((w.alloc (.cells g.cells 33)).alloc (.cells s.cells 43)) :=
  ⟨((Below.refl _ _).alloc (Nat.le_refl _) _).alloc (by simp) _, (gateIn_new w g).below ((Below.refl _ _).alloc (Nat.le_refl _) _) (Nat.le_refl _), blk_new (by simp)⟩
theorem RuW.call {w W W' : World} {g : GateV} {s : St} (h : RuW w g s W) (hb : Below W.heap.size W W') : RuW w g s W' :=
  ⟨h.below.trans (hb.mono h.below.size), h.gate.below hb (Nat.le_refl _), blk_below hb h.st⟩
theorem RuW.alloc {w W : World} {g : GateV} {s : St} (h : RuW w g s W) (o : Obj) : RuW w g s (W.alloc o) := h.call ((Below.refl _ _).alloc (Nat.le_refl _) o)
theorem RuW.lt {w W : World} {g : GateV} {s : St} (h : RuW w g s W) : w.heap.size + 1 < W.heap.size := (Array.getElem?_eq_some_iff.1 h.st).1
theorem RuW.grown {w W W' : World} {g : GateV} {s : St} {row : Option Nat} (h : RuW w g s W) (hg : W.grownBy W' row) (hr : ∀ b, row = some b → w.heap.size + 2 ≤ b) : RuW w g s W' := by
  have l := h.lt
  have n0 : some w.heap.size ≠ row := fun e => by have := hr _ e.symm; omega
  have n1 : some (w.heap.size + 1) ≠ row := fun e => by have := hr _ e.symm; omega
  exact ⟨h.below.grown hg h.below.size (fun b hb => by have := hr b hb; omega), ⟨by have := hg.size; have := h.gate.lt; omega, blk_grown hg n0 h.gate.blk⟩, blk_grown hg n1 h.st⟩
theorem RuW.store {w W : World} {g : GateV} {s : St} (h : RuW w g s W) (x : St) :
    RuW w g x (((W.setCell ⟨w.heap.size + 1, 0, none⟩ (.int .i64 x.pos)).setCell ⟨w.heap.size + 1, 1, none⟩ (.int .i64 x.charge)).setCell ⟨w.heap.size + 1, 2, none⟩ (.bool x.bolted)) :=
  ⟨((h.below.setCell (by show w.heap.size ≤ _; simp) _).setCell (by show w.heap.size ≤ _; simp) _).setCell (by show w.heap.size ≤ _; simp) _,
   ⟨by have := h.gate.lt; simpa [World.setCell] using this, blk_set_other (by omega) (blk_set_other (by omega) (blk_set_other (by omega) h.gate.blk))⟩, blk_set3 h.st⟩

set_option maxRecDepth 100000 in
set_option maxHeartbeats 4000000 in
theorem run_ok (g : GateV) (s : St) (tA : Option Addr) (tC : Nat) (l : List Stp) (w : World) (hok : g.Ok w) (hms : StpsAt w tA l) (hc : (checkZ g).2.2 = 0) (hlen : l.length ≤ 2000) (hl : lostE g s = 0) :
    Calls Try.prog 41 #[g.val, s.val, .slice tA l.length tC] w fun e w' => ∃ v, e = .returned (.tuple #[v, .int .i64 (runE g s l)]) ∧
      (runE g s l = 0 → w'.ownsRow w.heap.size 43 3 v l.length (stRow (runF g s l) l.length)) ∧ (runE g s l ≠ 0 → v = .slice none 0 0) ∧ Below w.heap.size w w' := by
  have hru := RuW.new w g s
  have Hru := Lib.hid hru
  have Hok := Lib.hid (hok.below hru.below (Nat.le_refl _))
  have Hok0 := Lib.hid hok
  have Hms := Lib.hid hms
  have Hs := Lib.hid (lostE_0 hl)
  have Hg := Lib.hid (check_good hc)
  have Hc := Lib.hid hc
  have Hl := Lib.hid hl
  have hr : runE g s l = nzFirst (runOdd g s l) l.length 0 := by rw [runE, if_neg (by simp [hc]), if_neg (by omega), if_neg (by simp [hl])]
  obtain ⟨r, hre⟩ : ∃ r, r = runE g s l := ⟨_, rfl⟩
  rw [← hre] at hr ⊢
  have Hr := Lib.hid hr
  have hgt : decide ((l.length : Int) > 2000) = false := by simp; omega
  clear hru hok hms hl hc hr hre
  go_enter Try.func41, Try.ntmps41
  go_wp2_with (first
    | (with_reducible show wpList _ _ _ (({ dst := _, op := .load 33 (.tmp 3), type := _, pos := _, after := _, guard := none } : Oper) :: _) _ _; refine wpList_load_gate Hru.out.gate rfl (.tmp 3) rfl rfl ?_)
    | (with_reducible show wpList _ _ _ (({ dst := _, op := .load 33 (.tmp 3), type := _, pos := _, after := _, guard := none } : Oper) :: _) _ _; refine wpList_load_gate H1.out.gate rfl (.tmp 3) rfl rfl ?_)
    | (with_reducible show wpList _ _ _ (({ dst := _, op := .load 43 (.tmp 4), type := _, pos := _, after := _, guard := none } : Oper) :: _) _ _; refine wpList_load_st H1.out.st rfl (.tmp 4) rfl rfl ?_)
    | (go_at_call 22; refine (check_any g _ Hok.out).mono ?_; rintro e w1 ⟨rfl, hb1⟩; rw [Hc.out]; have H1 := Lib.hid (Hru.out.call hb1); clear hb1)
    | (go_at_call 91; refine (lost_any g s _).mono ?_; rintro e w2 ⟨rfl, hb2⟩; rw [Hl.out]; have H2 := Lib.hid (H1.out.call hb2); clear hb2))
  go_loopw [6, 7, 30] (fun v z j wr => ∃ k : Nat, k ≤ l.length ∧ z = .int .i64 0 ∧ j = .int .i64 k ∧ RuW w g (aft g s l k) wr ∧ wr.ownsRow (w.heap.size + 2) 43 3 v k (stRow (runF g s l) k) ∧ (aft g s l k).Ok g ∧ nzFirst (runOdd g s l) (l.length - k) k = r) (fun _ _ j _ => l.length - (intOf j).toNat)
  case atStart => exact ⟨0, Nat.zero_le _, rfl, rfl, H2.out, World.ownsRow_nil _ _ _ _, Hs.out, Hr.out.symm⟩
  case round =>
    obtain ⟨k, hk, rfl, rfl, hru, hown, hsk, hix⟩ := hrel
    have Hru2 := Lib.hid hru
    have Hown := Lib.hid hown
    have Hsk := Lib.hid hsk
    have Hix := Lib.hid hix
    clear hru hown hsk hix
    by_cases hlt : k < l.length
    · have hoe := runOdd_eq (g := g) (s := s) hlt
      have hsu := aft_succ (g := g) (s := s) hlt
      have hrf : runF g s l k = (aft g s l (k + 1), ⟨0, 0, 0⟩) := rfl
      obtain ⟨tb, tof, hta, htb, htl⟩ : ∃ b off, tA = some ⟨b, off, none⟩ ∧ _ := by
        rcases Hms.out.2 with h | h
        · exact absurd hlt (by rw [h]; simp)
        · exact h
      subst hta
      obtain ⟨c0, c1, c2, c3⟩ := htl k hlt
      rw [← (Hru2.out.below.cell (p := ⟨tb, tof + k * 4, none⟩) htb)] at c0
      rw [← (Hru2.out.below.cell (p := ⟨tb, tof + k * 4 + 1, none⟩) htb)] at c1
      rw [← (Hru2.out.below.cell (p := ⟨tb, tof + k * 4 + 2, none⟩) htb)] at c2
      rw [← (Hru2.out.below.cell (p := ⟨tb, tof + k * 4 + 3, none⟩) htb)] at c3
      have Hoe := Lib.hid hoe
      have Hsu := Lib.hid hsu
      clear htl hoe hsu hrf
      revert Hoe Hsu c0 c1 c2 c3
      generalize l[k] = t
      intro c0 c1 c2 c3 Hoe Hsu
      revert Hru2 Hsk Hoe Hsu
      generalize aft g s l k = x
      intro Hru2 Hsk Hoe Hsu
      have j1 : (0 : Int) ≤ (k : Int) := by omega
      have j2 : (k : Int) < (l.length : Int) := by omega
      have HW0 := Lib.hid (Hru2.out.alloc (.cells t.cells 45))
      have HT0 := Lib.hid (blk_new rfl : (wr.alloc (.cells t.cells 45)).heap[wr.heap.size]? = some (.cells t.cells 45 (0, 0)))
      have HO0 := Lib.hid (Hown.out.alloc (.cells t.cells 45))
      by_cases ho : oddE g x t = 0
      · obtain ⟨_, hlv, _⟩ := oddE_0 ho
        have Hlv := Lib.hid hlv
        have Ho := Lib.hid ho
        obtain ⟨y, m, hd⟩ : ∃ y m, aloneZ g x t = (y, m) := ⟨_, _, rfl⟩
        have Hd := Lib.hid hd
        have hstep := nzFirst_step (f := runOdd g s l) (n := l.length) hlt (by rw [Hoe.out]; exact ho)
        rw [Hix.out] at hstep
        have Hstep := Lib.hid hstep
        have hyk : y.Ok g := by
          have h := aloneZ_ok (t := t) Hg.out Hsk.out
          rw [hd] at h
          exact h
        have Hyk := Lib.hid hyk
        obtain ⟨i1, hi1, hz1, hs1, hb1⟩ := info_parts A.stInfo
        clear hlv ho hd hstep hyk
        go_wp2_with (first
            | (with_reducible show wpList _ _ _ (({ dst := _, op := .load 33 (.tmp 3), type := _, pos := _, after := _, guard := none } : Oper) :: _) _ _; refine wpList_load_gate HW0.out.gate rfl (.tmp 3) rfl rfl ?_)
            | (with_reducible show wpList _ _ _ (({ dst := _, op := .load 43 (.tmp 4), type := _, pos := _, after := _, guard := none } : Oper) :: _) _ _; refine wpList_load_st HW0.out.st rfl (.tmp 4) rfl rfl ?_)
            | (with_reducible show wpList _ _ _ (({ dst := _, op := .load 45 (.tmp 9), type := _, pos := _, after := _, guard := none } : Oper) :: _) _ _; refine wpList_load_stp HT0.out rfl (.tmp 9) rfl rfl ?_)
            | (with_reducible show wpList _ _ _ (({ dst := _, op := .load 33 (.tmp 3), type := _, pos := _, after := _, guard := none } : Oper) :: _) _ _; refine wpList_load_gate H3.out.gate rfl (.tmp 3) rfl rfl ?_)
            | (with_reducible show wpList _ _ _ (({ dst := _, op := .load 43 (.tmp 4), type := _, pos := _, after := _, guard := none } : Oper) :: _) _ _; refine wpList_load_st H3.out.st rfl (.tmp 4) rfl rfl ?_)
            | (with_reducible show wpList _ _ _ (({ dst := _, op := .load 45 (.tmp 9), type := _, pos := _, after := _, guard := none } : Oper) :: _) _ _; refine wpList_load_stp HT3.out rfl (.tmp 9) rfl rfl ?_)
            | (go_at_call 81; refine (odd_any g x t _).mono ?_; rintro e w3 ⟨rfl, hb3⟩; rw [Ho.out]; have H3 := Lib.hid (HW0.out.call hb3); have HT3 := Lib.hid (blk_below hb3 HT0.out); have HO3 := Lib.hid (row_below HO0.out hb3); clear hb3)
            | (go_at_call 82; refine (alone_any g x t _ Hg.out (Hok0.out.own.below H3.out.below (Nat.le_refl _)) Hsk.out Hlv.out).mono ?_; rintro e w4 ⟨rfl, hb4⟩; rw [Hd.out]; have hR4 := H3.out.call hb4; have p0 := (cell_of_row _ _ 0 _ _ _ hR4.st).trans rfl; have p1 := (cell_of_row _ _ 1 _ _ _ hR4.st).trans rfl; have p2 := (cell_of_row _ _ 2 _ _ _ hR4.st).trans rfl; have f0 := frozen_of_row _ _ 0 _ _ hR4.st; have f1 := frozen_of_row _ _ 1 _ _ hR4.st; have f2 := frozen_of_row _ _ 2 _ _ hR4.st; have lz1 := hR4.lt; have HR4 := Lib.hid (hR4.store y); have hO4 := row_below HO3.out hb4; have HO4 := Lib.hid (row_blk (W := (((w4.setCell ⟨w.heap.size + 1, 0, none⟩ (.int .i64 y.pos)).setCell ⟨w.heap.size + 1, 1, none⟩ (.int .i64 y.charge)).setCell ⟨w.heap.size + 1, 2, none⟩ (.bool y.bolted))) hO4 (fun b hb _ => ((heap_setCell_other _ ⟨w.heap.size + 1, 2, none⟩ b _ (by show b ≠ w.heap.size + 1; omega)).trans (heap_setCell_other _ ⟨w.heap.size + 1, 1, none⟩ b _ (by show b ≠ w.heap.size + 1; omega))).trans (heap_setCell_other _ ⟨w.heap.size + 1, 0, none⟩ b _ (by show b ≠ w.heap.size + 1; omega)))); clear hR4 hb4 hO4)
            | (at_builtin; refine wpList_append_lies _ rfl (.tmp 48) (.tmp 50) 36 rfl (w.heap.size + 2) 43 i1 _ 3 24 Try.underlying36 hi1 hz1 hs1 hb1 rfl (by decide) u6 k (stRow (runF g s l) k) rfl (HO4.out.alloc _) ⟨_, 0, none⟩ 1 1 y.cells.toList rfl rfl (World.news_of_block (cs := y.cells) (t := 43) (fr := (0, 0)) (blk_new (by simp [World.setCell]))) (one_st y) (by decide) (by unfold maxLen; omega) (by omega) (by simp [World.setCell]; omega) _ rfl ?_; intro gX cX wX ownX grX atX ltX; have HoX := Lib.hid ownX; have HgX := Lib.hid grX; clear ownX grX atX ltX))
        have hay : aft g s l (k + 1) = y := by rw [Hsu.out, Hd.out]
        have hrow : stRow (runF g s l) (k + 1) = stRow (runF g s l) k ++ y.cells.toList := by
          rw [stRow_succ]
          show _ ++ (aft g s l (k + 1)).cells.toList = _
          rw [hay]
        have hRX := (HR4.out.alloc (.cells y.cells 43)).grown HgX.out (fun b hb => (Hown.out.lt b hb).1)
        have HRX := Lib.hid hRX
        have Hrow := Lib.hid hrow
        have Hay := Lib.hid hay
        clear hRX hrow hay
        go_roundw
        case rel => first | exact ⟨k + 1, by omega, rfl, by go_num, by rw [Hay.out]; exact HRX.out, by rw [Hrow.out]; exact HoX.out, by rw [Hay.out]; exact Hyk.out, Hstep.out.symm⟩ | ((repeat apply Exists.intro); exact ⟨⟨k + 1, by omega, rfl, by go_num, by rw [Hay.out]; exact HRX.out, by rw [Hrow.out]; exact HoX.out, by rw [Hay.out]; exact Hyk.out, Hstep.out.symm⟩, rfl⟩)
        case measure => simp [intOf]; omega
      · have hhit := nzFirst_hit (f := runOdd g s l) (n := l.length) hlt (by rw [Hoe.out]; exact ho)
        rw [Hix.out, Hoe.out] at hhit
        have Hhit := Lib.hid hhit
        have hne : (oddE g x t != 0) = true := by simp [ho]
        have Hno := Lib.hid ho
        clear hhit ho
        go_wp2_with (first
            | (with_reducible show wpList _ _ _ (({ dst := _, op := .load 33 (.tmp 3), type := _, pos := _, after := _, guard := none } : Oper) :: _) _ _; refine wpList_load_gate HW0.out.gate rfl (.tmp 3) rfl rfl ?_)
            | (with_reducible show wpList _ _ _ (({ dst := _, op := .load 43 (.tmp 4), type := _, pos := _, after := _, guard := none } : Oper) :: _) _ _; refine wpList_load_st HW0.out.st rfl (.tmp 4) rfl rfl ?_)
            | (with_reducible show wpList _ _ _ (({ dst := _, op := .load 45 (.tmp 9), type := _, pos := _, after := _, guard := none } : Oper) :: _) _ _; refine wpList_load_stp HT0.out rfl (.tmp 9) rfl rfl ?_)
            | (go_at_call 81; refine (odd_any g x t _).mono ?_; rintro e w3 ⟨rfl, hb3⟩; have H3 := Lib.hid (HW0.out.call hb3); have HT3 := Lib.hid (blk_below hb3 HT0.out); have HO3 := Lib.hid (row_below HO0.out hb3); clear hb3))
        refine bodyPost_ret (v := .tuple #[.slice none 0 0, .int .i64 r]) (by have hz := Hhit.out; simp [results, Try.results41, go_sem, *]) rfl ⟨_, rfl, fun h => absurd (Hhit.out.symm.trans h) Hno.out, fun _ => rfl, H3.out.below⟩
    · have hke : k = l.length := by omega
      subst hke
      have hz := nzFirst_out (f := runOdd g s l) (n := l.length) (k := l.length) (Nat.le_refl _)
      rw [Hix.out] at hz
      have Hz := Lib.hid hz
      clear hz
      go_wp2
      refine bodyPost_ret (v := .tuple #[u6, .int .i64 r]) (by have hz := Hz.out; simp [results, Try.results41, go_sem, *]) rfl ⟨u6, rfl, fun _ => Hown.out.mono (by omega), fun h => absurd Hz.out h, Hru2.out.below⟩
set_option maxRecDepth 100000 in
set_option maxHeartbeats 2000000 in
theorem run_any (g : GateV) (s : St) (tA : Option Addr) (tC : Nat) (l : List Stp) (w : World) (hok : g.Ok w) (hms : StpsAt w tA l) :
    Calls Try.prog 41 #[g.val, s.val, .slice tA l.length tC] w fun e w' => ∃ v, e = .returned (.tuple #[v, .int .i64 (runE g s l)]) ∧
      (runE g s l = 0 → w'.ownsRow w.heap.size 43 3 v l.length (stRow (runF g s l) l.length)) ∧ (runE g s l ≠ 0 → v = .slice none 0 0) ∧ Below w.heap.size w w' := by
  by_cases hc : (checkZ g).2.2 = 0
  · by_cases hlen : l.length ≤ 2000
    · by_cases hl : lostE g s = 0
      · exact run_ok g s tA tC l w hok hms hc hlen hl
      · have hr : runE g s l = lostE g s := by rw [runE, if_neg (by simp [hc]), if_neg (by omega), if_pos hl]
        have hru := RuW.new w g s
        have Hru := Lib.hid hru
        have Hok := Lib.hid (hok.below hru.below (Nat.le_refl _))
        have Hc := Lib.hid hc
        have Hl := Lib.hid hl
        rw [hr]
        have h1 : (lostE g s != 0) = true := by simp [hl]
        have hgt : decide ((l.length : Int) > 2000) = false := by simp; omega
        clear hru hok hms hr hc hl
        go_enter Try.func41, Try.ntmps41
        go_wp2_with (first
        | (with_reducible show wpList _ _ _ (({ dst := _, op := .load 33 (.tmp 3), type := _, pos := _, after := _, guard := none } : Oper) :: _) _ _; refine wpList_load_gate Hru.out.gate rfl (.tmp 3) rfl rfl ?_)
        | (with_reducible show wpList _ _ _ (({ dst := _, op := .load 33 (.tmp 3), type := _, pos := _, after := _, guard := none } : Oper) :: _) _ _; refine wpList_load_gate H1.out.gate rfl (.tmp 3) rfl rfl ?_)
        | (with_reducible show wpList _ _ _ (({ dst := _, op := .load 43 (.tmp 4), type := _, pos := _, after := _, guard := none } : Oper) :: _) _ _; refine wpList_load_st H1.out.st rfl (.tmp 4) rfl rfl ?_)
        | (go_at_call 22; refine (check_any g _ Hok.out).mono ?_; rintro e w1 ⟨rfl, hb1⟩; rw [Hc.out]; have H1 := Lib.hid (Hru.out.call hb1); clear hb1)
        | (go_at_call 91; refine (lost_any g s _).mono ?_; rintro e w2 ⟨rfl, hb2⟩; have H2 := Lib.hid (H1.out.call hb2); clear hb2))
        go_ret2
        exact ⟨_, rfl, fun h => absurd h Hl.out, fun _ => rfl, H2.out.below⟩
    · have hr : runE g s l = 3 := by rw [runE, if_neg (by simp [hc]), if_pos (by omega)]
      have hru := RuW.new w g s
      have Hru := Lib.hid hru
      have Hok := Lib.hid (hok.below hru.below (Nat.le_refl _))
      have Hc := Lib.hid hc
      rw [hr]
      have hsm := hms.1
      unfold maxLen at hsm
      have hgt : decide ((l.length : Int) > 2000) = true := by simp; omega
      clear hru hok hms hr hc
      go_enter Try.func41, Try.ntmps41
      go_wp2_with (first
      | (with_reducible show wpList _ _ _ (({ dst := _, op := .load 33 (.tmp 3), type := _, pos := _, after := _, guard := none } : Oper) :: _) _ _; refine wpList_load_gate Hru.out.gate rfl (.tmp 3) rfl rfl ?_)
      | (with_reducible show wpList _ _ _ (({ dst := _, op := .load 33 (.tmp 3), type := _, pos := _, after := _, guard := none } : Oper) :: _) _ _; refine wpList_load_gate H1.out.gate rfl (.tmp 3) rfl rfl ?_)
      | (with_reducible show wpList _ _ _ (({ dst := _, op := .load 43 (.tmp 4), type := _, pos := _, after := _, guard := none } : Oper) :: _) _ _; refine wpList_load_st H1.out.st rfl (.tmp 4) rfl rfl ?_)
      | (go_at_call 22; refine (check_any g _ Hok.out).mono ?_; rintro e w1 ⟨rfl, hb1⟩; rw [Hc.out]; have H1 := Lib.hid (Hru.out.call hb1); clear hb1)
      | (go_at_call 91; refine (lost_any g s _).mono ?_; rintro e w2 ⟨rfl, hb2⟩; have H2 := Lib.hid (H1.out.call hb2); clear hb2))
      go_ret2
      exact ⟨_, rfl, fun h => absurd h (by decide), fun _ => rfl, H1.out.below⟩
  · have hr : runE g s l = (checkZ g).2.2 := by rw [runE, if_pos hc]
    have hru := RuW.new w g s
    have Hru := Lib.hid hru
    have Hok := Lib.hid (hok.below hru.below (Nat.le_refl _))
    have Hc := Lib.hid hc
    rw [hr]
    have h1 : ((checkZ g).2.2 != 0) = true := by simp [hc]
    clear hru hok hms hr hc
    go_enter Try.func41, Try.ntmps41
    go_wp2_with (first
    | (with_reducible show wpList _ _ _ (({ dst := _, op := .load 33 (.tmp 3), type := _, pos := _, after := _, guard := none } : Oper) :: _) _ _; refine wpList_load_gate Hru.out.gate rfl (.tmp 3) rfl rfl ?_)
    | (with_reducible show wpList _ _ _ (({ dst := _, op := .load 33 (.tmp 3), type := _, pos := _, after := _, guard := none } : Oper) :: _) _ _; refine wpList_load_gate H1.out.gate rfl (.tmp 3) rfl rfl ?_)
    | (with_reducible show wpList _ _ _ (({ dst := _, op := .load 43 (.tmp 4), type := _, pos := _, after := _, guard := none } : Oper) :: _) _ _; refine wpList_load_st H1.out.st rfl (.tmp 4) rfl rfl ?_)
    | (go_at_call 22; refine (check_any g _ Hok.out).mono ?_; rintro e w1 ⟨rfl, hb1⟩; have H1 := Lib.hid (Hru.out.call hb1); clear hb1)
    | (go_at_call 91; refine (lost_any g s _).mono ?_; rintro e w2 ⟨rfl, hb2⟩; have H2 := Lib.hid (H1.out.call hb2); clear hb2))
    go_ret2
    exact ⟨_, rfl, fun h => absurd h Hc.out, fun _ => rfl, H1.out.below⟩
end Go.Proofs.Ythalanpmfhhhnaa
