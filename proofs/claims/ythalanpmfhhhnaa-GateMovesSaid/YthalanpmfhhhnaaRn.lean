/-
  The reference's stepped: the state after a step, and what came of it.
-/
import Derived.Test.YthalanpmfhhhnaaRm
namespace Go.Proofs.Ythalanpmfhhhnaa
open Go.RowKit
set_option linter.unusedSimpArgs false
set_option linter.unusedVariables false
attribute [local go_sem high] run_min_z run_max_z
attribute [local go_sem ↓] run_min_z run_max_z

/-- The boxes of stepped. -/
abbrev spL (g : GateV) (s : St) (t : Stp) : List Obj := [.cells g.cells 33, .cells s.cells 43, .cells t.cells 45, .cells #[.int .i64 0, .int .i64 0, .bool false] 43, .cells #[.int .i64 0, .int .i64 0, .int .i64 0] 47]

set_option maxRecDepth 100000 in
set_option maxHeartbeats 8000000 in
theorem rstepped_any (g : GateV) (s : St) (t : Stp) (r : Int) (w : World) (hg : g.Good) (hown : IntsAt w g.ownA g.own) (hs : s.Ok g) (ht : t.Lv) (ho : t.order = 0 ∨ t.order = 1 ∨ t.order = 2) :
    Calls Try.prog 89 #[g.val, s.val, t.val, .int .i64 r] w fun e w' => e = .returned (.tuple #[(doZ g s t r).1.val, (doZ g s t r).2.val]) ∧ Below w.heap.size w w' := by
  have hb0 := Bk.new5 w (.cells g.cells 33) (.cells s.cells 43) (.cells t.cells 45) (.cells #[.int .i64 0, .int .i64 0, .bool false] 43) (.cells #[.int .i64 0, .int .i64 0, .int .i64 0] 47)
  have HB := Lib.hid hb0
  have Hown := Lib.hid (fun W (h : Below w.heap.size w W) => hown.below h (Nat.le_refl _))
  have hm := moveZ_ok (t := t) r hg hs
  have hmv : ∀ W, IntsAt W g.ownA g.own → Calls Try.prog 106 #[g.val, s.val, .agg #[.int .i64 (if r = 0 then t.order else 0), .bool t.power, .int .i64 t.outer, .int .i64 t.inner]] W fun e w' => e = .returned (.tuple #[.int .i64 (moveZ g s t r).1, .int .i64 (moveZ g s t r).2]) ∧ Below W.heap.size W w' := fun W hW => by
    by_cases hr : r = 0
    · subst hr
      rw [if_pos rfl]
      exact rmoved_any g s t W hg hW hs ht ho
    · rw [if_neg hr, moveZ_refused g s t r hr]
      exact rmoved_any g s ⟨0, t.power, t.outer, t.inner⟩ W hg hW hs ⟨ht.outer, ht.inner⟩ (.inl rfl)
  have Hmv := Lib.hid hmv
  have hd : doZ g s t r = (⟨s.pos + (moveZ g s t r).1, if t.power = true then min (s.charge - (moveZ g s t r).2 + g.pump) g.cap else s.charge - (moveZ g s t r).2, s.bolted⟩, ⟨r, (moveZ g s t r).1, (moveZ g s t r).2⟩) := rfl
  obtain ⟨x, y⟩ : ∃ x, x = doZ g s t r := ⟨_, rfl⟩
  rw [← y]
  rw [← y] at hd
  clear y
  obtain ⟨⟨h1, h2⟩, h3, h4⟩ := hm
  have t2 := hg.travel.2
  have q1 := hg.cap.2
  have q2 := hs.charge.2
  have q3 := hg.pump.1
  have q4 := hg.pump.2
  have q5 := hg.cap.1
  have p1 := hs.pos.1
  have p2 := hs.pos.2
  clear hg hown hs ht ho hmv hb0
  generalize (moveZ g s t r).1 = d at *
  generalize (moveZ g s t r).2 = q at *
  go_enter Try.func89, Try.ntmps89
  go_upto_region 1 with (fail)
  obtain ⟨W, hW⟩ : ∃ W, W = (((((w.alloc (.cells g.cells 33)).alloc (.cells s.cells 43)).alloc (.cells t.cells 45)).alloc (.cells #[.int .i64 0, .int .i64 0, .bool false] 43)).alloc (.cells #[.int .i64 0, .int .i64 0, .int .i64 0] 47)) := ⟨_, rfl⟩
  rw [← hW] at HB ⊢
  clear hW
  have o0 : W.cell? ⟨w.heap.size + 1 + 1, 0, none⟩ = some (.int .i64 t.order) := HB.out.cell 2 0 rfl rfl
  have of0 : W.frozen? ⟨w.heap.size + 1 + 1, 0, none⟩ = false := HB.out.froz 2 0 rfl
  obtain ⟨V, ord, hV⟩ : ∃ V ord, (r = 0 → V = W ∧ ord = t.order) ∧ (r ≠ 0 → V = W.setCell ⟨w.heap.size + 1 + 1, 0, none⟩ (.int .i64 0) ∧ ord = 0) := by
    by_cases hr : r = 0
    · exact ⟨W, t.order, fun _ => ⟨rfl, rfl⟩, fun h => absurd hr h⟩
    · exact ⟨_, 0, fun h => absurd h hr, fun _ => ⟨rfl, rfl⟩⟩
  have hE : (if r = 0 then t.order else 0) = ord := by
    by_cases hr : r = 0
    · rw [if_pos hr, (hV.1 hr).2]
    · rw [if_neg hr, (hV.2 hr).2]
  rw [hE] at Hmv
  have hB : Bk w (spL g s ⟨ord, t.power, t.outer, t.inner⟩) V := by
    by_cases hr : r = 0
    · rw [(hV.1 hr).1, (hV.1 hr).2]; exact HB.out
    · rw [(hV.2 hr).1, (hV.2 hr).2]; exact HB.out.set 2 0 (.int .i64 0) rfl
  have hm : Calls Try.prog 106 #[g.val, s.val, .agg #[.int .i64 ord, .bool t.power, .int .i64 t.outer, .int .i64 t.inner]] V fun e w' => e = .returned (.tuple #[.int .i64 d, .int .i64 q]) ∧
      (Bk w (spL g s ⟨ord, t.power, t.outer, t.inner⟩) w') := (Hmv.out V (Hown.out V hB.below)).mono fun e w' ⟨he, hb⟩ => ⟨he, hB.call hb⟩
  have Hm := Lib.hid hm
  have Hgl := Lib.hid (hB.gate 0 rfl)
  have Hsl := Lib.hid (hB.blk 1 _ rfl)
  have Htl := Lib.hid (hB.blk 2 _ rfl)
  have HV := Lib.hid hV
  clear hm hB hE hV Hown Hmv HB
  have hcase : (((r != 0) = false ∧ V = W) ∧ ord = t.order) ∨ (((r != 0) = true ∧ V = W.setCell ⟨w.heap.size + 1 + 1, 0, none⟩ (.int .i64 0)) ∧ ord = 0) := by
    by_cases hr : r = 0
    · obtain ⟨hv, ho⟩ := HV.out.1 hr
      exact .inl ⟨⟨by simp [hr], hv⟩, ho⟩
    · obtain ⟨hv, ho⟩ := HV.out.2 hr
      exact .inr ⟨⟨by simp [hr], hv⟩, ho⟩
  clear HV
  obtain ⟨pw, hpw⟩ : ∃ pw, pw = t.power := ⟨_, rfl⟩
  rw [← hpw] at hd Hm Htl
  have Hpw := Lib.hid hpw
  clear hpw
  have Hd := Lib.hid hd
  clear hd
  cases pw
  all_goals
    rcases hcase with ⟨⟨hne, rfl⟩, ho⟩ | ⟨⟨hne, rfl⟩, ho⟩
    all_goals
      subst ho
      go_wp2_with (first
        | (with_reducible show wpList _ _ _ (({ dst := _, op := .load 33 (.tmp 4), type := _, pos := _, after := _, guard := none } : Oper) :: _) _ _; refine wpList_load_gate Hgl.out rfl (.tmp 4) rfl rfl ?_)
        | (with_reducible show wpList _ _ _ (({ dst := _, op := .load 43 (.tmp 5), type := _, pos := _, after := _, guard := none } : Oper) :: _) _ _; refine wpList_load_st Hsl.out rfl (.tmp 5) rfl rfl ?_)
        | (with_reducible show wpList _ _ _ (({ dst := _, op := .load 45 (.tmp 6), type := _, pos := _, after := _, guard := none } : Oper) :: _) _ _; refine wpList_load_stp Htl.out rfl (.tmp 6) rfl rfl ?_)
        | (go_at_call 106; refine Hm.out.mono ?_; rintro e w1 ⟨rfl, H1⟩; have s0 : w1.cell? ⟨w.heap.size + 1, 0, none⟩ = some (.int .i64 s.pos) := H1.cell 1 0 rfl rfl; have s1 : w1.cell? ⟨w.heap.size + 1, 1, none⟩ = some (.int .i64 s.charge) := H1.cell 1 1 rfl rfl; have s2 : w1.cell? ⟨w.heap.size + 1, 2, none⟩ = some (.bool s.bolted) := H1.cell 1 2 rfl rfl; have sf0 : w1.frozen? ⟨w.heap.size + 1, 0, none⟩ = false := H1.froz 1 0 rfl; have sf1 : w1.frozen? ⟨w.heap.size + 1, 1, none⟩ = false := H1.froz 1 1 rfl; (first | (have o1 : w1.cell? ⟨w.heap.size + 1 + 1, 1, none⟩ = some (.bool true) := H1.cell 2 1 rfl rfl) | (have o1 : w1.cell? ⟨w.heap.size + 1 + 1, 1, none⟩ = some (.bool false) := H1.cell 2 1 rfl rfl)); have c16 : w1.cell? ⟨w.heap.size, 16, none⟩ = some (.int .i64 g.pump) := H1.cell 0 16 rfl rfl; have c17 : w1.cell? ⟨w.heap.size, 17, none⟩ = some (.int .i64 g.cap) := H1.cell 0 17 rfl rfl; have a0 : w1.cell? ⟨w.heap.size + 1 + 1 + 1, 0, none⟩ = some (.int .i64 0) := H1.cell 3 0 rfl rfl; have a1 : w1.cell? ⟨w.heap.size + 1 + 1 + 1, 1, none⟩ = some (.int .i64 0) := H1.cell 3 1 rfl rfl; have a2 : w1.cell? ⟨w.heap.size + 1 + 1 + 1, 2, none⟩ = some (.bool false) := H1.cell 3 2 rfl rfl; have af0 : w1.frozen? ⟨w.heap.size + 1 + 1 + 1, 0, none⟩ = false := H1.froz 3 0 rfl; have af1 : w1.frozen? ⟨w.heap.size + 1 + 1 + 1, 1, none⟩ = false := H1.froz 3 1 rfl; have af2 : w1.frozen? ⟨w.heap.size + 1 + 1 + 1, 2, none⟩ = false := H1.froz 3 2 rfl; have b0 : w1.cell? ⟨w.heap.size + 1 + 1 + 1 + 1, 0, none⟩ = some (.int .i64 0) := H1.cell 4 0 rfl rfl; have b1 : w1.cell? ⟨w.heap.size + 1 + 1 + 1 + 1, 1, none⟩ = some (.int .i64 0) := H1.cell 4 1 rfl rfl; have b2 : w1.cell? ⟨w.heap.size + 1 + 1 + 1 + 1, 2, none⟩ = some (.int .i64 0) := H1.cell 4 2 rfl rfl; have bf0 : w1.frozen? ⟨w.heap.size + 1 + 1 + 1 + 1, 0, none⟩ = false := H1.froz 4 0 rfl; have bf1 : w1.frozen? ⟨w.heap.size + 1 + 1 + 1 + 1, 1, none⟩ = false := H1.froz 4 1 rfl; have bf2 : w1.frozen? ⟨w.heap.size + 1 + 1 + 1 + 1, 2, none⟩ = false := H1.froz 4 2 rfl; have H4 := ((H1.set 1 0 (.int .i64 (s.pos + d)) rfl).set 1 1 (.int .i64 (s.charge - q)) rfl).set 1 1 (.int .i64 (min (s.charge - q + g.pump) g.cap)) rfl; have e1 : (((w1.setCell ⟨w.heap.size + 1, 0, none⟩ (.int .i64 (s.pos + d))).setCell ⟨w.heap.size + 1, 1, none⟩ (.int .i64 (s.charge - q))).setCell ⟨w.heap.size + 1, 1, none⟩ (.int .i64 (min (s.charge - q + g.pump) g.cap))).cell? ⟨w.heap.size + 1, 1, none⟩ = some (.int .i64 (min (s.charge - q + g.pump) g.cap)) := H4.cell 1 1 rfl rfl; clear H4; have lz := H1.lt 4 rfl; have HB1 := Lib.hid H1.below; clear H1))
      clear Hgl Hsl Htl Hm
      refine bodyPost_ret (v := .tuple #[x.1.val, x.2.val]) (by have hd := Hd.out; simp [results, Try.results89, go_sem, *]) rfl ⟨rfl, ?_⟩
      repeat (first | (with_reducible exact HB1.out) | (with_reducible refine Below.drew ?_) | (with_reducible refine balloc ?_) | (with_reducible refine bset ?_ (by omega)))
end Go.Proofs.Ythalanpmfhhhnaa
