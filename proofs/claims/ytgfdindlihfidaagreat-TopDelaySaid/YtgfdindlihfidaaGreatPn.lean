/-
  closure: last, plan, never, begins, Plan: what they return of any game, any task.
-/
import Derived.Test.YtgfdindlihfidaaGreatBg
import Derived.Lib.QuietBelow
namespace Go.Proofs.YtgfdindlihfidaaGreat
open Go.RowKit Go.Shelf Go.Sort
set_option linter.unusedSimpArgs false
set_option linter.unusedVariables false
attribute [local go_sem ↓] loadAt_task
attribute [local go_sem] run_taskLoad
attribute [local go_sem high] run_min_z run_max_z
attribute [local go_sem ↓] run_min_z run_max_z

/-- A game's numbers are as Check leaves them. -/
structure GameFit (t : TaskV) (f q : Int) : Prop where
  n : 1 ≤ t.river.length ∧ t.river.length ≤ 60
  delay : 0 ≤ t.delay ∧ t.delay ≤ 30
  f : 0 ≤ f ∧ f ≤ 200001
  q : 0 ≤ q ∧ q ≤ 60
theorem quietOf_le {limit : Int} {n : Nat} : ∀ (l : List SerV), (∀ h ∈ l, h.vals.length ≤ n) → quietOf limit l ≤ n := by
  intro l
  unfold quietOf
  suffices ∀ (l : List SerV) (a : Nat), a ≤ n → (∀ h ∈ l, h.vals.length ≤ n) → l.foldl (fun q h => max q (qSer limit h.vals)) a ≤ n from fun h => this l 0 (Nat.zero_le _) h
  intro l
  induction l with
  | nil => intro a ha _; exact ha
  | cons x l ih =>
    intro a ha h
    refine ih _ ?_ (fun y hy => h y (List.mem_cons_of_mem _ hy))
    have h1 := h x (List.mem_cons_self ..)
    have h2 : qSer limit x.vals ≤ x.vals.length := qUpto_le _ _ _
    show max a (qSer limit x.vals) ≤ n
    omega
theorem GameFit.of {t : TaskV} {f : Int} (h : t.Fit) (hf : ∀ h : 0 < t.hists.length, f = t.hists[0].from_) : GameFit t f (quietOf t.limit t.hists) := by
  have h0 : 0 < t.hists.length := by have := h.hist; omega
  refine ⟨h.n, h.delay, by have := (h.all 0 h0).2; rw [hf h0]; exact this, by omega, ?_⟩
  have : quietOf t.limit t.hists ≤ t.river.length := quietOf_le _ (fun x hx => by
    obtain ⟨k, hk, rfl⟩ := List.mem_iff_getElem.1 hx
    exact Nat.le_of_eq (h.all k hk).1)
  have := h.n
  omega

theorem last_any {t : TaskV} {f q : Int} {G M : Nat} {W : World} (h : GameAt W t f q G M) (hf : GameFit t f q) :
    Calls Tryz.prog 19 #[.pointer (some ⟨G, 0, none⟩)] W fun e W' => e = .returned (.int .i64 ((t.river.length : Int) - 1 - t.delay)) ∧ Below W.heap.size W W' := by
  have c1 : W.cell? ⟨G, 12, none⟩ = some (.int .i64 (t.river.length : Int)) := h.cell 12 _ rfl
  have c2 : W.cell? ⟨G, 10, none⟩ = some (.int .i64 t.delay) := h.cell 10 _ rfl
  obtain ⟨hn, hd, _, _⟩ := hf
  go_enter Tryz.func19, Tryz.ntmps19
  go_wp2
  go_big_quiet (fail)
  go_wp2
  go_ret
  exact ⟨rfl, below_drewN (Below.refl _ _) _⟩

abbrev planV (f q d i : Int) : Value := .agg #[.int .i64 (f + i), .int .i64 (f + max q (i + d + 1))]
set_option maxRecDepth 100000 in
set_option maxHeartbeats 4000000 in
theorem plan_any {t : TaskV} {f q : Int} {G M : Nat} {W : World} (h : GameAt W t f q G M) (hf : GameFit t f q) (i : Int) (hi : -1000 ≤ i ∧ i ≤ 1000) :
    Calls Tryz.prog 20 #[.pointer (some ⟨G, 0, none⟩), .int .i64 i] W fun e W' => e = .returned (planV f q t.delay i) ∧ Below W.heap.size W W' := by
  have c1 : W.cell? ⟨G, 11, none⟩ = some (.int .i64 f) := h.cell 11 _ rfl
  have c2 : W.cell? ⟨G, 10, none⟩ = some (.int .i64 t.delay) := h.cell 10 _ rfl
  have c3 : W.cell? ⟨G, 13, none⟩ = some (.int .i64 q) := h.cell 13 _ rfl
  obtain ⟨WY, hWY⟩ : ∃ WY, WY = W.alloc (.cells #[.int .i64 0, .int .i64 0] 42) := ⟨_, rfl⟩
  have hYb : Below W.heap.size W WY := by rw [hWY]; exact (Below.refl _ _).alloc (Nat.le_refl _) _
  have lt := h.lt
  have e1 := (hYb.cell (p := ⟨G, 11, none⟩) lt).trans c1
  have e2 := (hYb.cell (p := ⟨G, 10, none⟩) lt).trans c2
  have e3 := (hYb.cell (p := ⟨G, 13, none⟩) lt).trans c3
  have hY0 : WY.heap[W.heap.size]? = some (.cells #[.int .i64 0, .int .i64 0] 42 (0, 0)) := by rw [hWY]; exact blk_new rfl
  have y0 := cell_of_row _ _ 0 _ _ _ hY0
  have y1 := cell_of_row _ _ 1 _ _ _ hY0
  have yf0 := frozen_of_row _ _ 0 _ _ hY0
  have yf1 := frozen_of_row _ _ 1 _ _ hY0
  have hYs : W.heap.size < WY.heap.size := by rw [hWY]; simp
  clear hY0
  obtain ⟨hn, hd, hff, hq⟩ := hf
  have hm1 : max q (i + t.delay + 1) ≤ 2000 := by omega
  have hm2 : -2000 ≤ max q (i + t.delay + 1) := by omega
  go_enter Tryz.func20, Tryz.ntmps20
  go_wp2
  rw [← hWY]
  clear hWY c1 c2 c3
  go_still_tail 25, (by kernel_rfl)
  change wpList _ _ _ _ _ (World.drew _)
  go_wp2
  refine bodyPost_ret (v := planV f q t.delay i) (by simp [results, Tryz.results20, go_sem, *]) rfl ⟨rfl, ?_⟩
  exact bset (bset hYb.drew (Nat.le_refl _)) (Nat.le_refl _)

theorem never_any (w : World) : Calls Tryz.prog 38 #[] w fun e w' => e = .returned (.agg #[.int .i64 (-1), .int .i64 (-1)]) ∧ Below w.heap.size w w' := by
  go_enter Tryz.func38, Tryz.ntmps38
  go_wp2
  refine bodyPost_ret (v := .agg #[.int .i64 (-1), .int .i64 (-1)]) (by simp [results, Tryz.results38, go_sem, *]) rfl ⟨rfl, ?_⟩
  exact (Below.refl _ _).alloc (Nat.le_refl _) _

/-- What Plan returns. -/
def PlanOut (t : TaskV) (w : World) (e : Ending) (w' : World) : Prop :=
  ∃ c o er : Int, e = .returned (.tuple #[.agg #[.int .i64 c, .int .i64 o], .int .i64 er]) ∧ (er = 0 → 0 ≤ c ∧ c ≤ 300000 ∧ c + t.delay < o ∧ 0 ≤ t.delay ∧ t.delay ≤ 30) ∧ Below w.heap.size w w'
set_option maxRecDepth 100000 in
set_option maxHeartbeats 4000000 in
theorem plan_all (t : TaskV) (tick : Int) (ht : -9223372036854775808 ≤ tick ∧ tick ≤ 9223372036854775807) (w : World) (hok : t.Ok w) :
    Calls Tryz.prog 6 #[t.val, .int .i64 tick] w (PlanOut t w) := by
  have K0 := Lib.hid (TkW.new w t)
  have hm0 : w.heap.size < (w.alloc (.cells t.cells 36)).heap.size := by simp
  obtain ⟨WX, hWX⟩ : ∃ WX, WX = (w.alloc (.cells t.cells 36)).alloc (.cells #[.int .i64 0, .int .i64 0] 42) := ⟨_, rfl⟩
  have hXb : Below w.heap.size w WX := by rw [hWX]; exact ((Below.refl _ _).alloc (Nat.le_refl _) _).alloc (by simp) _
  have hX0 : WX.heap[w.heap.size]? = some (.cells t.cells 36 (0, 0)) := by rw [hWX]; exact blk_old K0.out.blk
  have hX1 : WX.heap[w.heap.size + 1]? = some (.cells #[.int .i64 0, .int .i64 0] 42 (0, 0)) := by rw [hWX]; exact blk_new (by simp)
  have Hok := Lib.hid (hok.below hXb (Nat.le_refl _))
  have it0 : IsTask ((w.alloc (.cells t.cells 36)).alloc (.cells #[.int .i64 0, .int .i64 0] 42)) w.heap.size := ⟨t, hWX ▸ hX0⟩
  have ir0 : rowOf ((w.alloc (.cells t.cells 36)).alloc (.cells #[.int .i64 0, .int .i64 0] 42)) w.heap.size = t.val := rowOf_task (hWX ▸ hX0)
  clear hok
  go_enter Tryz.func6, Tryz.ntmps6
  go_wp2_with fail
  rw [← hWX]
  clear it0 ir0 hWX
  refine (begin_any t WX Hok.out).mono ?_
  rintro e w1 ⟨hb1, hr⟩
  have hX1' := blk_below hb1 hX1
  have y0 := cell_of_row _ _ 0 _ _ _ hX1'
  have y1 := cell_of_row _ _ 1 _ _ _ hX1'
  have yf0 := frozen_of_row _ _ 0 _ _ hX1'
  have yf1 := frozen_of_row _ _ 1 _ _ hX1'
  have hb2 : Below w.heap.size w w1 := hXb.trans (hb1.mono hXb.size)
  have hlt : w.heap.size + 1 < w1.heap.size := (Array.getElem?_eq_some_iff.1 hX1').1
  clear hX1 hX0 hXb
  rcases hr with ⟨er, her, rfl, hng⟩ | ⟨G, M, f, rfl, hfit, hff, hG, hM, hne, hgame, hmap⟩
  · have f1 : (er != 0) = true := by simp [her]
    go_wp2_with fail
    refine bodyPost_ret (v := .tuple #[.agg #[.int .i64 0, .int .i64 0], .int .i64 er]) (by simp [results, Tryz.results6, go_sem, *]) rfl ⟨0, 0, er, rfl, fun h => absurd h her, ?_⟩
    exact bset (bset hb2 (by omega)) (by omega)
  · have hgf := GameFit.of hfit hff
    obtain ⟨q, hq⟩ : ∃ q : Int, q = (quietOf t.limit t.hists : Nat) := ⟨_, rfl⟩
    rw [← hq] at hgame hgf
    have hn := hgf.n
    have hd := hgf.delay
    have hf2 := hgf.f
    have hq2 := hgf.q
    have c1 : w1.cell? ⟨G, 11, none⟩ = some (.int .i64 f) := hgame.cell 11 _ rfl
    have Hg := Lib.hid hgame
    have Hgf := Lib.hid hgf
    clear hgame hgf hq hfit hff
    go_wp2_with fail
    have k1 := cell_regrown c1
    obtain ⟨L, hL⟩ : ∃ L : Int, L = (t.river.length : Int) - 1 - t.delay := ⟨_, rfl⟩
    have wl : IntKind.i64.wrap (f + L) = f + L := by rw [IntKind.wrap_i64]; omega
    have hL1 : -30 ≤ L := by omega
    have hL2 : L ≤ 59 := by omega
    have HL := Lib.hid hL
    clear hL
    have cL : ∀ d os, Calls Tryz.prog 19 #[.pointer (some ⟨G, 0, none⟩)] (grow (redrawn w1 d) os) fun e w'' => e = .returned (.int .i64 L) ∧ ∃ p : Regrown, w'' = grow (redrawn w1 p.d) p.os := fun d os => Calls.regrown_of (HL.out ▸ last_any (Hg.out.call (below_regrown _ _ _)) Hgf.out)
    obtain ⟨ob, hob⟩ : ∃ ob, outB tick f (f + L) = ob := ⟨_, rfl⟩
    have cO : ∀ d os, Calls Tryz.prog 18 #[.int .i64 tick, .int .i64 f, .int .i64 (f + L)] (grow (redrawn w1 d) os) fun e w'' => e = .returned (.bool ob) ∧ ∃ p : Regrown, w'' = grow (redrawn w1 p.d) p.os := fun d os => Calls.regrown_of ((cout_eq hob _).mono fun e w' ⟨h1, h2⟩ => ⟨h1, h2 ▸ Below.refl _ _⟩)
    cases ob with
    | true =>
      refine wp_region_quiet_below (by kernel_rfl) (by kernel_rfl) ?_
      repeat (quiet_step (first | with_reducible exact cL _ _ | with_reducible exact cO _ _))
      refine wpQuiet_nil ?_
      rintro _ ⟨⟨dq, osq⟩, rfl⟩
      have hbq := below_regrown w1 dq osq
      have hX2 := blk_below hbq hX1'
      have hb3 : Below w.heap.size w (grow (redrawn w1 dq) osq) := hb2.trans (hbq.mono hb2.size)
      have hlt2 := hbq.size
      generalize grow (redrawn w1 dq) osq = w2 at hX2 hb3 hlt2 ⊢
      have y0 := cell_of_row _ _ 0 _ _ _ hX2
      have y1 := cell_of_row _ _ 1 _ _ _ hX2
      have yf0 := frozen_of_row _ _ 0 _ _ hX2
      have yf1 := frozen_of_row _ _ 1 _ _ hX2
      go_wp2_with fail
      refine bodyPost_ret (v := .tuple #[.agg #[.int .i64 0, .int .i64 0], .int .i64 7]) (by simp [results, Tryz.results6, go_sem, *]) rfl ⟨0, 0, 7, rfl, fun h => absurd h (by omega), ?_⟩
      exact bset (bset hb3 (by omega)) (by omega)
    | false =>
      refine wp_region_quiet_below (by kernel_rfl) (by kernel_rfl) ?_
      repeat (quiet_step (first | with_reducible exact cL _ _ | with_reducible exact cO _ _))
      refine wpQuiet_nil ?_
      rintro _ ⟨⟨dq, osq⟩, rfl⟩
      have hbq := below_regrown w1 dq osq
      have hX2 := blk_below hbq hX1'
      have hg2 := Lib.hid (Hg.out.call hbq)
      have c2 := k1 dq osq
      have hb3 : Below w.heap.size w (grow (redrawn w1 dq) osq) := hb2.trans (hbq.mono hb2.size)
      have hlt2 := hbq.size
      clear hbq
      generalize grow (redrawn w1 dq) osq = w2 at hX2 hb3 hlt2 c2 hg2 ⊢
      have y0 := cell_of_row _ _ 0 _ _ _ hX2
      have y1 := cell_of_row _ _ 1 _ _ _ hX2
      have yf0 := frozen_of_row _ _ 0 _ _ hX2
      have yf1 := frozen_of_row _ _ 1 _ _ hX2
      unfold outB at hob
      simp only [Bool.or_eq_false_iff, decide_eq_false_iff_not, Int.not_lt] at hob
      have wt : IntKind.i64.wrap (tick - f) = tick - f := by rw [IntKind.wrap_i64]; omega
      go_wp2_with (go_at_call 20; refine (plan_any hg2.out Hgf.out (tick - f) (by omega)).mono ?_; rintro e w3 ⟨rfl, hb4⟩; have hX3 := blk_below hb4 hX2; have z0 := cell_of_row _ _ 0 _ _ _ hX3; have z1 := cell_of_row _ _ 1 _ _ _ hX3; have zf0 := frozen_of_row _ _ 0 _ _ hX3; have zf1 := frozen_of_row _ _ 1 _ _ hX3; have hb5 := hb3.trans (hb4.mono hb3.size); have hlt3 := hb4.size)
      refine bodyPost_ret (v := .tuple #[planV f q t.delay (tick - f), .int .i64 0]) (by simp [results, Tryz.results6, go_sem, *]) rfl ⟨f + (tick - f), f + max q (tick - f + t.delay + 1), 0, rfl, fun _ => by omega, ?_⟩
      exact bset (bset hb5 (by omega)) (by omega)
end Go.Proofs.YtgfdindlihfidaaGreat
