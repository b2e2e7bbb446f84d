/-
  The cache of runs of a game of the closed task: look-ups, stores; what holds of such a game.
-/
import Derived.Test.YtgfdindlihfidaaGreatZj
import Derived.Maps.Own
namespace Go.Proofs.YtgfdindlihfidaaGreat
open Go.RowKit Go.Shelf Go.Sort
set_option linter.unusedSimpArgs false
set_option linter.unusedVariables false

abbrev keyV (k s : Int) : Value := .agg #[.int .i64 k, .int .i64 s]
def cObj : List Value → Obj
  | [] => .map #[] 0
  | [a] => .map #[⟨keyV 0 1, a, 0⟩] 1
  | a :: b :: _ => .map #[⟨keyV 0 1, a, 0⟩, ⟨keyV 1 1, b, 1⟩] 2
section
variable (W : World) (a b : Value)
theorem ck_key (e : Bool) (x y : Int) : (Instr.checkKey e 10000 161 (keyV x y)).run Tryz.prog W = .ok () W := by kernel_rfl
theorem fk_nil (k : Value) : (Instr.findKey 161 k []).run Tryz.prog W = .ok none W := by kernel_rfl
theorem fk_00 (l : List MapEntry) : (Instr.findKey 161 (keyV 0 1) (⟨keyV 0 1, a, 0⟩ :: l)).run Tryz.prog W = .ok (some (0, a)) W := by kernel_rfl
theorem fk_1 : (Instr.findKey 161 (keyV 1 1) [⟨keyV 0 1, a, 0⟩]).run Tryz.prog W = .ok none W := by kernel_rfl
theorem fk_11 : (Instr.findKey 161 (keyV 1 1) [⟨keyV 0 1, a, 0⟩, ⟨keyV 1 1, b, 1⟩]).run Tryz.prog W = .ok (some (1, b)) W := by kernel_rfl
theorem zero_ints : (zeroValue 33).run Tryz.prog W = .ok (.slice none 0 0) W := by kernel_rfl
end
theorem run_look {W : World} {M : Nat} {c : List Value} (hM : W.heap[M]? = some (cObj c)) (k : Nat) (hk : k ≤ 1) (hc : k ≤ c.length) (h2 : c.length ≤ 2) :
    (Instr.lookup 80 (.map (some M)) (keyV k 1) true).run Tryz.prog W = .ok (.tuple #[(c[k]?).getD (.slice none 0 0), .bool (decide (k < c.length))]) W := by
  have hk2 : k = 0 ∨ k = 1 := by omega
  match c, h2 with
  | [], _ =>
    obtain rfl : k = 0 := by simpa using hc
    simp [Instr.lookup, Sem.run_bind, Sem.run_pure, Result.andThen, MapKept.run_getObj_map hM, run_underlying Tryz.underlying80, ck_key, fk_nil, zero_ints]
  | [a], _ =>
    rcases hk2 with rfl | rfl
    · simp [Instr.lookup, Sem.run_bind, Sem.run_pure, Result.andThen, MapKept.run_getObj_map hM, run_underlying Tryz.underlying80, ck_key, fk_00, zero_ints]
    · simp [Instr.lookup, Sem.run_bind, Sem.run_pure, Result.andThen, MapKept.run_getObj_map hM, run_underlying Tryz.underlying80, ck_key, fk_1, zero_ints]
  | [a, b], _ =>
    rcases hk2 with rfl | rfl
    · simp [Instr.lookup, Sem.run_bind, Sem.run_pure, Result.andThen, MapKept.run_getObj_map hM, run_underlying Tryz.underlying80, ck_key, fk_00, zero_ints]
    · simp [Instr.lookup, Sem.run_bind, Sem.run_pure, Result.andThen, MapKept.run_getObj_map hM, run_underlying Tryz.underlying80, ck_key, fk_11, zero_ints]
  | _ :: _ :: _ :: _, h => exact absurd h (by simp)
theorem run_keep {W : World} {M : Nat} {c : List Value} (hM : W.heap[M]? = some (cObj c)) (h2 : c.length ≤ 1) (v : Value) :
    (Instr.mapUpdate 80 (.map (some M)) (keyV c.length 1) v).run Tryz.prog W = .ok () (W.putObj M (cObj (c ++ [v]))) := by
  match c, h2 with
  | [], _ =>
    simp [Instr.mapUpdate, Sem.run_bind, Sem.run_pure, Result.andThen, cObj, World.putObj, MapKept.run_getObj_map hM, MapKept.run_setObj_map _ hM, run_underlying Tryz.underlying80, ck_key, fk_nil, List.push_toArray]
  | [a], _ =>
    simp [Instr.mapUpdate, Sem.run_bind, Sem.run_pure, Result.andThen, cObj, World.putObj, MapKept.run_getObj_map hM, MapKept.run_setObj_map _ hM, run_underlying Tryz.underlying80, ck_key, fk_1, List.push_toArray]
  | _ :: _ :: _, h => exact absurd h (by simp)

theorem cObj_map (c : List Value) : ∃ es n, cObj c = .map es n := by
  match c with
  | [] => exact ⟨_, _, rfl⟩
  | [_] => exact ⟨_, _, rfl⟩
  | _ :: _ :: _ => exact ⟨_, _, rfl⟩
theorem grown_of_below {W W' : World} {row : Option Nat} (hb : Below W.heap.size W W') : W.grownBy W' row := ⟨hb.os, hb.tape, hb.output, hb.size, fun k hk _ => hb.block k hk⟩
theorem grown_trans {a b c : World} {row : Option Nat} (h : a.grownBy b row) (g : b.grownBy c row) : a.grownBy c row :=
  ⟨g.os.trans h.os, g.tape.trans h.tape, g.output.trans h.output, Nat.le_trans h.size g.size, fun k hk hr => (g.block k (Nat.lt_of_lt_of_le hk h.size) hr).trans (h.block k hk hr)⟩
theorem below_of_grown {B M : Nat} {w a b : World} (h : Below B w a) (g : a.grownBy b (some M)) (hM : B ≤ M) (hB : B ≤ a.heap.size) : Below B w b :=
  h.trans ⟨g.os, g.tape, g.output, g.size, fun k hk => g.block k (by omega) (fun e => by injection e with e; omega)⟩
abbrev volsV (k : Nat) : List Value := (vols k).map (Value.int .i64)
theorem volsV_len (k : Nat) : (volsV k).length = 5 := by rw [List.length_map, vols_len]
theorem row_block {W : World} {B : Nat} {v : Value} {n : Nat} {xs : List Value} (h : W.ownsRow B 3 1 v n xs) (hn : 0 < n) : ∃ g cur, v.ownBlock = some g ∧ B ≤ g ∧ W.heap[g]? = some (.cells cur 3 (0, 0)) := by
  rcases h.2 with ⟨_, h0⟩ | ⟨g, cap, cur, rfl, hb, hc, _⟩
  · omega
  · exact ⟨g, cur, rfl, hb, hc⟩
/-- What holds of a game of the closed task: its cache holds the volumes of the first runs. -/
structure GmS (w0 : World) (t : TaskV) (n G M : Nat) (c : List Value) (W : World) : Prop where
  below : Below w0.heap.size w0 W
  gG : w0.heap.size ≤ G
  gM : w0.heap.size ≤ M
  game : GameAt W t 10 5 G M
  mp : W.heap[M]? = some (cObj c)
  len : c.length ≤ n
  vol : ∀ k v, c[k]? = some v → W.ownsRow w0.heap.size 3 1 v 5 (volsV k)
theorem GmS.lt {w0 W : World} {t : TaskV} {n G M : Nat} {c : List Value} (h : GmS w0 t n G M c W) : G < W.heap.size ∧ M < W.heap.size := ⟨h.game.lt, (Array.getElem?_eq_some_iff.1 h.mp).1⟩
theorem GmS.call {w0 W W' : World} {t : TaskV} {n G M : Nat} {c : List Value} (h : GmS w0 t n G M c W) (hb : Below W.heap.size W W') : GmS w0 t n G M c W' :=
  ⟨h.below.trans (hb.mono h.below.size), h.gG, h.gM, h.game.call hb, blk_below hb h.mp, h.len, fun k v hv => (h.vol k v hv).kept (grown_of_below (row := none) hb) (by
    obtain ⟨g, _, e, _⟩ := row_block (h.vol k v hv) (by omega)
    exact .inr (by rw [e]; intro h; cases h))⟩
theorem GmS.keep {w0 W : World} {t : TaskV} {n G M : Nat} {c : List Value} (h : GmS w0 t n G M c W) (hc : c.length < n) {v : Value} (hv : W.ownsRow w0.heap.size 3 1 v 5 (volsV c.length)) :
    GmS w0 t n G M (c ++ [v]) (W.putObj M (cObj (c ++ [v]))) ∧ W.grownBy (W.putObj M (cObj (c ++ [v]))) (some M) := by
  have hM := h.lt.2
  obtain ⟨es, m, hcm⟩ := cObj_map c
  have hother : ∀ k, k ≠ M → (W.putObj M (cObj (c ++ [v]))).heap[k]? = W.heap[k]? := fun k hk => by
    simp only [World.putObj, Array.getElem?_setIfInBounds]
    rw [if_neg (fun e => hk e.symm)]
  have hsame : (W.putObj M (cObj (c ++ [v]))).heap[M]? = some (cObj (c ++ [v])) := by
    simp only [World.putObj, Array.getElem?_setIfInBounds, hM, if_true]
  have hg : W.grownBy (W.putObj M (cObj (c ++ [v]))) (some M) := ⟨rfl, rfl, rfl, by simp [World.putObj], fun k _ hk => hother k (fun e => hk (by rw [e]))⟩
  have hGM : G ≠ M := fun e => by have h1 := h.game.blk; rw [e, h.mp, hcm] at h1; cases h1
  have hrow : ∀ k u, W.ownsRow w0.heap.size 3 1 u 5 (volsV k) → (W.putObj M (cObj (c ++ [v]))).ownsRow w0.heap.size 3 1 u 5 (volsV k) := fun k u hu => hu.kept hg (by
    obtain ⟨g, cur, e, _, hcell⟩ := row_block hu (by omega)
    refine .inr ?_
    rw [e]
    intro e2
    injection e2 with e2
    subst e2
    rw [h.mp, hcm] at hcell
    cases hcell)
  refine ⟨⟨below_of_grown h.below hg h.gM h.below.size, h.gG, h.gM, ⟨(hother G hGM).trans h.game.blk⟩, hsame, by simp; omega, fun k u hu => ?_⟩, hg⟩
  by_cases hk : k < c.length
  · rw [List.getElem?_append_left hk] at hu
    exact hrow k u (h.vol k u hu)
  · rw [List.getElem?_append_right (by omega)] at hu
    have hk2 : k = c.length := by
      by_cases e : k - c.length = 0
      · omega
      · rw [List.getElem?_eq_none (by simp; omega)] at hu
        cases hu
    subst hk2
    rw [Nat.sub_self] at hu
    obtain rfl : v = u := by simpa using hu
    exact hrow _ _ hv
end Go.Proofs.YtgfdindlihfidaaGreat

/-
  closure.run on a game of the closed task, the gates shutting at index 1.
-/
namespace Go.Proofs.YtgfdindlihfidaaGreat
open Go.RowKit Go.Shelf Go.Sort
set_option linter.unusedSimpArgs false
set_option linter.unusedVariables false
attribute [local go_sem high] run_min_z run_max_z
attribute [local go_sem ↓] run_min_z run_max_z

set_option maxRecDepth 100000 in
set_option maxHeartbeats 4000000 in
theorem run_hit {w0 W : World} {t : TaskV} {n G M : Nat} {c : List Value} (hg : GmS w0 t n G M c W) (k : Nat) (hk1 : k ≤ 1) (hn : n ≤ 2) (v : Value) (hv : c[k]? = some v) :
    Calls Tryz.prog 83 #[.pointer (some ⟨G, 0, none⟩), keyV k 1] W fun e W' => e = .returned v ∧ Below W.heap.size W W' := by
  have hkc : k < c.length := (List.getElem?_eq_some_iff.1 hv).1
  have hlt := hg.lt
  have hB := (Below.refl W.heap.size W).alloc (Nat.le_refl _) (.cells #[.int .i64 (k : Int), .int .i64 1] 161)
  have hg1 := hg.call hB
  have c14 : (W.alloc (.cells #[.int .i64 (k : Int), .int .i64 1] 161)).cell? ⟨G, 14, none⟩ = some (.map (some M)) := hg1.game.cell 14 _ rfl
  have hlk : ∀ m, (Instr.lookup 80 (.map (some M)) (keyV k 1) true).run Tryz.prog ((W.alloc (.cells #[.int .i64 (k : Int), .int .i64 1] 161)).drewN m) = .ok (.tuple #[v, .bool true]) ((W.alloc (.cells #[.int .i64 (k : Int), .int .i64 1] 161)).drewN m) := fun m => by
    have h := run_look (W := ((W.alloc (.cells #[.int .i64 (k : Int), .int .i64 1] 161)).drewN m)) (M := M) (c := c) hg1.mp k hk1 (by omega) (by have := hg.len; omega)
    rw [h, hv]
    simp [hkc]
  have HB := Lib.hid hB
  clear hg hg1 hB hkc hv
  go_enter Tryz.func83, Tryz.ntmps83
  go_wp2_with fail
  go_quiet (fail)
  clear hlk
  go_wp2_with fail
  go_ret
  exact ⟨rfl, below_drewN HB.out nq⟩
end Go.Proofs.YtgfdindlihfidaaGreat
