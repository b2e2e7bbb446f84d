/-
  closure.Decide at the closed task: what its rounds keep.
-/
import Derived.Test.YtgfdindlihfidaaGreatZn
import Derived.Test.YtgfdindlihfidaaGreatSr
import Derived.Test.YtgfdindlihfidaaGreatRv
import Derived.RangeFuncBox
namespace Go.Proofs.YtgfdindlihfidaaGreat
open Go.RowKit Go.Shelf Go.Sort
set_option linter.unusedSimpArgs false
set_option linter.unusedVariables false

/-- What the rounds of Decide keep: the game with its rules; the variables 'g' and 'later', which holds k witnesses. -/
structure DcI (w0 : World) (t : TaskV) (G M R P Q B j k : Nat) (W : World) : Prop where
  st : ∃ c, j ≤ c.length ∧ GmR w0 t 2 G M R c W
  ptr : W.heap[P]? = some (.cells #[.pointer (some ⟨R, 0, none⟩)] 107 (0, 0))
  ltr : ∃ a cap, W.heap[Q]? = some (.cells #[.slice a k cap] 68 (0, 0)) ∧ W.ownsRow B 117 2 (.slice a k cap) k (wl k)
section
variable {w0 W W' : World} {t : TaskV} {G M R P Q B k j i : Nat}
theorem DcI.toQ (h : DcI w0 t G M R P Q B j k W) : GmQ w0 t 2 G M R j W W := let ⟨c, hj, hc⟩ := h.st; ⟨⟨c, hj, hc⟩, grown_of_below (Below.refl _ _)⟩
theorem DcI.call (h : DcI w0 t G M R P Q B j k W) (hb : Below W.heap.size W W') : DcI w0 t G M R P Q B j k W' := by
  obtain ⟨⟨c, hj, hc⟩, hp, a, cap, hq, ho⟩ := h
  refine ⟨⟨c, hj, hc.call hb⟩, blk_below hb hp, a, cap, blk_below hb hq, ho.kept (grown_of_below (row := none) hb) ?_⟩
  rcases pk_block ho with h1 | ⟨g, cur, h1, _, _⟩
  · exact .inl h1
  · exact .inr (by rw [h1]; intro e; cases e)
theorem DcI.map (h : DcI w0 t G M R P Q B j k W) : ∃ es m, W.heap[M]? = some (.map es m) := h.toQ.map
theorem DcI.neM (h : DcI w0 t G M R P Q B j k W) : P ≠ M ∧ Q ≠ M := by
  obtain ⟨es, m, hM⟩ := h.map
  obtain ⟨_, hp, a, cap, hq, _⟩ := h
  exact ⟨fun e => (by rw [e, hM] at hp; cases hp), fun e => (by rw [e, hM] at hq; cases hq)⟩
theorem DcI.gq (h : DcI w0 t G M R P Q B j k W) (hg : GmQ w0 t 2 G M R i W W') : DcI w0 t G M R P Q B i k W' := by
  obtain ⟨es, m, hM⟩ := h.map
  obtain ⟨n1, n2⟩ := h.neM
  obtain ⟨_, hp, a, cap, hq, ho⟩ := h
  obtain ⟨⟨c, hi, hc⟩, hgr⟩ := hg
  exact ⟨⟨c, hi, hc⟩, (hgr.block P (Array.getElem?_eq_some_iff.1 hp).1 (fun e => by injection e with e; exact n1 e)).trans hp, a, cap, (hgr.block Q (Array.getElem?_eq_some_iff.1 hq).1 (fun e => by injection e with e; exact n2 e)).trans hq, own_gmj ho hgr hM⟩
theorem DcI.lt (h : DcI w0 t G M R P Q B j k W) : R < W.heap.size ∧ G < W.heap.size ∧ M < W.heap.size ∧ P < W.heap.size ∧ Q < W.heap.size := by
  have h1 := h.toQ.lt
  obtain ⟨_, hp, a, cap, hq, _⟩ := h
  exact ⟨h1.1, h1.2.1, h1.2.2, (Array.getElem?_eq_some_iff.1 hp).1, (Array.getElem?_eq_some_iff.1 hq).1⟩
theorem DcI.grown {row : Option Nat} (h : DcI w0 t G M R P Q B j k W) (hg : W.grownBy W' row) (hr : ∀ r, row = some r → B ≤ r ∧ ∃ o : Obj, W.heap[r]? = some o ∧ o.isCells = false) (hw : w0.heap.size ≤ B) (hG : G < B) (hM : M < B) (hR : R < B) (hP : P < B) (hQ : Q < B) : DcI w0 t G M R P Q B j k W' := by
  obtain ⟨⟨c, hj, hc⟩, hp, a, cap, hq, ho⟩ := h
  have hrB : ∀ r, row = some r → B ≤ r := fun r e => (hr r e).1
  refine ⟨⟨c, hj, ⟨hc.gm.below.grown hg hc.gm.below.size (fun k e => by have := hrB k e; omega), hc.gm.gG, hc.gm.gM, ⟨blk_grownB hc.gm.game.blk hg hrB hG⟩, blk_grownB hc.gm.mp hg hrB hM, hc.gm.len, fun k v hv => (hc.gm.vol k v hv).kept hg ?_⟩, blk_grownB hc.blk hg hrB hR, hc.gR⟩, blk_grownB hp hg hrB hP, a, cap, blk_grownB hq hg hrB hQ, ho.kept hg ?_⟩
  · obtain ⟨g, cur, e, _, hcell⟩ := row_block (hc.gm.vol k v hv) (by omega)
    refine .inr (fun e2 => ?_)
    rw [e] at e2
    obtain ⟨_, o, ho, hoc⟩ := hr g e2.symm
    rw [hcell] at ho
    injection ho with ho
    subst ho
    cases hoc
  · rcases pk_block ho with h1 | ⟨g, cur, h1, _, hcell⟩
    · exact .inl h1
    · refine .inr (fun e2 => ?_)
      rw [h1] at e2
      obtain ⟨_, o, ho, hoc⟩ := hr g e2.symm
      rw [hcell] at ho
      injection ho with ho
      subst ho
      cases hoc
/-- 'later = append(later, w)': what holds behind the store. -/
theorem DcI.append {a : Option Addr} {cap : Nat} {v' : Value} {w1 : World} {tmp : Obj} (h : DcI w0 t G M R P Q B j k W) (hq : W.heap[Q]? = some (.cells #[.slice a k cap] 68 (0, 0))) (ho : W.ownsRow B 117 2 (.slice a k cap) k (wl k))
    (hown : w1.ownsRow B 117 2 v' (k + 1) (wl (k + 1))) (hgrow : (W.alloc tmp).grownBy w1 (Value.slice a k cap).ownBlock) (hw : w0.heap.size ≤ B) (hG : G < B) (hM : M < B) (hR : R < B) (hP : P < B) (hQ : Q < B) (hQ0 : w0.heap.size ≤ Q) (hQG : G ≠ Q) (hQR : R ≠ Q) (hPQ : P ≠ Q) :
    w1.heap[Q]? = some (.cells #[.slice a k cap] 68 (0, 0)) ∧ DcI w0 t G M R P Q B j (k + 1) (w1.setCell ⟨Q, 0, none⟩ v') := by
  have hal : Below W.heap.size W (W.alloc tmp) := (Below.refl _ _).alloc (Nat.le_refl _) _
  have ho2 := ho.alloc tmp
  have hrB : ∀ r, (Value.slice a k cap).ownBlock = some r → B ≤ r := fun r e => (ho.lt r e).1
  have h4 := h.call hal
  have hq4 : GmQ w0 t 2 G M R j w0 (W.alloc tmp) := let ⟨c, hj, hc⟩ := h4.st; ⟨⟨c, hj, hc⟩, grown_of_below hc.gm.below⟩
  have hq5 := hq4.own ho2 hgrow (by decide) hw (Nat.le_refl _) hG hR
  have hQ5 : w1.heap[Q]? = some (.cells #[.slice a k cap] 68 (0, 0)) := blk_grownB (blk_old hq) hgrow hrB hQ
  refine ⟨hQ5, ?_⟩
  obtain ⟨c, hj, hc⟩ := hq5.set hQ5 (by decide) hQ0 hQG hQR v' (i := 0)
  obtain ⟨g, cp, rfl⟩ := ownsRow_succ hown
  have hne : (Value.slice (some ⟨g, 0, none⟩) (k + 1) cp).ownBlock ≠ some Q := fun e => by have := (hown.lt Q e).1; omega
  exact ⟨⟨c, hj, hc⟩, blk_set_other hPQ (blk_grownB (blk_old h.ptr) hgrow hrB hP), some ⟨g, 0, none⟩, cp, (heap_setCell_same _ _ 0 _ _ _ hQ5).trans rfl,
    hown.kept (grownBy_setCell' w1 Q _) (.inr (fun e => hne e))⟩
/-- The witnesses are turned round: nothing else is. -/
theorem DcI.turned {a : Option Addr} {cap : Nat} (h : DcI w0 t G M R P Q B j k W) (hq : W.heap[Q]? = some (.cells #[.slice a k cap] 68 (0, 0))) (ho : W.ownsRow B 117 2 (.slice a k cap) k (wl k))
    (hown : W'.ownsRow B 117 2 (.slice a k cap) k (wl k)) (hgrow : W.grownBy W' (Value.slice a k cap).ownBlock) (hw : w0.heap.size ≤ B) (hG : G < B) (hR : R < B) (hP : P < B) (hQ : Q < B) : DcI w0 t G M R P Q B j k W' ∧ W'.heap[Q]? = some (.cells #[.slice a k cap] 68 (0, 0)) := by
  have hrB : ∀ r, (Value.slice a k cap).ownBlock = some r → B ≤ r := fun r e => (ho.lt r e).1
  have hq4 : GmQ w0 t 2 G M R j w0 W := let ⟨c, hj, hc⟩ := h.st; ⟨⟨c, hj, hc⟩, grown_of_below hc.gm.below⟩
  have hq5 := hq4.own ho hgrow (by decide) hw (Nat.le_refl _) hG hR
  have hQ5 : W'.heap[Q]? = some (.cells #[.slice a k cap] 68 (0, 0)) := blk_grownB hq hgrow hrB hQ
  exact ⟨⟨hq5.st, blk_grownB h.ptr hgrow hrB hP, a, cap, hQ5, hown⟩, hQ5⟩
/-- The region of the last round's result, whatever of it has been done. -/
structure DrC (w0 : World) (t : TaskV) (G M R r k : Nat) (a : Option Addr) (cap : Nat) (W : World) (L : Nat → Bool) (x : Nat → Value) (V : World) : Prop where
  gm : L 6 = false → GmQ w0 t 2 G M R 2 W V
  x0 : L 0 = true → x 0 = plV 10 15
  x1 : L 1 = true → x 1 = .pointer (some ⟨R, 0, none⟩)
  x2 : L 2 = true → x 2 = plV 10 15
  x3 : L 3 = true → ∃ b c, x 3 = .slice b 2 c
  x4 : L 4 = true → x 4 = .slice a k cap
  x5 : L 5 = true → ∃ b c, x 5 = .agg #[.int .i64 10, .int .i64 15, .slice b 2 c, .slice a k cap]
  s6 : L 6 = true → L 7 = false → ∃ V0 b c, GmQ w0 t 2 G M R 2 W V0 ∧ V = (((V0.setCell ⟨r, 0, none⟩ (.int .i64 10)).setCell ⟨r, 1, none⟩ (.int .i64 15)).setCell ⟨r, 2, none⟩ (.slice b 2 c)).setCell ⟨r, 3, none⟩ (.slice a k cap)
  s7 : L 7 = true → ∃ V0 b c, GmQ w0 t 2 G M R 2 W V0 ∧ V = ((((V0.setCell ⟨r, 0, none⟩ (.int .i64 10)).setCell ⟨r, 1, none⟩ (.int .i64 15)).setCell ⟨r, 2, none⟩ (.slice b 2 c)).setCell ⟨r, 3, none⟩ (.slice a k cap)).setCell ⟨r + 1, 0, none⟩ (.int .i64 0)
  o6 : L 6 = true → ∀ j, j < 6 → L j = true
  o7 : L 7 = true → ∀ j, j < 7 → L j = true
/-- What a round may do: what the loop's law and what the iterator want kept. -/
structure DcT (n₀ B X : Nat) (W W' : World) : Prop where
  kf : KeepsFrom B W W'
  bx : BxK n₀ X W W'
variable {n₀ X : Nat} {V : World}
theorem DcT.refl (W : World) : DcT n₀ B X W W := ⟨KeepsFrom.refl _ _, BxK.refl _ _ _⟩
theorem DcT.trans (h : DcT n₀ B X W V) (g : DcT n₀ B X V W') : DcT n₀ B X W W' := ⟨h.kf.trans g.kf, h.bx.trans g.bx⟩
theorem DcT.below (hb : Below W.heap.size W W') (hn : n₀ ≤ W.heap.size) (hX : X < W.heap.size) : DcT n₀ B X W W' := ⟨⟨hb.size, fun k o _ hk _ => blk_below hb hk⟩, hb.mono hn, hb.block X hX⟩
theorem DcT.grownM (hg : W.grownBy W' (some M)) (hn : n₀ ≤ M) (hM : M < B) (hX : X ≠ M) (hn2 : n₀ ≤ W.heap.size) (hX2 : X < W.heap.size) : DcT n₀ B X W W' :=
  ⟨KeepsFrom.of_grownBy hg (fun j e => by injection e with e; omega), below_of_grown (Below.refl _ _) hg hn hn2, hg.block X hX2 (fun e => by injection e with e; exact hX e)⟩
theorem DcT.row {v : Value} {n : Nat} {xs : List Value} {e : TypeId} {sz : Nat} (hg : W.grownBy W' v.ownBlock) (ho : W.ownsRow B e sz v n xs) (hn : n₀ ≤ B) (hX : X < B) (hn2 : n₀ ≤ W.heap.size) (hX2 : X < W.heap.size) : DcT n₀ B X W W' := by
  have hrB : ∀ r, v.ownBlock = some r → B ≤ r := fun r e => (ho.lt r e).1
  refine ⟨(KeepsOthers.of_grownBy hg fun j o ej hj => ?_).from _, (Below.refl n₀ W).grown hg hn2 (fun r e => by have := hrB r e; omega), hg.block X hX2 (fun e => by have := hrB X e.symm; omega)⟩
  rcases pk_block ho with h1 | ⟨g, cur, h1, _, hcell⟩
  · rw [h1] at ej; cases ej
  · rw [h1] at ej
    injection ej with ej
    subst ej
    rw [hcell] at hj
    cases hj
    rfl
theorem DcT.set (W : World) {Y i : Nat} (v : Value) (hn : n₀ ≤ Y) (hX : X ≠ Y) : DcT n₀ B X W (W.setCell ⟨Y, i, none⟩ v) :=
  ⟨(KeepsOthers.setCell _ _ _).from _, (BxK.refl n₀ X W).set hn hX⟩
section
variable {r cap : Nat} {a : Option Addr} {L : Nat → Bool} {x : Nat → Value}
theorem updF_lt {n m : Nat} (h : ∀ j, j < n → L j = true) : ∀ j, j < n → updF L m true j = true := fun j hj => by
  unfold updF
  split
  · rfl
  · exact h j hj
theorem DrC.new (h : GmQ w0 t 2 G M R 2 W V) : DrC w0 t G M R r k a cap W (fun _ => false) (fun _ => undef) V :=
  ⟨fun _ => h, fun h => (by cases h), fun h => (by cases h), fun h => (by cases h), fun h => (by cases h), fun h => (by cases h), fun h => (by cases h), fun h => (by cases h), fun h => (by cases h), fun h => (by cases h), fun h => (by cases h)⟩
theorem DrC.call (h : DrC w0 t G M R r k a cap W L x V) (h6 : L 6 = false) (h7 : L 7 = false) (hb : GmQ w0 t 2 G M R 2 W W') : DrC w0 t G M R r k a cap W L x W' :=
  ⟨fun _ => hb, h.x0, h.x1, h.x2, h.x3, h.x4, h.x5, fun e => (by rw [h6] at e; cases e), fun e => (by rw [h7] at e; cases e), h.o6, h.o7⟩
theorem DrC.u0 {y : Value} (h : DrC w0 t G M R r k a cap W L x V) (hy : y = plV 10 15) : DrC w0 t G M R r k a cap W (updF L 0 true) (updF x 0 y) V := ⟨h.gm, fun _ => hy, h.x1, h.x2, h.x3, h.x4, h.x5, h.s6, h.s7, fun e => updF_lt (h.o6 e), fun e => updF_lt (h.o7 e)⟩
theorem DrC.u1 {y : Value} (h : DrC w0 t G M R r k a cap W L x V) (hy : y = .pointer (some ⟨R, 0, none⟩)) : DrC w0 t G M R r k a cap W (updF L 1 true) (updF x 1 y) V := ⟨h.gm, h.x0, fun _ => hy, h.x2, h.x3, h.x4, h.x5, h.s6, h.s7, fun e => updF_lt (h.o6 e), fun e => updF_lt (h.o7 e)⟩
theorem DrC.u2 {y : Value} (h : DrC w0 t G M R r k a cap W L x V) (hy : y = plV 10 15) : DrC w0 t G M R r k a cap W (updF L 2 true) (updF x 2 y) V := ⟨h.gm, h.x0, h.x1, fun _ => hy, h.x3, h.x4, h.x5, h.s6, h.s7, fun e => updF_lt (h.o6 e), fun e => updF_lt (h.o7 e)⟩
theorem DrC.u3 {y : Value} (h : DrC w0 t G M R r k a cap W L x V) (hy : ∃ b c, y = .slice b 2 c) : DrC w0 t G M R r k a cap W (updF L 3 true) (updF x 3 y) V := ⟨h.gm, h.x0, h.x1, h.x2, fun _ => hy, h.x4, h.x5, h.s6, h.s7, fun e => updF_lt (h.o6 e), fun e => updF_lt (h.o7 e)⟩
theorem DrC.u4 {y : Value} (h : DrC w0 t G M R r k a cap W L x V) (hy : y = .slice a k cap) : DrC w0 t G M R r k a cap W (updF L 4 true) (updF x 4 y) V := ⟨h.gm, h.x0, h.x1, h.x2, h.x3, fun _ => hy, h.x5, h.s6, h.s7, fun e => updF_lt (h.o6 e), fun e => updF_lt (h.o7 e)⟩
theorem DrC.u5 {y : Value} (h : DrC w0 t G M R r k a cap W L x V) (hy : ∃ b c, y = .agg #[.int .i64 10, .int .i64 15, .slice b 2 c, .slice a k cap]) : DrC w0 t G M R r k a cap W (updF L 5 true) (updF x 5 y) V := ⟨h.gm, h.x0, h.x1, h.x2, h.x3, h.x4, fun _ => hy, h.s6, h.s7, fun e => updF_lt (h.o6 e), fun e => updF_lt (h.o7 e)⟩
theorem DrC.u6 {b : Option Addr} {c : Nat} (h : DrC w0 t G M R r k a cap W L x V) (h6 : L 6 = false) (h7 : L 7 = false) (hall : ∀ j, j < 6 → L j = true) : DrC w0 t G M R r k a cap W (updF L 6 true) x ((((V.setCell ⟨r, 0, none⟩ (.int .i64 10)).setCell ⟨r, 1, none⟩ (.int .i64 15)).setCell ⟨r, 2, none⟩ (.slice b 2 c)).setCell ⟨r, 3, none⟩ (.slice a k cap)) :=
  ⟨fun e => (by cases e), h.x0, h.x1, h.x2, h.x3, h.x4, h.x5, fun _ _ => ⟨V, b, c, h.gm h6, rfl⟩, fun e => (by have e : L 7 = true := e; rw [h7] at e; cases e), fun _ => updF_lt hall, fun e => (by have e : L 7 = true := e; rw [h7] at e; cases e)⟩
theorem DrC.u7 (h : DrC w0 t G M R r k a cap W L x V) (h6 : L 6 = true) (h7 : L 7 = false) : DrC w0 t G M R r k a cap W (updF L 7 true) x (V.setCell ⟨r + 1, 0, none⟩ (.int .i64 0)) := by
  obtain ⟨V0, b, c, hg, hV⟩ := h.s6 h6 h7
  have h6' := h.o6 h6
  refine ⟨fun e => (by have e : L 6 = false := e; rw [h6] at e; cases e), h.x0, h.x1, h.x2, h.x3, h.x4, h.x5, fun _ e => (by cases e), fun _ => ⟨V0, b, c, hg, by rw [hV]⟩, fun _ => updF_lt h6', fun _ => updF_lt (fun j hj => ?_)⟩
  by_cases e : j = 6
  · rw [e]; exact h6
  · exact h6' j (by omega)
end
end
end Go.Proofs.YtgfdindlihfidaaGreat
