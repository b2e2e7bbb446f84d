/-
  A region that draws its order, within a round of a range over a function: what is shown of it as outside a round holds there too, where no operation is a defer statement.
-/
import Derived.Test.YtgfdindlihfidaaGreatPl
import Derived.BigQuiet
import Derived.StillTailTactics
import Derived.OrdersIn
import Derived.RangeFuncCalls
namespace Go.Proofs.YtgfdindlihfidaaGreat
open Go.RowKit
variable {n l : Nat} {P : Program} {ops : Array Oper} {Q : Exit → Act → World → Prop} {md : Region.Mode}

/-- No defer statement. -/
def plainB (o : Oper) : Bool := match o.op with | .defer _ => false | _ => true
theorem plainB_spec {o : Oper} (h : plainB o = true) : ∀ c, o.op ≠ .defer c := fun c e => by rw [plainB, e] at h; cases h
theorem rows_round {row : String} {args : Array Value} {w : World} {R : Value → World → Prop} (h : Rows P row args w R) : RowsIn (Fence.wide.inRound l) n P row args w R :=
  fun c cs _ => let ⟨v, w', r, s⟩ := h c cs; ⟨v, w', r, stepsIn_wide.2 s⟩
theorem wpIn_round {o : Oper} {a : Act} {w : World} {K : Act → World → Prop} (hd : plainB o = true) (h : o.wp P a w K Q) : o.wpIn (Fence.wide.inRound l) n P a w K Q := by
  unfold Oper.wp at h
  refine ⟨fun _ _ => trivial, ?_⟩
  rw [Oper.semAt_eq _ _ _ (plainB_spec hd)]
  generalize (execOp a.eval o).run P w = r at *
  have hdep : ((Fence.wide.inRound l).depth.isSome = true → 1 ≤ n) := fun h => by cases h
  cases r with
  | ok x w' =>
    cases x with
    | enter f args => exact ⟨hdep, CallsIn.inRound l (callsIn_wide.2 h)⟩
    | row row args => exact ⟨hdep, rows_round h⟩
    | round _ _ _ _ _ => exact h.elim
    | _ => exact h
  | halt x w' => cases x <;> exact h
theorem wpOpIn_round {i : Nat} {a : Act} {w : World} {K K' : Act → World → Prop} (hd : ops.all plainB = true) (hlo : ∀ a w, ¬ Q .outgrown a w) (hK : ∀ a w, K a w → K' a w) (h : wpOp P ops Q i K a w) : wpOpIn (Fence.wide.inRound l) n P ops Q i K' a w := by
  unfold wpOp at h
  unfold wpOpIn
  cases ho : ops[i]? with
  | none => rw [ho] at h; exact hK _ _ h
  | some o =>
    rw [ho] at h
    have hp : plainB o = true := by
      obtain ⟨hi, rfl⟩ := Array.getElem?_eq_some_iff.1 ho
      exact (Array.all_eq_true.1 hd) i hi
    simp only at h ⊢
    by_cases hw : Region.wanted o (yielded ops a.tmps) = true
    · rw [if_pos hw] at h ⊢
      rcases h with h | ⟨_, a', w', h⟩
      · exact Oper.wpIn_mono hK (wpIn_round hp h)
      · exact absurd h (hlo a' w')
    · rw [if_neg hw] at h ⊢
      exact ⟨fun _ _ => trivial, hK _ _ h⟩
theorem wpAnyIn_round (hd : ops.all plainB = true) (hlo : ∀ a w, ¬ Q .outgrown a w) : ∀ (fuel : Nat) (listed : Array Bool) (a : Act) (w : World), wpAny P md ops Q fuel listed a w → wpAnyIn (Fence.wide.inRound l) n P md ops Q fuel listed a w
  | 0, _, _, _, h => h
  | fuel + 1, _, _, _, h => ⟨h.1, fun i hi => wpOpIn_round hd hlo (fun a' w' => wpAnyIn_round hd hlo fuel _ a' w') (h.2 i hi)⟩
theorem wpIn_region_round {id : Nat} {a : Act} {w : World} (hm : P.follows .mixedOrders = true) (hd : ops.all plainB = true) (hlo : ∀ a w, ¬ Q .outgrown a w)
    (h : wpAny P .any ops Q ops.size (Array.replicate ops.size false) a { w with drawn := w.drawn + 1 }) : (Code.region id ops true).wpIn (Fence.wide.inRound l) n P Q a w :=
  wpIn_region_any hm (wpAnyIn_round hd hlo _ _ _ _ h)
/-- It only reads. -/
theorem quiet_round {id : Nat} {a : Act} {w : World} {os : List Oper} (hd : os.toArray.all plainB = true) (hm : P.follows .mixedOrders = true) (hB : Region.lexB .any os.toArray = true) (hlo : ∀ a w, ¬ Q .outgrown a w)
    (h : wpQuiet P os.toArray (fun w' => ∃ n, w' = w.drewN n) (fun a' => ∀ w', (∃ n, w' = w.drewN n) → Q .normal a' w') os a) : (Code.region id os.toArray true).wpIn (Fence.wide.inRound l) n P Q a w := by
  have hB' := hB
  rw [Region.lexB, Bool.and_eq_true] at hB'
  have h1 := wpAnyQ_lex hB'.1 os 0 (Array.replicate os.toArray.size false) a (fun j => by simp) (by simpa using hB'.2) h
  refine wpIn_region_round hm hd hlo ?_
  have h2 := wpAny_of_quiet (fun a1 w1 hw1 hq => hq w1 hw1) os.length _ a { w with drawn := w.drawn + 1 } ⟨1, rfl⟩ h1
  simpa using h2
/-- It reads, and the last operations, which wait for all others, come in one order. -/
theorem tail_round {id : Nat} {a : Act} {w : World} {os : List Oper} (k : Nat) (hd : os.toArray.all plainB = true) (hm : P.follows .mixedOrders = true) (hB : Region.lexTailB .any os.toArray k = true) (hlo : ∀ a w, ¬ Q .outgrown a w)
    (h : wpStill P os.toArray w.drew (fun a' => wpList P os.toArray Q (os.drop k) a' w.drew) (os.take k) a) : (Code.region id os.toArray true).wpIn (Fence.wide.inRound l) n P Q a w := by
  have hB' := hB
  simp only [Region.lexTailB, Bool.and_eq_true, decide_eq_true_eq, List.size_toArray] at hB'
  obtain ⟨⟨⟨⟨b1, b2⟩, b3⟩, b4⟩, b5⟩ := hB'
  have e1 : (os.take k).length = k := List.length_take_of_le (Nat.le_of_lt b2)
  have e2 : (os.drop k).length = os.length - k := List.length_drop
  have hinv : HeadInv .any os.toArray k (Array.replicate os.toArray.size false) := by
    constructor
    · exact Array.size_replicate
    · intro j oj _ hl
      rw [getD_replicate_false] at hl
      cases hl
    · intro t _ ht
      exact getD_in (by rw [Array.size_replicate]; exact ht) (getD_replicate_false _ _)
  have h1 := wpAnyL_lex (g := os.length - k) b1 b3 b4 (by simpa using b2) (os.take k) 0 _ a (fun j hj => by rw [Nat.zero_add, List.getElem?_take_of_lt (by omega)]; simp) (by rw [e1]; omega) hinv (by rw [e1]; exact b5) h
  refine wpIn_region_round hm hd hlo ?_
  have h2 := wpAny_of_head (g := os.length - k) (Q' := Q) (fun listed a1 hL => by
    have h3 := wpAny_of_seq (Q' := Q) (os.drop k) k listed a1 _ (fun j => by simp) (by rw [e2]; exact hL.1) hL.2
    rw [e2] at h3
    exact h3) _ _ _ h1
  rw [e1, Nat.add_sub_cancel' (Nat.le_of_lt b2)] at h2
  exact h2
end Go.Proofs.YtgfdindlihfidaaGreat
