/-
  Gates and rules in memory, the set of names that CheckSet keeps, and what CheckSet returns.
-/
import Derived.Test.YtgfdindlihfidaaGreatZc
import Derived.Maps.OwnSet
import Derived.Deep.MidRow
namespace Go.Proofs.YtgfdindlihfidaaGreat
open Go.RowKit
set_option linter.unusedSimpArgs false
set_option linter.unusedVariables false

/-- A rule. -/
structure Rul where
  gate : Int
  other : Int
  lo : Int
  hi : Int
  deriving DecidableEq
abbrev Rul.cells (r : Rul) : Array Value := #[.int .i64 r.gate, .int .i64 r.other, .int .i64 r.lo, .int .i64 r.hi]

/-- Gates lie in memory, one behind the other. -/
def GatesAt (w : World) (a : Option Addr) (l : List GateV) : Prop :=
  l.length ≤ maxLen ∧ (∀ g ∈ l, g.Ok w) ∧ (l = [] ∨ ∃ b off, a = some ⟨b, off, none⟩ ∧ b < w.heap.size ∧ ∀ k, (h : k < l.length) → w.rangeAt b (off + k * 21) l[k].cells.toList)

/-- Rules lie in memory. -/
def RulesAt (w : World) (a : Option Addr) (l : List Rul) : Prop :=
  l.length ≤ maxLen ∧ (l = [] ∨ ∃ b off, a = some ⟨b, off, none⟩ ∧ b < w.heap.size ∧ ∀ k, (h : k < l.length) →
    w.cell? ⟨b, off + k * 4, none⟩ = some (.int .i64 l[k].gate) ∧ w.cell? ⟨b, off + k * 4 + 1, none⟩ = some (.int .i64 l[k].other) ∧ w.cell? ⟨b, off + k * 4 + 2, none⟩ = some (.int .i64 l[k].lo) ∧ w.cell? ⟨b, off + k * 4 + 3, none⟩ = some (.int .i64 l[k].hi))

theorem rangeAt_below {w w' : World} {b o B : Nat} {cs : List Value} (h : w.rangeAt b o cs) (hb : Below B w w') (hB : b < B) : w'.rangeAt b o cs :=
  fun j v hv => (hb.cell (p := ⟨b, o + j, none⟩) hB).trans (h j v hv)

theorem GatesAt.below {w w' : World} {a : Option Addr} {l : List GateV} {B : Nat} (h : GatesAt w a l) (hb : Below B w w') (hB : w.heap.size ≤ B) : GatesAt w' a l := by
  obtain ⟨hm, hg, h⟩ := h
  refine ⟨hm, fun g hl => (hg g hl).below hb hB, ?_⟩
  rcases h with h | ⟨b, off, h1, h2, h3⟩
  · exact .inl h
  · exact .inr ⟨b, off, h1, Nat.lt_of_lt_of_le h2 hb.size, fun k hk => rangeAt_below (h3 k hk) hb (Nat.lt_of_lt_of_le h2 hB)⟩

theorem RulesAt.below {w w' : World} {a : Option Addr} {l : List Rul} {B : Nat} (h : RulesAt w a l) (hb : Below B w w') (hB : w.heap.size ≤ B) : RulesAt w' a l := by
  obtain ⟨hm, h⟩ := h
  refine ⟨hm, ?_⟩
  rcases h with h | ⟨b, off, h1, h2, h3⟩
  · exact .inl h
  · refine .inr ⟨b, off, h1, Nat.lt_of_lt_of_le h2 hb.size, fun k hk => ?_⟩
    have hlt := Nat.lt_of_lt_of_le h2 hB
    obtain ⟨c0, c1, c2, c3⟩ := h3 k hk
    exact ⟨(hb.cell (p := ⟨b, off + k * 4, none⟩) hlt).trans c0, (hb.cell (p := ⟨b, off + k * 4 + 1, none⟩) hlt).trans c1, (hb.cell (p := ⟨b, off + k * 4 + 2, none⟩) hlt).trans c2, (hb.cell (p := ⟨b, off + k * 4 + 3, none⟩) hlt).trans c3⟩

/-- The set of gates as it stands by value. -/
structure SetV where
  gA : Option Addr
  gC : Nat
  gates : List GateV
  rA : Option Addr
  rC : Nat
  rules : List Rul
abbrev SetV.cells (s : SetV) : Array Value := #[.slice s.gA s.gates.length s.gC, .slice s.rA s.rules.length s.rC]
abbrev SetV.val (s : SetV) : Value := .agg s.cells
structure SetV.Ok (s : SetV) (w : World) : Prop where
  gs : GatesAt w s.gA s.gates
  rs : RulesAt w s.rA s.rules
theorem SetV.Ok.below {s : SetV} {w w' : World} {B : Nat} (h : s.Ok w) (hb : Below B w w') (hB : w.heap.size ≤ B) : s.Ok w' :=
  ⟨h.gs.below hb hB, h.rs.below hb hB⟩

/-- A gate of that name is among them. -/
def seenB (l : List GateV) (nm : ByteArray) : Bool := l.any fun g => decide (g.nm = nm)
/-- The error of a gate behind others. -/
def gateE (l : List GateV) (g : GateV) : Int := if (checkZ g).2.2 = 0 then (if seenB l g.nm then 5 else 0) else (checkZ g).2.2
/-- The first gate with an error. -/
def gscan : List GateV → List GateV → Int → Int × Int
  | [], _, _ => (0, 0)
  | g :: r, l, k => if gateE l g = 0 then gscan r (l ++ [g]) (k + 1) else (k, gateE l g)
/-- The error of a rule among n gates. -/
def ruleE (n : Int) (r : Rul) : Int := if anyB (n - 1) [r.gate, r.other] then 4 else if r.gate = r.other then 2 else if anyB 5000 [r.lo, r.hi] || decide (r.hi < r.lo) then 7 else 0
/-- What CheckSet returns. -/
def setE (s : SetV) : Int × Int × Int :=
  if outB s.gates.length 1 6 then (1, 0, 3) else
  if (gscan s.gates [] 0).2 ≠ 0 then (1, (gscan s.gates [] 0).1, (gscan s.gates [] 0).2) else
  if 12 < s.rules.length then (2, 0, 3) else
  if (scan (ruleE s.gates.length) s.rules 0).2 ≠ 0 then (2, (scan (ruleE s.gates.length) s.rules 0).1, (scan (ruleE s.gates.length) s.rules 0).2) else (0, 0, 0)

theorem gscan_step {l : List GateV} {k : Nat} (h : k < l.length) (h0 : gateE (l.take k) l[k] = 0) : gscan (l.drop k) (l.take k) (k : Int) = gscan (l.drop (k + 1)) (l.take (k + 1)) ((k + 1 : Nat) : Int) := by
  rw [drop_step h, gscan, if_pos h0, List.take_succ_eq_append_getElem h]; rfl
theorem gscan_hit {l : List GateV} {k : Nat} (h : k < l.length) (h0 : gateE (l.take k) l[k] ≠ 0) : gscan (l.drop k) (l.take k) (k : Int) = ((k : Int), gateE (l.take k) l[k]) := by
  rw [drop_step h, gscan, if_neg h0]
theorem gscan_out {l : List GateV} {k : Nat} (h : ¬ k < l.length) : gscan (l.drop k) (l.take k) (k : Int) = (0, 0) := by
  rw [List.drop_eq_nil_of_le (by omega)]; rfl

/-! ### the set of names -/
/-- The key that a name reads as. -/
abbrev nmKey (g : GateV) : Lit := .string g.nm.data.toList
/-- The set of the names. -/
def nmSet (l : List GateV) : DataW Unit := Maps.setOf (.lit (.bool true)) (l.map nmKey)

theorem nmSet_snoc (l : List GateV) (g : GateV) : nmSet (l ++ [g]) = (nmSet l).put (nmKey g) (.lit (.bool true)) := by
  simp [nmSet, Maps.setOf_snoc]

theorem isMap_fold (u : DataW Unit) : ∀ (l : List Lit) (m : DataW Unit), Maps.IsMap m → Maps.IsMap (l.foldl (fun m x => m.put x u) m)
  | [], _, h => h
  | x :: r, m, h => isMap_fold u r _ (h.put x u)

theorem atKey_fold (u z : DataW Unit) (k : Lit) (hk : WideAt.IsKeyLit k) : ∀ (l : List Lit) (m : DataW Unit), Maps.IsMap m → (m.atKey k z = u ∨ m.atKey k z = z) →
    (k ∈ l → (l.foldl (fun m x => m.put x u) m).atKey k z = u) ∧ (k ∉ l → (l.foldl (fun m x => m.put x u) m).atKey k z = m.atKey k z)
  | [], m, _, _ => ⟨fun h => (nomatch h), fun _ => rfl⟩
  | x :: r, m, hm, h => by
    rw [List.foldl_cons]
    by_cases e : k = x
    · subst e
      have e1 := Maps.atKey_put_same hm hk u z
      obtain ⟨h1, h2⟩ := atKey_fold u z k hk r (m.put k u) (hm.put k u) (.inl e1)
      refine ⟨fun _ => ?_, fun hn => absurd (by simp) hn⟩
      by_cases hr : k ∈ r
      · exact h1 hr
      · rw [h2 hr, e1]
    · have e1 : (m.put x u).atKey k z = m.atKey k z := Maps.atKey_put_other e u z
      obtain ⟨h1, h2⟩ := atKey_fold u z k hk r (m.put x u) (hm.put x u) (by rw [e1]; exact h)
      refine ⟨fun hi => ?_, fun hn => ?_⟩
      · rcases List.mem_cons.1 hi with hi | hi
        · exact absurd hi e
        · exact h1 hi
      · rw [h2 (fun hi => hn (List.mem_cons_of_mem _ hi)), e1]

theorem seenB_iff (l : List GateV) (g : GateV) : seenB l g.nm = true ↔ nmKey g ∈ l.map nmKey := by
  unfold seenB
  rw [List.any_eq_true]
  simp only [decide_eq_true_eq, List.mem_map]
  constructor
  · rintro ⟨x, hx, he⟩
    exact ⟨x, hx, by rw [nmKey, nmKey, he]⟩
  · rintro ⟨x, hx, he⟩
    refine ⟨x, hx, ?_⟩
    simp only [nmKey, Lit.string.injEq] at he
    exact ByteArray.ext (Array.toList_inj.1 he)

theorem nmSet_at (l : List GateV) (g : GateV) : (nmSet l).atKey (nmKey g) (.lit (.bool false)) = .lit (.bool (seenB l g.nm)) := by
  unfold nmSet Maps.setOf
  obtain ⟨h1, h2⟩ := atKey_fold (.lit (.bool true)) (.lit (.bool false)) (nmKey g) (by trivial) (l.map nmKey) _ Maps.isMap_empty (.inr rfl)
  by_cases h : seenB l g.nm = true
  · rw [h, h1 ((seenB_iff l g).1 h)]
  · rw [h2 (fun hi => h ((seenB_iff l g).2 hi))]
    simp only [Bool.not_eq_true] at h
    rw [h]; rfl

/-- The set of names lies in block b. -/
def NamesAt (w : World) (b : Nat) (l : List GateV) : Prop := w.ownsMap Tryz.prog 9 (plainElem Tryz.prog 4) b l.length (nmSet l)

theorem NamesAt.below {w w' : World} {b B : Nat} {l : List GateV} (h : NamesAt w b l) (hb : Below B w w') (hB : b < B) : NamesAt w' b l := by
  obtain ⟨es, clock, h1, h2⟩ := h
  exact ⟨es, clock, (hb.block b hB).trans h1, h2⟩
theorem namesAt_new (w : World) : NamesAt (w.alloc (.map #[] 0)) w.heap.size [] := World.ownsMap_made _ _ _ _

theorem plainElem_bool_inv {P : Program} {e : TypeId} (he : P.underlying e = some .bool) {v : Value} {z : DataW Unit × List MemPlace} (h : plainElem P e v = some z) : ∃ x, v = .bool x ∧ z = (.lit (.bool x), []) := by
  unfold plainElem at h
  rw [he] at h
  cases v <;> simp at h
  exact ⟨_, rfl, h.symm⟩

theorem zeroBool (w : World) : (zeroValue 4).run Tryz.prog w = .ok (.bool false) w := by kernel_rfl

theorem names_look {w : World} {b : Nat} {l : List GateV} {g : GateV} (h : NamesAt w b l) (hn : g.nm.size ≤ maxLen) :
    (Instr.lookup 85 (.map (some b)) (.string g.nm) false).run Tryz.prog w = .ok (.bool (seenB l g.nm)) w := by
  have hkey := WideMaps.keyOf_string_mk (P := Tryz.prog) Tryz.underlying9 hn
  obtain ⟨v, ps, hrun, hv⟩ := World.ownsMap.lookup h (Maps.string_keyed Tryz.underlying9) Tryz.underlying85 (zeroBool w) (plainElem_bool Tryz.underlying4 false) hkey
  obtain ⟨c, rfl, hc⟩ := plainElem_bool_inv Tryz.underlying4 hv
  simp only [Prod.mk.injEq] at hc
  rw [nmSet_at l g] at hc
  simp at hc
  rw [hrun, hc.1]
end Go.Proofs.YtgfdindlihfidaaGreat
