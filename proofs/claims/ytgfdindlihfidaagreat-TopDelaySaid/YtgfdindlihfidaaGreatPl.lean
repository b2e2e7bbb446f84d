/-
  Plain data of the gate chapter, with no program in sight: gates, sensors, states, steps, as Lean structures, and how each stands as a value.
-/
import Derived.WalkKit
namespace Go.Proofs.YtgfdindlihfidaaGreat
open Go.RowKit

/-- A sensor. -/
structure Sen where
  kind : Int
  at_ : Int
  tol : Int

abbrev Sen.cells (s : Sen) : Array Value := #[.int .i64 s.kind, .int .i64 s.at_, .int .i64 s.tol]
abbrev Sen.val (s : Sen) : Value := .agg s.cells

/-- A gate as it stands by value: the numbers, the text of its name, and where its two lists lie (with what they hold). -/
structure GateV where
  nm : ByteArray
  kind : Int
  travel : Int
  ownA : Option Addr
  ownC : Nat
  own : List Int
  open_ : Int
  shut : Int
  height : Int
  float : Int
  push : Int
  slide : Int
  sealing : Int
  drive : Int
  brake : Int
  speed : Int
  gravity : Int
  use : Int
  pump : Int
  cap : Int
  slack : Int
  senA : Option Addr
  senC : Nat
  sens : List Sen
  wrong : Int

/-- The cells of a gate. -/
abbrev GateV.cells (g : GateV) : Array Value :=
  #[.string g.nm, .int .i64 g.kind, .int .i64 g.travel, .slice g.ownA g.own.length g.ownC, .int .i64 g.open_, .int .i64 g.shut, .int .i64 g.height, .int .i64 g.float, .int .i64 g.push, .int .i64 g.slide, .int .i64 g.sealing, .int .i64 g.drive, .int .i64 g.brake, .int .i64 g.speed, .int .i64 g.gravity, .int .i64 g.use, .int .i64 g.pump, .int .i64 g.cap, .int .i64 g.slack, .slice g.senA g.sens.length g.senC, .int .i64 g.wrong]
abbrev GateV.val (g : GateV) : Value := .agg g.cells

/-- A state. -/
structure St where
  pos : Int
  charge : Int
  bolted : Bool
  deriving DecidableEq
abbrev St.cells (s : St) : Array Value := #[.int .i64 s.pos, .int .i64 s.charge, .bool s.bolted]
abbrev St.val (s : St) : Value := .agg s.cells

/-- A step. -/
structure Stp where
  order : Int
  power : Bool
  outer : Int
  inner : Int
  deriving DecidableEq
abbrev Stp.cells (t : Stp) : Array Value := #[.int .i64 t.order, .bool t.power, .int .i64 t.outer, .int .i64 t.inner]
abbrev Stp.val (t : Stp) : Value := .agg t.cells

/-- What came of a step. -/
structure Mvd where
  refused : Int
  moved : Int
  oil : Int
  deriving DecidableEq
abbrev Mvd.cells (m : Mvd) : Array Value := #[.int .i64 m.refused, .int .i64 m.moved, .int .i64 m.oil]
abbrev Mvd.val (m : Mvd) : Value := .agg m.cells

/-- A list of numbers lies in memory, at an address. -/
def IntsAt (w : World) (a : Option Addr) (l : List Int) : Prop :=
  l.length ≤ maxLen ∧ (l = [] ∨ ∃ b off, a = some ⟨b, off, none⟩ ∧ b < w.heap.size ∧ ∀ k, k < l.length → w.cell? ⟨b, off + k, none⟩ = some (.int .i64 (l[k]?.getD 0)))

/-- A list of sensors lies in memory, at an address. -/
def SensAt (w : World) (a : Option Addr) (l : List Sen) : Prop :=
  l.length ≤ maxLen ∧ (l = [] ∨ ∃ b off, a = some ⟨b, off, none⟩ ∧ b < w.heap.size ∧ ∀ k, (h : k < l.length) →
    w.cell? ⟨b, off + k * 3, none⟩ = some (.int .i64 l[k].kind) ∧ w.cell? ⟨b, off + k * 3 + 1, none⟩ = some (.int .i64 l[k].at_) ∧ w.cell? ⟨b, off + k * 3 + 2, none⟩ = some (.int .i64 l[k].tol))

theorem IntsAt.below {w w' : World} {a : Option Addr} {l : List Int} {B : Nat} (h : IntsAt w a l) (hb : Below B w w') (hB : w.heap.size ≤ B) : IntsAt w' a l := by
  refine ⟨h.1, ?_⟩
  rcases h.2 with h | ⟨b, off, rfl, hlt, hc⟩
  · exact .inl h
  · exact .inr ⟨b, off, rfl, Nat.lt_of_lt_of_le hlt hb.size, fun k hk => (hb.cell (p := ⟨b, off + k, none⟩) (Nat.lt_of_lt_of_le hlt hB)).trans (hc k hk)⟩

theorem SensAt.below {w w' : World} {a : Option Addr} {l : List Sen} {B : Nat} (h : SensAt w a l) (hb : Below B w w') (hB : w.heap.size ≤ B) : SensAt w' a l := by
  refine ⟨h.1, ?_⟩
  rcases h.2 with h | ⟨b, off, rfl, hlt, hc⟩
  · exact .inl h
  · refine .inr ⟨b, off, rfl, Nat.lt_of_lt_of_le hlt hb.size, fun k hk => ?_⟩
    obtain ⟨h1, h2, h3⟩ := hc k hk
    exact ⟨(hb.cell (p := ⟨b, off + k * 3, none⟩) (Nat.lt_of_lt_of_le hlt hB)).trans h1, (hb.cell (p := ⟨b, off + k * 3 + 1, none⟩) (Nat.lt_of_lt_of_le hlt hB)).trans h2, (hb.cell (p := ⟨b, off + k * 3 + 2, none⟩) (Nat.lt_of_lt_of_le hlt hB)).trans h3⟩

/-- A gate whose lists lie in memory. -/
structure GateV.Ok (g : GateV) (w : World) : Prop where
  own : IntsAt w g.ownA g.own
  sens : SensAt w g.senA g.sens
  nm : g.nm.size ≤ maxLen

theorem GateV.Ok.below {g : GateV} {w w' : World} {B : Nat} (h : g.Ok w) (hb : Below B w w') (hB : w.heap.size ≤ B) : g.Ok w' :=
  ⟨h.own.below hb hB, h.sens.below hb hB, h.nm⟩
end Go.Proofs.YtgfdindlihfidaaGreat
