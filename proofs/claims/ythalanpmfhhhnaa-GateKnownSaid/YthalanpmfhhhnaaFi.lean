/-
  The contract of gate.first over any list of faults: the error of the first closure that answers true.
-/
import Derived.Test.YthalanpmfhhhnaaLf
import Derived.Laws.EntriesVeiled
import Derived.Shelf.Abstract
namespace Go.Proofs.Ythalanpmfhhhnaa
open Go.RowKit
set_option linter.unusedSimpArgs false
set_option linter.unusedVariables false

/-- A fault: the closure (function and captured variables), its error, and what it answers. -/
structure Flt where
  fid : FuncId
  caps : Array Value
  e : Int
  b : Bool
abbrev Flt.fn (f : Flt) : Value := .func (.func f.fid) #[] f.caps

/-- The closure answers what is said, from each world that is as w was. -/
def Flt.Ok (f : Flt) (w : World) : Prop := Enters Try.prog f.fid ∧ ∀ W, Below w.heap.size w W → Calls Try.prog f.fid f.caps W fun e W' => e = .returned (.bool f.b) ∧ Below W.heap.size W W'

/-- The error of the first fault that there is. -/
def firstE : List Flt → Int
  | [] => 0
  | f :: l => if f.b then f.e else firstE l

/-- Faults lie in memory. -/
def FltsAt (w : World) (b off : Nat) (l : List Flt) : Prop :=
  b < w.heap.size ∧ ∀ k, (h : k < l.length) → w.cell? ⟨b, off + k * 2, none⟩ = some l[k].fn ∧ w.cell? ⟨b, off + k * 2 + 1, none⟩ = some (.int .i64 l[k].e)

/-- Each closure answers what is said, if those before it answer false. -/
def FltsOk (w : World) : List Flt → Prop
  | [] => True
  | f :: l => f.Ok w ∧ (f.b = false → FltsOk w l)



set_option maxRecDepth 100000 in
set_option maxHeartbeats 800000 in
theorem first_any (b off : Nat) (l : List Flt) (c : Nat) (w : World) (hm : l.length ≤ 100) (hl : FltsAt w b off l) (hok : FltsOk w l) :
    Calls Try.prog 51 #[.slice (some ⟨b, off, none⟩) l.length c] w fun e w' => e = .returned (.int .i64 (firstE l)) ∧ Below w.heap.size w w' := by
  obtain ⟨hb, hl⟩ := hl
  have Hok := Lib.hid hok
  clear hok
  go_enter Try.func51, Try.ntmps51
  go_wp2
  go_loopw [7] (fun i wr => ∃ k : Nat, k ≤ l.length ∧ i = .int .i64 k ∧ firstE (l.drop k) = firstE l ∧ FltsOk w (l.drop k) ∧ Below w.heap.size w wr) (fun i _ => l.length - (intOf i).toNat)
  case atStart => exact ⟨0, Nat.zero_le _, rfl, rfl, Hok.out, Below.refl _ _⟩
  case round =>
    obtain ⟨k, hk, rfl, hix, hok, hbl⟩ := hrel
    have Hix := Lib.hid hix
    have Hok2 := Lib.hid hok
    clear hix hok Hok
    by_cases hlt : k < l.length
    · obtain ⟨hc1, hc2⟩ := hl k hlt
      have hs := drop_step hlt
      have Hs := Lib.hid hs
      have hko := Hok2.out
      rw [hs] at hko
      obtain ⟨⟨hen, hcall⟩, hnext⟩ := hko
      have Hcall := Lib.hid hcall
      have Hnext := Lib.hid hnext
      clear hs hl hcall hnext
      have hd1 := (hbl.cell (p := ⟨b, off + k * 2, none⟩) hb).trans hc1
      have hd2 := (hbl.cell (p := ⟨b, off + k * 2 + 1, none⟩) hb).trans hc2
      clear hc1 hc2
      unfold Enters at hen
      go_wp2_with fail
      refine (Hcall.out _ (hbl.alloc hbl.size _)).mono ?_
      rintro e w1 ⟨rfl, hb1⟩
      have hcc : w1.cell? ⟨wr.heap.size, 1, none⟩ = some (.int .i64 l[k].e) := (hb1.cell (p := ⟨wr.heap.size, 1, none⟩) (by simp)).trans (by simp [go_sem])
      have hb2 : Below w.heap.size w w1 := (hbl.alloc hbl.size _).trans (hb1.mono (by have := hbl.size; simp; omega))
      have Hb2 := Lib.hid hb2
      clear hb2
      by_cases hbb : l[k].b = true
      · go_wp2
        go_ret
        exact ⟨ret_int (by rw [← Hix.out, Hs.out, firstE, if_pos hbb]), Hb2.out⟩
      · simp only [Bool.not_eq_true] at hbb
        go_wp2
        go_roundw
        case rel => exact ⟨k + 1, by omega, by go_num, by rw [← Hix.out, Hs.out, firstE, hbb]; rfl, Hnext.out hbb, Hb2.out⟩
        case measure => simp [intOf]; omega
    · have hn : l.drop k = [] := List.drop_eq_nil_of_le (by omega)
      have Hn := Lib.hid hn
      clear hn hl
      go_wp2
      go_ret
      exact ⟨ret_int (by rw [← Hix.out, Hn.out]; rfl), hbl⟩
end Go.Proofs.Ythalanpmfhhhnaa
