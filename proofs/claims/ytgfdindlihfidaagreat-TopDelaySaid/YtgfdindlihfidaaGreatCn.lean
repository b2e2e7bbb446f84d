/-
  The closed task in memory: where its lists lie, the cells of its game.
-/
import Derived.Test.YtgfdindlihfidaaGreatZk
import Derived.Test.YtgfdindlihfidaaGreatAp
namespace Go.Proofs.YtgfdindlihfidaaGreat
open Go.RowKit Go.Shelf Go.Sort
set_option linter.unusedSimpArgs false
set_option linter.unusedVariables false

theorem IntsAt.rowAt {w : World} {a : Option Addr} {l : List Int} (h : IntsAt w a l) (hl : 0 < l.length) : ∃ b off, a = some ⟨b, off, none⟩ ∧ b < w.heap.size ∧ ∀ k, k < l.length → w.cell? ⟨b, off + k, none⟩ = some (.int .i64 ((l[k]?).getD 0)) := by
  rcases h.2 with h | ⟨b, off, h1, h2, h3⟩
  · rw [h] at hl; exact absurd hl (by simp)
  · exact ⟨b, off, h1, h2, h3⟩
/-- Where the lists of the closed task lie, and those of its history k. -/
structure LMem (w0 : World) (t : TaskV) (k hb ho vb vo vC rb ro ub uo : Nat) : Prop where
  hA : t.hA = some ⟨hb, ho, none⟩
  rA : t.bas.rA = some ⟨rb, ro, none⟩
  uA : t.rA = some ⟨ub, uo, none⟩
  lt : hb < w0.heap.size ∧ vb < w0.heap.size ∧ rb < w0.heap.size ∧ ub < w0.heap.size
  row : w0.cell? ⟨hb, ho + k * 2 + 1, none⟩ = some (.slice (some ⟨vb, vo, none⟩) 6 vC)
  val : ∀ i, i < 6 → w0.cell? ⟨vb, vo + i, none⟩ = some (.int .i64 (hAt k i))
  low : w0.cell? ⟨rb, ro, none⟩ = some (.int .i64 (-1000))
  riv : ∀ i, i < 6 → w0.cell? ⟨ub, uo + i, none⟩ = some (.int .i64 60000)
theorem LawT.mem {w0 : World} {t : TaskV} {n : Nat} (h : LawT t n) (h0 : t.Ok w0) {k : Nat} (hk : k < n) : ∃ hb ho vb vo vC rb ro ub uo, LMem w0 t k hb ho vb vo vC rb ro ub uo := by
  have hkl : k < t.hists.length := by rw [h.len]; exact hk
  obtain ⟨hb, ho, hA, hlt, hrow⟩ := h0.hists.row hkl
  obtain ⟨e1, e2⟩ := h.hist k hkl
  obtain ⟨rb, ro, rA, rlt, rrow⟩ := h0.bas.rows.row (k := 0) (by rw [h.rows]; simp)
  have hi := h0.hists.2.1 _ (List.getElem_mem hkl)
  rw [e2] at hi
  obtain ⟨vb, vo, vA, vlt, vrow⟩ := hi.rowAt (by rw [hvals_len]; omega)
  obtain ⟨ub, uo, uA, ult, urow⟩ := h0.river.rowAt (by rw [h.river]; simp)
  have r1 := (hrow k hkl).2
  rw [vA, e2, hvals_len] at r1
  have r2 := (rrow 0 (by rw [h.rows]; simp)).1
  simp only [h.rows, List.getElem_cons_zero, Nat.zero_mul, Nat.add_zero] at r2
  refine ⟨hb, ho, vb, vo, _, rb, ro, ub, uo, ⟨hA, rA, uA, ⟨hlt, vlt, rlt, ult⟩, r1, fun i hi => ?_, r2, fun i hi => ?_⟩⟩
  · exact vrow i (by rw [hvals_len]; exact hi)
  · have r3 := urow i (by rw [h.river]; exact hi)
    rw [r3, h.river]
    have : ∀ i < 6, (([60000, 60000, 60000, 60000, 60000, 60000] : List Int)[i]?).getD 0 = 60000 := by decide
    rw [this i hi]
section
variable {w0 V : World} {t : TaskV} {n G M k hb ho vb vo vC rb ro ub uo : Nat} {c : List Value}
theorem gc0 (hL : LawT t n) (hm : LMem w0 t k hb ho vb vo vC rb ro ub uo) (h : GmS w0 t n G M c V) : V.cell? ⟨G, 0, none⟩ = some (.slice (some ⟨rb, ro, none⟩) 3 t.bas.rC) := by
  rw [(h.game.cell 0 _ rfl : V.cell? ⟨G, 0, none⟩ = some (.slice t.bas.rA t.bas.rows.length t.bas.rC)), hm.rA, hL.rows]; rfl
theorem gc1 (hL : LawT t n) (h : GmS w0 t n G M c V) : V.cell? ⟨G, 1, none⟩ = some (.int .i64 100) := by rw [(h.game.cell 1 _ rfl : V.cell? ⟨G, 1, none⟩ = some (.int .i64 t.bas.leak)), hL.leak]
theorem gc2 (hL : LawT t n) (h : GmS w0 t n G M c V) : V.cell? ⟨G, 2, none⟩ = some (.int .i64 3000) := by rw [(h.game.cell 2 _ rfl : V.cell? ⟨G, 2, none⟩ = some (.int .i64 t.bas.crest)), hL.crest]
theorem gc3 (hL : LawT t n) (h : GmS w0 t n G M c V) : V.cell? ⟨G, 3, none⟩ = some (.int .i64 500) := by rw [(h.game.cell 3 _ rfl : V.cell? ⟨G, 3, none⟩ = some (.int .i64 t.bas.over)), hL.over]
theorem gc4 (hL : LawT t n) (h : GmS w0 t n G M c V) : V.cell? ⟨G, 4, none⟩ = some (.slice t.bas.pA 0 t.bas.pC) := by
  have e : t.bas.pols.length = 0 := by rw [hL.pols]; rfl
  rw [(h.game.cell 4 _ rfl : V.cell? ⟨G, 4, none⟩ = some (.slice t.bas.pA t.bas.pols.length t.bas.pC)), e]
theorem gc5 (hL : LawT t n) (h : GmS w0 t n G M c V) : V.cell? ⟨G, 5, none⟩ = some (.slice none 0 0) := by
  have e : t.filled.length = 0 := by rw [hL.filled]; rfl
  rw [(h.game.cell 5 _ rfl : V.cell? ⟨G, 5, none⟩ = some (.slice t.fA t.filled.length t.fC)), e, hL.fA, hL.fC]
theorem gc6 (hL : LawT t n) (hm : LMem w0 t k hb ho vb vo vC rb ro ub uo) (h : GmS w0 t n G M c V) : V.cell? ⟨G, 6, none⟩ = some (.slice (some ⟨hb, ho, none⟩) n t.hC) := by
  rw [(h.game.cell 6 _ rfl : V.cell? ⟨G, 6, none⟩ = some (.slice t.hA t.hists.length t.hC)), hm.hA, hL.len]
theorem gc7 (hL : LawT t n) (hm : LMem w0 t k hb ho vb vo vC rb ro ub uo) (h : GmS w0 t n G M c V) : V.cell? ⟨G, 7, none⟩ = some (.slice (some ⟨ub, uo, none⟩) 6 t.rC) := by
  rw [(h.game.cell 7 _ rfl : V.cell? ⟨G, 7, none⟩ = some (.slice t.rA t.river.length t.rC)), hm.uA, hL.river]; rfl
theorem gc8 (hL : LawT t n) (h : GmS w0 t n G M c V) : V.cell? ⟨G, 8, none⟩ = some (.int .i64 0) := by rw [(h.game.cell 8 _ rfl : V.cell? ⟨G, 8, none⟩ = some (.int .i64 t.out)), hL.out]
theorem gc9 (hL : LawT t n) (h : GmS w0 t n G M c V) : V.cell? ⟨G, 9, none⟩ = some (.int .i64 800) := by rw [(h.game.cell 9 _ rfl : V.cell? ⟨G, 9, none⟩ = some (.int .i64 t.limit)), hL.limit]
theorem gc10 (hL : LawT t n) (h : GmS w0 t n G M c V) : V.cell? ⟨G, 10, none⟩ = some (.int .i64 1) := by rw [(h.game.cell 10 _ rfl : V.cell? ⟨G, 10, none⟩ = some (.int .i64 t.delay)), hL.delay]
theorem gc11 (h : GmS w0 t n G M c V) : V.cell? ⟨G, 11, none⟩ = some (.int .i64 10) := h.game.cell 11 _ rfl
theorem gc12 (hL : LawT t n) (h : GmS w0 t n G M c V) : V.cell? ⟨G, 12, none⟩ = some (.int .i64 6) := by
  rw [(h.game.cell 12 _ rfl : V.cell? ⟨G, 12, none⟩ = some (.int .i64 (t.river.length : Int))), hL.river]; rfl
theorem gc13 (h : GmS w0 t n G M c V) : V.cell? ⟨G, 13, none⟩ = some (.int .i64 5) := h.game.cell 13 _ rfl
theorem gc14 (h : GmS w0 t n G M c V) : V.cell? ⟨G, 14, none⟩ = some (.map (some M)) := h.game.cell 14 _ rfl
abbrev lawBas (t : TaskV) (rb ro : Nat) : Value := .agg #[.slice (some ⟨rb, ro, none⟩) 3 t.bas.rC, .int .i64 100, .int .i64 3000, .int .i64 500, .slice t.bas.pA 0 t.bas.pC]
theorem law_bas (hL : LawT t n) (hm : LMem w0 t k hb ho vb vo vC rb ro ub uo) : t.bas.val = lawBas t rb ro := by
  have e : t.bas.pols.length = 0 := by rw [hL.pols]; rfl
  have e2 : t.bas.rows.length = 3 := by rw [hL.rows]; rfl
  show Value.agg #[.slice t.bas.rA t.bas.rows.length t.bas.rC, .int .i64 t.bas.leak, .int .i64 t.bas.crest, .int .i64 t.bas.over, .slice t.bas.pA t.bas.pols.length t.bas.pC] = _
  rw [e, e2, hm.rA, hL.leak, hL.crest, hL.over]
theorem lcell {b o : Nat} {v : Value} (h : w0.cell? ⟨b, o, none⟩ = some v) (hlt : b < w0.heap.size) (hb : Below w0.heap.size w0 V) : V.cell? ⟨b, o, none⟩ = some v := (hb.cell (p := ⟨b, o, none⟩) hlt).trans h
/-- Volume, Step, Level at the closed task. -/
theorem law_volume (hL : LawT t n) (hm : LMem w0 t k hb ho vb vo vC rb ro ub uo) (hok : t.Ok V) :
    Calls Tryz.prog 88 #[lawBas t rb ro, .int .i64 (hAt k 1)] V fun e w' => e = .returned (.tuple #[.int .i64 (vAt k 0), .int .i64 0]) ∧ Below V.heap.size V w' := by
  have key : ∀ k < 2, (-1000 ≤ hAt k 1 ∧ 0 ≤ hAt k 1 ∧ hAt k 1 ≤ 20000) ∧ ((hAt k 1 - 0) * (5000000 - 1000000)).tdiv (2000 - 0) = vAt k 0 - 1000000 ∧ (0 ≤ vAt k 0 ∧ vAt k 0 ≤ 1000000000) := by decide
  rw [← law_bas hL hm]
  have fin : ∀ k < 2, Calls Tryz.prog 88 #[t.bas.val, .int .i64 (hAt k 1)] V fun e w' => e = .returned (.tuple #[.int .i64 (vAt k 0), .int .i64 0]) ∧ Below V.heap.size V w' := fun k hk => by
    obtain ⟨⟨a1, a2, a3⟩, a4, a5⟩ := key k hk
    exact bvolume_any t.bas ⟨-1000, 0⟩ ⟨0, 1000000⟩ ⟨2000, 5000000⟩ _ _ V hok.bas hL.bgood hL.rows a1 a2 a3 (by decide) (by decide) (by decide) (by decide) a4 a5
  match k with
  | 0 => exact fin 0 (by decide)
  | _ + 1 => exact fin 1 (by decide)
theorem law_Step (hL : LawT t n) (hm : LMem w0 t k hb ho vb vo vC rb ro ub uo) (hok : t.Ok V) {j : Nat} (hj : j < 4) :
    ∃ q, Calls Tryz.prog 89 #[lawBas t rb ro, stateV (vAt k j), tickV (hAt k (j + 1)) 60000] V fun e w' => e = .returned (.tuple #[stateV (vAt k (j + 1)), flowsV 60000 q, .int .i64 0]) ∧ Below V.heap.size V w' := by
  rw [← law_bas hL hm]
  have hs := law_step hL k j hj
  have e : vAt k j + 60000 + (vAt k (j + 1) - vAt k j - 60000) = vAt k (j + 1) := by omega
  have h := bStep_any t.bas _ _ _ _ _ _ _ V hok.bas hs (by have := hs.s_under; have := hs.s_vol; have := hs.s_up; omega)
  rw [e] at h
  exact ⟨_, h⟩
def sLo (k j : Nat) : Int := (vAt k j - 1000000) * 2000 / 4000000
def sHi (k j : Nat) : Int := -(-((vAt k j - 1000000) * 2000) / 4000000)
theorem law_Level (hL : LawT t n) (hm : LMem w0 t k hb ho vb vo vC rb ro ub uo) (hok : t.Ok V) {j : Nat} (hj : 1 ≤ j ∧ j ≤ 4) :
    Calls Tryz.prog 87 #[lawBas t rb ro, .int .i64 (vAt k j)] V fun e w' => e = .returned (.tuple #[.agg #[.int .i64 (sLo k j), .int .i64 (sHi k j)], .int .i64 0]) ∧ Below V.heap.size V w' := by
  rw [← law_bas hL hm]
  have key : ∀ k < 2, ∀ j < 5, 1 ≤ j → (0 ≤ vAt k j ∧ 1000000 < vAt k j ∧ vAt k j < 5000000) ∧ 0 * (5000000 - 1000000) + (vAt k j - 1000000) * (2000 - 0) = (vAt k j - 1000000) * 2000 ∧ (-100000000000 ≤ (vAt k j - 1000000) * 2000 ∧ (vAt k j - 1000000) * 2000 ≤ 100000000000) := by decide
  have fin : ∀ k < 2, Calls Tryz.prog 87 #[t.bas.val, .int .i64 (vAt k j)] V fun e w' => e = .returned (.tuple #[.agg #[.int .i64 (sLo k j), .int .i64 (sHi k j)], .int .i64 0]) ∧ Below V.heap.size V w' := fun k hk => by
    obtain ⟨⟨a1, a2, a3⟩, a4, a5⟩ := key k hk j (by omega) hj.1
    exact blevel_any t.bas ⟨-1000, 0⟩ ⟨0, 1000000⟩ ⟨2000, 5000000⟩ _ _ 4000000 V hok.bas hL.bgood hL.rows a1 a2 a3 (by decide) (by decide) (by decide) a4 (by decide) a5 (by decide)
  match k with
  | 0 => exact fin 0 (by decide)
  | _ + 1 => exact fin 1 (by decide)
theorem sHi_le {k j : Nat} (hj : 1 ≤ j ∧ j ≤ 3) : sHi k j ≤ 800 := by
  have key : ∀ k < 2, ∀ j < 4, 1 ≤ j → sHi k j ≤ 800 := by decide
  match k with
  | 0 => exact key 0 (by decide) j (by omega) hj.1
  | _ + 1 => exact key 1 (by decide) j (by omega) hj.1
end

theorem A.intInfo : (Tryz.prog.info? 3).map (fun i => (i.zero, i.size, i.bytes)) = some (some (.int .i64 0), 1, 8) := by kernel_rfl
theorem step_app_int {w : World} {ops : Array Oper} {o : Oper} {a : Act} {K : Act → World → Prop} {Q : Exit → Act → World → Prop} {E : Prop} (hw : Region.wanted o (yielded ops a.tmps) = true) (s x : Operand)
    (ho : o.op = .call { callee := .builtin .append, args := #[s, x], argTypes := #[33, 33] })
    (base n : Nat) (v : Value) (xs : List Value) (hs : a.eval s = v) (hown : w.ownsRow base 3 1 v n xs) (D : Nat) (u : Value) (hx : a.eval x = .slice (some ⟨D, 0, none⟩) 1 1) (hD : w.cell? ⟨D, 0, none⟩ = some u) (h1 : u.oneCell' = true) (hb : n + 1 ≤ 4000) (hbase : base ≤ w.heap.size)
    (h : ∀ v' w', w'.ownsRow base 3 1 v' (n + 1) (xs ++ [u]) → w.grownBy w' v.ownBlock → K (a.put o.dst v') w') :
    if Region.wanted o (yielded ops a.tmps) = true then Oper.wp Tryz.prog o a w K Q else E := by
  rw [if_pos hw]
  obtain ⟨i1, hi, hz, hsz, hby⟩ := info_parts A.intInfo
  obtain ⟨v', w', hrun, h2, h3, _, _⟩ := run_append_own_at (P := Tryz.prog) w base 33 o.type 3 i1 _ 1 8 Tryz.underlying33 hi hz hsz hby rfl (by decide) v n xs hown ⟨D, 0, none⟩ 1 1 [u] rfl (fun j y hy => by
    match j with
    | 0 => obtain rfl : u = y := by simpa using hy
           exact hD
    | _ + 1 => simp at hy) (fun y hy => by obtain rfl : y = u := by simpa using hy
                                           exact h1) (by unfold maxLen; omega) (by omega) hbase
  unfold Oper.wp execOp
  simp only [ho, resolve, invoke, builtin, Sem.run_bind, Sem.run_pure, Result.andThen_ok, List.map_toArray, List.map_cons, List.map_nil, hs, hx, hrun]
  exact h v' w' h2 h3
end Go.Proofs.YtgfdindlihfidaaGreat
