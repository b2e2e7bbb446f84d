/-
  Forces: down, and the closing force and the friction of a machine.
-/
import Derived.Test.YtgfdindlihfidaaGreatZb
namespace Go.Proofs.YtgfdindlihfidaaGreat
open Go.RowKit
set_option linter.unusedSimpArgs false
set_option linter.unusedVariables false

/-- The numbers of a gate that is valid. -/
structure GateV.Good (g : GateV) : Prop where
  kind : 1 ≤ g.kind ∧ g.kind ≤ 3
  travel : 1 ≤ g.travel ∧ g.travel ≤ 5000
  len : 2 ≤ g.own.length ∧ g.own.length ≤ 16
  own : ∀ i : Nat, -200000 ≤ g.own[i]?.getD 0 ∧ g.own[i]?.getD 0 ≤ 200000
  open_ : -20000 ≤ g.open_ ∧ g.open_ ≤ 20000
  shut : -20000 ≤ g.shut ∧ g.shut ≤ 20000
  height : 1 ≤ g.height ∧ g.height ≤ 30000
  float : 0 ≤ g.float ∧ g.float ≤ 10000
  slide : 0 ≤ g.slide ∧ g.slide ≤ 10000
  push : -10000 ≤ g.push ∧ g.push ≤ 10000
  sealing : 0 ≤ g.sealing ∧ g.sealing ≤ 200000
  drive : 0 ≤ g.drive ∧ g.drive ≤ 200000
  brake : 0 ≤ g.brake ∧ g.brake ≤ 200000
  speed : 1 ≤ g.speed ∧ g.speed ≤ 100
  gravity : 1 ≤ g.gravity ∧ g.gravity ≤ 100
  use : 0 ≤ g.use ∧ g.use ≤ 100000
  pump : 0 ≤ g.pump ∧ g.pump ≤ 100000
  cap : 0 ≤ g.cap ∧ g.cap ≤ 100000
  slack : 0 ≤ g.slack ∧ 2 * g.slack < g.travel

def nZ (g : GateV) (p : Int) : Int := p * ((g.own.length : Int) - 1)
def kZ (g : GateV) (p : Int) : Int := min (nZ g p / g.travel) ((g.own.length : Int) - 2)
def rZ (g : GateV) (p : Int) : Int := nZ g p - kZ g p * g.travel
def ownZ' (g : GateV) (i : Int) : Int := g.own[i.toNat]?.getD 0
def own0Z (g : GateV) (p : Int) : Int := (ownZ' g (kZ g p) * (g.travel - rZ g p) + ownZ' g (kZ g p + 1) * rZ g p) / g.travel
def edgeZ (g : GateV) (p : Int) : Int := (g.open_ * (g.travel - p) + g.shut * p) / g.travel
def floatZ (g : GateV) (p o i : Int) : Int := g.float * min (max (min o i - edgeZ g p) 0) g.height / 1000
def wetZ (g : GateV) (p o i : Int) : Int := min (max (max o i - edgeZ g p) 0) g.height
def netZ (g : GateV) (p o i : Int) : Int := (if g.kind = 3 then own0Z g p + floatZ g p o i else own0Z g p - floatZ g p o i) + g.push * (o - i) / 1000
def rubZ (g : GateV) (p o i : Int) : Int := g.sealing + (g.slide * (max o i - min o i) * wetZ g p o i + 999999) / 1000000

theorem run_min_z {P : Program} (ts : Array TypeId) (t : TypeId) (x y : Int) (w : World) : (Builtin.min_ ts t #[.int .i64 x, .int .i64 y]).run P w = .ok (.int .i64 (min x y)) w := by
  rw [run_min_int2]
  congr 2
  split <;> omega
theorem run_max_z {P : Program} (ts : Array TypeId) (t : TypeId) (x y : Int) (w : World) : (Builtin.max_ ts t #[.int .i64 x, .int .i64 y]).run P w = .ok (.int .i64 (max x y)) w := by
  rw [run_max_int2]
  congr 2
  split <;> omega
attribute [local go_sem high] run_min_z run_max_z
attribute [local go_sem ↓] run_min_z run_max_z

theorem mul_bd {a b A B : Int} (h1 : -A ≤ a) (h2 : a ≤ A) (h3 : -B ≤ b) (h4 : b ≤ B) : -(A * B) ≤ a * b ∧ a * b ≤ A * B := by
  have hA : 0 ≤ A := by omega
  have hB : 0 ≤ B := by omega
  have h : (a * b).natAbs ≤ (A * B).natAbs := by
    rw [Int.natAbs_mul, Int.natAbs_mul]
    exact Nat.mul_le_mul (by omega) (by omega)
  have h2 : 0 ≤ A * B := Int.mul_nonneg hA hB
  omega
theorem mul_bd0 {a b A B : Int} (h1 : 0 ≤ a) (h2 : a ≤ A) (h3 : 0 ≤ b) (h4 : b ≤ B) : 0 ≤ a * b ∧ a * b ≤ A * B :=
  ⟨Int.mul_nonneg h1 h3, Int.mul_le_mul h2 h4 h3 (by omega)⟩

theorem quiet_add_left {P : Program} {f : FuncId} {args : Array Value} {w : World} {a n : Nat} {v : Value}
    (h : Calls P f args (w.drewN (a + n)) fun e w' => e = .returned v ∧ w.drewN (a + n) = w') :
    Calls P f args (w.drewN (a + n)) fun e w'' => e = .returned v ∧ ∃ m, w'' = w.drewN (a + m) :=
  h.mono fun _ _ ⟨he, hm⟩ => ⟨he, n, hm.symm⟩
theorem quiet_left {P : Program} {f : FuncId} {args : Array Value} {w : World} {n : Nat} {v : Value}
    (h : Calls P f args (w.drewN n) fun e w' => e = .returned v ∧ w.drewN n = w') : Calls P f args (w.drewN n) fun e w'' => e = .returned v ∧ ∃ m, w'' = w.drewN m :=
  h.mono fun _ _ ⟨he, hm⟩ => ⟨he, n, hm.symm⟩

theorem neg_div (a b : Int) (hb : 1 ≤ b) : -((-a + b - 1) / b) = a / b := by
  have h1 := Int.emod_add_mul_ediv (-a + b - 1) b
  have h2 := Int.emod_nonneg (-a + b - 1) (show b ≠ 0 by omega)
  have h3 := Int.emod_lt_of_pos (-a + b - 1) (show 0 < b by omega)
  have h4 := (Int.ediv_emod_unique (a := a) (b := b) (r := b - 1 - (-a + b - 1) % b) (q := -((-a + b - 1) / b)) (by omega)).2 ⟨by rw [Int.mul_neg]; omega, by omega, by omega⟩
  exact h4.1.symm

theorem ediv_bd {a b A : Int} (h1 : -A ≤ a) (h2 : a ≤ A) (hb : 1 ≤ b) : -A ≤ a / b ∧ a / b ≤ A := by
  constructor
  · rw [Int.le_ediv_iff_mul_le (by omega)]
    have : A * 1 ≤ A * b := Int.mul_le_mul_of_nonneg_left hb (by omega)
    rw [Int.neg_mul]; omega
  · refine Int.ediv_le_of_le_mul (by omega) ?_
    have : A * 1 ≤ A * b := Int.mul_le_mul_of_nonneg_left hb (by omega)
    omega

theorem down_any (a b : Int) (w : World) (hb : 1 ≤ b) (hb2 : b ≤ 1000000) (ha : -1000000000000 ≤ a) (ha2 : a ≤ 1000000000000) :
    Calls Tryz.prog 78 #[.int .i64 a, .int .i64 b] w fun e w' => e = .returned (.int .i64 (a / b)) ∧ w = w' := by
  by_cases h : a < 0
  · have h1 : 0 ≤ (-a + b - 1) / b := Int.ediv_nonneg (by omega) (by omega)
    have h2 : (-a + b - 1) / b ≤ -a + b - 1 := Int.ediv_le_self _ (by omega)
    go_enter Tryz.func78, Tryz.ntmps78
    go_wp2
    go_ret
    exact ⟨ret_int (neg_div a b hb), rfl⟩
  · go_enter Tryz.func78, Tryz.ntmps78
    go_wp2
    go_ret
    exact ⟨rfl, rfl⟩

/-- The cells of a machine. -/
abbrev machCells (g : GateV) (s : St) (t : Stp) (net rub oil : Int) : Array Value :=
  #[.string g.nm, .int .i64 g.kind, .int .i64 g.travel, .slice g.ownA g.own.length g.ownC, .int .i64 g.open_, .int .i64 g.shut, .int .i64 g.height, .int .i64 g.float, .int .i64 g.push, .int .i64 g.slide, .int .i64 g.sealing, .int .i64 g.drive, .int .i64 g.brake, .int .i64 g.speed, .int .i64 g.gravity, .int .i64 g.use, .int .i64 g.pump, .int .i64 g.cap, .int .i64 g.slack, .slice g.senA g.sens.length g.senC, .int .i64 g.wrong,
    .int .i64 s.pos, .int .i64 s.charge, .bool s.bolted, .int .i64 t.order, .bool t.power, .int .i64 t.outer, .int .i64 t.inner, .int .i64 net, .int .i64 rub, .int .i64 oil]

/-- A machine lies in block M. -/
structure MachIn (w : World) (M : Nat) (g : GateV) (s : St) (t : Stp) (net rub oil : Int) : Prop where
  lt : M < w.heap.size
  blk : w.heap[M]? = some (.cells (machCells g s t net rub oil) 136 (0, 0))

set_option maxRecDepth 100000 in
set_option maxHeartbeats 4000000 in
theorem forces_any (M : Nat) (g : GateV) (s : St) (t : Stp) (net rub oil : Int) (p : Int) (w : World) (hm : MachIn w M g s t net rub oil) (hown : IntsAt w g.ownA g.own) (hg : g.Good)
    (hp : 0 ≤ p) (hp2 : p ≤ g.travel) (ho : -20000 ≤ t.outer ∧ t.outer ≤ 20000) (hi : -20000 ≤ t.inner ∧ t.inner ≤ 20000) :
    Calls Tryz.prog 62 #[.pointer (some ⟨M, 0, none⟩), .int .i64 p] w fun e w' => e = .returned (.tuple #[.int .i64 (netZ g p t.outer t.inner), .int .i64 (rubZ g p t.outer t.inner)]) ∧ ∃ n, w' = w.drewN n := by
  have cell := fun (k : Nat) (v : Value) (h : _) => (cell_of_row w M k _ _ _ hm.blk).trans (show _ = some v from h)
  have c2 : w.cell? ⟨M, 2, none⟩ = some (.int .i64 g.travel) := cell 2 _ rfl
  have c1 : w.cell? ⟨M, 1, none⟩ = some (.int .i64 g.kind) := cell 1 _ rfl
  have c4 : w.cell? ⟨M, 4, none⟩ = some (.int .i64 g.open_) := cell 4 _ rfl
  have c5 : w.cell? ⟨M, 5, none⟩ = some (.int .i64 g.shut) := cell 5 _ rfl
  have c6 : w.cell? ⟨M, 6, none⟩ = some (.int .i64 g.height) := cell 6 _ rfl
  have c7 : w.cell? ⟨M, 7, none⟩ = some (.int .i64 g.float) := cell 7 _ rfl
  have c8 : w.cell? ⟨M, 8, none⟩ = some (.int .i64 g.push) := cell 8 _ rfl
  have c9 : w.cell? ⟨M, 9, none⟩ = some (.int .i64 g.slide) := cell 9 _ rfl
  have c10 : w.cell? ⟨M, 10, none⟩ = some (.int .i64 g.sealing) := cell 10 _ rfl
  have c26 : w.cell? ⟨M, 26, none⟩ = some (.int .i64 t.outer) := cell 26 _ rfl
  have c27 : w.cell? ⟨M, 27, none⟩ = some (.int .i64 t.inner) := cell 27 _ rfl
  have c3 : w.cell? ⟨M, 3, none⟩ = some (.slice g.ownA g.own.length g.ownC) := cell 3 _ rfl
  clear cell
  have t1 := hg.travel.1
  have t2 := hg.travel.2
  have l1 := hg.len.1
  have l2 := hg.len.2
  have hg2 := Lib.hid hg
  clear hg
  have m1 : 0 ≤ p * ((g.own.length : Int) - 1) ∧ p * ((g.own.length : Int) - 1) ≤ 5000 * 15 := mul_bd0 hp (by omega) (by omega) (by omega)
  obtain ⟨m1a, m1b⟩ := m1
  go_enter Tryz.func62, Tryz.ntmps62
  go_wp2
  go_quiet (fail)
  have k0 : 0 ≤ p * ((g.own.length : Int) - 1) / g.travel := Int.ediv_nonneg m1a (by omega)
  have k1 : p * ((g.own.length : Int) - 1) / g.travel * g.travel ≤ p * ((g.own.length : Int) - 1) := Int.ediv_mul_le _ (by omega)
  have k2 : p * ((g.own.length : Int) - 1) < (p * ((g.own.length : Int) - 1) / g.travel + 1) * g.travel := Int.lt_ediv_add_one_mul_self _ (by omega)
  have k3 : p * ((g.own.length : Int) - 1) ≤ g.travel * ((g.own.length : Int) - 1) := Int.mul_le_mul_of_nonneg_right hp2 (by omega)
  generalize hk : min (p * ((g.own.length : Int) - 1) / g.travel) ((g.own.length : Int) - 2) = k
  have hkZ : k = kZ g p := by rw [← hk]; rfl
  have hkn : 0 ≤ k ∧ k ≤ (g.own.length : Int) - 2 := by omega
  have hr : 0 ≤ p * ((g.own.length : Int) - 1) - k * g.travel ∧ p * ((g.own.length : Int) - 1) - k * g.travel ≤ g.travel := by
    rcases Int.le_total (p * ((g.own.length : Int) - 1) / g.travel) ((g.own.length : Int) - 2) with h | h
    · have : k = p * ((g.own.length : Int) - 1) / g.travel := by omega
      rw [this]
      rw [Int.add_mul] at k2
      omega
    · have e : k = (g.own.length : Int) - 2 := by omega
      have h2 : k * g.travel ≤ p * ((g.own.length : Int) - 1) / g.travel * g.travel := Int.mul_le_mul_of_nonneg_right (by omega) (by omega)
      have e2 : (g.own.length : Int) - 1 = k + 1 := by omega
      have h3 : g.travel * ((g.own.length : Int) - 1) = k * g.travel + g.travel := by rw [e2, Int.mul_add, Int.mul_comm g.travel k]; omega
      omega
  have m2 : 0 ≤ k * g.travel ∧ k * g.travel ≤ 14 * 5000 := mul_bd0 hkn.1 (by omega) (by omega) t2
  obtain ⟨m2a, m2b⟩ := m2
  obtain ⟨r0, r1⟩ := hr
  have HkZ := Lib.hid hkZ
  clear hkZ hk k0 k1 k2 k3
  go_wp2
  have own := hg2.out.own
  obtain ⟨kn, rfl⟩ := Int.eq_ofNat_of_zero_le hkn.1
  obtain ⟨_, hol⟩ := hown
  rcases hol with hol | ⟨b, off, ha, hb, hol⟩
  · rw [hol] at l1; simp at l1
  have dA := hol kn (by omega)
  have dB := hol (kn + 1) (by omega)
  have bA := own kn
  have bB := own (kn + 1)
  have hA : g.own[kn]?.getD 0 = ownZ' g (kZ g p) := by rw [← HkZ.out]; rfl
  have hB : g.own[kn + 1]?.getD 0 = ownZ' g (kZ g p + 1) := by rw [← HkZ.out]; rfl
  have hrZ : p * ((g.own.length : Int) - 1) - (kn : Int) * g.travel = rZ g p := by rw [rZ, ← HkZ.out]; rfl
  rw [ha] at c3 ⊢
  generalize p * ((g.own.length : Int) - 1) - (kn : Int) * g.travel = r at *
  generalize g.own[kn]?.getD 0 = A at *
  generalize g.own[kn + 1]?.getD 0 = B at *
  have m3 := mul_bd (a := A) (b := g.travel - r) (A := 200000) (B := 5000) (by omega) (by omega) (by omega) (by omega)
  have m4 := mul_bd (a := B) (b := r) (A := 200000) (B := 5000) (by omega) (by omega) (by omega) (by omega)
  have HA := Lib.hid hA
  have HB := Lib.hid hB
  have HrZ := Lib.hid hrZ
  obtain ⟨m3a, m3b⟩ := m3
  obtain ⟨m4a, m4b⟩ := m4
  clear hA hB hrZ hol ha own bA bB
  have i0 : (0 : Int) ≤ (kn : Int) := by omega
  have i1 : (kn : Int) < (g.own.length : Int) := by omega
  have i2 : (0 : Int) ≤ (kn : Int) + 1 := by omega
  have i3 : (kn : Int) + 1 < (g.own.length : Int) := by omega
  have i4 : ((kn : Int) + 1).toNat = kn + 1 := by omega
  go_quiet ((go_at_call 78; exact quiet_add_left (down_any _ _ _ (by omega) (by omega) (by omega) (by omega))))
  have m5 := mul_bd (a := g.open_) (b := g.travel - p) (A := 20000) (B := 5000) (by have := hg2.out.open_; omega) (by have := hg2.out.open_; omega) (by omega) (by omega)
  have m6 := mul_bd (a := g.shut) (b := p) (A := 20000) (B := 5000) (by have := hg2.out.shut; omega) (by have := hg2.out.shut; omega) (by omega) (by omega)
  obtain ⟨m5a, m5b⟩ := m5
  obtain ⟨m6a, m6b⟩ := m6
  clear dA dB i0 i1 i2 i3 i4
  have hN : (A * (g.travel - r) + B * r) / g.travel = own0Z g p := by rw [own0Z, ← HA.out, ← HB.out, ← HrZ.out]
  have bN := ediv_bd (a := A * (g.travel - r) + B * r) (b := g.travel) (A := 2000000000) (by omega) (by omega) (by omega)
  go_wp2
  generalize (A * (g.travel - r) + B * r) / g.travel = N at *
  have HN := Lib.hid hN
  clear hN m3a m3b m4a m4b HA HB HrZ m2a m2b
  go_quiet ((go_at_call 78; exact quiet_add_left (down_any _ _ _ (by omega) (by omega) (by omega) (by omega))))
  have hE : (g.open_ * (g.travel - p) + g.shut * p) / g.travel = edgeZ g p := rfl
  have bE := ediv_bd (a := g.open_ * (g.travel - p) + g.shut * p) (b := g.travel) (A := 200000000) (by omega) (by omega) (by omega)
  go_wp2
  generalize (g.open_ * (g.travel - p) + g.shut * p) / g.travel = E at *
  have HE := Lib.hid hE
  clear hE m5a m5b m6a m6b
  obtain ⟨ho1, ho2⟩ := ho
  obtain ⟨hi1, hi2⟩ := hi
  go_quiet (fail)
  go_wp2
  have m7 := mul_bd0 (a := g.float) (b := min (max (min t.outer t.inner - E) 0) g.height) (A := 10000) (B := 30000) (by have := hg2.out.float; omega) (by have := hg2.out.float; omega) (by have := hg2.out.height; omega) (by have := hg2.out.height; omega)
  obtain ⟨m7a, m7b⟩ := m7
  go_quiet (fail)
  have hF : g.float * min (max (min t.outer t.inner - E) 0) g.height / 1000 = floatZ g p t.outer t.inner := by rw [floatZ, ← HE.out]
  have bF := ediv_bd (a := g.float * min (max (min t.outer t.inner - E) 0) g.height) (b := 1000) (A := 300000000) (by omega) (by omega) (by omega)
  generalize g.float * min (max (min t.outer t.inner - E) 0) g.height / 1000 = F at *
  have HF := Lib.hid hF
  clear hF m7a m7b
  have hW : min (max (max t.outer t.inner - E) 0) g.height = wetZ g p t.outer t.inner := by rw [wetZ, ← HE.out]
  have m8 := mul_bd (a := g.push) (b := t.outer - t.inner) (A := 10000) (B := 40000) (by have := hg2.out.push; omega) (by have := hg2.out.push; omega) (by omega) (by omega)
  have m9 := mul_bd0 (a := g.slide) (b := max t.outer t.inner - min t.outer t.inner) (A := 10000) (B := 40000) (by have := hg2.out.slide; omega) (by have := hg2.out.slide; omega) (by omega) (by omega)
  have bW : 0 ≤ min (max (max t.outer t.inner - E) 0) g.height ∧ min (max (max t.outer t.inner - E) 0) g.height ≤ 30000 := by have := hg2.out.height; omega
  have HW := Lib.hid hW
  clear hW
  have hse := hg2.out.sealing
  obtain ⟨m8a, m8b⟩ := m8
  obtain ⟨m9a, m9b⟩ := m9
  obtain ⟨bWa, bWb⟩ := bW
  obtain ⟨bNa, bNb⟩ := bN
  obtain ⟨bFa, bFb⟩ := bF
  obtain ⟨hse1, hse2⟩ := hse
  have m10 := mul_bd0 m9a m9b bWa bWb
  obtain ⟨m10a, m10b⟩ := m10
  have bP := ediv_bd (a := g.push * (t.outer - t.inner)) (b := 1000) (A := 400000000) (by omega) (by omega) (by omega)
  obtain ⟨bPa, bPb⟩ := bP
  have bR := ediv_bd (a := g.slide * (max t.outer t.inner - min t.outer t.inner) * min (max (max t.outer t.inner - E) 0) g.height + 999999) (b := 1000000) (A := 20000000000000) (by omega) (by omega) (by omega)
  obtain ⟨bRa, bRb⟩ := bR
  by_cases hk3 : g.kind = 3
  · have hk : (g.kind == 3) = true := by simp [hk3]
    have hres : netZ g p t.outer t.inner = N + F + g.push * (t.outer - t.inner) / 1000 := by rw [netZ, if_pos hk3, ← HN.out, ← HF.out]
    have hrub : rubZ g p t.outer t.inner = g.sealing + (g.slide * (max t.outer t.inner - min t.outer t.inner) * min (max (max t.outer t.inner - E) 0) g.height + 999999) / 1000000 := by rw [rubZ, ← HW.out]
    have Hres := Lib.hid hres
    have Hrub := Lib.hid hrub
    clear hk3 hres hrub
    go_wp2
    go_quiet ((go_at_call 78; exact quiet_add_left (down_any _ _ _ (by omega) (by omega) (by omega) (by omega))))
    go_wp2
    go_ret2
    exact ⟨ret2 (by rw [Hres.out, Hrub.out]), by simp only [World.drewN_drewN]; exact ⟨_, rfl⟩⟩
  · have hk : (g.kind == 3) = false := by simp [hk3]
    have hres : netZ g p t.outer t.inner = N - F + g.push * (t.outer - t.inner) / 1000 := by rw [netZ, if_neg hk3, ← HN.out, ← HF.out]
    have hrub : rubZ g p t.outer t.inner = g.sealing + (g.slide * (max t.outer t.inner - min t.outer t.inner) * min (max (max t.outer t.inner - E) 0) g.height + 999999) / 1000000 := by rw [rubZ, ← HW.out]
    have Hres := Lib.hid hres
    have Hrub := Lib.hid hrub
    clear hk3 hres hrub
    go_wp2
    go_quiet ((go_at_call 78; exact quiet_add_left (down_any _ _ _ (by omega) (by omega) (by omega) (by omega))))
    go_wp2
    go_ret2
    exact ⟨ret2 (by rw [Hres.out, Hrub.out]), by simp only [World.drewN_drewN]; exact ⟨_, rfl⟩⟩
end Go.Proofs.YtgfdindlihfidaaGreat
