/- Bounds of single precision: what is at least one stays at least one, and a bounded number divided by one of at least one is bounded. -/
import Derived.Test.YtinohfgokpbcdaaDsAA
import Derived.Deep.DeepCutAuto
import Derived.BigQuiet
import Derived.Laws.Closers25b
import Derived.Laws.FloatArith
namespace Go.Proofs.Ytinohfgokpbcdaa
open Go.RowKit
attribute [local go_sem ↓] Go.wp_at_zero Go.wp_at_succ

structure Reg (X Y : Int) (Wn Hn : Nat) : Prop where
  w1 : 1 ≤ Wn
  w2 : Wn ≤ 512
  h1 : 1 ≤ Hn
  h2 : Hn ≤ 512
  n : Wn * Hn ≤ 65536
  x1 : -4194304 ≤ X
  x2 : X + Wn ≤ 4194304
  y1 : -4194304 ≤ Y
  y2 : Y + Hn ≤ 4194304
theorem Reg.of_zero {X Y W H : Int} (h : regE X Y W H = 0) : ∃ Wn Hn : Nat, W = Wn ∧ H = Hn ∧ Reg X Y Wn Hn := by
  unfold regE at h
  split at h
  · cases h
  · rename_i h1
    split at h
    · cases h
    · rename_i h2
      split at h
      · cases h
      · rename_i h3
        refine ⟨W.toNat, H.toNat, by omega, by omega, ?_⟩
        have e : ((W.toNat * H.toNat : Nat) : Int) = W * H := by rw [Int.natCast_mul, Int.toNat_of_nonneg (by omega), Int.toNat_of_nonneg (by omega)]
        exact ⟨by omega, by omega, by omega, by omega, by omega, by omega, by omega, by omega, by omega⟩
theorem Reg.ok {X Y : Int} {Wn Hn : Nat} (h : Reg X Y Wn Hn) : RegOk X Y Wn Hn := by
  have := h.w1; have := h.w2; have := h.h1; have := h.h2; have := h.x1; have := h.x2; have := h.y1; have := h.y2
  unfold RegOk
  omega
/-- the value of a region -/
def rgv (X Y : Int) (Wn Hn : Nat) : Value := .agg #[.int .i64 X, .int .i64 Y, .int .i64 (Wn : Int), .int .i64 (Hn : Int)]

theorem step_bd (d : Int) : -1 ≤ stepX d ∧ stepX d ≤ 1 ∧ -1 ≤ stepY d ∧ stepY d ≤ 1 := by
  unfold stepX stepY
  refine ⟨?_, ?_, ?_, ?_⟩ <;> (repeat' split) <;> omega
/-- the neighbour of a cell -/
def nbr (Wn Hn k d : Nat) : Option Nat :=
  if 0 ≤ ((k % Wn : Nat) : Int) + stepX d ∧ ((k % Wn : Nat) : Int) + stepX d < Wn ∧ 0 ≤ ((k / Wn : Nat) : Int) + stepY d ∧ ((k / Wn : Nat) : Int) + stepY d < Hn then
    some ((((k / Wn : Nat) : Int) + stepY d).toNat * Wn + (((k % Wn : Nat) : Int) + stepX d).toNat) else none
theorem mul_lt {a b Wn Hn : Nat} (ha : a < Wn) (hb : b < Hn) : b * Wn + a < Wn * Hn := by
  have h2 := Nat.mul_le_mul_right Wn (show b + 1 ≤ Hn by omega)
  rw [Nat.add_mul, Nat.one_mul] at h2
  rw [Nat.mul_comm Wn Hn]
  omega
theorem nbr_lt {Wn Hn k d n : Nat} (h : nbr Wn Hn k d = some n) : n < Wn * Hn := by
  unfold nbr at h
  split at h
  · injection h with h
    subst h
    exact mul_lt (by omega) (by omega)
  · cases h
theorem grid_facts {k Wn Hn : Nat} (h1 : 1 ≤ Wn) (hk : k < Wn * Hn) : k % Wn < Wn ∧ k / Wn < Hn :=
  ⟨Nat.mod_lt _ (by omega), Nat.div_lt_of_lt_mul hk⟩
def nbV (o : Option Nat) : Value := .tuple #[.int .i64 ((o.getD 0 : Nat) : Int), .bool o.isSome]

set_option maxRecDepth 100000 in
set_option maxHeartbeats 3200000 in
theorem beside_any (X Y : Int) (Wn Hn k d : Nat) (w : World) (hr : Reg X Y Wn Hn) (hk : k < Wn * Hn) (hd : d < 8) :
    Calls Try.prog 104 #[rgv X Y Wn Hn, .int .i64 k, .int .i64 d] w fun e w' => e = .returned (nbV (nbr Wn Hn k d)) ∧ Ext w w' := by
  obtain ⟨f1, f2⟩ := grid_facts hr.w1 hk
  obtain ⟨s1, s2, s3, s4⟩ := step_bd d
  have hk6 : k < 65536 := Nat.lt_of_lt_of_le hk hr.n
  have HT := fun (w : World) => hidA (toward_any d w (by omega) (by omega))
  have z1 := hr.w1
  have z2 := hr.w2
  have z3 := hr.h2
  have e1 := hidA (show (k : Int) % (Wn : Int) = ((k % Wn : Nat) : Int) from rfl)
  have e2 := hidA (show (k : Int) / (Wn : Int) = ((k / Wn : Nat) : Int) from rfl)
  have hmul := @mul_lt ((((k % Wn : Nat) : Int) + stepX d).toNat) ((((k / Wn : Nat) : Int) + stepY d).toNat) Wn Hn
  have hn6 := hr.n
  have hnb : nbr Wn Hn k d = if 0 ≤ ((k % Wn : Nat) : Int) + stepX d ∧ ((k % Wn : Nat) : Int) + stepX d < Wn ∧ 0 ≤ ((k / Wn : Nat) : Int) + stepY d ∧ ((k / Wn : Nat) : Int) + stepY d < Hn then some ((((k / Wn : Nat) : Int) + stepY d).toNat * Wn + (((k % Wn : Nat) : Int) + stepX d).toNat) else none := rfl
  generalize k % Wn = a at *
  generalize k / Wn = b at *
  generalize stepX d = sx at *
  generalize stepY d = sy at *
  generalize nbr Wn Hn k d = nb at *
  have q1 : wrap64 (b : Int) = b := IntWalk.wrap64_in _ ⟨by omega, by omega⟩
  have q2 : IntKind.i64.wrap ((a : Int) + sx) = (a : Int) + sx := IntWalk.i64_in _ ⟨by omega, by omega⟩
  have q3 : IntKind.i64.wrap ((b : Int) + sy) = (b : Int) + sy := IntWalk.i64_in _ ⟨by omega, by omega⟩
  have Hnb := hidA hnb
  have Hmul := hidA hmul
  clear hr hk hnb hmul
  have hcase : ((a : Int) + sx < 0) ∨ (¬ (a : Int) + sx < 0 ∧ (b : Int) + sy < 0) ∨ (¬ (a : Int) + sx < 0 ∧ ¬ (b : Int) + sy < 0 ∧ (Wn : Int) ≤ (a : Int) + sx) ∨ (¬ (a : Int) + sx < 0 ∧ ¬ (b : Int) + sy < 0 ∧ ¬ (Wn : Int) ≤ (a : Int) + sx ∧ (Hn : Int) ≤ (b : Int) + sy) ∨ (¬ (a : Int) + sx < 0 ∧ ¬ (b : Int) + sy < 0 ∧ ¬ (Wn : Int) ≤ (a : Int) + sx ∧ ¬ (Hn : Int) ≤ (b : Int) + sy) := by omega
  have E1 := e1.out
  have E2 := e2.out
  clear e1 e2
  have y1 : (1 : Int) ≤ Wn := by omega
  have y2 : (0 : Int) ≤ k := by omega
  unfold rgv
  rcases hcase with c1 | ⟨c1, c2⟩ | ⟨c1, c2, c3⟩ | ⟨c1, c2, c3, c4⟩ | ⟨c1, c2, c3, c4⟩
  · have hv : Hid (nb = none) := by clear E1 E2; show nb = none; rw [Hnb.out, if_neg (by omega)]
    go_enter Try.func104, Try.ntmps104
    go_wp2_with (go_at_call 151; refine (HT _).out.mono ?_; rintro e w1 ⟨rfl, hb1⟩; have kR : Bk w1 w.heap.size 23 #[.int .i64 X, .int .i64 Y, .int .i64 (Wn : Int), .int .i64 (Hn : Int)] := (Bk.new' rfl).ext hb1; have k2 := kR.cell 2; have k3 := kR.cell 3; have kl := kR.lt)
    go_quiet (fail)
    clear E1 E2 q1 q2 q3
    go_wp2
    go_ret2
    exact ⟨by rw [hv.out]; rfl, (by repeat (first | exact Ext.refl _ | assumption | refine Ext.setCell ?_ (by first | (simp; done) | (simp; omega)) _ | refine Ext.drewN ?_ _ | refine Ext.alloc ?_ _ | refine Ext.drew ?_ | refine Ext.trans ?_ (by assumption)))⟩
  · have hv : Hid (nb = none) := by clear E1 E2; show nb = none; rw [Hnb.out, if_neg (by omega)]
    go_enter Try.func104, Try.ntmps104
    go_wp2_with (go_at_call 151; refine (HT _).out.mono ?_; rintro e w1 ⟨rfl, hb1⟩; have kR : Bk w1 w.heap.size 23 #[.int .i64 X, .int .i64 Y, .int .i64 (Wn : Int), .int .i64 (Hn : Int)] := (Bk.new' rfl).ext hb1; have k2 := kR.cell 2; have k3 := kR.cell 3; have kl := kR.lt)
    go_quiet (fail)
    clear E1 E2 q1 q2 q3
    go_wp2
    go_ret2
    exact ⟨by rw [hv.out]; rfl, (by repeat (first | exact Ext.refl _ | assumption | refine Ext.setCell ?_ (by first | (simp; done) | (simp; omega)) _ | refine Ext.drewN ?_ _ | refine Ext.alloc ?_ _ | refine Ext.drew ?_ | refine Ext.trans ?_ (by assumption)))⟩
  · have hv : Hid (nb = none) := by clear E1 E2; show nb = none; rw [Hnb.out, if_neg (by omega)]
    go_enter Try.func104, Try.ntmps104
    go_wp2_with (go_at_call 151; refine (HT _).out.mono ?_; rintro e w1 ⟨rfl, hb1⟩; have kR : Bk w1 w.heap.size 23 #[.int .i64 X, .int .i64 Y, .int .i64 (Wn : Int), .int .i64 (Hn : Int)] := (Bk.new' rfl).ext hb1; have k2 := kR.cell 2; have k3 := kR.cell 3; have kl := kR.lt)
    go_quiet (fail)
    clear E1 E2 q1 q2 q3
    go_wp2
    go_ret2
    exact ⟨by rw [hv.out]; rfl, (by repeat (first | exact Ext.refl _ | assumption | refine Ext.setCell ?_ (by first | (simp; done) | (simp; omega)) _ | refine Ext.drewN ?_ _ | refine Ext.alloc ?_ _ | refine Ext.drew ?_ | refine Ext.trans ?_ (by assumption)))⟩
  · have hv : Hid (nb = none) := by clear E1 E2; show nb = none; rw [Hnb.out, if_neg (by omega)]
    go_enter Try.func104, Try.ntmps104
    go_wp2_with (go_at_call 151; refine (HT _).out.mono ?_; rintro e w1 ⟨rfl, hb1⟩; have kR : Bk w1 w.heap.size 23 #[.int .i64 X, .int .i64 Y, .int .i64 (Wn : Int), .int .i64 (Hn : Int)] := (Bk.new' rfl).ext hb1; have k2 := kR.cell 2; have k3 := kR.cell 3; have kl := kR.lt)
    go_quiet (fail)
    clear E1 E2 q1 q2 q3
    go_wp2
    go_ret2
    exact ⟨by rw [hv.out]; rfl, (by repeat (first | exact Ext.refl _ | assumption | refine Ext.setCell ?_ (by first | (simp; done) | (simp; omega)) _ | refine Ext.drewN ?_ _ | refine Ext.alloc ?_ _ | refine Ext.drew ?_ | refine Ext.trans ?_ (by assumption)))⟩
  · have hv : Hid (nb = some (((b : Int) + sy).toNat * Wn + ((a : Int) + sx).toNat)) := by clear E1 E2; show nb = _; rw [Hnb.out, if_pos (by omega)]
    have hm : ((b : Int) + sy).toNat * Wn + ((a : Int) + sx).toNat < Wn * Hn := Hmul.out (by clear E1 E2; omega) (by clear E1 E2; omega)
    go_enter Try.func104, Try.ntmps104
    go_wp2_with (go_at_call 151; refine (HT _).out.mono ?_; rintro e w1 ⟨rfl, hb1⟩; have kR : Bk w1 w.heap.size 23 #[.int .i64 X, .int .i64 Y, .int .i64 (Wn : Int), .int .i64 (Hn : Int)] := (Bk.new' rfl).ext hb1; have k2 := kR.cell 2; have k3 := kR.cell 3; have kl := kR.lt)
    go_quiet (fail)
    obtain ⟨x', hx'⟩ : ∃ x' : Nat, (a : Int) + sx = x' := ⟨((a : Int) + sx).toNat, by clear E1 E2; omega⟩
    obtain ⟨y', hy'⟩ : ∃ y' : Nat, (b : Int) + sy = y' := ⟨((b : Int) + sy).toNat, by clear E1 E2; omega⟩
    rw [hx', hy'] at hm ⊢
    rw [hx', hy'] at hv
    rw [hx'] at c1 c3
    rw [hy'] at c2 c4
    rw [Int.toNat_natCast, Int.toNat_natCast] at hm hv
    clear E1 E2 q1 q2 q3 Hnb Hmul
    have e3 : (y' : Int) * (Wn : Int) = ((y' * Wn : Nat) : Int) := (Int.natCast_mul _ _).symm
    have E3 := hidA e3
    clear e3
    generalize hp : y' * Wn = pr at hm hv E3
    have p2 : (0 : Int) ≤ (y' : Int) * (Wn : Int) ∧ (y' : Int) * (Wn : Int) ≤ 65536 := by rw [E3.out]; omega
    obtain ⟨p3, p4⟩ := p2
    clear hp hx' hy'
    go_wp2
    go_ret2
    refine ⟨?_, (by repeat (first | exact Ext.refl _ | assumption | refine Ext.setCell ?_ (by first | (simp; done) | (simp; omega)) _ | refine Ext.drewN ?_ _ | refine Ext.alloc ?_ _ | refine Ext.drew ?_ | refine Ext.trans ?_ (by assumption)))⟩
    rw [hv.out]
    unfold nbV
    simp [E3.out]

/-- whether a cell is of the border -/
def brd (Wn Hn k : Nat) : Bool := decide (k % Wn = 0) || decide (k / Wn = 0) || decide (k % Wn = Wn - 1) || decide (k / Wn = Hn - 1)
theorem brd_nbr {Wn Hn k : Nat} (h1 : 1 ≤ Wn) (hk : k < Wn * Hn) : brd Wn Hn k = true ↔ ∃ d, d < 8 ∧ nbr Wn Hn k d = none := by
  obtain ⟨f1, f2⟩ := grid_facts h1 hk
  unfold brd nbr
  generalize k % Wn = a at *
  generalize k / Wn = b at *
  simp only [Bool.or_eq_true, decide_eq_true_eq]
  have s0 : stepX ((0 : Nat) : Int) = 1 := rfl
  have s4 : stepX ((4 : Nat) : Int) = -1 := rfl
  have s2 : stepY ((2 : Nat) : Int) = 1 := rfl
  have s6 : stepY ((6 : Nat) : Int) = -1 := rfl
  constructor
  · rintro (((h | h) | h) | h)
    · exact ⟨4, by omega, if_neg (by rw [s4]; omega)⟩
    · exact ⟨6, by omega, if_neg (by rw [s6]; omega)⟩
    · exact ⟨0, by omega, if_neg (by rw [s0]; omega)⟩
    · exact ⟨2, by omega, if_neg (by rw [s2]; omega)⟩
  · rintro ⟨d, hd, h⟩
    obtain ⟨b1, b2, b3, b4⟩ := step_bd d
    split at h
    · cases h
    · omega

set_option maxRecDepth 100000 in
set_option maxHeartbeats 3200000 in
theorem border_any (X Y : Int) (Wn Hn k : Nat) (w : World) (hr : Reg X Y Wn Hn) (hk : k < Wn * Hn) :
    Calls Try.prog 131 #[rgv X Y Wn Hn, .int .i64 k] w fun e w' => e = .returned (.bool (brd Wn Hn k)) ∧ Ext w w' := by
  obtain ⟨f1, f2⟩ := grid_facts hr.w1 hk
  have hk6 : k < 65536 := Nat.lt_of_lt_of_le hk hr.n
  have z1 := hr.w1
  have z2 := hr.w2
  have z3 := hr.h2
  have e1 := hidA (show (k : Int) % (Wn : Int) = ((k % Wn : Nat) : Int) from rfl)
  have e2 := hidA (show (k : Int) / (Wn : Int) = ((k / Wn : Nat) : Int) from rfl)
  have hnb : brd Wn Hn k = (decide (k % Wn = 0) || decide (k / Wn = 0) || decide (k % Wn = Wn - 1) || decide (k / Wn = Hn - 1)) := rfl
  generalize k % Wn = a at *
  generalize k / Wn = b at *
  generalize brd Wn Hn k = nb at *
  have q1 : wrap64 (b : Int) = b := IntWalk.wrap64_in _ ⟨by omega, by omega⟩
  have Hnb := hidA hnb
  clear hr hk hnb
  have y1 : (1 : Int) ≤ Wn := by omega
  have y2 : (0 : Int) ≤ k := by omega
  have y3 : (1 : Int) ≤ Hn := by omega
  have hcase : ((a : Int) = 0) ∨ (((a : Int) == 0) = false ∧ (b : Int) = 0) ∨ (((a : Int) == 0) = false ∧ ((b : Int) == 0) = false ∧ (a : Int) = (Wn : Int) - 1) ∨ (((a : Int) == 0) = false ∧ ((b : Int) == 0) = false ∧ ((a : Int) == (Wn : Int) - 1) = false ∧ (b : Int) = (Hn : Int) - 1) ∨ (((a : Int) == 0) = false ∧ ((b : Int) == 0) = false ∧ ((a : Int) == (Wn : Int) - 1) = false ∧ ((b : Int) == (Hn : Int) - 1) = false) := by
    simp only [beq_eq_false_iff_ne, ne_eq]
    omega
  have E1 := e1.out
  have E2 := e2.out
  clear e1 e2
  unfold rgv
  rcases hcase with c1 | ⟨c1, c2⟩ | ⟨c1, c2, c3⟩ | ⟨c1, c2, c3, c4⟩ | ⟨c1, c2, c3, c4⟩
  · have hv : Hid (nb = true) := by
      clear E1 E2
      show nb = _
      rw [Hnb.out]
      simp [show a = 0 from by omega]
    have g0 : ((a : Int) == 0) = true := by rw [c1]; simp
    have C := hidA c1
    clear c1
    go_enter Try.func131, Try.ntmps131
    go_wp2
    go_quiet (fail)
    rw [E1]
    clear E1 E2 q1
    go_wp2
    go_ret
    exact ⟨ret_b hv.out.symm, (by repeat (first | exact Ext.refl _ | assumption | refine Ext.setCell ?_ (by first | (simp; done) | (simp; omega)) _ | refine Ext.drewN ?_ _ | refine Ext.alloc ?_ _ | refine Ext.drew ?_ | refine Ext.trans ?_ (by assumption)))⟩
  · have hv : Hid (nb = true) := by
      clear E1 E2
      show nb = _
      rw [Hnb.out]
      simp [show b = 0 from by omega]
    have g1 : ((b : Int) == 0) = true := by rw [c2]; simp
    have C := hidA c2
    clear c2
    go_enter Try.func131, Try.ntmps131
    go_wp2
    go_quiet (fail)
    rw [E1]
    clear E1 E2 q1
    go_wp2
    go_ret
    exact ⟨ret_b hv.out.symm, (by repeat (first | exact Ext.refl _ | assumption | refine Ext.setCell ?_ (by first | (simp; done) | (simp; omega)) _ | refine Ext.drewN ?_ _ | refine Ext.alloc ?_ _ | refine Ext.drew ?_ | refine Ext.trans ?_ (by assumption)))⟩
  · have hv : Hid (nb = true) := by
      clear E1 E2
      show nb = _
      rw [Hnb.out]
      simp [show a = Wn - 1 from by omega]
    have g2 : ((a : Int) == (Wn : Int) - 1) = true := by rw [c3]; simp
    have C := hidA c3
    clear c3
    go_enter Try.func131, Try.ntmps131
    go_wp2
    go_quiet (fail)
    rw [E1]
    clear E1 E2 q1
    go_wp2
    go_ret
    exact ⟨ret_b hv.out.symm, (by repeat (first | exact Ext.refl _ | assumption | refine Ext.setCell ?_ (by first | (simp; done) | (simp; omega)) _ | refine Ext.drewN ?_ _ | refine Ext.alloc ?_ _ | refine Ext.drew ?_ | refine Ext.trans ?_ (by assumption)))⟩
  · have hv : Hid (nb = true) := by
      clear E1 E2
      show nb = _
      rw [Hnb.out]
      simp [show b = Hn - 1 from by omega]
    have g3 : ((b : Int) == (Hn : Int) - 1) = true := by rw [c4]; simp
    have C := hidA c4
    clear c4
    go_enter Try.func131, Try.ntmps131
    go_wp2
    go_quiet (fail)
    rw [E1]
    clear E1 E2 q1
    go_wp2
    go_ret
    exact ⟨ret_b hv.out.symm, (by repeat (first | exact Ext.refl _ | assumption | refine Ext.setCell ?_ (by first | (simp; done) | (simp; omega)) _ | refine Ext.drewN ?_ _ | refine Ext.alloc ?_ _ | refine Ext.drew ?_ | refine Ext.trans ?_ (by assumption)))⟩
  · have hv : Hid (nb = false) := by
      clear E1 E2
      show nb = _
      rw [Hnb.out]
      have d1 : a ≠ 0 := by simp at c1; omega
      have d2 : b ≠ 0 := by simp at c2; omega
      have d3 : a ≠ Wn - 1 := by simp at c3; omega
      have d4 : b ≠ Hn - 1 := by simp at c4; omega
      simp [d1, d2, d3, d4]
    go_enter Try.func131, Try.ntmps131
    go_wp2
    go_quiet (fail)
    rw [E1]
    clear E1 E2 q1
    go_wp2
    go_ret
    exact ⟨ret_b hv.out.symm, (by repeat (first | exact Ext.refl _ | assumption | refine Ext.setCell ?_ (by first | (simp; done) | (simp; omega)) _ | refine Ext.drewN ?_ _ | refine Ext.alloc ?_ _ | refine Ext.drew ?_ | refine Ext.trans ?_ (by assumption)))⟩
end Go.Proofs.Ytinohfgokpbcdaa
namespace Go.Proofs.Ytinohfgokpbcdaa
open Go.RowKit
attribute [local go_sem ↓] Go.wp_at_zero Go.wp_at_succ

def placeK (X Y W : Int) (k : Nat) : Int × Int := (X + ((k % W.toNat : Nat) : Int), Y + ((k / W.toNat : Nat) : Int))
theorem placeK_in {X Y W H : Int} (hr : RegOk X Y W H) {k n : Nat} (hn : (n : Int) = W * H) (hk : k < n) : InR X Y W H (placeK X Y W k).1 (placeK X Y W k).2 := by
  unfold RegOk at hr
  obtain ⟨Wn, rfl⟩ := Int.eq_ofNat_of_zero_le (show 0 ≤ W by omega)
  obtain ⟨Hn, rfl⟩ := Int.eq_ofNat_of_zero_le (show 0 ≤ H by omega)
  have h1 : k % Wn < Wn := Nat.mod_lt _ (by omega)
  have hn' : n = Wn * Hn := by rw [← Int.natCast_mul] at hn; exact Int.ofNat.inj hn
  have h2 : k / Wn < Hn := Nat.div_lt_of_lt_mul (by rw [← hn']; exact hk)
  unfold InR placeK
  simp only [Int.toNat_natCast]
  generalize k % Wn = g at *
  generalize k / Wn = h at *
  omega

theorem place_facts {k Wn : Nat} {X Y : Int} (hk : k ≤ 65536) (h1 : 1 ≤ Wn) (h2 : Wn ≤ 512) (hX1 : -4194304 ≤ X) (hX2 : X ≤ 4194304) (hY1 : -4194304 ≤ Y) (hY2 : Y ≤ 4194304) :
    wrap64 ((k : Int) / (Wn : Int)) = (k : Int) / (Wn : Int) ∧ wrap64 (Y + (k : Int) / (Wn : Int)) = Y + (k : Int) / (Wn : Int) ∧ IntKind.i64.wrap (X + (k : Int) % (Wn : Int)) = X + (k : Int) % (Wn : Int) ∧
      (-8388608 ≤ X + (k : Int) % (Wn : Int) ∧ X + (k : Int) % (Wn : Int) ≤ 8388608) ∧ (-8388608 ≤ Y + (k : Int) / (Wn : Int) ∧ Y + (k : Int) / (Wn : Int) ≤ 8388608) := by
  have a1 : 0 ≤ (k : Int) % (Wn : Int) := Int.emod_nonneg _ (by omega)
  have a2 : (k : Int) % (Wn : Int) < Wn := Int.emod_lt_of_pos _ (by omega)
  have a3 : 0 ≤ (k : Int) / (Wn : Int) := Int.ediv_nonneg (by omega) (by omega)
  have a4 : (k : Int) / (Wn : Int) ≤ k := Int.ediv_le_self _ (by omega)
  generalize (k : Int) % (Wn : Int) = a at *
  generalize (k : Int) / (Wn : Int) = b at *
  refine ⟨by unfold wrap64; omega, by unfold wrap64; omega, IntWalk.i64_in _ (by omega), by omega, by omega⟩

set_option maxRecDepth 100000 in
set_option maxHeartbeats 1600000 in
theorem Place_any (X Y W H : Int) (k : Nat) (w : World) (hr : RegOk X Y W H) (hk : k ≤ 65536) :
    Calls Try.prog 28 #[.agg #[.int .i64 X, .int .i64 Y, .int .i64 W, .int .i64 H], .int .i64 k] w fun e w' => e = .returned (.tuple #[.int .i64 (placeK X Y W k).1, .int .i64 (placeK X Y W k).2]) ∧ Ext w w' := by
  unfold RegOk at hr
  obtain ⟨r1, r2, r3, r4, r5, r6, r7, r8⟩ := hr
  obtain ⟨Wn, rfl⟩ := Int.eq_ofNat_of_zero_le (show 0 ≤ W by omega)
  obtain ⟨y1, y2, z6, _, _⟩ := place_facts (k := k) (Wn := Wn) (X := X) (Y := Y) hk (by omega) (by omega) (by omega) (by omega) (by omega) (by omega)
  go_enter Try.func28, Try.ntmps28
  go_wp2
  go_quiet (fail)
  go_wp2
  go_ret2
  exact ⟨by simp [placeK], (by repeat (first | exact Ext.refl _ | assumption | refine Ext.setCell ?_ (by first | (simp; done) | (simp; omega)) _ | refine Ext.drewN ?_ _ | refine Ext.alloc ?_ _ | refine Ext.drew ?_ | refine Ext.trans ?_ (by assumption)))⟩

theorem cell_place {X Y W : Int} (hW : 1 ≤ W) (k : Nat) : cellN X Y W (placeK X Y W k).1 (placeK X Y W k).2 = k := by
  obtain ⟨Wn, rfl⟩ := Int.eq_ofNat_of_zero_le (show 0 ≤ W by omega)
  unfold cellN placeK
  simp only [Int.toNat_natCast]
  have h1 := Nat.div_add_mod k Wn
  have h2 : ((Wn * (k / Wn) + k % Wn : Nat) : Int) = (k : Int) := by rw [h1]
  rw [Int.natCast_add, Int.natCast_mul] at h2
  rw [show Y + ((k / Wn : Nat) : Int) - Y = ((k / Wn : Nat) : Int) by omega, Int.mul_comm]
  generalize (Wn : Int) * ((k / Wn : Nat) : Int) = a at *
  omega

theorem hasAt (X Y W H x y : Int) (b : Bool) (w : World) (h : hasB X Y W H x y = b) :
    Calls Try.prog 59 #[.agg #[.int .i64 X, .int .i64 Y, .int .i64 W, .int .i64 H], .int .i64 x, .int .i64 y] w fun e w' => e = .returned (.bool b) ∧ Ext w w' :=
  h ▸ has_any X Y W H x y w
def nbOf (x y d : Int) : Int × Int := (x + stepX d, y + stepY d)
def nbE (X Y W H x y d : Int) : Int := if InR X Y W H (nbOf x y d).1 (nbOf x y d).2 then cellN X Y W (nbOf x y d).1 (nbOf x y d).2 else -1
set_option maxRecDepth 100000 in
set_option maxHeartbeats 3200000 in
theorem neighbour_any (X Y W H d x y : Int) (k n : Nat) (w : World) (hxy : placeK X Y W k = (x, y)) (hr : RegOk X Y W H) (hnw : (n : Int) = W * H) (hk : k < n) (hn : n ≤ 65536) (h0 : 0 ≤ d) (h8 : d < 8) :
    Calls Try.prog 63 #[.agg #[.int .i64 X, .int .i64 Y, .int .i64 W, .int .i64 H], .int .i64 k, .int .i64 d] w fun e w' =>
      e = .returned (.int .i64 (nbE X Y W H x y d)) ∧ Ext w w' := by
  have hi := placeK_in hr hnw hk
  rw [hxy] at hi
  have Hr := hidA hr
  have Hxy := hidA hxy
  have hpb : -4194304 ≤ x ∧ x ≤ 4194304 ∧ -4194304 ≤ y ∧ y ≤ 4194304 := by
    unfold RegOk at hr
    unfold InR at hi
    omega
  clear hr hnw hi hxy
  go_enter Try.func63, Try.ntmps63
  go_wp2_with fail
  refine (Place_any X Y W H k _ Hr.out (by omega)).mono ?_
  rw [Hxy.out]
  rintro e w1 ⟨rfl, hb1⟩
  obtain ⟨hp1, hp2, hp3, hp4⟩ := hpb
  have hB : Bk w1 w.heap.size 23 #[.int .i64 X, .int .i64 Y, .int .i64 W, .int .i64 H] := (Bk.new _ _ _).ext hb1
  go_wp2_with fail
  refine (step_any d _ h0 h8).mono ?_
  rintro e w2 ⟨rfl, hb2⟩
  obtain ⟨t1, t2, t3, t4⟩ := step_bd d
  have hB2 := hB.ext hb2
  have d0 := hB2.cell 0
  have d1 := hB2.cell 1
  have d2 := hB2.cell 2
  have d3 := hB2.cell 3
  have z1 : wrap64 (x + stepX d) = x + stepX d := by unfold wrap64; omega
  have z2 : wrap64 (y + stepY d) = y + stepY d := by unfold wrap64; omega
  go_wp2_with fail
  by_cases hib : InR X Y W H (nbOf x y d).1 (nbOf x y d).2
  · have hq : hasB X Y W H (x + stepX d) (y + stepY d) = true := by
      rw [hasB_ok Hr.out]
      simpa [nbOf] using hib
    have HN : Hid (nbE X Y W H x y d = cellN X Y W (nbOf x y d).1 (nbOf x y d).2) := if_pos hib
    have Hib := hidA hib
    clear hib
    refine (hasAt X Y W H _ _ true _ hq).mono ?_
    rintro e w3 ⟨rfl, hb3⟩
    have hB3 := hB2.ext hb3
    clear d0 d1 d2 d3 hq
    have e0 := hB3.cell 0
    have e1 := hB3.cell 1
    have e2 := hB3.cell 2
    have e3 := hB3.cell 3
    go_wp2_with (go_at_call 60; refine (cell_any X Y W H _ _ _ Hr.out Hib.out).mono ?_; rintro e w4 ⟨rfl, hb4⟩)
    go_ret
    exact ⟨ret_i HN.out.symm, (by repeat (first | exact Ext.refl _ | assumption | refine Ext.setCell ?_ (by first | (simp; done) | (simp; omega)) _ | refine Ext.drewN ?_ _ | refine Ext.alloc ?_ _ | refine Ext.drew ?_ | refine Ext.trans ?_ (by assumption)))⟩
  · have hq : hasB X Y W H (x + stepX d) (y + stepY d) = false := by
      rw [hasB_ok Hr.out]
      simpa [nbOf] using hib
    have HN : Hid (nbE X Y W H x y d = -1) := if_neg hib
    clear hib
    refine (hasAt X Y W H _ _ false _ hq).mono ?_
    rintro e w3 ⟨rfl, hb3⟩
    clear d0 d1 d2 d3 hq
    go_wp2
    go_ret
    exact ⟨ret_i HN.out.symm, (by repeat (first | exact Ext.refl _ | assumption | refine Ext.setCell ?_ (by first | (simp; done) | (simp; omega)) _ | refine Ext.drewN ?_ _ | refine Ext.alloc ?_ _ | refine Ext.drew ?_ | refine Ext.trans ?_ (by assumption)))⟩

/-- a neighbour's number, -1 if there is none -/
def nbI (o : Option Nat) : Int := match o with
  | some n => n
  | none => -1
theorem nbE_nbr {X Y : Int} {Wn Hn k d : Nat} : nbE X Y Wn Hn (placeK X Y Wn k).1 (placeK X Y Wn k).2 d = nbI (nbr Wn Hn k d) := by
  unfold nbE nbr
  have hc : cellN X Y Wn (nbOf (placeK X Y Wn k).1 (placeK X Y Wn k).2 d).1 (nbOf (placeK X Y Wn k).1 (placeK X Y Wn k).2 d).2 = (((k / Wn : Nat) : Int) + stepY d) * Wn + (((k % Wn : Nat) : Int) + stepX d) := by
    unfold cellN nbOf placeK
    simp only [Int.toNat_natCast]
    generalize k % Wn = a
    generalize k / Wn = b
    rw [show Y + (b : Int) + stepY d - Y = (b : Int) + stepY d by omega]
    omega
  have hi : InR X Y Wn Hn (nbOf (placeK X Y Wn k).1 (placeK X Y Wn k).2 d).1 (nbOf (placeK X Y Wn k).1 (placeK X Y Wn k).2 d).2 ↔ (0 ≤ ((k % Wn : Nat) : Int) + stepX d ∧ ((k % Wn : Nat) : Int) + stepX d < Wn ∧ 0 ≤ ((k / Wn : Nat) : Int) + stepY d ∧ ((k / Wn : Nat) : Int) + stepY d < Hn) := by
    unfold InR nbOf placeK
    simp only [Int.toNat_natCast]
    generalize k % Wn = a
    generalize k / Wn = b
    omega
  by_cases h : 0 ≤ ((k % Wn : Nat) : Int) + stepX d ∧ ((k % Wn : Nat) : Int) + stepX d < Wn ∧ 0 ≤ ((k / Wn : Nat) : Int) + stepY d ∧ ((k / Wn : Nat) : Int) + stepY d < Hn
  · rw [if_pos (hi.2 h), if_pos h, hc]
    clear hc hi
    generalize k % Wn = a at *
    generalize k / Wn = b at *
    obtain ⟨x', hx'⟩ : ∃ x' : Nat, (a : Int) + stepX d = x' := ⟨((a : Int) + stepX d).toNat, by omega⟩
    obtain ⟨y', hy'⟩ : ∃ y' : Nat, (b : Int) + stepY d = y' := ⟨((b : Int) + stepY d).toNat, by omega⟩
    rw [hx', hy']
    simp only [nbI, Int.toNat_natCast]
    rw [Int.natCast_add, Int.natCast_mul]
  · rw [if_neg (fun h2 => h (hi.1 h2)), if_neg h]
    rfl
set_option maxRecDepth 100000 in
theorem nb_any (X Y : Int) (Wn Hn k d : Nat) (w : World) (hr : Reg X Y Wn Hn) (hk : k < Wn * Hn) (hd : d < 8) :
    Calls Try.prog 63 #[rgv X Y Wn Hn, .int .i64 k, .int .i64 d] w fun e w' => e = .returned (.int .i64 (nbI (nbr Wn Hn k d))) ∧ Ext w w' := by
  rw [← nbE_nbr (X := X) (Y := Y)]
  exact neighbour_any X Y Wn Hn d _ _ k (Wn * Hn) w rfl hr.ok (by rw [Int.natCast_mul]) hk hr.n (by omega) (by omega)

set_option maxRecDepth 100000 in
set_option maxHeartbeats 1600000 in
theorem edge_any (X Y : Int) (Wn Hn k : Nat) (w : World) (hr : Reg X Y Wn Hn) (hk : k < Wn * Hn) :
    Calls Try.prog 84 #[rgv X Y Wn Hn, .int .i64 k] w fun e w' => e = .returned (.bool (brd Wn Hn k)) ∧ Ext w w' := by
  have HN := fun (d : Nat) (w : World) (hd : d < 8) => hidA (nb_any X Y Wn Hn k d w hr hk hd)
  have HB := hidA (brd_nbr (k := k) hr.w1 hk)
  clear hr hk
  unfold rgv at HN ⊢
  go_enter Try.func84, Try.ntmps84
  go_wp2
  have kR : Bk (w.alloc (.cells #[.int .i64 X, .int .i64 Y, .int .i64 (Wn : Int), .int .i64 (Hn : Int)] 23)) w.heap.size 23 #[.int .i64 X, .int .i64 Y, .int .i64 (Wn : Int), .int .i64 (Hn : Int)] := Bk.new' rfl
  have hx0 : Ext w (w.alloc (.cells #[.int .i64 X, .int .i64 Y, .int .i64 (Wn : Int), .int .i64 (Hn : Int)] 23)) := (Ext.refl _).alloc _
  generalize w.alloc (.cells #[.int .i64 X, .int .i64 Y, .int .i64 (Wn : Int), .int .i64 (Hn : Int)] 23) = w0 at *
  go_loopw [6] (fun s6 wr => ∃ d : Nat, d ≤ 8 ∧ s6 = .int .i64 d ∧ (∀ j, j < d → nbr Wn Hn k j ≠ none) ∧ Ext w0 wr) (fun s6 _ => 8 - (intOf s6).toNat)
  case atStart => exact ⟨0, by omega, rfl, fun j h => by omega, Ext.refl _⟩
  case round =>
    obtain ⟨d, hd, rfl, hal, hx⟩ := hrel
    have Hal := hidA hal
    clear hal
    by_cases hd8 : d < 8
    · have k0 := (kR.ext hx).cell 0
      have k1 := (kR.ext hx).cell 1
      have k2 := (kR.ext hx).cell 2
      have k3 := (kR.ext hx).cell 3
      have HD := fun w => HN d w hd8
      cases hn : nbr Wn Hn k d with
      | none =>
        have Hq := hidA hn
        rw [hn] at HD
        have hb : Hid (brd Wn Hn k = true) := HB.out.2 ⟨d, hd8, hn⟩
        clear hn HN
        simp only [nbI] at HD
        go_wp2_with (go_at_call 63; refine ((HD _).out).mono ?_; rintro e w3 ⟨rfl, hb3⟩)
        go_ret
        exact ⟨ret_b hb.out.symm, (by repeat (first | exact Ext.refl _ | assumption | refine Ext.setCell ?_ (by first | (simp; done) | (simp; omega)) _ | refine Ext.drewN ?_ _ | refine Ext.alloc ?_ _ | refine Ext.drew ?_ | refine Ext.trans ?_ (by assumption)))⟩
      | some m =>
        have Hq := hidA hn
        rw [hn] at HD
        clear hn HN
        simp only [nbI] at HD
        go_wp2_with (go_at_call 63; refine ((HD _).out).mono ?_; rintro e w3 ⟨rfl, hb3⟩)
        go_roundw
        case rel =>
          refine ⟨d + 1, by omega, by go_num, fun j hj => ?_, (by repeat (first | exact Ext.refl _ | assumption | refine Ext.setCell ?_ (by first | (simp; done) | (simp; omega)) _ | refine Ext.drewN ?_ _ | refine Ext.alloc ?_ _ | refine Ext.drew ?_ | refine Ext.trans ?_ (by assumption)))⟩
          by_cases hjd : j = d
          · subst hjd
            rw [Hq.out]
            simp
          · exact Hal.out j (by omega)
        case measure => simp [intOf]; omega
    · have hb : Hid (brd Wn Hn k = false) := by
        show _ = _
        cases h : brd Wn Hn k
        · rfl
        · obtain ⟨j, hj, hn⟩ := HB.out.1 h
          exact absurd hn (Hal.out j (by omega))
      go_wp2
      go_ret
      exact ⟨ret_b hb.out.symm, (by repeat (first | exact Ext.refl _ | assumption | refine Ext.setCell ?_ (by first | (simp; done) | (simp; omega)) _ | refine Ext.drewN ?_ _ | refine Ext.alloc ?_ _ | refine Ext.drew ?_ | refine Ext.trans ?_ (by assumption)))⟩

set_option maxRecDepth 100000 in
set_option maxHeartbeats 1600000 in
/-- water.Neighbours calls a closure for each neighbour, in the order of directions: what each call leads to the next direction stands behind the last one -/
theorem nbs_any (fid : Nat) (caps : Array Value) (henter : ∀ args w, (callFunc fid args).run Try.prog w = .ok (.enter fid args) w) (X Y : Int) (Wn Hn k : Nat) (hr : Reg X Y Wn Hn) (hk : k < Wn * Hn) (Inv : Nat → World → Prop)
    (hext : ∀ d w w', Inv d w → Ext w w' → Inv d w')
    (hyes : ∀ d n w, d < 8 → nbr Wn Hn k d = some n → Inv d w → Calls Try.prog fid (#[.int .i64 n, .int .i64 d] ++ caps) w fun e w' => e = .returned (.tuple #[]) ∧ Inv (d + 1) w' ∧ ∀ g cs, Bk w g 23 cs → Bk w' g 23 cs)
    (hno : ∀ d w, d < 8 → nbr Wn Hn k d = none → Inv d w → Inv (d + 1) w)
    (w : World) (h0 : Inv 0 w) :
    Calls Try.prog 128 #[rgv X Y Wn Hn, .int .i64 k, .func (.func fid) #[] caps] w fun e w' => e = .returned (.tuple #[]) ∧ Inv 8 w' := by
  have HB := fun (d : Nat) (w : World) (hd : d < 8) => hidA (beside_any X Y Wn Hn k d w hr hk hd)
  have Hy := hidA hyes
  have Hno := hidA hno
  have Hx := hidA hext
  clear hyes hno hext
  unfold rgv at HB ⊢
  go_enter Try.func128, Try.ntmps128
  go_wp2
  have kR : Bk (w.alloc (.cells #[.int .i64 X, .int .i64 Y, .int .i64 (Wn : Int), .int .i64 (Hn : Int)] 23)) w.heap.size 23 #[.int .i64 X, .int .i64 Y, .int .i64 (Wn : Int), .int .i64 (Hn : Int)] := Bk.new' rfl
  have hx0 : Ext w (w.alloc (.cells #[.int .i64 X, .int .i64 Y, .int .i64 (Wn : Int), .int .i64 (Hn : Int)] 23)) := (Ext.refl _).alloc _
  have hI0 := Hx.out 0 _ _ h0 hx0
  generalize w.alloc (.cells #[.int .i64 X, .int .i64 Y, .int .i64 (Wn : Int), .int .i64 (Hn : Int)] 23) = w0 at *
  clear h0
  go_loopw [9] (fun s9 wr => ∃ d : Nat, d ≤ 8 ∧ s9 = .int .i64 d ∧ Inv d wr ∧ Bk wr w.heap.size 23 #[.int .i64 X, .int .i64 Y, .int .i64 (Wn : Int), .int .i64 (Hn : Int)]) (fun s9 _ => 8 - (intOf s9).toNat)
  case atStart => exact ⟨0, by omega, rfl, hI0, kR⟩
  case round =>
    clear kR hx0 hI0
    obtain ⟨d, hd, rfl, hI, kR⟩ := hrel
    by_cases hd8 : d < 8
    · have k0 := kR.cell 0
      have k1 := kR.cell 1
      have k2 := kR.cell 2
      have k3 := kR.cell 3
      have HD := fun w => HB d w hd8
      cases hn : nbr Wn Hn k d with
      | none =>
        have Hq := hidA hn
        rw [hn] at HD
        clear hn HB
        simp only [nbV, Option.getD_none, Option.isSome_none] at HD
        go_wp2_with (go_at_call 104; refine ((HD _).out).mono ?_; rintro e w3 ⟨rfl, hb3⟩)
        go_roundw
        case rel => exact ⟨d + 1, by omega, by go_num, Hno.out d _ hd8 Hq.out (Hx.out _ _ _ hI hb3), kR.ext hb3⟩
        case measure => simp [intOf]; omega
      | some m =>
        have Hq := hidA hn
        rw [hn] at HD
        clear hn HB
        simp only [nbV, Option.getD_some, Option.isSome_some] at HD
        go_wp2_with (go_at_call 104; refine ((HD _).out).mono ?_; rintro e w3 ⟨rfl, hb3⟩)
        refine (Hy.out d m _ hd8 Hq.out (Hx.out _ _ _ hI hb3)).mono ?_
        rintro e w4 ⟨rfl, hI4, hbk⟩
        have kR4 := hbk _ _ (kR.ext hb3)
        go_wp2_with fail
        go_roundw
        case rel => exact ⟨d + 1, by omega, by go_num, hI4, kR4⟩
        case measure => simp [intOf]; omega
    · obtain rfl : d = 8 := by omega
      go_wp2
      refine bodyPost_end (results_none Try.results128 _ _ _) rfl ?_
      exact ⟨rfl, hI⟩
end Go.Proofs.Ytinohfgokpbcdaa
namespace Go.Proofs.Ytinohfgokpbcdaa
open Go.RowKit
attribute [local go_sem ↓] Go.wp_at_zero Go.wp_at_succ

def pick3 (x y n : Int) (k : Nat) : Int := if k = 0 then x else if k = 1 then y else n
theorem idx3_0 (x y n : Int) (w : World) : (Instr.index 178 (.agg #[.int .i64 x, .int .i64 y, .int .i64 n]) (.int .i64 0)).run Try.prog w = .ok (.int .i64 x) w := by kernel_rfl
theorem idx3_1 (x y n : Int) (w : World) : (Instr.index 178 (.agg #[.int .i64 x, .int .i64 y, .int .i64 n]) (.int .i64 1)).run Try.prog w = .ok (.int .i64 y) w := by kernel_rfl
theorem idx3_2 (x y n : Int) (w : World) : (Instr.index 178 (.agg #[.int .i64 x, .int .i64 y, .int .i64 n]) (.int .i64 2)).run Try.prog w = .ok (.int .i64 n) w := by kernel_rfl
theorem idx3 (x y n : Int) (k : Nat) (hk : k < 3) (w : World) : (Instr.index 178 (.agg #[.int .i64 x, .int .i64 y, .int .i64 n]) (.int .i64 (k : Int))).run Try.prog w = .ok (.int .i64 (pick3 x y n k)) w := by
  have : k = 0 ∨ k = 1 ∨ k = 2 := by omega
  rcases this with h | h | h
  · subst h; exact idx3_0 x y n w
  · subst h; exact idx3_1 x y n w
  · subst h; exact idx3_2 x y n w
def b1 (H v : Int) : Int := bits .xor .u32 H (v % 4294967296)
def b2 (a : Int) : Int := bits .xor .u32 a (a / 65536) * 2246822507 % 4294967296
def b3 (a : Int) : Int := bits .xor .u32 a (a / 8192) * 3266489909 % 4294967296
def b4 (a : Int) : Int := bits .xor .u32 a (a / 65536)
def mixS (H v : Int) : Int := b4 (b3 (b2 (b1 H v)))
def mixK (s x y n : Int) : Nat → Int
  | 0 => s
  | k + 1 => mixS (mixK s x y n k) (pick3 x y n k)
theorem mixK_in (s x y n : Int) : ∀ k, 0 < k → 0 ≤ mixK s x y n k ∧ mixK s x y n k ≤ 4294967295
  | 0, h => absurd h (by omega)
  | k + 1, _ => bits_within .xor .u32 _ _

set_option maxRecDepth 100000 in
set_option maxHeartbeats 1600000 in
theorem hash_any (s x y n : Int) (w : World) :
    Calls Try.prog 87 #[.int .u32 s, .int .i64 x, .int .i64 y, .int .i64 n] w fun e w' => e = .returned (.int .u32 (mixK s x y n 3)) ∧ w' = w := by
  go_enter Try.func87, Try.ntmps87
  go_wp2
  go_loopw [9, 17] (fun h i wr => ∃ (k : Nat), k ≤ 3 ∧ i = .int .i64 k ∧ h = .int .u32 (mixK s x y n k) ∧ wr = w) (fun _ i _ => 3 - (intOf i).toNat)
  case atStart => exact ⟨0, by omega, rfl, rfl, rfl⟩
  case round =>
    obtain ⟨k, hk, rfl, rfl, rfl⟩ := hrel
    have HK : Hid (mixK s x y n (k + 1) = mixS (mixK s x y n k) (pick3 x y n k)) := rfl
    have HE : Hid (k = 3 → mixK s x y n k = mixK s x y n 3) := fun h => by rw [h]
    generalize mixK s x y n k = H at *
    by_cases h : k < 3
    · have hi := idx3 x y n k h
      generalize pick3 x y n k = v at *
      go_wp2_with fail
      go_roundw
      case rel => exact ⟨k + 1, by omega, congrArg (Value.int .i64) (by omega), by rw [HK.out]; rfl, by first | rfl | trivial⟩
      case measure => simp [intOf]; omega
    · have hk3 : k = 3 := by omega
      rw [HE.out hk3]
      subst hk3
      go_wp2_with fail
      go_ret
      exact ⟨rfl, rfl⟩

set_option maxRecDepth 100000 in
set_option maxHeartbeats 1600000 in
theorem mixed_any (s x y n : Int) (w : World) :
    Calls Try.prog 29 #[.int .u32 s, .int .i64 x, .int .i64 y, .int .i64 n] w fun e w' => e = .returned (.int .u32 (mixK s x y n 3)) ∧ Ext w w' := by
  go_enter Try.func29, Try.ntmps29
  go_wp2
  go_loopw [9, 18] (fun h i wr => ∃ (k : Nat), k ≤ 3 ∧ i = .int .i64 k ∧ h = .int .u32 (mixK s x y n k) ∧ wr = w.alloc (.cells #[.int .i64 x, .int .i64 y, .int .i64 n] 3)) (fun _ i _ => 3 - (intOf i).toNat)
  case atStart => exact ⟨0, by omega, rfl, rfl, rfl⟩
  case round =>
    obtain ⟨k, hk, rfl, rfl, rfl⟩ := hrel
    have HK : Hid (mixK s x y n (k + 1) = mixS (mixK s x y n k) (pick3 x y n k)) := rfl
    have HE : Hid (k = 3 → mixK s x y n k = mixK s x y n 3) := fun h => by rw [h]
    generalize mixK s x y n k = H at *
    by_cases h : k < 3
    · have hB : Bk (w.alloc (.cells #[.int .i64 x, .int .i64 y, .int .i64 n] 3)) w.heap.size 3 #[.int .i64 x, .int .i64 y, .int .i64 n] := Bk.new' rfl
      have hc : (w.alloc (.cells #[.int .i64 x, .int .i64 y, .int .i64 n] 3)).cell? ⟨w.heap.size, k, none⟩ = some (.int .i64 (pick3 x y n k)) := by
        rw [hB.cell]
        have : k = 0 ∨ k = 1 ∨ k = 2 := by omega
        rcases this with h | h | h <;> subst h <;> rfl
      have k0 : (0 : Int) ≤ k := by omega
      have k1 : (k : Int) < 3 := by omega
      generalize pick3 x y n k = v at *
      go_wp2_with fail
      go_roundw
      case rel => exact ⟨k + 1, by omega, congrArg (Value.int .i64) (by omega), by rw [HK.out]; rfl, by first | rfl | trivial⟩
      case measure => simp [intOf]; omega
    · have hk3 : k = 3 := by omega
      rw [HE.out hk3]
      subst hk3
      go_wp2_with fail
      go_ret
      exact ⟨rfl, (by repeat (first | exact Ext.refl _ | assumption | refine Ext.setCell ?_ (by first | (simp; done) | (simp; omega)) _ | refine Ext.drewN ?_ _ | refine Ext.alloc ?_ _ | refine Ext.drew ?_ | refine Ext.trans ?_ (by assumption)))⟩
end Go.Proofs.Ytinohfgokpbcdaa
namespace Go.Proofs.Ytinohfgokpbcdaa
open Ieee

/-- a word of at most 2 ^ K, whatever its sign -/
def Bd (K b : Nat) : Prop := b % 2147483648 ≤ (K + 127) * 8388608
theorem Bd.mono {K J b : Nat} (h : Bd K b) (hk : K ≤ J) : Bd J b := Nat.le_trans h (Nat.mul_le_mul_right _ (Nat.add_le_add_right hk _))

theorem single_sign : single.signWeight = 2147483648 := by decide
theorem single_binade : single.binade = 8388608 := by decide
theorem single_inf : single.infRung = 2139095040 := by decide
theorem single_least : single.leastPlace = -149 := by decide
theorem single_frac : single.fractionBits = 23 := rfl

theorem word_rung {neg : Bool} {r : Nat} (h : r < 2147483648) : single.word neg r % 2147483648 = r := by
  unfold Format.word
  rw [single_sign]
  split <;> omega

theorem read_bd {K b : Nat} (h : Bd K b) (hK : K ≤ 127) : ∃ (s : Bool) (m k : Nat), single.read b = .number s m ((k : Int) - 149) ∧ m * 2 ^ k ≤ 2 ^ (K + 149) := by
  unfold Bd at h
  unfold Format.read
  simp only [single_sign, single_binade, single_inf, single_least]
  have hr : b % 2147483648 < 2139095040 := by omega
  by_cases h1 : b % 2147483648 < 8388608
  · rw [if_pos h1]
    refine ⟨_, b % 2147483648, 0, rfl, ?_⟩
    have : (2 : Nat) ^ 23 ≤ 2 ^ (K + 149) := Nat.pow_le_pow_right (by omega) (by omega)
    simp only [Nat.pow_zero, Nat.mul_one]
    omega
  · rw [if_neg h1, if_pos hr]
    generalize b % 2147483648 = r at *
    refine ⟨_, 8388608 + r % 8388608, r / 8388608 - 1, by rw [Int.add_comm (-149)]; rfl, ?_⟩
    have hq : r / 8388608 ≤ K + 127 := by omega
    by_cases h2 : r / 8388608 = K + 127
    · have ht : r % 8388608 = 0 := by omega
      rw [ht, h2]
      have e : (2 : Nat) ^ (23 + (K + 126)) = 8388608 * 2 ^ (K + 126) := Nat.pow_add 2 23 (K + 126)
      rw [show K + 127 - 1 = K + 126 by omega, show K + 149 = 23 + (K + 126) by omega, e]
      exact Nat.le_refl _
    · have hm : 8388608 + r % 8388608 ≤ 2 ^ 24 := by omega
      calc (8388608 + r % 8388608) * 2 ^ (r / 8388608 - 1) ≤ 2 ^ 24 * 2 ^ (r / 8388608 - 1) := Nat.mul_le_mul_right _ hm
        _ = 2 ^ (24 + (r / 8388608 - 1)) := (Nat.pow_add ..).symm
        _ ≤ 2 ^ (K + 149) := Nat.pow_le_pow_right (by omega) (by omega)

theorem cut_le {neg : Bool} {n drop c : Nat} (h : n.log2 + 1 ≤ c + drop) : Toward.even.cut neg n drop ≤ 2 ^ c := by
  unfold Toward.cut
  simp only [Nat.shiftLeft_eq, Nat.one_mul]
  have hl : n < 2 ^ (n.log2 + 1) := Nat.lt_log2_self
  have hlow : n / 2 ^ min drop (n.log2 + 2) < 2 ^ c := by
    rw [Nat.div_lt_iff_lt_mul (Nat.two_pow_pos _), ← Nat.pow_add]
    refine Nat.lt_of_lt_of_le hl (Nat.pow_le_pow_right (by omega) (by omega))
  have hb : ∀ b : Bool, b.toNat ≤ 1 := fun b => by cases b <;> simp
  have := hb (decide (2 ^ min drop (n.log2 + 2) < 2 * (n % 2 ^ min drop (n.log2 + 2))) || (2 ^ min drop (n.log2 + 2) == 2 * (n % 2 ^ min drop (n.log2 + 2)) && n / 2 ^ min drop (n.log2 + 2) % 2 == 1))
  omega

theorem log_lt {m k c : Nat} (hm : m ≠ 0) (h : m * 2 ^ k < 2 ^ c) : m.log2 + k < c := by
  have h1 : 2 ^ m.log2 ≤ m := Nat.log2_self_le hm
  have h2 : 2 ^ (m.log2 + k) < 2 ^ c := by
    rw [Nat.pow_add]
    exact Nat.lt_of_le_of_lt (Nat.mul_le_mul_right _ h1) h
  exact (Nat.pow_lt_pow_iff_right (by omega)).1 h2

theorem shift_ne {m d : Nat} (hm : m ≠ 0) : m <<< d ≠ 0 := by
  rw [Nat.shiftLeft_eq]
  exact Nat.mul_ne_zero hm (Nat.pos_iff_ne_zero.1 (Nat.two_pow_pos _))
theorem log_shift {m d : Nat} (hm : m ≠ 0) : (m <<< d).log2 = m.log2 + d := by
  rw [Nat.log2_eq_iff (shift_ne hm)]
  rw [Nat.shiftLeft_eq]
  have h1 : 2 ^ m.log2 ≤ m := Nat.log2_self_le hm
  have h2 : m < 2 ^ (m.log2 + 1) := Nat.lt_log2_self
  refine ⟨?_, ?_⟩
  · rw [Nat.pow_add]; exact Nat.mul_le_mul_right _ h1
  · rw [show m.log2 + d + 1 = (m.log2 + 1) + d by omega, Nat.pow_add]; exact (Nat.mul_lt_mul_right (Nat.two_pow_pos d)).2 h2

theorem write_bd {K : Nat} {neg : Bool} {m k N : Nat} (h : m * 2 ^ k < 2 ^ (K + N)) (hK : K ≤ 127) : Bd K (single.nearest neg m ((k : Int) - N)) := by
  unfold Bd Format.nearest
  by_cases hm : m = 0
  · rw [if_pos hm, word_rung (by omega)]
    omega
  · rw [if_neg hm]
    have hl := log_lt hm h
    simp only [single_binade, single_inf, single_least, single_frac]
    have hc : ∀ last : Int, last = max ((k : Int) - N + m.log2 - 23) (-149) → Toward.even.cut neg (m <<< ((k : Int) - N - last).toNat) (last - ((k : Int) - N)).toNat ≤ 2 ^ 24 := by
      intro last hlast
      refine cut_le ?_
      rw [log_shift hm]
      omega
    have := hc _ rfl
    rw [word_rung (by omega)]
    have e : ((max ((k : Int) - N + m.log2 - (23 : Nat)) (-149) - -149).toNat) ≤ K + 125 := by omega
    have := Nat.mul_le_mul_right 8388608 e
    simp only [show ((23 : Nat) : Int) = 23 from rfl] at *
    omega

theorem signed_abs (s : Bool) (m up : Nat) : (signed s m up).natAbs = m * 2 ^ up := by
  unfold signed
  rw [Nat.shiftLeft_eq]
  generalize m * 2 ^ up = q
  split <;> omega

theorem fsum_bd {K : Nat} {s t : Bool} {m n k j : Nat} (hm : m * 2 ^ k ≤ 2 ^ (K + 149)) (hn : n * 2 ^ j ≤ 2 ^ (K + 149)) (hK : K ≤ 125) :
    ∃ r, (Datum.sum (.number s m ((k : Int) - 149)) (.number t n ((j : Int) - 149))).map single.write = some r ∧ Bd (K + 2) r := by
  refine ⟨_, rfl, ?_⟩
  have e : min ((k : Int) - 149) ((j : Int) - 149) = ((min k j : Nat) : Int) - (149 : Nat) := by omega
  simp only [Format.write]
  rw [e]
  refine write_bd ?_ (by omega)
  rw [show ((k : Int) - 149 - (((min k j : Nat) : Int) - (149 : Nat))).toNat = k - min k j by omega, show ((j : Int) - 149 - (((min k j : Nat) : Int) - (149 : Nat))).toNat = j - min k j by omega]
  have h1 := Int.natAbs_add_le (signed s m (k - min k j)) (signed t n (j - min k j))
  rw [signed_abs, signed_abs] at h1
  have h2 := Nat.mul_le_mul_right (2 ^ min k j) h1
  rw [Nat.add_mul, Nat.mul_assoc, Nat.mul_assoc, ← Nat.pow_add, ← Nat.pow_add, Nat.sub_add_cancel (Nat.min_le_left k j), Nat.sub_add_cancel (Nat.min_le_right k j)] at h2
  have h3 : (2 : Nat) ^ (K + 2 + 149) = 4 * 2 ^ (K + 149) := by rw [show K + 2 + 149 = 2 + (K + 149) by omega]; exact Nat.pow_add 2 2 (K + 149)
  have h4 : 0 < 2 ^ (K + 149) := Nat.two_pow_pos _
  omega

theorem fadd_bd {K x y : Nat} (hx : Bd K x) (hy : Bd K y) (hK : K ≤ 125) : ∃ r, single.add x y = some r ∧ Bd (K + 2) r := by
  obtain ⟨s, m, k, e1, h1⟩ := read_bd hx (by omega)
  obtain ⟨t, n, j, e2, h2⟩ := read_bd hy (by omega)
  unfold Format.add
  rw [e1, e2]
  exact fsum_bd h1 h2 hK

theorem fsub_bd {K x y : Nat} (hx : Bd K x) (hy : Bd K y) (hK : K ≤ 125) : ∃ r, single.sub x y = some r ∧ Bd (K + 2) r := by
  obtain ⟨s, m, k, e1, h1⟩ := read_bd hx (by omega)
  obtain ⟨t, n, j, e2, h2⟩ := read_bd hy (by omega)
  unfold Format.sub
  rw [e1, e2]
  exact fsum_bd h1 h2 hK

theorem fmul_bd {K J x y : Nat} (hx : Bd K x) (hy : Bd J y) (hK : K + J ≤ 126) : ∃ r, single.mul x y = some r ∧ Bd (K + J + 1) r := by
  obtain ⟨s, m, k, e1, h1⟩ := read_bd hx (by omega)
  obtain ⟨t, n, j, e2, h2⟩ := read_bd hy (by omega)
  unfold Format.mul
  rw [e1, e2]
  refine ⟨_, rfl, ?_⟩
  simp only [Format.write]
  rw [show ((k : Int) - 149 + ((j : Int) - 149)) = ((k + j : Nat) : Int) - (298 : Nat) by omega]
  refine write_bd ?_ (by omega)
  have h3 := Nat.mul_le_mul h1 h2
  have e3 : m * 2 ^ k * (n * 2 ^ j) = m * n * 2 ^ (k + j) := by rw [Nat.pow_add]; simp only [Nat.mul_assoc, Nat.mul_left_comm]
  rw [e3, ← Nat.pow_add] at h3
  refine Nat.lt_of_le_of_lt h3 (Nat.pow_lt_pow_right (by omega) (by omega))

theorem int_bd {K : Nat} {n : Int} (h : n.natAbs < 2 ^ K) (hK : K ≤ 127) : Bd K (floatOfInt .f32 n) := by
  have := write_bd (K := K) (neg := decide (n < 0)) (m := n.natAbs) (k := 0) (N := 0) (by simpa using h) hK
  show Bd K (single.nearest (decide (n < 0)) n.natAbs 0)
  simpa using this

theorem bd_fin {K b : Nat} (h : Bd K b) (hK : K ≤ 127) : nanB b = false := by
  obtain ⟨s, m, k, e, _⟩ := read_bd h hK
  unfold nanB
  show (single.read b).isNaN = false
  rw [e]
  rfl

theorem read_top : single.read 1233125376 = .number false 8388608 (-3) := by decide +kernel
theorem read_low : single.read 3380609024 = .number true 8388608 (-3) := by decide +kernel

theorem cmp_gt {m up : Nat} (h : 8388608 < m <<< up) : compare (signed false m up) (signed false 8388608 (-3 - -3 : Int).toNat) = .gt := by
  rw [Int.compare_eq_gt]
  show ((8388608 : Nat) : Int) < ((m <<< up : Nat) : Int)
  omega
theorem cmp_lt {m up : Nat} (h : 8388608 < m <<< up) : compare (signed true m up) (signed true 8388608 (-3 - -3 : Int).toNat) = .lt := by
  rw [Int.compare_eq_lt]
  show (-((m <<< up : Nat) : Int)) < -((8388608 : Nat) : Int)
  omega

/-- a height lies within 2 ^ 20 -/
theorem hgt_bd {b : Nat} (h : hgtB b = true) : Bd 20 b := by
  by_cases hn : Bd 20 b
  · exact hn
  exfalso
  have hr : ¬ b % 2147483648 ≤ 1233125376 := hn
  unfold hgtB ord at h
  have ht : FloatKind.f32.format = single := rfl
  rw [ht] at h
  unfold Format.order at h
  rw [read_top, read_low] at h
  unfold Format.read at h
  simp only [single_sign, single_binade, single_inf, single_least] at h
  rw [if_neg (by omega)] at h
  generalize b % 2147483648 = r at *
  split at h
  · have key : ∀ (p : Int), p = -149 + ((r / 8388608 - 1 : Nat) : Int) → 8388608 < (8388608 + r % 8388608) <<< (p - -3).toNat := by
      intro p hp
      rw [Nat.shiftLeft_eq]
      by_cases hq : r / 8388608 = 147
      · have : r % 8388608 ≠ 0 := by omega
        rw [show (p - -3).toNat = 0 by omega]
        omega
      · have h2 : (2 : Nat) ^ 1 ≤ 2 ^ (p - -3).toNat := Nat.pow_le_pow_right (by omega) (by omega)
        have := Nat.mul_le_mul_left (8388608 + r % 8388608) h2
        omega
    have hm : min (-149 + ((r / 8388608 - 1 : Nat) : Int)) (-3) = -3 := by omega
    have := key _ rfl
    simp only [Datum.order, hm] at h
    cases hs : (b / 2147483648 % 2 == 1)
    · rw [hs] at h
      have hc := cmp_gt this
      rw [hc] at h
      simp at h
    · rw [hs] at h
      have hc := cmp_lt this
      rw [hc] at h
      simp at h
  · split at h
    · cases hs : (b / 2147483648 % 2 == 1) <;> simp [hs, Datum.order] at h
    · simp [Datum.order] at h

end Go.Proofs.Ytinohfgokpbcdaa
namespace Go.Proofs.Ytinohfgokpbcdaa
open Ieee

/-- a finite word of at least 1, whatever its sign -/
def Ge1 (b : Nat) : Prop := 127 * 8388608 ≤ b % 2147483648 ∧ b % 2147483648 < 2139095040

theorem read_ge {b : Nat} (h : Ge1 b) : ∃ (s : Bool) (m k : Nat), single.read b = .number s m ((k : Int) - 149) ∧ 2 ^ 149 ≤ m * 2 ^ k ∧ m ≠ 0 := by
  obtain ⟨h, hi⟩ := h
  unfold Format.read
  simp only [single_sign, single_binade, single_inf, single_least]
  rw [if_neg (by omega), if_pos hi]
  generalize b % 2147483648 = r at *
  refine ⟨_, 8388608 + r % 8388608, r / 8388608 - 1, by rw [Int.add_comm (-149)]; rfl, ?_, by omega⟩
  have e : (2 : Nat) ^ (23 + (r / 8388608 - 1)) = 8388608 * 2 ^ (r / 8388608 - 1) := Nat.pow_add 2 23 _
  have h1 : (2 : Nat) ^ 149 ≤ 2 ^ (23 + (r / 8388608 - 1)) := Nat.pow_le_pow_right (by omega) (by omega)
  have h2 : 8388608 * 2 ^ (r / 8388608 - 1) ≤ (8388608 + r % 8388608) * 2 ^ (r / 8388608 - 1) := Nat.mul_le_mul_right _ (by omega)
  omega

theorem cut_ge {neg : Bool} {n drop c : Nat} (hn : n ≠ 0) (h : c + drop ≤ n.log2) : 2 ^ c ≤ Toward.even.cut neg n drop := by
  unfold Toward.cut
  simp only [Nat.shiftLeft_eq, Nat.one_mul]
  have hl : 2 ^ n.log2 ≤ n := Nat.log2_self_le hn
  have hlow : 2 ^ c ≤ n / 2 ^ min drop (n.log2 + 2) := by
    rw [Nat.le_div_iff_mul_le (Nat.two_pow_pos _), ← Nat.pow_add]
    exact Nat.le_trans (Nat.pow_le_pow_right (by omega) (by omega)) hl
  omega

theorem log_ge {m k c : Nat} (h : 2 ^ c ≤ m * 2 ^ k) : c ≤ m.log2 + k := by
  have h1 : m < 2 ^ (m.log2 + 1) := Nat.lt_log2_self
  have h2 : (2 : Nat) ^ c < 2 ^ (m.log2 + 1 + k) := by
    rw [Nat.pow_add _ _ k]
    exact Nat.lt_of_le_of_lt h ((Nat.mul_lt_mul_right (Nat.two_pow_pos k)).2 h1)
  have := (Nat.pow_lt_pow_iff_right (by omega)).1 h2
  omega

theorem write_ge {K : Nat} {neg : Bool} {m k N : Nat} (h0 : 2 ^ N ≤ m * 2 ^ k) (h : m * 2 ^ k < 2 ^ (K + N)) (hK : K ≤ 127) : Ge1 (single.nearest neg m ((k : Int) - N)) := by
  have hb : (single.nearest neg m ((k : Int) - N)) % 2147483648 ≤ (K + 127) * 8388608 := write_bd h hK
  have hm : m ≠ 0 := by
    rintro rfl
    have := Nat.two_pow_pos N
    omega
  have hl := log_lt hm h
  have hg := log_ge h0
  refine ⟨?_, by omega⟩
  clear hb
  unfold Format.nearest
  rw [if_neg hm]
  simp only [single_binade, single_inf, single_least, single_frac]
  have hc : ∀ last : Int, last = max ((k : Int) - N + m.log2 - 23) (-149) → 2 ^ 23 ≤ Toward.even.cut neg (m <<< ((k : Int) - N - last).toNat) (last - ((k : Int) - N)).toNat := by
    intro last hlast
    refine cut_ge (shift_ne hm) ?_
    rw [log_shift hm]
    omega
  have := hc _ rfl
  rw [word_rung (by omega)]
  have e : 126 ≤ ((max ((k : Int) - N + m.log2 - (23 : Nat)) (-149) - -149).toNat) := by omega
  have := Nat.mul_le_mul_right 8388608 e
  simp only [show ((23 : Nat) : Int) = 23 from rfl] at *
  omega

theorem int_ge {n : Int} (h : 0 < n.natAbs) (hn : n.natAbs < 2 ^ 127) : Ge1 (floatOfInt .f32 n) := by
  have := write_ge (K := 127) (neg := decide (n < 0)) (m := n.natAbs) (k := 0) (N := 0) (by rw [Nat.pow_zero, Nat.mul_one]; exact h) (by simpa using hn) (by omega)
  show Ge1 (single.nearest (decide (n < 0)) n.natAbs 0)
  simpa using this

theorem ge_bd {b : Nat} (h : Ge1 b) : Bd 127 b ∨ Bd 128 b := by
  right
  unfold Bd
  have := h.2
  omega

theorem fmul_ge {K J x y : Nat} (hx : Bd K x) (hy : Bd J y) (gx : Ge1 x) (gy : Ge1 y) (hK : K + J ≤ 126) : ∃ r, single.mul x y = some r ∧ Bd (K + J + 1) r ∧ Ge1 r := by
  obtain ⟨s, m, k, e1, h1⟩ := read_bd hx (by omega)
  obtain ⟨t, n, j, e2, h2⟩ := read_bd hy (by omega)
  obtain ⟨s', m', k', e3, g1, _⟩ := read_ge gx
  obtain ⟨t', n', j', e4, g2, _⟩ := read_ge gy
  obtain ⟨rfl, rfl, hk⟩ : s' = s ∧ m' = m ∧ (k' : Int) - 149 = (k : Int) - 149 := by
    have := e3.symm.trans e1; injection this with a b c; exact ⟨a, b, c⟩
  obtain ⟨rfl, rfl, hj⟩ : t' = t ∧ n' = n ∧ (j' : Int) - 149 = (j : Int) - 149 := by
    have := e4.symm.trans e2; injection this with a b c; exact ⟨a, b, c⟩
  obtain rfl : k' = k := by omega
  obtain rfl : j' = j := by omega
  unfold Format.mul
  rw [e1, e2]
  refine ⟨_, rfl, ?_⟩
  simp only [Format.write]
  rw [show ((k' : Int) - 149 + ((j' : Int) - 149)) = ((k' + j' : Nat) : Int) - ((149 + 149 : Nat) : Int) by omega]
  have e5 : m' * 2 ^ k' * (n' * 2 ^ j') = m' * n' * 2 ^ (k' + j') := by rw [Nat.pow_add]; simp only [Nat.mul_assoc, Nat.mul_left_comm]
  have h3 := Nat.mul_le_mul h1 h2
  rw [e5, ← Nat.pow_add] at h3
  have h4 : m' * n' * 2 ^ (k' + j') < 2 ^ (K + J + 1 + (149 + 149)) := Nat.lt_of_le_of_lt h3 (Nat.pow_lt_pow_right (by omega) (by omega))
  have g3 := Nat.mul_le_mul g1 g2
  rw [e5, ← Nat.pow_add] at g3
  exact ⟨write_bd h4 (by omega), write_ge g3 h4 (by omega)⟩

theorem fdiv_bd {K x y : Nat} (hx : Bd K x) (hy : Ge1 y) (hK : K ≤ 120) : ∃ r, single.div x y = some r ∧ Bd (K + 2) r := by
  obtain ⟨s, m, k, e1, h1⟩ := read_bd hx (by omega)
  obtain ⟨t, n, j, e2, h2, hn⟩ := read_ge hy
  unfold Format.div
  rw [e1, e2]
  simp only [Datum.quotient, if_neg hn]
  refine ⟨_, rfl, ?_⟩
  simp only [Format.write, single_frac]
  generalize hmore : 23 + 2 + n.log2 - m.log2 = more
  rw [show ((k : Int) - 149 - ((j : Int) - 149) - more - 1) = (k : Int) - ((j + more + 1 : Nat) : Int) by omega]
  refine write_bd ?_ (by omega)
  rw [Nat.shiftLeft_eq]
  by_cases hm : m = 0
  · subst hm
    simp only [Nat.zero_mul, Nat.zero_div, Nat.zero_mod, Nat.mul_zero, Nat.zero_add]
    show 0 * 2 ^ k < _
    rw [Nat.zero_mul]
    exact Nat.two_pow_pos _
  have hb : ∀ b : Bool, b.toNat ≤ 1 := fun b => by cases b <;> simp
  have hb' := hb (m * 2 ^ more % n != 0)
  refine Nat.lt_of_mul_lt_mul_left (a := n) ?_
  have hq : n * (m * 2 ^ more / n) ≤ m * 2 ^ more := Nat.mul_div_le _ _
  have h3 : n * ((2 * (m * 2 ^ more / n) + (m * 2 ^ more % n != 0).toNat) * 2 ^ k) ≤ (2 * (m * 2 ^ more) + n) * 2 ^ k := by
    rw [← Nat.mul_assoc]
    refine Nat.mul_le_mul_right _ ?_
    rw [Nat.mul_add]
    have h5 : n * (m * 2 ^ more % n != 0).toNat ≤ n * 1 := Nat.mul_le_mul_left _ hb'
    have h6 : n * (2 * (m * 2 ^ more / n)) = 2 * (n * (m * 2 ^ more / n)) := Nat.mul_left_comm ..
    omega
  refine Nat.lt_of_le_of_lt h3 ?_
  rw [Nat.add_mul]
  -- the first part
  have a1 : 2 * (m * 2 ^ more) * 2 ^ k = (m * 2 ^ k) * 2 ^ (more + 1) := by rw [Nat.pow_succ]; simp only [Nat.mul_assoc, Nat.mul_left_comm, Nat.mul_comm]
  have a2 : (m * 2 ^ k) * 2 ^ (more + 1) ≤ 2 ^ (K + 149) * 2 ^ (more + 1) := Nat.mul_le_mul_right _ h1
  have a3 : 2 ^ (K + 149) * 2 ^ (more + 1) = 2 ^ 149 * 2 ^ (K + more + 1) := by rw [← Nat.pow_add, ← Nat.pow_add]; congr 1; omega
  have a4 : 2 ^ 149 * 2 ^ (K + more + 1) ≤ n * 2 ^ j * 2 ^ (K + more + 1) := Nat.mul_le_mul_right _ h2
  have a5 : n * 2 ^ j * 2 ^ (K + more + 1) = n * 2 ^ (K + j + more + 1) := by rw [Nat.mul_assoc, ← Nat.pow_add]; congr 2; omega
  -- the second part
  have b1 : k ≤ K + j + more + 1 := by
    · have hl := log_lt hm (show m * 2 ^ k < 2 ^ (K + 150) from Nat.lt_of_le_of_lt h1 (Nat.pow_lt_pow_right (by omega) (by omega)))
      have hg := log_ge h2
      omega
  have b2 : n * 2 ^ k ≤ n * 2 ^ (K + j + more + 1) := Nat.mul_le_mul_left _ (Nat.pow_le_pow_right (by omega) b1)
  have c1 : n * 2 ^ (K + 2 + (j + more + 1)) = 4 * (n * 2 ^ (K + j + more + 1)) := by
    rw [show K + 2 + (j + more + 1) = 2 + (K + j + more + 1) by omega, Nat.pow_add, Nat.mul_left_comm]
  have c2 : 0 < n * 2 ^ (K + j + more + 1) := Nat.mul_pos (by omega) (Nat.two_pow_pos _)
  omega
end Go.Proofs.Ytinohfgokpbcdaa
