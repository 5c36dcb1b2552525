/- Cells of a region and their neighbours: water.beside, water.border, water.point; tarnref2.Place, Neighbour, Edge. -/
import Derived.Test.YtinohfgokpbcdaaStepP
import Derived.Deep.DeepCutAuto
import Derived.BigQuiet
namespace Go.Proofs.Ytinohfgokpbcdaa
open Go.RowKit
attribute [local go_sem ↓] Go.wp_at_zero Go.wp_at_succ

structure Reg (X Y : Int) (Wn Hn : Nat) : Prop where
  w1 : 1 ≤ Wn
  w2 : Wn ≤ 512
  h1 : 1 ≤ Hn
  h2 : Hn ≤ 512
  n : Wn * Hn ≤ 65536
  x1 : -4194304 ≤ X
  x2 : X + Wn ≤ 4194304
  y1 : -4194304 ≤ Y
  y2 : Y + Hn ≤ 4194304
theorem Reg.of_zero {X Y W H : Int} (h : regE X Y W H = 0) : ∃ Wn Hn : Nat, W = Wn ∧ H = Hn ∧ Reg X Y Wn Hn := by
  unfold regE at h
  split at h
  · cases h
  · rename_i h1
    split at h
    · cases h
    · rename_i h2
      split at h
      · cases h
      · rename_i h3
        refine ⟨W.toNat, H.toNat, by omega, by omega, ?_⟩
        have e : ((W.toNat * H.toNat : Nat) : Int) = W * H := by rw [Int.natCast_mul, Int.toNat_of_nonneg (by omega), Int.toNat_of_nonneg (by omega)]
        exact ⟨by omega, by omega, by omega, by omega, by omega, by omega, by omega, by omega, by omega⟩
theorem Reg.ok {X Y : Int} {Wn Hn : Nat} (h : Reg X Y Wn Hn) : RegOk X Y Wn Hn := by
  have := h.w1; have := h.w2; have := h.h1; have := h.h2; have := h.x1; have := h.x2; have := h.y1; have := h.y2
  unfold RegOk
  omega
/-- the value of a region -/
def rgv (X Y : Int) (Wn Hn : Nat) : Value := .agg #[.int .i64 X, .int .i64 Y, .int .i64 (Wn : Int), .int .i64 (Hn : Int)]

theorem step_bd (d : Int) : -1 ≤ stepX d ∧ stepX d ≤ 1 ∧ -1 ≤ stepY d ∧ stepY d ≤ 1 := by
  unfold stepX stepY
  refine ⟨?_, ?_, ?_, ?_⟩ <;> (repeat' split) <;> omega
/-- the neighbour of a cell -/
def nbr (Wn Hn k d : Nat) : Option Nat :=
  if 0 ≤ ((k % Wn : Nat) : Int) + stepX d ∧ ((k % Wn : Nat) : Int) + stepX d < Wn ∧ 0 ≤ ((k / Wn : Nat) : Int) + stepY d ∧ ((k / Wn : Nat) : Int) + stepY d < Hn then
    some ((((k / Wn : Nat) : Int) + stepY d).toNat * Wn + (((k % Wn : Nat) : Int) + stepX d).toNat) else none
theorem mul_lt {a b Wn Hn : Nat} (ha : a < Wn) (hb : b < Hn) : b * Wn + a < Wn * Hn := by
  have h2 := Nat.mul_le_mul_right Wn (show b + 1 ≤ Hn by omega)
  rw [Nat.add_mul, Nat.one_mul] at h2
  rw [Nat.mul_comm Wn Hn]
  omega
theorem nbr_lt {Wn Hn k d n : Nat} (h : nbr Wn Hn k d = some n) : n < Wn * Hn := by
  unfold nbr at h
  split at h
  · injection h with h
    subst h
    exact mul_lt (by omega) (by omega)
  · cases h
theorem grid_facts {k Wn Hn : Nat} (h1 : 1 ≤ Wn) (hk : k < Wn * Hn) : k % Wn < Wn ∧ k / Wn < Hn :=
  ⟨Nat.mod_lt _ (by omega), Nat.div_lt_of_lt_mul hk⟩
def nbV (o : Option Nat) : Value := .tuple #[.int .i64 ((o.getD 0 : Nat) : Int), .bool o.isSome]

set_option maxRecDepth 100000 in
set_option maxHeartbeats 3200000 in
theorem beside_any (X Y : Int) (Wn Hn k d : Nat) (w : World) (hr : Reg X Y Wn Hn) (hk : k < Wn * Hn) (hd : d < 8) :
    Calls Try.prog 104 #[rgv X Y Wn Hn, .int .i64 k, .int .i64 d] w fun e w' => e = .returned (nbV (nbr Wn Hn k d)) ∧ Ext w w' := by
  obtain ⟨f1, f2⟩ := grid_facts hr.w1 hk
  obtain ⟨s1, s2, s3, s4⟩ := step_bd d
  have hk6 : k < 65536 := Nat.lt_of_lt_of_le hk hr.n
  have HT := fun (w : World) => hidA (toward_any d w (by omega) (by omega))
  have z1 := hr.w1
  have z2 := hr.w2
  have z3 := hr.h2
  have e1 := hidA (show (k : Int) % (Wn : Int) = ((k % Wn : Nat) : Int) from rfl)
  have e2 := hidA (show (k : Int) / (Wn : Int) = ((k / Wn : Nat) : Int) from rfl)
  have hmul := @mul_lt ((((k % Wn : Nat) : Int) + stepX d).toNat) ((((k / Wn : Nat) : Int) + stepY d).toNat) Wn Hn
  have hn6 := hr.n
  have hnb : nbr Wn Hn k d = if 0 ≤ ((k % Wn : Nat) : Int) + stepX d ∧ ((k % Wn : Nat) : Int) + stepX d < Wn ∧ 0 ≤ ((k / Wn : Nat) : Int) + stepY d ∧ ((k / Wn : Nat) : Int) + stepY d < Hn then some ((((k / Wn : Nat) : Int) + stepY d).toNat * Wn + (((k % Wn : Nat) : Int) + stepX d).toNat) else none := rfl
  generalize k % Wn = a at *
  generalize k / Wn = b at *
  generalize stepX d = sx at *
  generalize stepY d = sy at *
  generalize nbr Wn Hn k d = nb at *
  have q1 : wrap64 (b : Int) = b := IntWalk.wrap64_in _ ⟨by omega, by omega⟩
  have q2 : IntKind.i64.wrap ((a : Int) + sx) = (a : Int) + sx := IntWalk.i64_in _ ⟨by omega, by omega⟩
  have q3 : IntKind.i64.wrap ((b : Int) + sy) = (b : Int) + sy := IntWalk.i64_in _ ⟨by omega, by omega⟩
  have Hnb := hidA hnb
  have Hmul := hidA hmul
  clear hr hk hnb hmul
  have hcase : ((a : Int) + sx < 0) ∨ (¬ (a : Int) + sx < 0 ∧ (b : Int) + sy < 0) ∨ (¬ (a : Int) + sx < 0 ∧ ¬ (b : Int) + sy < 0 ∧ (Wn : Int) ≤ (a : Int) + sx) ∨ (¬ (a : Int) + sx < 0 ∧ ¬ (b : Int) + sy < 0 ∧ ¬ (Wn : Int) ≤ (a : Int) + sx ∧ (Hn : Int) ≤ (b : Int) + sy) ∨ (¬ (a : Int) + sx < 0 ∧ ¬ (b : Int) + sy < 0 ∧ ¬ (Wn : Int) ≤ (a : Int) + sx ∧ ¬ (Hn : Int) ≤ (b : Int) + sy) := by omega
  have E1 := e1.out
  have E2 := e2.out
  clear e1 e2
  have y1 : (1 : Int) ≤ Wn := by omega
  have y2 : (0 : Int) ≤ k := by omega
  unfold rgv
  rcases hcase with c1 | ⟨c1, c2⟩ | ⟨c1, c2, c3⟩ | ⟨c1, c2, c3, c4⟩ | ⟨c1, c2, c3, c4⟩
  · have hv : Hid (nb = none) := by clear E1 E2; show nb = none; rw [Hnb.out, if_neg (by omega)]
    go_enter Try.func104, Try.ntmps104
    go_wp2_with (go_at_call 151; refine (HT _).out.mono ?_; rintro e w1 ⟨rfl, hb1⟩; have kR : Bk w1 w.heap.size 23 #[.int .i64 X, .int .i64 Y, .int .i64 (Wn : Int), .int .i64 (Hn : Int)] := (Bk.new' rfl).ext hb1; have k2 := kR.cell 2; have k3 := kR.cell 3; have kl := kR.lt)
    go_quiet (fail)
    clear E1 E2 q1 q2 q3
    go_wp2
    go_ret2
    exact ⟨by rw [hv.out]; rfl, (by repeat (first | exact Ext.refl _ | assumption | refine Ext.setCell ?_ (by first | (simp; done) | (simp; omega)) _ | refine Ext.drewN ?_ _ | refine Ext.alloc ?_ _ | refine Ext.drew ?_ | refine Ext.trans ?_ (by assumption)))⟩
  · have hv : Hid (nb = none) := by clear E1 E2; show nb = none; rw [Hnb.out, if_neg (by omega)]
    go_enter Try.func104, Try.ntmps104
    go_wp2_with (go_at_call 151; refine (HT _).out.mono ?_; rintro e w1 ⟨rfl, hb1⟩; have kR : Bk w1 w.heap.size 23 #[.int .i64 X, .int .i64 Y, .int .i64 (Wn : Int), .int .i64 (Hn : Int)] := (Bk.new' rfl).ext hb1; have k2 := kR.cell 2; have k3 := kR.cell 3; have kl := kR.lt)
    go_quiet (fail)
    clear E1 E2 q1 q2 q3
    go_wp2
    go_ret2
    exact ⟨by rw [hv.out]; rfl, (by repeat (first | exact Ext.refl _ | assumption | refine Ext.setCell ?_ (by first | (simp; done) | (simp; omega)) _ | refine Ext.drewN ?_ _ | refine Ext.alloc ?_ _ | refine Ext.drew ?_ | refine Ext.trans ?_ (by assumption)))⟩
  · have hv : Hid (nb = none) := by clear E1 E2; show nb = none; rw [Hnb.out, if_neg (by omega)]
    go_enter Try.func104, Try.ntmps104
    go_wp2_with (go_at_call 151; refine (HT _).out.mono ?_; rintro e w1 ⟨rfl, hb1⟩; have kR : Bk w1 w.heap.size 23 #[.int .i64 X, .int .i64 Y, .int .i64 (Wn : Int), .int .i64 (Hn : Int)] := (Bk.new' rfl).ext hb1; have k2 := kR.cell 2; have k3 := kR.cell 3; have kl := kR.lt)
    go_quiet (fail)
    clear E1 E2 q1 q2 q3
    go_wp2
    go_ret2
    exact ⟨by rw [hv.out]; rfl, (by repeat (first | exact Ext.refl _ | assumption | refine Ext.setCell ?_ (by first | (simp; done) | (simp; omega)) _ | refine Ext.drewN ?_ _ | refine Ext.alloc ?_ _ | refine Ext.drew ?_ | refine Ext.trans ?_ (by assumption)))⟩
  · have hv : Hid (nb = none) := by clear E1 E2; show nb = none; rw [Hnb.out, if_neg (by omega)]
    go_enter Try.func104, Try.ntmps104
    go_wp2_with (go_at_call 151; refine (HT _).out.mono ?_; rintro e w1 ⟨rfl, hb1⟩; have kR : Bk w1 w.heap.size 23 #[.int .i64 X, .int .i64 Y, .int .i64 (Wn : Int), .int .i64 (Hn : Int)] := (Bk.new' rfl).ext hb1; have k2 := kR.cell 2; have k3 := kR.cell 3; have kl := kR.lt)
    go_quiet (fail)
    clear E1 E2 q1 q2 q3
    go_wp2
    go_ret2
    exact ⟨by rw [hv.out]; rfl, (by repeat (first | exact Ext.refl _ | assumption | refine Ext.setCell ?_ (by first | (simp; done) | (simp; omega)) _ | refine Ext.drewN ?_ _ | refine Ext.alloc ?_ _ | refine Ext.drew ?_ | refine Ext.trans ?_ (by assumption)))⟩
  · have hv : Hid (nb = some (((b : Int) + sy).toNat * Wn + ((a : Int) + sx).toNat)) := by clear E1 E2; show nb = _; rw [Hnb.out, if_pos (by omega)]
    have hm : ((b : Int) + sy).toNat * Wn + ((a : Int) + sx).toNat < Wn * Hn := Hmul.out (by clear E1 E2; omega) (by clear E1 E2; omega)
    go_enter Try.func104, Try.ntmps104
    go_wp2_with (go_at_call 151; refine (HT _).out.mono ?_; rintro e w1 ⟨rfl, hb1⟩; have kR : Bk w1 w.heap.size 23 #[.int .i64 X, .int .i64 Y, .int .i64 (Wn : Int), .int .i64 (Hn : Int)] := (Bk.new' rfl).ext hb1; have k2 := kR.cell 2; have k3 := kR.cell 3; have kl := kR.lt)
    go_quiet (fail)
    obtain ⟨x', hx'⟩ : ∃ x' : Nat, (a : Int) + sx = x' := ⟨((a : Int) + sx).toNat, by clear E1 E2; omega⟩
    obtain ⟨y', hy'⟩ : ∃ y' : Nat, (b : Int) + sy = y' := ⟨((b : Int) + sy).toNat, by clear E1 E2; omega⟩
    rw [hx', hy'] at hm ⊢
    rw [hx', hy'] at hv
    rw [hx'] at c1 c3
    rw [hy'] at c2 c4
    rw [Int.toNat_natCast, Int.toNat_natCast] at hm hv
    clear E1 E2 q1 q2 q3 Hnb Hmul
    have e3 : (y' : Int) * (Wn : Int) = ((y' * Wn : Nat) : Int) := (Int.natCast_mul _ _).symm
    have E3 := hidA e3
    clear e3
    generalize hp : y' * Wn = pr at hm hv E3
    have p2 : (0 : Int) ≤ (y' : Int) * (Wn : Int) ∧ (y' : Int) * (Wn : Int) ≤ 65536 := by rw [E3.out]; omega
    obtain ⟨p3, p4⟩ := p2
    clear hp hx' hy'
    go_wp2
    go_ret2
    refine ⟨?_, (by repeat (first | exact Ext.refl _ | assumption | refine Ext.setCell ?_ (by first | (simp; done) | (simp; omega)) _ | refine Ext.drewN ?_ _ | refine Ext.alloc ?_ _ | refine Ext.drew ?_ | refine Ext.trans ?_ (by assumption)))⟩
    rw [hv.out]
    unfold nbV
    simp [E3.out]

/-- whether a cell is of the border -/
def brd (Wn Hn k : Nat) : Bool := decide (k % Wn = 0) || decide (k / Wn = 0) || decide (k % Wn = Wn - 1) || decide (k / Wn = Hn - 1)
theorem brd_nbr {Wn Hn k : Nat} (h1 : 1 ≤ Wn) (hk : k < Wn * Hn) : brd Wn Hn k = true ↔ ∃ d, d < 8 ∧ nbr Wn Hn k d = none := by
  obtain ⟨f1, f2⟩ := grid_facts h1 hk
  unfold brd nbr
  generalize k % Wn = a at *
  generalize k / Wn = b at *
  simp only [Bool.or_eq_true, decide_eq_true_eq]
  have s0 : stepX ((0 : Nat) : Int) = 1 := rfl
  have s4 : stepX ((4 : Nat) : Int) = -1 := rfl
  have s2 : stepY ((2 : Nat) : Int) = 1 := rfl
  have s6 : stepY ((6 : Nat) : Int) = -1 := rfl
  constructor
  · rintro (((h | h) | h) | h)
    · exact ⟨4, by omega, if_neg (by rw [s4]; omega)⟩
    · exact ⟨6, by omega, if_neg (by rw [s6]; omega)⟩
    · exact ⟨0, by omega, if_neg (by rw [s0]; omega)⟩
    · exact ⟨2, by omega, if_neg (by rw [s2]; omega)⟩
  · rintro ⟨d, hd, h⟩
    obtain ⟨b1, b2, b3, b4⟩ := step_bd d
    split at h
    · cases h
    · omega

set_option maxRecDepth 100000 in
set_option maxHeartbeats 3200000 in
theorem border_any (X Y : Int) (Wn Hn k : Nat) (w : World) (hr : Reg X Y Wn Hn) (hk : k < Wn * Hn) :
    Calls Try.prog 131 #[rgv X Y Wn Hn, .int .i64 k] w fun e w' => e = .returned (.bool (brd Wn Hn k)) ∧ Ext w w' := by
  obtain ⟨f1, f2⟩ := grid_facts hr.w1 hk
  have hk6 : k < 65536 := Nat.lt_of_lt_of_le hk hr.n
  have z1 := hr.w1
  have z2 := hr.w2
  have z3 := hr.h2
  have e1 := hidA (show (k : Int) % (Wn : Int) = ((k % Wn : Nat) : Int) from rfl)
  have e2 := hidA (show (k : Int) / (Wn : Int) = ((k / Wn : Nat) : Int) from rfl)
  have hnb : brd Wn Hn k = (decide (k % Wn = 0) || decide (k / Wn = 0) || decide (k % Wn = Wn - 1) || decide (k / Wn = Hn - 1)) := rfl
  generalize k % Wn = a at *
  generalize k / Wn = b at *
  generalize brd Wn Hn k = nb at *
  have q1 : wrap64 (b : Int) = b := IntWalk.wrap64_in _ ⟨by omega, by omega⟩
  have Hnb := hidA hnb
  clear hr hk hnb
  have y1 : (1 : Int) ≤ Wn := by omega
  have y2 : (0 : Int) ≤ k := by omega
  have y3 : (1 : Int) ≤ Hn := by omega
  have hcase : ((a : Int) = 0) ∨ (((a : Int) == 0) = false ∧ (b : Int) = 0) ∨ (((a : Int) == 0) = false ∧ ((b : Int) == 0) = false ∧ (a : Int) = (Wn : Int) - 1) ∨ (((a : Int) == 0) = false ∧ ((b : Int) == 0) = false ∧ ((a : Int) == (Wn : Int) - 1) = false ∧ (b : Int) = (Hn : Int) - 1) ∨ (((a : Int) == 0) = false ∧ ((b : Int) == 0) = false ∧ ((a : Int) == (Wn : Int) - 1) = false ∧ ((b : Int) == (Hn : Int) - 1) = false) := by
    simp only [beq_eq_false_iff_ne, ne_eq]
    omega
  have E1 := e1.out
  have E2 := e2.out
  clear e1 e2
  unfold rgv
  rcases hcase with c1 | ⟨c1, c2⟩ | ⟨c1, c2, c3⟩ | ⟨c1, c2, c3, c4⟩ | ⟨c1, c2, c3, c4⟩
  · have hv : Hid (nb = true) := by
      clear E1 E2
      show nb = _
      rw [Hnb.out]
      simp [show a = 0 from by omega]
    have g0 : ((a : Int) == 0) = true := by rw [c1]; simp
    have C := hidA c1
    clear c1
    go_enter Try.func131, Try.ntmps131
    go_wp2
    go_quiet (fail)
    rw [E1]
    clear E1 E2 q1
    go_wp2
    go_ret
    exact ⟨ret_b hv.out.symm, (by repeat (first | exact Ext.refl _ | assumption | refine Ext.setCell ?_ (by first | (simp; done) | (simp; omega)) _ | refine Ext.drewN ?_ _ | refine Ext.alloc ?_ _ | refine Ext.drew ?_ | refine Ext.trans ?_ (by assumption)))⟩
  · have hv : Hid (nb = true) := by
      clear E1 E2
      show nb = _
      rw [Hnb.out]
      simp [show b = 0 from by omega]
    have g1 : ((b : Int) == 0) = true := by rw [c2]; simp
    have C := hidA c2
    clear c2
    go_enter Try.func131, Try.ntmps131
    go_wp2
    go_quiet (fail)
    rw [E1]
    clear E1 E2 q1
    go_wp2
    go_ret
    exact ⟨ret_b hv.out.symm, (by repeat (first | exact Ext.refl _ | assumption | refine Ext.setCell ?_ (by first | (simp; done) | (simp; omega)) _ | refine Ext.drewN ?_ _ | refine Ext.alloc ?_ _ | refine Ext.drew ?_ | refine Ext.trans ?_ (by assumption)))⟩
  · have hv : Hid (nb = true) := by
      clear E1 E2
      show nb = _
      rw [Hnb.out]
      simp [show a = Wn - 1 from by omega]
    have g2 : ((a : Int) == (Wn : Int) - 1) = true := by rw [c3]; simp
    have C := hidA c3
    clear c3
    go_enter Try.func131, Try.ntmps131
    go_wp2
    go_quiet (fail)
    rw [E1]
    clear E1 E2 q1
    go_wp2
    go_ret
    exact ⟨ret_b hv.out.symm, (by repeat (first | exact Ext.refl _ | assumption | refine Ext.setCell ?_ (by first | (simp; done) | (simp; omega)) _ | refine Ext.drewN ?_ _ | refine Ext.alloc ?_ _ | refine Ext.drew ?_ | refine Ext.trans ?_ (by assumption)))⟩
  · have hv : Hid (nb = true) := by
      clear E1 E2
      show nb = _
      rw [Hnb.out]
      simp [show b = Hn - 1 from by omega]
    have g3 : ((b : Int) == (Hn : Int) - 1) = true := by rw [c4]; simp
    have C := hidA c4
    clear c4
    go_enter Try.func131, Try.ntmps131
    go_wp2
    go_quiet (fail)
    rw [E1]
    clear E1 E2 q1
    go_wp2
    go_ret
    exact ⟨ret_b hv.out.symm, (by repeat (first | exact Ext.refl _ | assumption | refine Ext.setCell ?_ (by first | (simp; done) | (simp; omega)) _ | refine Ext.drewN ?_ _ | refine Ext.alloc ?_ _ | refine Ext.drew ?_ | refine Ext.trans ?_ (by assumption)))⟩
  · have hv : Hid (nb = false) := by
      clear E1 E2
      show nb = _
      rw [Hnb.out]
      have d1 : a ≠ 0 := by simp at c1; omega
      have d2 : b ≠ 0 := by simp at c2; omega
      have d3 : a ≠ Wn - 1 := by simp at c3; omega
      have d4 : b ≠ Hn - 1 := by simp at c4; omega
      simp [d1, d2, d3, d4]
    go_enter Try.func131, Try.ntmps131
    go_wp2
    go_quiet (fail)
    rw [E1]
    clear E1 E2 q1
    go_wp2
    go_ret
    exact ⟨ret_b hv.out.symm, (by repeat (first | exact Ext.refl _ | assumption | refine Ext.setCell ?_ (by first | (simp; done) | (simp; omega)) _ | refine Ext.drewN ?_ _ | refine Ext.alloc ?_ _ | refine Ext.drew ?_ | refine Ext.trans ?_ (by assumption)))⟩
end Go.Proofs.Ytinohfgokpbcdaa
