/- Cells of a region and their neighbours: water.beside, water.border, water.point; tarnref2.Place, Neighbour, Edge. -/
import Derived.Test.YtpgdinpckolfpaaStepP
import Derived.Deep.DeepCutAuto
import Derived.BigQuiet
namespace Go.Proofs.Ytpgdinpckolfpaa
open Go.RowKit
attribute [local go_sem ↓] Go.wp_at_zero Go.wp_at_succ

structure Reg (X Y : Int) (Wn Hn : Nat) : Prop where
  w1 : 1 ≤ Wn
  w2 : Wn ≤ 512
  h1 : 1 ≤ Hn
  h2 : Hn ≤ 512
  n : Wn * Hn ≤ 65536
  x1 : -4194304 ≤ X
  x2 : X + Wn ≤ 4194304
  y1 : -4194304 ≤ Y
  y2 : Y + Hn ≤ 4194304
theorem Reg.of_zero {X Y W H : Int} (h : regE X Y W H = 0) : ∃ Wn Hn : Nat, W = Wn ∧ H = Hn ∧ Reg X Y Wn Hn := by
  unfold regE at h
  split at h
  · cases h
  · rename_i h1
    split at h
    · cases h
    · rename_i h2
      split at h
      · cases h
      · rename_i h3
        refine ⟨W.toNat, H.toNat, by omega, by omega, ?_⟩
        have e : ((W.toNat * H.toNat : Nat) : Int) = W * H := by rw [Int.natCast_mul, Int.toNat_of_nonneg (by omega), Int.toNat_of_nonneg (by omega)]
        exact ⟨by omega, by omega, by omega, by omega, by omega, by omega, by omega, by omega, by omega⟩
theorem Reg.ok {X Y : Int} {Wn Hn : Nat} (h : Reg X Y Wn Hn) : RegOk X Y Wn Hn := by
  have := h.w1; have := h.w2; have := h.h1; have := h.h2; have := h.x1; have := h.x2; have := h.y1; have := h.y2
  unfold RegOk
  omega
/-- the value of a region -/
def rgv (X Y : Int) (Wn Hn : Nat) : Value := .agg #[.int .i64 X, .int .i64 Y, .int .i64 (Wn : Int), .int .i64 (Hn : Int)]

theorem step_bd (d : Int) : -1 ≤ stepX d ∧ stepX d ≤ 1 ∧ -1 ≤ stepY d ∧ stepY d ≤ 1 := by
  unfold stepX stepY
  refine ⟨?_, ?_, ?_, ?_⟩ <;> (repeat' split) <;> omega
/-- the neighbour of a cell -/
def nbr (Wn Hn k d : Nat) : Option Nat :=
  if 0 ≤ ((k % Wn : Nat) : Int) + stepX d ∧ ((k % Wn : Nat) : Int) + stepX d < Wn ∧ 0 ≤ ((k / Wn : Nat) : Int) + stepY d ∧ ((k / Wn : Nat) : Int) + stepY d < Hn then
    some ((((k / Wn : Nat) : Int) + stepY d).toNat * Wn + (((k % Wn : Nat) : Int) + stepX d).toNat) else none
theorem mul_lt {a b Wn Hn : Nat} (ha : a < Wn) (hb : b < Hn) : b * Wn + a < Wn * Hn := by
  have h2 := Nat.mul_le_mul_right Wn (show b + 1 ≤ Hn by omega)
  rw [Nat.add_mul, Nat.one_mul] at h2
  rw [Nat.mul_comm Wn Hn]
  omega
theorem nbr_lt {Wn Hn k d n : Nat} (h : nbr Wn Hn k d = some n) : n < Wn * Hn := by
  unfold nbr at h
  split at h
  · injection h with h
    subst h
    exact mul_lt (by omega) (by omega)
  · cases h
theorem grid_facts {k Wn Hn : Nat} (h1 : 1 ≤ Wn) (hk : k < Wn * Hn) : k % Wn < Wn ∧ k / Wn < Hn :=
  ⟨Nat.mod_lt _ (by omega), Nat.div_lt_of_lt_mul hk⟩
def nbV (o : Option Nat) : Value := .tuple #[.int .i64 ((o.getD 0 : Nat) : Int), .bool o.isSome]

/-- whether a cell is of the border -/
def brd (Wn Hn k : Nat) : Bool := decide (k % Wn = 0) || decide (k / Wn = 0) || decide (k % Wn = Wn - 1) || decide (k / Wn = Hn - 1)
theorem brd_nbr {Wn Hn k : Nat} (h1 : 1 ≤ Wn) (hk : k < Wn * Hn) : brd Wn Hn k = true ↔ ∃ d, d < 8 ∧ nbr Wn Hn k d = none := by
  obtain ⟨f1, f2⟩ := grid_facts h1 hk
  unfold brd nbr
  generalize k % Wn = a at *
  generalize k / Wn = b at *
  simp only [Bool.or_eq_true, decide_eq_true_eq]
  have s0 : stepX ((0 : Nat) : Int) = 1 := rfl
  have s4 : stepX ((4 : Nat) : Int) = -1 := rfl
  have s2 : stepY ((2 : Nat) : Int) = 1 := rfl
  have s6 : stepY ((6 : Nat) : Int) = -1 := rfl
  constructor
  · rintro (((h | h) | h) | h)
    · exact ⟨4, by omega, if_neg (by rw [s4]; omega)⟩
    · exact ⟨6, by omega, if_neg (by rw [s6]; omega)⟩
    · exact ⟨0, by omega, if_neg (by rw [s0]; omega)⟩
    · exact ⟨2, by omega, if_neg (by rw [s2]; omega)⟩
  · rintro ⟨d, hd, h⟩
    obtain ⟨b1, b2, b3, b4⟩ := step_bd d
    split at h
    · cases h
    · omega

end Go.Proofs.Ytpgdinpckolfpaa
