/- How a plant reaches the cells of a region, row by row. No program in sight. -/
import Derived.Test.YtgaonoklbihkjaaDoorCrowdQ
import Derived.Test.YtgaonoklbihkjaaDoorBaseB
namespace Go.Proofs.YtgaonoklbihkjaaDoor
open Go.RowKit

structure Reg (X Y : Int) (Wn Hn : Nat) : Prop where
  w1 : 1 ≤ Wn
  w2 : Wn ≤ 512
  h1 : 1 ≤ Hn
  h2 : Hn ≤ 512
  n : Wn * Hn ≤ 65536
  x1 : -4194304 ≤ X
  x2 : X + Wn ≤ 4194304
  y1 : -4194304 ≤ Y
  y2 : Y + Hn ≤ 4194304
theorem Reg.of_zero {X Y W H : Int} (h : regE X Y W H = 0) : ∃ Wn Hn : Nat, W = Wn ∧ H = Hn ∧ Reg X Y Wn Hn := by
  unfold regE at h
  split at h
  · cases h
  · rename_i h1
    split at h
    · cases h
    · rename_i h2
      split at h
      · cases h
      · rename_i h3
        refine ⟨W.toNat, H.toNat, by omega, by omega, ?_⟩
        have e : ((W.toNat * H.toNat : Nat) : Int) = W * H := by rw [Int.natCast_mul, Int.toNat_of_nonneg (by omega), Int.toNat_of_nonneg (by omega)]
        exact ⟨by omega, by omega, by omega, by omega, by omega, by omega, by omega, by omega, by omega⟩
def colK (X : Int) (Wn k : Nat) : Int := X + ((k % Wn : Nat) : Int)
def rowK (Y : Int) (Wn k : Nat) : Int := Y + ((k / Wn : Nat) : Int)
def cellK (X Y : Int) (Wn : Nat) (x y : Int) : Nat := (y - Y).toNat * Wn + (x - X).toNat
def cellP (X Y : Int) (Wn k : Nat) : PlantR := ⟨0, colK X Wn k, rowK Y Wn k, 0, 0⟩
theorem cell_of {X Y : Int} {Wn k : Nat} {x y : Int} (hw : 1 ≤ Wn) (hx : X ≤ x) (hx2 : x < X + Wn) (hy : Y ≤ y) : rowK Y Wn k = y ∧ colK X Wn k = x ↔ k = cellK X Y Wn x y := by
  unfold rowK colK cellK
  constructor
  · rintro ⟨h1, h2⟩
    have e1 : (y - Y).toNat = k / Wn := by omega
    have e2 : (x - X).toNat = k % Wn := by omega
    rw [e1, e2, Nat.mul_comm]
    exact (Nat.div_add_mod k Wn).symm
  · intro h
    obtain ⟨r, hr⟩ : ∃ r, (y - Y).toNat = r := ⟨_, rfl⟩
    obtain ⟨s, hs⟩ : ∃ s, (x - X).toNat = s := ⟨_, rfl⟩
    rw [hr, hs] at h
    have hsw : s < Wn := by omega
    subst h
    have e1 : (r * Wn + s) / Wn = r := by rw [Nat.mul_comm, Nat.mul_add_div (by omega), Nat.div_eq_of_lt hsw, Nat.add_zero]
    have e2 : (r * Wn + s) % Wn = s := by rw [Nat.mul_comm, Nat.mul_add_mod, Nat.mod_eq_of_lt hsw]
    rw [e1, e2]
    omega
theorem cellK_lt {X Y : Int} {Wn Hn : Nat} {x y : Int} (hx : X ≤ x) (hx2 : x < X + Wn) (hy : Y ≤ y) (hy2 : y < Y + Hn) : cellK X Y Wn x y < Wn * Hn := by
  unfold cellK
  have h1 : (y - Y).toNat + 1 ≤ Hn := by omega
  have h2 := Nat.mul_le_mul_right Wn h1
  rw [Nat.add_mul, Nat.one_mul] at h2
  rw [Nat.mul_comm Wn Hn]
  omega
theorem row_lt {Y : Int} {Wn Hn k : Nat} (hw : 1 ≤ Wn) (hk : k < Wn * Hn) : Y ≤ rowK Y Wn k ∧ rowK Y Wn k < Y + Hn := by
  unfold rowK
  have := (Nat.div_lt_iff_lt_mul (by omega)).2 (by rwa [Nat.mul_comm] at hk : k < Hn * Wn)
  generalize k / Wn = q at *
  omega
theorem row_ge (Y : Int) (Wn k : Nat) : Y ≤ rowK Y Wn k := Int.le_add_of_nonneg_right (Int.natCast_nonneg _)
theorem col_ge (X : Int) (Wn k : Nat) : X ≤ colK X Wn k := Int.le_add_of_nonneg_right (Int.natCast_nonneg _)
theorem col_lt {X : Int} {Wn k : Nat} (hw : 1 ≤ Wn) : X ≤ colK X Wn k ∧ colK X Wn k < X + Wn := by
  unfold colK
  have := Nat.mod_lt k (show 0 < Wn by omega)
  generalize k % Wn = q at *
  omega
theorem cell_far {X Y : Int} {Wn Hn k : Nat} (hr : Reg X Y Wn Hn) (hk : k < Wn * Hn) : (cellP X Y Wn k).farB = false := by
  have h1 := row_lt (Y := Y) hr.w1 hk
  have h2 := col_lt (X := X) (k := k) hr.w1
  have := hr.x1
  have := hr.x2
  have := hr.y1
  have := hr.y2
  unfold PlantR.farB cellP
  simp only [decide_eq_false_iff_not]
  omega
theorem sqD_symm (a b : PlantR) : sqD a b = sqD b a := by
  unfold sqD
  have e : ∀ x y : Int, (x - y) * (x - y) = (y - x) * (y - x) := fun x y => by
    rw [← Int.neg_sub y x, Int.neg_mul_neg]
  rw [e a.x, e a.y]
theorem sq_lt {z : Int} {r : Nat} (h : z * z < (r : Int) * r) : -(r : Int) < z ∧ z < r := by
  have key : ∀ n : Nat, ((n : Int) * n < (r : Int) * r) → n < r := fun n hn => by
    rcases Nat.lt_or_ge n r with h | h
    · exact h
    · have := Nat.mul_le_mul h h
      rw [← Int.natCast_mul, ← Int.natCast_mul] at hn
      omega
  have e : z * z = ((z.natAbs : Nat) : Int) * (z.natAbs : Nat) := by rw [← Int.natCast_mul, Int.natAbs_mul_self]
  rw [e] at h
  have := key _ h
  omega
theorem near_in {a b : PlantR} {r : Nat} (ha : a.farB = false) (hb : b.farB = false) (h : sqD a b < r * r) : (-(r : Int) < a.x - b.x ∧ a.x - b.x < r) ∧ -(r : Int) < a.y - b.y ∧ a.y - b.y < r := by
  obtain ⟨h1, _, ⟨s1, _⟩, s2, _⟩ := sq_int ha hb
  have h2 : ((sqD a b : Nat) : Int) < (r : Int) * r := by rw [← Int.natCast_mul]; omega
  rw [← h1] at h2
  exact ⟨sq_lt (by omega), sq_lt (by omega)⟩

/-- what stands in the cells when the rows above y, and in row y the cells ahead of x, are done -/
def sprG (nr : Nat → Bool) (f : Nat → Nat → Nat) (g : Nat → Nat) (X Y : Int) (Wn : Nat) (y x : Int) : Nat → Nat :=
  fun k => if nr k = true ∧ (rowK Y Wn k < y ∨ rowK Y Wn k = y ∧ colK X Wn k < x) then f k (g k) else g k
def putG (g : Nat → Nat) (i v : Nat) : Nat → Nat := fun k => if k = i then v else g k
section
variable {nr : Nat → Bool} {f : Nat → Nat → Nat} {g : Nat → Nat} {X Y px py : Int} {Wn Hn r : Nat}
theorem spr_put {x y : Int} (hw : 1 ≤ Wn) (hx : X ≤ x) (hx2 : x < X + Wn) (hy : Y ≤ y) (hn : nr (cellK X Y Wn x y) = true) :
    sprG nr f g X Y Wn y (x + 1) = putG (sprG nr f g X Y Wn y x) (cellK X Y Wn x y) (f (cellK X Y Wn x y) (g (cellK X Y Wn x y))) := by
  funext k
  have hc := cell_of (k := k) hw hx hx2 hy
  unfold sprG putG
  by_cases hk : k = cellK X Y Wn x y
  · rw [if_pos hk, if_pos]
    · rw [hk]
    · have := hc.2 hk
      exact ⟨by rw [hk]; exact hn, .inr ⟨this.1, by omega⟩⟩
  · rw [if_neg hk]
    dsimp only
    have : ¬ (rowK Y Wn k = y ∧ colK X Wn k = x) := fun h => hk (hc.1 h)
    by_cases h2 : nr k = true ∧ (rowK Y Wn k < y ∨ rowK Y Wn k = y ∧ colK X Wn k < x)
    · rw [if_pos h2, if_pos ⟨h2.1, by omega⟩]
    · rw [if_neg h2, if_neg (fun h => h2 ⟨h.1, by omega⟩)]
theorem spr_at {x y : Int} (hw : 1 ≤ Wn) (hx : X ≤ x) (hx2 : x < X + Wn) (hy : Y ≤ y) : sprG nr f g X Y Wn y x (cellK X Y Wn x y) = g (cellK X Y Wn x y) := by
  have hc := (cell_of (k := cellK X Y Wn x y) hw hx hx2 hy).2 rfl
  unfold sprG
  rw [if_neg]
  rintro ⟨_, h⟩
  omega
theorem spr_skip {x y : Int} (hw : 1 ≤ Wn) (hx : X ≤ x) (hx2 : x < X + Wn) (hy : Y ≤ y) (hn : nr (cellK X Y Wn x y) = false) :
    sprG nr f g X Y Wn y (x + 1) = sprG nr f g X Y Wn y x := by
  funext k
  have hc := cell_of (k := k) hw hx hx2 hy
  unfold sprG
  by_cases hk : k = cellK X Y Wn x y
  · rw [← hk] at hn
    rw [if_neg (by rw [hn]; rintro ⟨h, _⟩; cases h), if_neg (by rw [hn]; rintro ⟨h, _⟩; cases h)]
  · have : ¬ (rowK Y Wn k = y ∧ colK X Wn k = x) := fun h => hk (hc.1 h)
    by_cases h2 : nr k = true ∧ (rowK Y Wn k < y ∨ rowK Y Wn k = y ∧ colK X Wn k < x)
    · rw [if_pos h2, if_pos ⟨h2.1, by omega⟩]
    · rw [if_neg h2, if_neg (fun h => h2 ⟨h.1, by omega⟩)]
variable (hin : ∀ k, nr k = true → (-(r : Int) < colK X Wn k - px ∧ colK X Wn k - px < r) ∧ -(r : Int) < rowK Y Wn k - py ∧ rowK Y Wn k - py < r)
include hin
theorem spr_same {y x y2 x2 : Int} (h : ∀ k, nr k = true → (-(r : Int) < colK X Wn k - px ∧ colK X Wn k - px < r) ∧ (-(r : Int) < rowK Y Wn k - py ∧ rowK Y Wn k - py < r) → ((rowK Y Wn k < y ∨ rowK Y Wn k = y ∧ colK X Wn k < x) ↔ (rowK Y Wn k < y2 ∨ rowK Y Wn k = y2 ∧ colK X Wn k < x2))) : sprG nr f g X Y Wn y x = sprG nr f g X Y Wn y2 x2 := by
  funext k
  unfold sprG
  by_cases hn : nr k = true
  · have h1 := h k hn (hin k hn)
    by_cases h2 : rowK Y Wn k < y ∨ rowK Y Wn k = y ∧ colK X Wn k < x
    · rw [if_pos ⟨hn, h2⟩, if_pos ⟨hn, h1.1 h2⟩]
    · rw [if_neg (fun h => h2 h.2), if_neg (fun h => h2 (h1.2 h.2))]
  · rw [if_neg (fun h => hn h.1), if_neg (fun h => hn h.1)]
theorem spr_start (hw : 1 ≤ Wn) : sprG nr f g X Y Wn (max (py - r) Y) X = g := by
  funext k
  unfold sprG
  have hc := col_lt (X := X) (k := k) hw
  have hr : Y ≤ rowK Y Wn k := row_ge Y Wn k
  rw [if_neg]
  rintro ⟨hn, h⟩
  have := hin k hn
  omega
theorem spr_row {y : Int} : sprG nr f g X Y Wn y X = sprG nr f g X Y Wn y (max (px - r) X) := by
  refine spr_same hin fun k _ h => ?_
  have : X ≤ colK X Wn k := col_ge X Wn k
  omega
theorem spr_next {y x : Int} (hw : 1 ≤ Wn) (hx : min (px + r) (X + Wn - 1) < x) : sprG nr f g X Y Wn y x = sprG nr f g X Y Wn (y + 1) X := by
  refine spr_same hin fun k _ h => ?_
  have := col_lt (X := X) (k := k) hw
  omega
theorem spr_end {y : Int} {k : Nat} (hw : 1 ≤ Wn) (hk : k < Wn * Hn) (hy : min (py + r) (Y + Hn - 1) < y) : sprG nr f g X Y Wn y X k = if nr k = true then f k (g k) else g k := by
  have hr := row_lt (Y := Y) hw hk
  unfold sprG
  by_cases hn : nr k = true
  · have := hin k hn
    rw [if_pos hn, if_pos ⟨hn, by omega⟩]
  · rw [if_neg hn, if_neg (fun h => hn h.1)]
end
end Go.Proofs.YtgaonoklbihkjaaDoor
