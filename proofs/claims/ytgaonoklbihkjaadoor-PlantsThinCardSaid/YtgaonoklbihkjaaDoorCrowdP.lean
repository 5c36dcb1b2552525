/- Plain words for how plants crowd each other: what is reckoned from zero, and from the first part, differ in the sign of a zero alone. No program in sight. -/
import Derived.Test.YtgaonoklbihkjaaDoorPlantsA
import Derived.Test.YtgaonoklbihkjaaDoorRootLt
import Derived.Test.YtgaonoklbihkjaaDoorExtrQ
namespace Go.Proofs.YtgaonoklbihkjaaDoor
open Ieee Go.RowKit

theorem add_val {x y : Nat} {s t : Bool} {m n k j : Nat} (hx : single.read x = .number s m ((k : Int) - 149)) (hy : single.read y = .number t n ((j : Int) - 149)) :
    ∃ g, fadd x y = single.nearest g (signed s m (k - min k j) + signed t n (j - min k j)).natAbs (((min k j : Nat) : Int) - 149) ∧ (signed s m (k - min k j) + signed t n (j - min k j) ≠ 0 → g = decide (signed s m (k - min k j) + signed t n (j - min k j) < 0)) := by
  have e : min ((k : Int) - 149) ((j : Int) - 149) = ((min k j : Nat) : Int) - 149 := by omega
  have h : single.add x y = some (single.nearest (if signed s m (k - min k j) + signed t n (j - min k j) = 0 then s && t else signed s m (k - min k j) + signed t n (j - min k j) < 0) (signed s m (k - min k j) + signed t n (j - min k j)).natAbs (((min k j : Nat) : Int) - 149)) := by
    unfold Format.add
    rw [hx, hy]
    simp only [Datum.sum, Option.map_some, Format.write]
    rw [e, show ((k : Int) - 149 - (((min k j : Nat) : Int) - 149)).toNat = k - min k j by omega, show ((j : Int) - 149 - (((min k j : Nat) : Int) - 149)).toNat = j - min k j by omega]
  have h5 : floatBits .add .f32 x y = some _ := h
  unfold fadd
  rw [h5]
  refine ⟨_, rfl, fun h3 => ?_⟩
  rw [if_neg h3]
theorem fadd_same {a b w : Nat} (h : Same a b) (hw : Num w) : Same (fadd a w) (fadd b w) := by
  have hz : ∀ t k, signed t 0 k = 0 := fun t k => by cases t <;> simp [signed]
  rcases h with h | ⟨⟨s1, e1⟩, ⟨s2, e2⟩⟩
  · left
    have : fadd a w = fadd b w := by
      unfold fadd
      have : floatBits .add .f32 a w = floatBits .add .f32 b w := by
        show single.add a w = single.add b w
        unfold Format.add
        rw [h]
      rw [this]
    rw [this]
  · obtain ⟨t, n, j, e⟩ := hw
    obtain ⟨g, f1, f2⟩ := add_val e1 e
    obtain ⟨g2, f3, f4⟩ := add_val e2 e
    rw [hz] at f1 f2 f3 f4
    by_cases h0 : (0 : Int) + signed t n (j - min 0 j) = 0
    · right
      rw [f1, f3, h0]
      exact ⟨near_nil _ _, near_nil _ _⟩
    · left
      rw [f1, f3, f2 h0, f4 h0]
theorem same_eq {a b : Nat} (h : Same a b) (ha : nanB a = false) : (FloatKind.f32.format.order a b == some .eq) = true := by
  have hz : ∀ t, signed t 0 0 = 0 := fun t => by cases t <;> rfl
  have h2 : ord a b = some .eq := by
    rcases h with h | ⟨⟨s, e1⟩, ⟨t, e2⟩⟩
    · have h1 := ord_self ha
      show single.order a b = _
      have h3 : single.order a a = some .eq := h1
      unfold Format.order at *
      rw [← h]
      exact h3
    · rw [ord_val e1 e2, hz, hz]
      rfl
  rw [ord_def, h2]
  rfl

/-- what a neighbour weighs -/
def wgt (size : Nat) (d r : Nat) : Nat := fmul size (fsub 1065353216 (fdiv (rootB (floatOfInt .f32 (d : Int))) (floatOfInt .f32 (r : Int))))
theorem wgt_ok {size d r : Nat} (hs : Bd 20 size) (h : d < r * r) (hr : r ≤ 64) :
    floatBits .quo .f32 (rootB (floatOfInt .f32 (d : Int))) (floatOfInt .f32 (r : Int)) = some (fdiv (rootB (floatOfInt .f32 (d : Int))) (floatOfInt .f32 (r : Int))) ∧
    floatBits .sub .f32 1065353216 (fdiv (rootB (floatOfInt .f32 (d : Int))) (floatOfInt .f32 (r : Int))) = some (fsub 1065353216 (fdiv (rootB (floatOfInt .f32 (d : Int))) (floatOfInt .f32 (r : Int)))) ∧
    floatBits .mul .f32 size (fsub 1065353216 (fdiv (rootB (floatOfInt .f32 (d : Int))) (floatOfInt .f32 (r : Int)))) = some (wgt size d r) ∧ Num (wgt size d r) ∧ Bd 60 (wgt size d r) := by
  have hr0 : 1 ≤ r := by
    rcases Nat.eq_zero_or_pos r with h0 | h0
    · subst h0; omega
    · exact h0
  have hd : d < 4096 := by
    have : r * r ≤ 64 * 64 := Nat.mul_le_mul hr hr
    omega
  have b1 : Bd 13 (floatOfInt .f32 (d : Int)) := int_bd (by show (d : Int).natAbs < 8192; omega) (by omega)
  obtain ⟨_, _, _, _, _, b2, _⟩ := root_ok b1 (int_pos d) (by omega)
  have hg : Ge1 (floatOfInt .f32 (r : Int)) := int_ge (by omega) (Nat.lt_of_lt_of_le (show (r : Int).natAbs < 2 ^ 7 by show _ < 128; omega) (Nat.pow_le_pow_right (by omega) (by omega)))
  obtain ⟨q, c1, c2⟩ := fdiv_bd b2 hg (by omega)
  have c3 : floatBits .quo .f32 (rootB (floatOfInt .f32 (d : Int))) (floatOfInt .f32 (r : Int)) = some q := c1
  have c4 : fdiv (rootB (floatOfInt .f32 (d : Int))) (floatOfInt .f32 (r : Int)) = q := by unfold fdiv; rw [c3]; rfl
  obtain ⟨d1, d2⟩ := fsub_ok (one_bd.mono (show 0 ≤ 22 by omega)) c2 (by omega)
  obtain ⟨e1, e2⟩ := fmul_ok hs d2 (by omega)
  unfold wgt
  rw [c4]
  exact ⟨c3, d1, e1, num_of_bd e2 (by omega), e2.mono (by omega)⟩

/-- the square of the distance of two plants -/
def sqD (a b : PlantR) : Nat := ((a.x - b.x) * (a.x - b.x) + (a.y - b.y) * (a.y - b.y)).toNat
theorem sq_int {a b : PlantR} (ha : a.farB = false) (hb : b.farB = false) : (a.x - b.x) * (a.x - b.x) + (a.y - b.y) * (a.y - b.y) = ((sqD a b : Nat) : Int) ∧ sqD a b < 2 ^ 60 ∧
    (0 ≤ (a.x - b.x) * (a.x - b.x) ∧ (a.x - b.x) * (a.x - b.x) ≤ 70368744177664) ∧ (0 ≤ (a.y - b.y) * (a.y - b.y) ∧ (a.y - b.y) * (a.y - b.y) ≤ 70368744177664) := by
  have h1 := far_no ha
  have h2 := far_no hb
  have sq : ∀ z : Int, -8388608 ≤ z → z ≤ 8388608 → 0 ≤ z * z ∧ z * z ≤ 70368744177664 := by
    intro z z1 z2
    have e : z * z = (z.natAbs * z.natAbs : Nat) := by
      rw [Int.natAbs_mul_self]
    have e2 : z.natAbs * z.natAbs ≤ 8388608 * 8388608 := Nat.mul_le_mul (by omega) (by omega)
    rw [e]
    omega
  have s1 := sq (a.x - b.x) (by omega) (by omega)
  have s2 := sq (a.y - b.y) (by omega) (by omega)
  unfold sqD
  generalize (a.x - b.x) * (a.x - b.x) = p at *
  generalize (a.y - b.y) * (a.y - b.y) = q at *
  refine ⟨by omega, ?_, s1, s2⟩
  show _ < 1152921504606846976
  omega

section
variable (l : List KindR) (p : List PlantR) (i : Nat)
/-- the sum of two plants' spaces -/
def spR (k : Nat) : Nat := match p[k]?, p[i]? with
  | some a, some b => (spaceOf l a.kind + spaceOf l b.kind).toNat
  | _, _ => 0
def sqK (k : Nat) : Nat := match p[k]?, p[i]? with
  | some a, some b => sqD a b
  | _, _ => 0
def szK (k : Nat) : Nat := (p[k]?.map PlantR.size).getD 0
def nearB (k : Nat) : Bool := decide (k ≠ i ∧ sqK p i k < spR l p i k * spR l p i k)
def crowdF : Nat → Nat
  | 0 => 0
  | k + 1 => if nearB l p i k = true then fadd (crowdF k) (wgt (szK p k) (sqK p i k) (spR l p i k)) else crowdF k
def crowdG : Nat → Nat × Bool
  | 0 => (0, true)
  | k + 1 => if nearB l p i k = true then (if (crowdG k).2 = true then (wgt (szK p k) (sqK p i k) (spR l p i k), false) else (fadd (crowdG k).1 (wgt (szK p k) (sqK p i k) (spR l p i k)), false)) else crowdG k
end
end Go.Proofs.YtgaonoklbihkjaaDoor
