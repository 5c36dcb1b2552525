/- A share of 2 ^ 24 parts: the product and the quotient are the same number. No program in sight. -/
import Derived.Test.YtgaonoklbihkjaaDoorCrowdQ
namespace Go.Proofs.YtgaonoklbihkjaaDoor
open Ieee Go.RowKit

def unitF (h : Int) : Nat := fmul (floatOfInt .f32 h) 864026624
def shareF (h : Int) : Nat := fdiv (floatOfInt .f32 h) 1266679808
theorem prod_pow {M N j t V : Nat} (h : M * 2 ^ j = N * V) : M * 8388608 * 2 ^ (j + t) = N * (V * (8388608 * 2 ^ t)) := by
  rw [Nat.pow_add, ← Nat.mul_assoc N, ← h]
  generalize 2 ^ j = Y
  generalize 2 ^ t = T
  simp only [Nat.mul_assoc, Nat.mul_left_comm]
theorem quot_pow {M N j a b t V : Nat} (h : M * 2 ^ j = N * V) (hab : 1 + a + b = j + t) : 2 * (M * 2 ^ a) * 2 ^ b = N * (V * 2 ^ t) := by
  rw [← Nat.mul_assoc N, ← h, Nat.mul_assoc M, ← Nat.pow_add, ← hab, Nat.pow_add 2 (1 + a), Nat.pow_add 2 1, Nat.pow_one]
  generalize 2 ^ a = Y
  generalize 2 ^ b = T
  simp only [Nat.mul_assoc, Nat.mul_left_comm]
theorem pow_cut {c : Nat} : (2 : Nat) ^ (149 + (23 + c)) = 2 ^ 149 * (8388608 * 2 ^ c) := by
  rw [Nat.pow_add 2 149, Nat.pow_add 2 23]
theorem mul_read {x y m n : Nat} {e f : Int} (hx : single.read x = .number false m e) (hy : single.read y = .number false n f) : single.mul x y = some (single.nearest false (m * n) (e + f)) := by
  unfold Format.mul
  rw [hx, hy]
  rfl
theorem div_read {x y m : Nat} {e f : Int} (hx : single.read x = .number false m e) (hy : single.read y = .number false 8388608 f) (hm : m.log2 < 24) : single.div x y = some (single.nearest false (2 * (m <<< (48 - m.log2) / 8388608)) (e - f - ((48 - m.log2 : Nat) : Int) - 1)) := by
  unfold Format.div
  rw [hx, hy]
  simp only [Datum.quotient, single_frac]
  rw [if_neg (by omega : ¬ (8388608 : Nat) = 0)]
  have hlg : Nat.log2 8388608 = 23 := by decide +kernel
  rw [hlg]
  have hmod : m <<< (23 + 2 + 23 - m.log2) % 8388608 = 0 := by
    rw [Nat.shiftLeft_eq, show 23 + 2 + 23 - m.log2 = (25 - m.log2) + 23 by omega, Nat.pow_add, ← Nat.mul_assoc]
    exact Nat.mul_mod_left _ _
  rw [hmod]
  simp only [bne_self_eq_false, Bool.toNat_false, Nat.add_zero]
  rfl
theorem fmul_of {x y r : Nat} (h : single.mul x y = some r) : floatBits .mul .f32 x y = some (fmul x y) ∧ fmul x y = r := by
  have e' : floatBits .mul .f32 x y = some r := h
  simp [fmul, e']
theorem fdiv_of {x y r : Nat} (h : single.div x y = some r) : floatBits .quo .f32 x y = some (fdiv x y) ∧ fdiv x y = r := by
  have e' : floatBits .quo .f32 x y = some r := h
  simp [fdiv, e']
theorem parts_ok {N : Nat} (hN : N < 16777216) : floatBits .mul .f32 (floatOfInt .f32 (N : Int)) 864026624 = some (unitF N) ∧ floatBits .quo .f32 (floatOfInt .f32 (N : Int)) 1266679808 = some (shareF N) ∧ ∀ b, Num b → lt b (unitF N) = !(gt b (shareF N) || (ord b (shareF N) == some .eq)) := by
  rcases Nat.eq_zero_or_pos N with rfl | hpos
  · have z : floatOfInt .f32 ((0 : Nat) : Int) = 0 := by decide +kernel
    have u0 : floatBits .mul .f32 0 864026624 = some 0 := by decide +kernel
    have s0 : floatBits .quo .f32 0 1266679808 = some 0 := by decide +kernel
    have u1 : unitF ((0 : Nat) : Int) = 0 := by unfold unitF; rw [z]; unfold fmul; rw [u0]; rfl
    have s1 : shareF ((0 : Nat) : Int) = 0 := by unfold shareF; rw [z]; unfold fdiv; rw [s0]; rfl
    rw [u1, s1, z]
    refine ⟨u0, s0, fun b hb => ?_⟩
    obtain ⟨s, m, k, e⟩ := hb
    have o := ord_val e read_zero
    rw [lt_def o, gt_def o, o]
    cases compare (signed s m k) (signed false 0 0) <;> rfl
  · obtain ⟨M, j, e1, v1⟩ := int_single (n := N) (by omega) hN
    have hM : M ≠ 0 := by
      rintro rfl
      rw [Nat.zero_mul] at v1
      exact absurd v1.symm (Nat.mul_ne_zero (by omega) (Nat.pos_iff_ne_zero.1 (Nat.two_pow_pos _)))
    have c1 : single.read 864026624 = .number false 8388608 (((102 : Nat) : Int) - 149) := by decide +kernel
    have c2 : single.read 1266679808 = .number false 8388608 (((150 : Nat) : Int) - 149) := by decide +kernel
    have hl : N.log2 < 24 := (Nat.log2_lt (by omega)).2 hN
    -- the product
    have hu := mul_read e1 c1
    have hm24 : M < 16777216 := by
      rcases canon ⟨false, M, j, e1⟩ with ⟨s, h⟩ | ⟨s, m, k, h, _, h2, _⟩
      · rw [e1] at h
        injection h with _ h _
        exact absurd h hM
      · rw [e1] at h
        injection h with _ h _
        omega
    have hML : M.log2 < 24 := (Nat.log2_lt hM).2 hm24
    obtain ⟨t, ht⟩ : ∃ t : Nat, t = 1004 := ⟨_, rfl⟩
    obtain ⟨M1, j1, r1, w1⟩ := single_exact false (mag := M * 8388608) (m := N) (P := ((j : Int) - 149) + (((102 : Nat) : Int) - 149)) (i := -24) (by omega) (by omega) (by omega) (by omega) (by omega) (by
      rw [show (((j : Int) - 149) + (((102 : Nat) : Int) - 149) + 1200).toNat = j + t by omega, show ((-24 : Int) + 1200).toNat = 149 + (23 + t) by omega, pow_cut]
      exact prod_pow v1)
    have hq := div_read e1 c2 hML
    obtain ⟨t2, ht2⟩ : ∃ t : Nat, t = 1027 := ⟨_, rfl⟩
    obtain ⟨M2, j2, r2, w2⟩ := single_exact false (mag := 2 * (M <<< (48 - M.log2) / 8388608)) (m := N) (P := ((j : Int) - 149) - (((150 : Nat) : Int) - 149) - ((48 - M.log2 : Nat) : Int) - 1) (i := -24) (by omega) (by omega) (by omega) (by omega) (by omega) (by
      rw [Nat.shiftLeft_eq, show 48 - M.log2 = (25 - M.log2) + 23 by omega, Nat.pow_add 2 (25 - M.log2), ← Nat.mul_assoc, show (2 : Nat) ^ 23 = 8388608 by decide, Nat.mul_div_cancel _ (by decide : 0 < 8388608)]
      rw [show (((j : Int) - 149) - (((150 : Nat) : Int) - 149) - (((25 - M.log2) + 23 : Nat) : Int) - 1 + 1200).toNat = (j + 1001 + M.log2) by omega]
      rw [show ((-24 : Int) + 1200).toNat = 149 + t2 by omega, Nat.pow_add 2 149]
      exact quot_pow v1 (by omega))
    obtain ⟨u1, u2⟩ := fmul_of hu
    obtain ⟨s1, s2⟩ := fdiv_of hq
    refine ⟨u1, s1, fun b hb => ?_⟩
    rw [← u2] at r1
    rw [← s2] at r2
    have hu2 : single.read (unitF N) = .number false M1 ((j1 : Int) - 149) := r1
    have hs2 : single.read (shareF N) = .number false M2 ((j2 : Int) - 149) := r2
    obtain ⟨s, m, k, e⟩ := hb
    have o1 := ord_val e hu2
    have o2 := ord_val e hs2
    have hv : signed false M1 j1 = signed false M2 j2 := by rw [signed_nat, signed_nat, w1, w2]
    rw [hv] at o1
    rw [lt_def o1, gt_def o2, o2]
    cases compare (signed s m k) (signed false M2 j2) <;> rfl
end Go.Proofs.YtgaonoklbihkjaaDoor
