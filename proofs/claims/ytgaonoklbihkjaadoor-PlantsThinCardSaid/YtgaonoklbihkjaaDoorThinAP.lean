/- Plain words: the order in which plants stand is that of lists of integers. -/
import Derived.Test.YtgaonoklbihkjaaDoorCrowdQ
import Derived.Test.YtgaonoklbihkjaaDoorCrowdA
import Derived.Laws.Closers25b
import Derived.Test.YtgaonoklbihkjaaDoorPlantsB
import Derived.Sort.Grow
import Derived.Deep.DeepCutAuto
import Derived.Deep.RegionLaw
import Derived.BigRegion
import Derived.BigQuiet
namespace Go.Proofs.YtgaonoklbihkjaaDoor
open Ieee Go.RowKit

def unitF (h : Int) : Nat := fmul (floatOfInt .f32 h) 864026624
def shareF (h : Int) : Nat := fdiv (floatOfInt .f32 h) 1266679808
theorem prod_pow {M N j t V : Nat} (h : M * 2 ^ j = N * V) : M * 8388608 * 2 ^ (j + t) = N * (V * (8388608 * 2 ^ t)) := by
  rw [Nat.pow_add, ← Nat.mul_assoc N, ← h]
  generalize 2 ^ j = Y
  generalize 2 ^ t = T
  simp only [Nat.mul_assoc, Nat.mul_left_comm]
theorem quot_pow {M N j a b t V : Nat} (h : M * 2 ^ j = N * V) (hab : 1 + a + b = j + t) : 2 * (M * 2 ^ a) * 2 ^ b = N * (V * 2 ^ t) := by
  rw [← Nat.mul_assoc N, ← h, Nat.mul_assoc M, ← Nat.pow_add, ← hab, Nat.pow_add 2 (1 + a), Nat.pow_add 2 1, Nat.pow_one]
  generalize 2 ^ a = Y
  generalize 2 ^ b = T
  simp only [Nat.mul_assoc, Nat.mul_left_comm]
theorem pow_cut {c : Nat} : (2 : Nat) ^ (149 + (23 + c)) = 2 ^ 149 * (8388608 * 2 ^ c) := by
  rw [Nat.pow_add 2 149, Nat.pow_add 2 23]
theorem mul_read {x y m n : Nat} {e f : Int} (hx : single.read x = .number false m e) (hy : single.read y = .number false n f) : single.mul x y = some (single.nearest false (m * n) (e + f)) := by
  unfold Format.mul
  rw [hx, hy]
  rfl
theorem div_read {x y m : Nat} {e f : Int} (hx : single.read x = .number false m e) (hy : single.read y = .number false 8388608 f) (hm : m.log2 < 24) : single.div x y = some (single.nearest false (2 * (m <<< (48 - m.log2) / 8388608)) (e - f - ((48 - m.log2 : Nat) : Int) - 1)) := by
  unfold Format.div
  rw [hx, hy]
  simp only [Datum.quotient, single_frac]
  rw [if_neg (by omega : ¬ (8388608 : Nat) = 0)]
  have hlg : Nat.log2 8388608 = 23 := by decide +kernel
  rw [hlg]
  have hmod : m <<< (23 + 2 + 23 - m.log2) % 8388608 = 0 := by
    rw [Nat.shiftLeft_eq, show 23 + 2 + 23 - m.log2 = (25 - m.log2) + 23 by omega, Nat.pow_add, ← Nat.mul_assoc]
    exact Nat.mul_mod_left _ _
  rw [hmod]
  simp only [bne_self_eq_false, Bool.toNat_false, Nat.add_zero]
  rfl
theorem fmul_of {x y r : Nat} (h : single.mul x y = some r) : floatBits .mul .f32 x y = some (fmul x y) ∧ fmul x y = r := by
  have e' : floatBits .mul .f32 x y = some r := h
  simp [fmul, e']
theorem fdiv_of {x y r : Nat} (h : single.div x y = some r) : floatBits .quo .f32 x y = some (fdiv x y) ∧ fdiv x y = r := by
  have e' : floatBits .quo .f32 x y = some r := h
  simp [fdiv, e']
theorem parts_ok {N : Nat} (hN : N < 16777216) : floatBits .mul .f32 (floatOfInt .f32 (N : Int)) 864026624 = some (unitF N) ∧ floatBits .quo .f32 (floatOfInt .f32 (N : Int)) 1266679808 = some (shareF N) ∧ ∀ b, Num b → lt b (unitF N) = !(gt b (shareF N) || (ord b (shareF N) == some .eq)) := by
  rcases Nat.eq_zero_or_pos N with rfl | hpos
  · have z : floatOfInt .f32 ((0 : Nat) : Int) = 0 := by decide +kernel
    have u0 : floatBits .mul .f32 0 864026624 = some 0 := by decide +kernel
    have s0 : floatBits .quo .f32 0 1266679808 = some 0 := by decide +kernel
    have u1 : unitF ((0 : Nat) : Int) = 0 := by unfold unitF; rw [z]; unfold fmul; rw [u0]; rfl
    have s1 : shareF ((0 : Nat) : Int) = 0 := by unfold shareF; rw [z]; unfold fdiv; rw [s0]; rfl
    rw [u1, s1, z]
    refine ⟨u0, s0, fun b hb => ?_⟩
    obtain ⟨s, m, k, e⟩ := hb
    have o := ord_val e read_zero
    rw [lt_def o, gt_def o, o]
    cases compare (signed s m k) (signed false 0 0) <;> rfl
  · obtain ⟨M, j, e1, v1⟩ := int_single (n := N) (by omega) hN
    have hM : M ≠ 0 := by
      rintro rfl
      rw [Nat.zero_mul] at v1
      exact absurd v1.symm (Nat.mul_ne_zero (by omega) (Nat.pos_iff_ne_zero.1 (Nat.two_pow_pos _)))
    have c1 : single.read 864026624 = .number false 8388608 (((102 : Nat) : Int) - 149) := by decide +kernel
    have c2 : single.read 1266679808 = .number false 8388608 (((150 : Nat) : Int) - 149) := by decide +kernel
    have hl : N.log2 < 24 := (Nat.log2_lt (by omega)).2 hN
    -- the product
    have hu := mul_read e1 c1
    have hm24 : M < 16777216 := by
      rcases canon ⟨false, M, j, e1⟩ with ⟨s, h⟩ | ⟨s, m, k, h, _, h2, _⟩
      · rw [e1] at h
        injection h with _ h _
        exact absurd h hM
      · rw [e1] at h
        injection h with _ h _
        omega
    have hML : M.log2 < 24 := (Nat.log2_lt hM).2 hm24
    obtain ⟨t, ht⟩ : ∃ t : Nat, t = 1004 := ⟨_, rfl⟩
    obtain ⟨M1, j1, r1, w1⟩ := single_exact false (mag := M * 8388608) (m := N) (P := ((j : Int) - 149) + (((102 : Nat) : Int) - 149)) (i := -24) (by omega) (by omega) (by omega) (by omega) (by omega) (by
      rw [show (((j : Int) - 149) + (((102 : Nat) : Int) - 149) + 1200).toNat = j + t by omega, show ((-24 : Int) + 1200).toNat = 149 + (23 + t) by omega, pow_cut]
      exact prod_pow v1)
    have hq := div_read e1 c2 hML
    obtain ⟨t2, ht2⟩ : ∃ t : Nat, t = 1027 := ⟨_, rfl⟩
    obtain ⟨M2, j2, r2, w2⟩ := single_exact false (mag := 2 * (M <<< (48 - M.log2) / 8388608)) (m := N) (P := ((j : Int) - 149) - (((150 : Nat) : Int) - 149) - ((48 - M.log2 : Nat) : Int) - 1) (i := -24) (by omega) (by omega) (by omega) (by omega) (by omega) (by
      rw [Nat.shiftLeft_eq, show 48 - M.log2 = (25 - M.log2) + 23 by omega, Nat.pow_add 2 (25 - M.log2), ← Nat.mul_assoc, show (2 : Nat) ^ 23 = 8388608 by decide, Nat.mul_div_cancel _ (by decide : 0 < 8388608)]
      rw [show (((j : Int) - 149) - (((150 : Nat) : Int) - 149) - (((25 - M.log2) + 23 : Nat) : Int) - 1 + 1200).toNat = (j + 1001 + M.log2) by omega]
      rw [show ((-24 : Int) + 1200).toNat = 149 + t2 by omega, Nat.pow_add 2 149]
      exact quot_pow v1 (by omega))
    obtain ⟨u1, u2⟩ := fmul_of hu
    obtain ⟨s1, s2⟩ := fdiv_of hq
    refine ⟨u1, s1, fun b hb => ?_⟩
    rw [← u2] at r1
    rw [← s2] at r2
    have hu2 : single.read (unitF N) = .number false M1 ((j1 : Int) - 149) := r1
    have hs2 : single.read (shareF N) = .number false M2 ((j2 : Int) - 149) := r2
    obtain ⟨s, m, k, e⟩ := hb
    have o1 := ord_val e hu2
    have o2 := ord_val e hs2
    have hv : signed false M1 j1 = signed false M2 j2 := by rw [signed_nat, signed_nat, w1, w2]
    rw [hv] at o1
    rw [lt_def o1, gt_def o2, o2]
    cases compare (signed s m k) (signed false M2 j2) <;> rfl
end Go.Proofs.YtgaonoklbihkjaaDoor
namespace Go.Proofs.YtgaonoklbihkjaaDoor
open Go.RowKit
attribute [local go_sem ↓] Go.wp_at_zero Go.wp_at_succ

def stepX (d : Int) : Int := if d = 0 then 1 else if d = 1 then 1 else if d = 2 then 0 else if d = 3 then -1 else if d = 4 then -1 else if d = 5 then -1 else if d = 6 then 0 else 1
def stepY (d : Int) : Int := if d = 0 then 0 else if d = 1 then 1 else if d = 2 then 1 else if d = 3 then 1 else if d = 4 then 0 else if d = 5 then -1 else if d = 6 then -1 else -1

set_option maxRecDepth 100000 in
set_option maxHeartbeats 3200000 in
theorem step_any (d : Int) (w : World) (h0 : 0 ≤ d) (h : d < 8) :
    Calls Tryd.prog 54 #[.int .i64 d] w fun e w' => e = .returned (.tuple #[.int .i64 (stepX d), .int .i64 (stepY d)]) ∧ Ext w w' := by
  have hd : d = 0 ∨ d = 1 ∨ d = 2 ∨ d = 3 ∨ d = 4 ∨ d = 5 ∨ d = 6 ∨ d = 7 := by omega
  rcases hd with rfl | rfl | rfl | rfl | rfl | rfl | rfl | rfl
  all_goals
    go_enter Tryd.func54, Tryd.ntmps54
    go_wp2
    (try (go_quiet (fail)))
    (try go_wp2)
    go_ret2
    exact ⟨rfl, (by repeat (first | exact Ext.refl _ | assumption | refine Ext.setCell ?_ (by first | (simp; done) | (simp; omega)) _ | refine Ext.drewN ?_ _ | refine Ext.alloc ?_ _ | refine Ext.drew ?_ | refine Ext.trans ?_ (by assumption)))⟩
set_option maxRecDepth 100000 in
set_option maxHeartbeats 3200000 in
theorem toward_any (d : Int) (w : World) (h0 : 0 ≤ d) (h : d < 8) :
    Calls Tryd.prog 67 #[.int .i64 d] w fun e w' => e = .returned (.agg #[.int .i64 (stepX d), .int .i64 (stepY d)]) ∧ Ext w w' := by
  have hd : d = 0 ∨ d = 1 ∨ d = 2 ∨ d = 3 ∨ d = 4 ∨ d = 5 ∨ d = 6 ∨ d = 7 := by omega
  rcases hd with rfl | rfl | rfl | rfl | rfl | rfl | rfl | rfl
  · go_enter Tryd.func67, Tryd.ntmps67
    go_wp2
    refine bodyPost_ret (v := .agg #[.int .i64 (stepX 0), .int .i64 (stepY 0)]) (by simp [results, Tryd.results67, go_sem]; exact ⟨rfl, rfl⟩) rfl ⟨rfl, (by repeat (first | exact Ext.refl _ | assumption | refine Ext.setCell ?_ (by first | (simp; done) | (simp; omega)) _ | refine Ext.drewN ?_ _ | refine Ext.alloc ?_ _ | refine Ext.drew ?_ | refine Ext.trans ?_ (by assumption)))⟩
  · go_enter Tryd.func67, Tryd.ntmps67
    go_wp2
    refine bodyPost_ret (v := .agg #[.int .i64 (stepX 1), .int .i64 (stepY 1)]) (by simp [results, Tryd.results67, go_sem]; exact ⟨rfl, rfl⟩) rfl ⟨rfl, (by repeat (first | exact Ext.refl _ | assumption | refine Ext.setCell ?_ (by first | (simp; done) | (simp; omega)) _ | refine Ext.drewN ?_ _ | refine Ext.alloc ?_ _ | refine Ext.drew ?_ | refine Ext.trans ?_ (by assumption)))⟩
  · go_enter Tryd.func67, Tryd.ntmps67
    go_wp2
    refine bodyPost_ret (v := .agg #[.int .i64 (stepX 2), .int .i64 (stepY 2)]) (by simp [results, Tryd.results67, go_sem]; exact ⟨rfl, rfl⟩) rfl ⟨rfl, (by repeat (first | exact Ext.refl _ | assumption | refine Ext.setCell ?_ (by first | (simp; done) | (simp; omega)) _ | refine Ext.drewN ?_ _ | refine Ext.alloc ?_ _ | refine Ext.drew ?_ | refine Ext.trans ?_ (by assumption)))⟩
  · go_enter Tryd.func67, Tryd.ntmps67
    go_wp2
    refine bodyPost_ret (v := .agg #[.int .i64 (stepX 3), .int .i64 (stepY 3)]) (by simp [results, Tryd.results67, go_sem]; exact ⟨rfl, rfl⟩) rfl ⟨rfl, (by repeat (first | exact Ext.refl _ | assumption | refine Ext.setCell ?_ (by first | (simp; done) | (simp; omega)) _ | refine Ext.drewN ?_ _ | refine Ext.alloc ?_ _ | refine Ext.drew ?_ | refine Ext.trans ?_ (by assumption)))⟩
  · go_enter Tryd.func67, Tryd.ntmps67
    go_wp2
    refine bodyPost_ret (v := .agg #[.int .i64 (stepX 4), .int .i64 (stepY 4)]) (by simp [results, Tryd.results67, go_sem]; exact ⟨rfl, rfl⟩) rfl ⟨rfl, (by repeat (first | exact Ext.refl _ | assumption | refine Ext.setCell ?_ (by first | (simp; done) | (simp; omega)) _ | refine Ext.drewN ?_ _ | refine Ext.alloc ?_ _ | refine Ext.drew ?_ | refine Ext.trans ?_ (by assumption)))⟩
  · go_enter Tryd.func67, Tryd.ntmps67
    go_wp2
    refine bodyPost_ret (v := .agg #[.int .i64 (stepX 5), .int .i64 (stepY 5)]) (by simp [results, Tryd.results67, go_sem]; exact ⟨rfl, rfl⟩) rfl ⟨rfl, (by repeat (first | exact Ext.refl _ | assumption | refine Ext.setCell ?_ (by first | (simp; done) | (simp; omega)) _ | refine Ext.drewN ?_ _ | refine Ext.alloc ?_ _ | refine Ext.drew ?_ | refine Ext.trans ?_ (by assumption)))⟩
  · go_enter Tryd.func67, Tryd.ntmps67
    go_wp2
    refine bodyPost_ret (v := .agg #[.int .i64 (stepX 6), .int .i64 (stepY 6)]) (by simp [results, Tryd.results67, go_sem]; exact ⟨rfl, rfl⟩) rfl ⟨rfl, (by repeat (first | exact Ext.refl _ | assumption | refine Ext.setCell ?_ (by first | (simp; done) | (simp; omega)) _ | refine Ext.drewN ?_ _ | refine Ext.alloc ?_ _ | refine Ext.drew ?_ | refine Ext.trans ?_ (by assumption)))⟩
  · go_enter Tryd.func67, Tryd.ntmps67
    go_wp2
    refine bodyPost_ret (v := .agg #[.int .i64 (stepX 7), .int .i64 (stepY 7)]) (by simp [results, Tryd.results67, go_sem]; exact ⟨rfl, rfl⟩) rfl ⟨rfl, (by repeat (first | exact Ext.refl _ | assumption | refine Ext.setCell ?_ (by first | (simp; done) | (simp; omega)) _ | refine Ext.drewN ?_ _ | refine Ext.alloc ?_ _ | refine Ext.drew ?_ | refine Ext.trans ?_ (by assumption)))⟩
end Go.Proofs.YtgaonoklbihkjaaDoor
namespace Go.Proofs.YtgaonoklbihkjaaDoor
open Go.RowKit
attribute [local go_sem ↓] Go.wp_at_zero Go.wp_at_succ

def pick3 (x y n : Int) (k : Nat) : Int := if k = 0 then x else if k = 1 then y else n
theorem idx3_0 (x y n : Int) (w : World) : (Instr.index 106 (.agg #[.int .i64 x, .int .i64 y, .int .i64 n]) (.int .i64 0)).run Tryd.prog w = .ok (.int .i64 x) w := by kernel_rfl
theorem idx3_1 (x y n : Int) (w : World) : (Instr.index 106 (.agg #[.int .i64 x, .int .i64 y, .int .i64 n]) (.int .i64 1)).run Tryd.prog w = .ok (.int .i64 y) w := by kernel_rfl
theorem idx3_2 (x y n : Int) (w : World) : (Instr.index 106 (.agg #[.int .i64 x, .int .i64 y, .int .i64 n]) (.int .i64 2)).run Tryd.prog w = .ok (.int .i64 n) w := by kernel_rfl
theorem idx3 (x y n : Int) (k : Nat) (hk : k < 3) (w : World) : (Instr.index 106 (.agg #[.int .i64 x, .int .i64 y, .int .i64 n]) (.int .i64 (k : Int))).run Tryd.prog w = .ok (.int .i64 (pick3 x y n k)) w := by
  have : k = 0 ∨ k = 1 ∨ k = 2 := by omega
  rcases this with h | h | h
  · subst h; exact idx3_0 x y n w
  · subst h; exact idx3_1 x y n w
  · subst h; exact idx3_2 x y n w
def b1 (H v : Int) : Int := bits .xor .u32 H (v % 4294967296)
def b2 (a : Int) : Int := bits .xor .u32 a (a / 65536) * 2246822507 % 4294967296
def b3 (a : Int) : Int := bits .xor .u32 a (a / 8192) * 3266489909 % 4294967296
def b4 (a : Int) : Int := bits .xor .u32 a (a / 65536)
def mixS (H v : Int) : Int := b4 (b3 (b2 (b1 H v)))
def mixK (s x y n : Int) : Nat → Int
  | 0 => s
  | k + 1 => mixS (mixK s x y n k) (pick3 x y n k)
theorem mixK_in (s x y n : Int) : ∀ k, 0 < k → 0 ≤ mixK s x y n k ∧ mixK s x y n k ≤ 4294967295
  | 0, h => absurd h (by omega)
  | k + 1, _ => bits_within .xor .u32 _ _

set_option maxRecDepth 100000 in
set_option maxHeartbeats 1600000 in
theorem hash_any (s x y n : Int) (w : World) :
    Calls Tryd.prog 49 #[.int .u32 s, .int .i64 x, .int .i64 y, .int .i64 n] w fun e w' => e = .returned (.int .u32 (mixK s x y n 3)) ∧ w' = w := by
  go_enter Tryd.func49, Tryd.ntmps49
  go_wp2
  go_loopw [9, 17] (fun h i wr => ∃ (k : Nat), k ≤ 3 ∧ i = .int .i64 k ∧ h = .int .u32 (mixK s x y n k) ∧ wr = w) (fun _ i _ => 3 - (intOf i).toNat)
  case atStart => exact ⟨0, by omega, rfl, rfl, rfl⟩
  case round =>
    obtain ⟨k, hk, rfl, rfl, rfl⟩ := hrel
    have HK : Hid (mixK s x y n (k + 1) = mixS (mixK s x y n k) (pick3 x y n k)) := rfl
    have HE : Hid (k = 3 → mixK s x y n k = mixK s x y n 3) := fun h => by rw [h]
    generalize mixK s x y n k = H at *
    by_cases h : k < 3
    · have hi := idx3 x y n k h
      generalize pick3 x y n k = v at *
      go_wp2_with fail
      go_roundw
      case rel => exact ⟨k + 1, by omega, congrArg (Value.int .i64) (by omega), by rw [HK.out]; rfl, by first | rfl | trivial⟩
      case measure => simp [intOf]; omega
    · have hk3 : k = 3 := by omega
      rw [HE.out hk3]
      subst hk3
      go_wp2_with fail
      go_ret
      exact ⟨rfl, rfl⟩

set_option maxRecDepth 100000 in
set_option maxHeartbeats 1600000 in
theorem mixed_any (s x y n : Int) (w : World) :
    Calls Tryd.prog 53 #[.int .u32 s, .int .i64 x, .int .i64 y, .int .i64 n] w fun e w' => e = .returned (.int .u32 (mixK s x y n 3)) ∧ Ext w w' := by
  go_enter Tryd.func53, Tryd.ntmps53
  go_wp2
  go_loopw [9, 18] (fun h i wr => ∃ (k : Nat), k ≤ 3 ∧ i = .int .i64 k ∧ h = .int .u32 (mixK s x y n k) ∧ wr = w.alloc (.cells #[.int .i64 x, .int .i64 y, .int .i64 n] 3)) (fun _ i _ => 3 - (intOf i).toNat)
  case atStart => exact ⟨0, by omega, rfl, rfl, rfl⟩
  case round =>
    obtain ⟨k, hk, rfl, rfl, rfl⟩ := hrel
    have HK : Hid (mixK s x y n (k + 1) = mixS (mixK s x y n k) (pick3 x y n k)) := rfl
    have HE : Hid (k = 3 → mixK s x y n k = mixK s x y n 3) := fun h => by rw [h]
    generalize mixK s x y n k = H at *
    by_cases h : k < 3
    · have hB : Bk (w.alloc (.cells #[.int .i64 x, .int .i64 y, .int .i64 n] 3)) w.heap.size 3 #[.int .i64 x, .int .i64 y, .int .i64 n] := Bk.new' rfl
      have hc : (w.alloc (.cells #[.int .i64 x, .int .i64 y, .int .i64 n] 3)).cell? ⟨w.heap.size, k, none⟩ = some (.int .i64 (pick3 x y n k)) := by
        rw [hB.cell]
        have : k = 0 ∨ k = 1 ∨ k = 2 := by omega
        rcases this with h | h | h <;> subst h <;> rfl
      have k0 : (0 : Int) ≤ k := by omega
      have k1 : (k : Int) < 3 := by omega
      generalize pick3 x y n k = v at *
      go_wp2_with fail
      go_roundw
      case rel => exact ⟨k + 1, by omega, congrArg (Value.int .i64) (by omega), by rw [HK.out]; rfl, by first | rfl | trivial⟩
      case measure => simp [intOf]; omega
    · have hk3 : k = 3 := by omega
      rw [HE.out hk3]
      subst hk3
      go_wp2_with fail
      go_ret
      exact ⟨rfl, (by repeat (first | exact Ext.refl _ | assumption | refine Ext.setCell ?_ (by first | (simp; done) | (simp; omega)) _ | refine Ext.drewN ?_ _ | refine Ext.alloc ?_ _ | refine Ext.drew ?_ | refine Ext.trans ?_ (by assumption)))⟩

theorem share_nat {h : Int} (h0 : 0 ≤ h) (h1 : h ≤ 4294967295) : ∃ N : Nat, h / 256 = (N : Int) ∧ N < 16777216 := ⟨(h / 256).toNat, by omega, by omega⟩
theorem unit_any (h : Int) (w : World) (h0 : 0 ≤ h) (h1 : h ≤ 4294967295) :
    Calls Tryd.prog 48 #[.int .u32 h] w fun e w' => e = .returned (.float .f32 (unitF (h / 256))) ∧ w' = w := by
  obtain ⟨N, hN, hl⟩ := share_nat h0 h1
  have hm := (parts_ok hl).1
  rw [← hN] at hm
  have q := fun (w : World) => run_float_arith (P := Tryd.prog) w .mul 24 .f32 _ _ _ hm
  clear hm hN hl
  go_enter Tryd.func48, Tryd.ntmps48
  go_wp2
  go_ret
  exact ⟨rfl, rfl⟩
theorem share_any (h : Int) (w : World) (h0 : 0 ≤ h) (h1 : h ≤ 4294967295) :
    Calls Tryd.prog 52 #[.int .u32 h] w fun e w' => e = .returned (.float .f32 (shareF (h / 256))) ∧ w' = w := by
  obtain ⟨N, hN, hl⟩ := share_nat h0 h1
  have hm := (parts_ok hl).2.1
  rw [← hN] at hm
  have q := fun (w : World) => run_float_arith (P := Tryd.prog) w .quo 24 .f32 _ _ _ hm
  clear hm hN hl
  go_enter Tryd.func52, Tryd.ntmps52
  go_wp2
  go_ret
  exact ⟨rfl, rfl⟩
theorem share_same {b : Nat} {h : Int} (h0 : 0 ≤ h) (h1 : h ≤ 4294967295) (hb : Num b) : lt b (unitF (h / 256)) = !(gt b (shareF (h / 256)) || (ord b (shareF (h / 256)) == some .eq)) := by
  obtain ⟨N, hN, hl⟩ := share_nat h0 h1
  rw [hN]
  exact (parts_ok hl).2.2 b hb
end Go.Proofs.YtgaonoklbihkjaaDoor
namespace Go.Proofs.YtgaonoklbihkjaaDoor
open Go.RowKit
attribute [local go_sem ↓] Go.wp_at_zero Go.wp_at_succ
attribute [local go_sem] run_store_float

/-- a later world, whose draws are no fewer -/
def Gr (w w' : World) : Prop := Ext w w' ∧ w.drawn ≤ w'.drawn
theorem Gr.refl (w : World) : Gr w w := ⟨Ext.refl w, Nat.le_refl _⟩
theorem Gr.trans {a b c : World} (h : Gr a b) (k : Gr b c) : Gr a c := ⟨h.1.trans k.1, Nat.le_trans h.2 k.2⟩
theorem Gr.alloc {a w : World} (h : Gr a w) (o : Obj) : Gr a (w.alloc o) := ⟨h.1.alloc o, h.2⟩
theorem Gr.drew {a w : World} (h : Gr a w) : Gr a w.drew := ⟨h.1.drew, Nat.le_succ_of_le h.2⟩
theorem Gr.eq {w w' : World} (h : Gr w w') : ∃ q os', w' = Go.Sort.grow (w.drewN q) os' := by
  obtain ⟨⟨h1, h2, h3, h4, h5⟩, h6⟩ := h
  refine ⟨w'.drawn - w.drawn, w'.heap.extract w.heap.size w'.heap.size, ?_⟩
  cases w with
  | mk hp tp dr os out =>
    cases w' with
    | mk hp' tp' dr' os' out' =>
      dsimp only at h1 h2 h3 h4 h5 h6
      subst h1
      subst h2
      subst h3
      unfold Go.Sort.grow World.drewN
      dsimp only
      congr 1
      · apply Array.ext_getElem?
        intro i
        rw [Array.getElem?_append]
        split
        · exact h5 i (by assumption)
        · rw [Array.getElem?_extract]
          rename_i hi
          by_cases hl : i < hp'.size
          · rw [if_pos (by omega)]
            congr 1
            omega
          · rw [if_neg (by omega), Array.getElem?_eq_none (by omega)]
      · omega

def orI : List Int → Int
  | [] => 0
  | x :: r => if x ≠ 0 then x else orI r

set_option maxRecDepth 100000 in
set_option maxHeartbeats 3200000 in
theorem or_any (A : Option Addr) (n c : Nat) (l : List Int) (w : World) (hn : l.length = n) (hr : Rd w A (l.map (.int .i64))) (hb : n ≤ 4000000000) :
    Calls Tryd.prog 83 #[.slice A n c] w fun e w' => e = .returned (.int .i64 (orI l)) ∧ w' = w := by
  have Hn := hidA hn
  clear hn
  go_enter Tryd.func83, Tryd.ntmps83
  go_wp2
  go_loop [8] (fun i => ∃ k : Nat, k ≤ n ∧ i = .int .i64 k ∧ Hid (orI (l.drop k) = orI l)) (fun i => n - (intOf i).toNat)
  case atStart => exact ⟨0, Nat.zero_le _, rfl, rfl⟩
  case round =>
    obtain ⟨k, hk, rfl, hf⟩ := hrel
    by_cases hlt : k < n
    · have hkl : k < l.length := by have := Hn.out; omega
      obtain ⟨ad, rfl, hbk, hc⟩ := hr.at (k := k) (by simpa using hkl)
      have hck := hc k (.int .i64 l[k]) (by simp [hkl])
      have hd : Hid (orI l = if l[k] ≠ 0 then l[k] else orI (l.drop (k + 1))) := by
        have h := hf.out
        rw [List.drop_eq_getElem_cons hkl] at h
        exact h.symm
      clear hc hr
      by_cases hz : l[k] = 0
      · have Hz : Hid (l[k] = 0) := hz
        rw [Hz.out] at hck
        clear hz
        go_wp2
        go_round
        case rel => exact ⟨k + 1, by omega, by go_num, by have h := hd.out; rw [if_neg (fun h => h Hz.out)] at h; exact h.symm⟩
        case measure => simp [intOf]; omega
      · have hz' : (l[k] != 0) = true := by simpa using hz
        go_wp2
        go_ret
        exact ⟨ret_i (by have h := hd.out; rw [if_pos hz] at h; exact h.symm), rfl⟩
    · have hkn : k = n := by omega
      subst hkn
      have e : orI l = 0 := by
        have h := hf.out
        rw [List.drop_eq_nil_of_le (by have := Hn.out; omega)] at h
        exact h.symm
      have e := hidA e
      clear hr hf
      go_wp2
      go_ret
      exact ⟨by first | exact ret_i e.out.symm | (rw [e.out]) | rfl, rfl⟩

theorem isNaN_u (a : Int) (w : World) : Calls Tryd.prog 100 #[.int .u32 a] w fun e w' => e = .returned (.bool false) ∧ w' = w := by
  go_enter Tryd.func100, Tryd.ntmps100
  go_wp2
  go_ret
  exact ⟨by first | rfl | simp, rfl⟩
theorem cmp_u (a b : Int) (w : World) : Calls Tryd.prog 86 #[.int .u32 a, .int .u32 b] w fun e w' => e = .returned (.int .i64 (cmpI a b)) ∧ w' = w := by
  have h : a < b ∨ ¬ a < b ∧ b < a ∨ ¬ a < b ∧ ¬ b < a := by omega
  rcases h with h | h | h
  · have e : cmpI a b = -1 := by unfold cmpI; rw [if_pos h]
    rw [e]
    clear e
    go_enter Tryd.func86, Tryd.ntmps86
    go_wp2_with fail
    refine (isNaN_u _ _).mono ?_
    rintro e w1 ⟨rfl, h1⟩
    rw [h1]
    clear h1 w1
    go_wp2_with fail
    refine (isNaN_u _ _).mono ?_
    rintro e w1 ⟨rfl, h1⟩
    rw [h1]
    clear h1 w1
    go_wp2_with fail
    go_ret
    exact ⟨rfl, rfl⟩
  · obtain ⟨h1', h2'⟩ := h
    have e : cmpI a b = 1 := by unfold cmpI; rw [if_neg h1', if_pos h2']
    rw [e]
    clear e
    go_enter Tryd.func86, Tryd.ntmps86
    go_wp2_with fail
    refine (isNaN_u _ _).mono ?_
    rintro e w1 ⟨rfl, h1⟩
    rw [h1]
    clear h1 w1
    go_wp2_with fail
    refine (isNaN_u _ _).mono ?_
    rintro e w1 ⟨rfl, h1⟩
    rw [h1]
    clear h1 w1
    go_wp2_with fail
    go_ret
    exact ⟨rfl, rfl⟩
  · obtain ⟨h1', h2'⟩ := h
    have e : cmpI a b = 0 := by unfold cmpI; rw [if_neg h1', if_neg h2']
    rw [e]
    clear e
    go_enter Tryd.func86, Tryd.ntmps86
    go_wp2_with fail
    refine (isNaN_u _ _).mono ?_
    rintro e w1 ⟨rfl, h1⟩
    rw [h1]
    clear h1 w1
    go_wp2_with fail
    refine (isNaN_u _ _).mono ?_
    rintro e w1 ⟨rfl, h1⟩
    rw [h1]
    clear h1 w1
    go_wp2_with fail
    go_ret
    exact ⟨rfl, rfl⟩

def ordI (a b : Nat) : Int := if lt a b = true then -1 else if gt a b = true then 1 else 0
theorem order_any (a b : Nat) (w : World) : Calls Tryd.prog 84 #[.float .f32 a, .float .f32 b] w fun e w' => e = .returned (.int .i64 (ordI a b)) ∧ w' = w := by
  by_cases h1 : lt a b = true
  · have C1 : (FloatKind.f32.format.order a b == some .lt) = true := h1
    have e : ordI a b = -1 := by unfold ordI; rw [if_pos h1]
    rw [e]
    clear e h1
    go_enter Tryd.func84, Tryd.ntmps84
    go_wp2_with fail
    go_ret
    exact ⟨rfl, rfl⟩
  · have C1 : (FloatKind.f32.format.order a b == some .lt) = false := Bool.eq_false_iff.2 h1
    by_cases h2 : gt a b = true
    · have C2 : (FloatKind.f32.format.order a b == some .gt) = true := h2
      have e : ordI a b = 1 := by unfold ordI; rw [if_neg h1, if_pos h2]
      rw [e]
      clear e h1 h2
      go_enter Tryd.func84, Tryd.ntmps84
      go_wp2_with fail
      go_ret
      exact ⟨rfl, rfl⟩
    · have C2 : (FloatKind.f32.format.order a b == some .gt) = false := Bool.eq_false_iff.2 h2
      have e : ordI a b = 0 := by unfold ordI; rw [if_neg h1, if_neg h2]
      rw [e]
      clear e h1 h2
      go_enter Tryd.func84, Tryd.ntmps84
      go_wp2_with fail
      go_ret
      exact ⟨rfl, rfl⟩

set_option maxRecDepth 100000 in
set_option maxHeartbeats 3200000 in
theorem place_gr (a b : PlantR) (w : World) :
    Calls Tryd.prog 73 #[a.v, b.v] w fun e w' => e = .returned (.int .i64 (placeC a b)) ∧ Gr w w' := by
  simp only [PlantR.v]
  go_enter Tryd.func73, Tryd.ntmps73
  go_upto_region 1 with fail
  obtain ⟨w2, hw2⟩ : ∃ w2, w2 = (w.alloc (.cells #[.int .i64 a.kind, .int .i64 a.x, .int .i64 a.y, .float .f32 a.size, .int .i64 a.age] 46)).alloc (.cells #[.int .i64 b.kind, .int .i64 b.x, .int .i64 b.y, .float .f32 b.size, .int .i64 b.age] 46) := ⟨_, rfl⟩
  have hA : Bk w2 w.heap.size 46 #[.int .i64 a.kind, .int .i64 a.x, .int .i64 a.y, .float .f32 a.size, .int .i64 a.age] := by rw [hw2]; exact (Bk.new' rfl).alloc _
  have hB : Bk w2 (w.heap.size + 1) 46 #[.int .i64 b.kind, .int .i64 b.x, .int .i64 b.y, .float .f32 b.size, .int .i64 b.age] := by rw [hw2]; exact Bk.new' (by simp)
  have hx2 : Gr w w2 := by rw [hw2]; exact ((Gr.refl w).alloc _).alloc _
  have a0 : ∀ w', Gr w2 w' → w'.cell? ⟨w.heap.size, 0, none⟩ = some (.int .i64 a.kind) := fun w' h => (hA.ext h.1).cell 0
  have a1 : ∀ w', Gr w2 w' → w'.cell? ⟨w.heap.size, 1, none⟩ = some (.int .i64 a.x) := fun w' h => (hA.ext h.1).cell 1
  have a2 : ∀ w', Gr w2 w' → w'.cell? ⟨w.heap.size, 2, none⟩ = some (.int .i64 a.y) := fun w' h => (hA.ext h.1).cell 2
  have a3 : ∀ w', Gr w2 w' → w'.cell? ⟨w.heap.size, 3, none⟩ = some (.float .f32 a.size) := fun w' h => (hA.ext h.1).cell 3
  have a4 : ∀ w', Gr w2 w' → w'.cell? ⟨w.heap.size, 4, none⟩ = some (.int .i64 a.age) := fun w' h => (hA.ext h.1).cell 4
  have b0 : ∀ w', Gr w2 w' → w'.cell? ⟨w.heap.size + 1, 0, none⟩ = some (.int .i64 b.kind) := fun w' h => (hB.ext h.1).cell 0
  have b1 : ∀ w', Gr w2 w' → w'.cell? ⟨w.heap.size + 1, 1, none⟩ = some (.int .i64 b.x) := fun w' h => (hB.ext h.1).cell 1
  have b2 : ∀ w', Gr w2 w' → w'.cell? ⟨w.heap.size + 1, 2, none⟩ = some (.int .i64 b.y) := fun w' h => (hB.ext h.1).cell 2
  have b3 : ∀ w', Gr w2 w' → w'.cell? ⟨w.heap.size + 1, 3, none⟩ = some (.float .f32 b.size) := fun w' h => (hB.ext h.1).cell 3
  have b4 : ∀ w', Gr w2 w' → w'.cell? ⟨w.heap.size + 1, 4, none⟩ = some (.int .i64 b.age) := fun w' h => (hB.ext h.1).cell 4
  rw [← hw2]
  clear hA hB hw2
  refine wp_region_noPanic ?_
  refine wp_region_held_drew (S := fun w' => Gr w2 w') (by kernel_rfl) ?_ (fun hHeld => ?_)
  · (repeat (first | exact Gr.refl _ | assumption | refine Gr.alloc ?_ _ | refine Gr.drew ?_ | refine Gr.trans ?_ (by assumption)))
  refine wpAnyH_take (i := 0) (oi := ?o1x0) (v := ?v1x0) ?hi1x0 (by kernel_rfl) ?hf1x0 ?hr1x0 (fun _ _ _ h => h) ?hy1x0 (by assumption) ?rest1x0
  case hi1x0 => (simp only [List.getElem?_toArray, List.getElem?_cons_zero]; exact rfl)
  case hf1x0 => kernel_rfl
  case hr1x0 => kernel_rfl
  case hy1x0 => (refine Or.inl ⟨by rfl, ?_⟩; intro w hSw; (try dsimp only at hSw); go_simp; try with_reducible rfl)
  simp only [put_mk, List.set_cons_succ, List.set_cons_zero]
  refine wpAnyH_take (i := 1) (oi := ?o1x1) (v := ?v1x1) ?hi1x1 (by kernel_rfl) ?hf1x1 ?hr1x1 (fun _ _ _ h => h) ?hy1x1 (by assumption) ?rest1x1
  case hi1x1 => (simp only [List.getElem?_toArray, List.getElem?_cons_succ, List.getElem?_cons_zero]; exact rfl)
  case hf1x1 => kernel_rfl
  case hr1x1 => kernel_rfl
  case hy1x1 => (refine Or.inl ⟨by rfl, ?_⟩; intro w hSw; (try dsimp only at hSw); go_simp; try with_reducible rfl)
  simp only [put_mk, List.set_cons_succ, List.set_cons_zero]
  refine wpAnyH_take (i := 2) (oi := ?o1x2) (v := ?v1x2) ?hi1x2 (by kernel_rfl) ?hf1x2 ?hr1x2 (fun _ _ _ h => h) ?hy1x2 (by assumption) ?rest1x2
  case hi1x2 => (simp only [List.getElem?_toArray, List.getElem?_cons_succ, List.getElem?_cons_zero]; exact rfl)
  case hf1x2 => kernel_rfl
  case hr1x2 => kernel_rfl
  case hy1x2 => (refine Or.inl ⟨by rfl, ?_⟩; intro w hSw; (try dsimp only at hSw); go_simp; try with_reducible rfl)
  simp only [put_mk, List.set_cons_succ, List.set_cons_zero]
  refine wpAnyH_take (i := 3) (oi := ?o1x3) (v := ?v1x3) ?hi1x3 (by kernel_rfl) ?hf1x3 ?hr1x3 (fun _ _ _ h => h) ?hy1x3 (by assumption) ?rest1x3
  case hi1x3 => (simp only [List.getElem?_toArray, List.getElem?_cons_succ, List.getElem?_cons_zero]; exact rfl)
  case hf1x3 => kernel_rfl
  case hr1x3 => kernel_rfl
  case hy1x3 => (refine Or.inl ⟨by rfl, ?_⟩; intro w hSw; (try dsimp only at hSw); go_simp; try with_reducible rfl)
  simp only [put_mk, List.set_cons_succ, List.set_cons_zero]
  refine wpAnyH_take (i := 5) (oi := ?o1x5) (v := ?v1x5) ?hi1x5 (by kernel_rfl) ?hf1x5 ?hr1x5 (fun _ _ _ h => h) ?hy1x5 (by assumption) ?rest1x5
  case hi1x5 => (simp only [List.getElem?_toArray, List.getElem?_cons_succ, List.getElem?_cons_zero]; exact rfl)
  case hf1x5 => kernel_rfl
  case hr1x5 => kernel_rfl
  case hy1x5 => (refine Or.inl ⟨by rfl, ?_⟩; intro w hSw; (try dsimp only at hSw); go_simp; try with_reducible rfl)
  simp only [put_mk, List.set_cons_succ, List.set_cons_zero]
  refine wpAnyH_take (i := 6) (oi := ?o1x6) (v := ?v1x6) ?hi1x6 (by kernel_rfl) ?hf1x6 ?hr1x6 (fun _ _ _ h => h) ?hy1x6 (by assumption) ?rest1x6
  case hi1x6 => (simp only [List.getElem?_toArray, List.getElem?_cons_succ, List.getElem?_cons_zero]; exact rfl)
  case hf1x6 => kernel_rfl
  case hr1x6 => kernel_rfl
  case hy1x6 => (refine Or.inl ⟨by rfl, ?_⟩; intro w hSw; (try dsimp only at hSw); go_simp; try with_reducible rfl)
  simp only [put_mk, List.set_cons_succ, List.set_cons_zero]
  refine wpAnyH_take (i := 7) (oi := ?o1x7) (v := ?v1x7) ?hi1x7 (by kernel_rfl) ?hf1x7 ?hr1x7 (fun _ _ _ h => h) ?hy1x7 (by assumption) ?rest1x7
  case hi1x7 => (simp only [List.getElem?_toArray, List.getElem?_cons_succ, List.getElem?_cons_zero]; exact rfl)
  case hf1x7 => kernel_rfl
  case hr1x7 => kernel_rfl
  case hy1x7 => (refine Or.inl ⟨by rfl, ?_⟩; intro w hSw; (try dsimp only at hSw); go_simp; try with_reducible rfl)
  simp only [put_mk, List.set_cons_succ, List.set_cons_zero]
  refine wpAnyH_take (i := 8) (oi := ?o1x8) (v := ?v1x8) ?hi1x8 (by kernel_rfl) ?hf1x8 ?hr1x8 (fun _ _ _ h => h) ?hy1x8 (by assumption) ?rest1x8
  case hi1x8 => (simp only [List.getElem?_toArray, List.getElem?_cons_succ, List.getElem?_cons_zero]; exact rfl)
  case hf1x8 => kernel_rfl
  case hr1x8 => kernel_rfl
  case hy1x8 => (refine Or.inl ⟨by rfl, ?_⟩; intro w hSw; (try dsimp only at hSw); go_simp; try with_reducible rfl)
  simp only [put_mk, List.set_cons_succ, List.set_cons_zero]
  refine wpAnyH_ready (rs := [4]) (by kernel_rfl) (by simp) ?_
  refine AllReadyH.cons (o := ?o1x4) ?hi1x4 (fun K hK => ?_) AllReadyH.nil
  case hi1x4 => (simp only [List.getElem?_toArray, List.getElem?_cons_succ, List.getElem?_cons_zero]; exact rfl)
  go_simp
  refine (cmp_int _ _ _).mono ?_
  rintro e w' ⟨rfl, hw'⟩
  subst hw'
  refine hK.out _ _ ?_ (fun hHeld => ?_)
  · (repeat (first | exact Gr.refl _ | assumption | refine Gr.alloc ?_ _ | refine Gr.drew ?_ | refine Gr.trans ?_ (by assumption)))
  clear hK K
  refine wpAnyH_ready (rs := [9]) (by kernel_rfl) (by simp) ?_
  refine AllReadyH.cons (o := ?o1x9) ?hi1x9 (fun K hK => ?_) AllReadyH.nil
  case hi1x9 => (simp only [List.getElem?_toArray, List.getElem?_cons_succ, List.getElem?_cons_zero]; exact rfl)
  go_simp
  refine (cmp_int _ _ _).mono ?_
  rintro e w' ⟨rfl, hw'⟩
  subst hw'
  refine hK.out _ _ ?_ (fun hHeld => ?_)
  · (repeat (first | exact Gr.refl _ | assumption | refine Gr.alloc ?_ _ | refine Gr.drew ?_ | refine Gr.trans ?_ (by assumption)))
  clear hK K
  refine wpAnyH_ready (rs := [10]) (by kernel_rfl) (by simp) ?_
  refine AllReadyH.cons (o := ?o1x10) ?hi1x10 (fun K hK => ?_) AllReadyH.nil
  case hi1x10 => (simp only [List.getElem?_toArray, List.getElem?_cons_succ, List.getElem?_cons_zero]; exact rfl)
  go_simp
  refine hK.out _ _ ?_ (fun hHeld => ?_)
  · (repeat (first | exact Gr.refl _ | assumption | refine Gr.alloc ?_ _ | refine Gr.drew ?_ | refine Gr.trans ?_ (by assumption)))
  clear hK K
  refine wpAnyH_ready (rs := [11]) (by kernel_rfl) (by simp) ?_
  refine AllReadyH.cons (o := ?o1x11) ?hi1x11 (fun K hK => ?_) AllReadyH.nil
  case hi1x11 => (simp only [List.getElem?_toArray, List.getElem?_cons_succ, List.getElem?_cons_zero]; exact rfl)
  go_simp
  refine (or_two _ (cmpI a.y b.y) (cmpI a.x b.x) _ (by simp) (by simp)).mono ?_
  rintro e w' ⟨rfl, hw'⟩
  subst hw'
  rw [show (if cmpI a.y b.y ≠ 0 then cmpI a.y b.y else cmpI a.x b.x) = placeC a b from rfl]
  refine hK.out _ _ ?_ (fun hHeld => ?_)
  · (repeat (first | exact Gr.refl _ | assumption | refine Gr.alloc ?_ _ | refine Gr.drew ?_ | refine Gr.trans ?_ (by assumption)))
  clear hK K
  refine wpAnyH_take (i := 12) (oi := ?o1x12) (v := ?v1x12) ?hi1x12 (by kernel_rfl) ?hf1x12 ?hr1x12 (fun _ _ _ h => h) ?hy1x12 (by assumption) ?rest1x12
  case hi1x12 => (simp only [List.getElem?_toArray, List.getElem?_cons_succ, List.getElem?_cons_zero]; exact rfl)
  case hf1x12 => kernel_rfl
  case hr1x12 => kernel_rfl
  case hy1x12 => (refine Or.inl ⟨by rfl, ?_⟩; intro w hSw; (try dsimp only at hSw); go_simp; try with_reducible rfl)
  simp only [put_mk, List.set_cons_succ, List.set_cons_zero]
  refine wpAnyH_done (by kernel_rfl) ?_ _
  refine NoPanic.normal ?_
  go_wp2_with fail
  go_ret
  exact ⟨rfl, hx2.trans (by repeat (first | exact Gr.refl _ | assumption | refine Gr.alloc ?_ _ | refine Gr.drew ?_ | refine Gr.trans ?_ (by assumption)))⟩

set_option maxRecDepth 100000 in
set_option maxHeartbeats 3200000 in
theorem standing1_any (a : PlantR) (w : World) :
    Calls Tryd.prog 82 #[a.v] w fun e w' => e = .returned (.int .u32 (mixK 0 a.x a.y 4 3)) ∧ Gr w w' := by
  simp only [PlantR.v]
  go_enter Tryd.func82, Tryd.ntmps82
  go_wp2_with fail
  refine (hash_any _ _ _ _ _).mono ?_
  rintro e w1 ⟨rfl, hw1⟩
  subst hw1
  go_wp2_with fail
  go_ret
  exact ⟨rfl, (by repeat (first | exact Gr.refl _ | assumption | refine Gr.alloc ?_ _ | refine Gr.drew ?_ | refine Gr.trans ?_ (by assumption)))⟩

def standC (a b : PlantR) : Int := orI [ordI b.size a.size, cmpI b.age a.age, cmpI (mixK 0 a.x a.y 4 3) (mixK 0 b.x b.y 4 3), placeC a b]
set_option maxRecDepth 100000 in
set_option maxHeartbeats 3200000 in
theorem standing_gr (a b : PlantR) (w : World) :
    Calls Tryd.prog 70 #[a.v, b.v] w fun e w' => e = .returned (.int .i64 (standC a b)) ∧ Gr w w' := by
  simp only [PlantR.v]
  go_enter Tryd.func70, Tryd.ntmps70
  go_upto_region 2 with fail
  obtain ⟨w2, hw2⟩ : ∃ w2, w2 = (w.alloc (.cells #[.int .i64 a.kind, .int .i64 a.x, .int .i64 a.y, .float .f32 a.size, .int .i64 a.age] 46)).alloc (.cells #[.int .i64 b.kind, .int .i64 b.x, .int .i64 b.y, .float .f32 b.size, .int .i64 b.age] 46) := ⟨_, rfl⟩
  have hA : Bk w2 w.heap.size 46 #[.int .i64 a.kind, .int .i64 a.x, .int .i64 a.y, .float .f32 a.size, .int .i64 a.age] := by rw [hw2]; exact (Bk.new' rfl).alloc _
  have hB : Bk w2 (w.heap.size + 1) 46 #[.int .i64 b.kind, .int .i64 b.x, .int .i64 b.y, .float .f32 b.size, .int .i64 b.age] := by rw [hw2]; exact Bk.new' (by simp)
  have hx2 : Gr w w2 := by rw [hw2]; exact ((Gr.refl w).alloc _).alloc _
  have a0 : ∀ w', Gr w2 w' → w'.cell? ⟨w.heap.size, 0, none⟩ = some (.int .i64 a.kind) := fun w' h => (hA.ext h.1).cell 0
  have a1 : ∀ w', Gr w2 w' → w'.cell? ⟨w.heap.size, 1, none⟩ = some (.int .i64 a.x) := fun w' h => (hA.ext h.1).cell 1
  have a2 : ∀ w', Gr w2 w' → w'.cell? ⟨w.heap.size, 2, none⟩ = some (.int .i64 a.y) := fun w' h => (hA.ext h.1).cell 2
  have a3 : ∀ w', Gr w2 w' → w'.cell? ⟨w.heap.size, 3, none⟩ = some (.float .f32 a.size) := fun w' h => (hA.ext h.1).cell 3
  have a4 : ∀ w', Gr w2 w' → w'.cell? ⟨w.heap.size, 4, none⟩ = some (.int .i64 a.age) := fun w' h => (hA.ext h.1).cell 4
  have b0 : ∀ w', Gr w2 w' → w'.cell? ⟨w.heap.size + 1, 0, none⟩ = some (.int .i64 b.kind) := fun w' h => (hB.ext h.1).cell 0
  have b1 : ∀ w', Gr w2 w' → w'.cell? ⟨w.heap.size + 1, 1, none⟩ = some (.int .i64 b.x) := fun w' h => (hB.ext h.1).cell 1
  have b2 : ∀ w', Gr w2 w' → w'.cell? ⟨w.heap.size + 1, 2, none⟩ = some (.int .i64 b.y) := fun w' h => (hB.ext h.1).cell 2
  have b3 : ∀ w', Gr w2 w' → w'.cell? ⟨w.heap.size + 1, 3, none⟩ = some (.float .f32 b.size) := fun w' h => (hB.ext h.1).cell 3
  have b4 : ∀ w', Gr w2 w' → w'.cell? ⟨w.heap.size + 1, 4, none⟩ = some (.int .i64 b.age) := fun w' h => (hB.ext h.1).cell 4
  rw [← hw2]
  clear hA hB hw2
  refine wp_region_noPanic ?_
  refine wp_region_held_drew (S := fun w' => Gr w2 w') (by kernel_rfl) ?_ (fun hHeld => ?_)
  · (repeat (first | exact Gr.refl _ | assumption | refine Gr.alloc ?_ _ | refine Gr.drew ?_ | refine Gr.trans ?_ (by assumption)))
  refine wpAnyH_take (i := 0) (oi := ?o2x0) (v := ?v2x0) ?hi2x0 (by kernel_rfl) ?hf2x0 ?hr2x0 (fun _ _ _ h => h) ?hy2x0 (by assumption) ?rest2x0
  case hi2x0 => (simp only [List.getElem?_toArray, List.getElem?_cons_zero]; exact rfl)
  case hf2x0 => kernel_rfl
  case hr2x0 => kernel_rfl
  case hy2x0 => (refine Or.inl ⟨by rfl, ?_⟩; intro w hSw; (try dsimp only at hSw); go_simp; try with_reducible rfl)
  simp only [put_mk, List.set_cons_succ, List.set_cons_zero]
  refine wpAnyH_take (i := 1) (oi := ?o2x1) (v := ?v2x1) ?hi2x1 (by kernel_rfl) ?hf2x1 ?hr2x1 (fun _ _ _ h => h) ?hy2x1 (by assumption) ?rest2x1
  case hi2x1 => (simp only [List.getElem?_toArray, List.getElem?_cons_succ, List.getElem?_cons_zero]; exact rfl)
  case hf2x1 => kernel_rfl
  case hr2x1 => kernel_rfl
  case hy2x1 => (refine Or.inl ⟨by rfl, ?_⟩; intro w hSw; (try dsimp only at hSw); go_simp; try with_reducible rfl)
  simp only [put_mk, List.set_cons_succ, List.set_cons_zero]
  refine wpAnyH_take (i := 2) (oi := ?o2x2) (v := ?v2x2) ?hi2x2 (by kernel_rfl) ?hf2x2 ?hr2x2 (fun _ _ _ h => h) ?hy2x2 (by assumption) ?rest2x2
  case hi2x2 => (simp only [List.getElem?_toArray, List.getElem?_cons_succ, List.getElem?_cons_zero]; exact rfl)
  case hf2x2 => kernel_rfl
  case hr2x2 => kernel_rfl
  case hy2x2 => (refine Or.inl ⟨by rfl, ?_⟩; intro w hSw; (try dsimp only at hSw); go_simp; try with_reducible rfl)
  simp only [put_mk, List.set_cons_succ, List.set_cons_zero]
  refine wpAnyH_take (i := 3) (oi := ?o2x3) (v := ?v2x3) ?hi2x3 (by kernel_rfl) ?hf2x3 ?hr2x3 (fun _ _ _ h => h) ?hy2x3 (by assumption) ?rest2x3
  case hi2x3 => (simp only [List.getElem?_toArray, List.getElem?_cons_succ, List.getElem?_cons_zero]; exact rfl)
  case hf2x3 => kernel_rfl
  case hr2x3 => kernel_rfl
  case hy2x3 => (refine Or.inl ⟨by rfl, ?_⟩; intro w hSw; (try dsimp only at hSw); go_simp; try with_reducible rfl)
  simp only [put_mk, List.set_cons_succ, List.set_cons_zero]
  refine wpAnyH_take (i := 5) (oi := ?o2x5) (v := ?v2x5) ?hi2x5 (by kernel_rfl) ?hf2x5 ?hr2x5 (fun _ _ _ h => h) ?hy2x5 (by assumption) ?rest2x5
  case hi2x5 => (simp only [List.getElem?_toArray, List.getElem?_cons_succ, List.getElem?_cons_zero]; exact rfl)
  case hf2x5 => kernel_rfl
  case hr2x5 => kernel_rfl
  case hy2x5 => (refine Or.inl ⟨by rfl, ?_⟩; intro w hSw; (try dsimp only at hSw); go_simp; try with_reducible rfl)
  simp only [put_mk, List.set_cons_succ, List.set_cons_zero]
  refine wpAnyH_take (i := 6) (oi := ?o2x6) (v := ?v2x6) ?hi2x6 (by kernel_rfl) ?hf2x6 ?hr2x6 (fun _ _ _ h => h) ?hy2x6 (by assumption) ?rest2x6
  case hi2x6 => (simp only [List.getElem?_toArray, List.getElem?_cons_succ, List.getElem?_cons_zero]; exact rfl)
  case hf2x6 => kernel_rfl
  case hr2x6 => kernel_rfl
  case hy2x6 => (refine Or.inl ⟨by rfl, ?_⟩; intro w hSw; (try dsimp only at hSw); go_simp; try with_reducible rfl)
  simp only [put_mk, List.set_cons_succ, List.set_cons_zero]
  refine wpAnyH_take (i := 7) (oi := ?o2x7) (v := ?v2x7) ?hi2x7 (by kernel_rfl) ?hf2x7 ?hr2x7 (fun _ _ _ h => h) ?hy2x7 (by assumption) ?rest2x7
  case hi2x7 => (simp only [List.getElem?_toArray, List.getElem?_cons_succ, List.getElem?_cons_zero]; exact rfl)
  case hf2x7 => kernel_rfl
  case hr2x7 => kernel_rfl
  case hy2x7 => (refine Or.inl ⟨by rfl, ?_⟩; intro w hSw; (try dsimp only at hSw); go_simp; try with_reducible rfl)
  simp only [put_mk, List.set_cons_succ, List.set_cons_zero]
  refine wpAnyH_take (i := 8) (oi := ?o2x8) (v := ?v2x8) ?hi2x8 (by kernel_rfl) ?hf2x8 ?hr2x8 (fun _ _ _ h => h) ?hy2x8 (by assumption) ?rest2x8
  case hi2x8 => (simp only [List.getElem?_toArray, List.getElem?_cons_succ, List.getElem?_cons_zero]; exact rfl)
  case hf2x8 => kernel_rfl
  case hr2x8 => kernel_rfl
  case hy2x8 => (refine Or.inl ⟨by rfl, ?_⟩; intro w hSw; (try dsimp only at hSw); go_simp; try with_reducible rfl)
  simp only [put_mk, List.set_cons_succ, List.set_cons_zero]
  refine wpAnyH_take (i := 10) (oi := ?o2x10) (v := ?v2x10) ?hi2x10 (by kernel_rfl) ?hf2x10 ?hr2x10 (fun _ _ _ h => h) ?hy2x10 (by assumption) ?rest2x10
  case hi2x10 => (simp only [List.getElem?_toArray, List.getElem?_cons_succ, List.getElem?_cons_zero]; exact rfl)
  case hf2x10 => kernel_rfl
  case hr2x10 => kernel_rfl
  case hy2x10 => (refine Or.inl ⟨by rfl, ?_⟩; intro w hSw; (try dsimp only at hSw); go_simp; try with_reducible rfl)
  simp only [put_mk, List.set_cons_succ, List.set_cons_zero]
  refine wpAnyH_take (i := 11) (oi := ?o2x11) (v := ?v2x11) ?hi2x11 (by kernel_rfl) ?hf2x11 ?hr2x11 (fun _ _ _ h => h) ?hy2x11 (by assumption) ?rest2x11
  case hi2x11 => (simp only [List.getElem?_toArray, List.getElem?_cons_succ, List.getElem?_cons_zero]; exact rfl)
  case hf2x11 => kernel_rfl
  case hr2x11 => kernel_rfl
  case hy2x11 => (refine Or.inl ⟨by rfl, ?_⟩; intro w hSw; (try dsimp only at hSw); go_simp; try with_reducible rfl)
  simp only [put_mk, List.set_cons_succ, List.set_cons_zero]
  refine wpAnyH_take (i := 13) (oi := ?o2x13) (v := ?v2x13) ?hi2x13 (by kernel_rfl) ?hf2x13 ?hr2x13 (fun _ _ _ h => h) ?hy2x13 (by assumption) ?rest2x13
  case hi2x13 => (simp only [List.getElem?_toArray, List.getElem?_cons_succ, List.getElem?_cons_zero]; exact rfl)
  case hf2x13 => kernel_rfl
  case hr2x13 => kernel_rfl
  case hy2x13 => (refine Or.inl ⟨by rfl, ?_⟩; intro w hSw; (try dsimp only at hSw); go_simp; try with_reducible rfl)
  simp only [put_mk, List.set_cons_succ, List.set_cons_zero]
  refine wpAnyH_take (i := 14) (oi := ?o2x14) (v := ?v2x14) ?hi2x14 (by kernel_rfl) ?hf2x14 ?hr2x14 (fun _ _ _ h => h) ?hy2x14 (by assumption) ?rest2x14
  case hi2x14 => (simp only [List.getElem?_toArray, List.getElem?_cons_succ, List.getElem?_cons_zero]; exact rfl)
  case hf2x14 => kernel_rfl
  case hr2x14 => kernel_rfl
  case hy2x14 => (refine Or.inl ⟨by rfl, ?_⟩; intro w hSw; (try dsimp only at hSw); go_simp; try with_reducible rfl)
  simp only [put_mk, List.set_cons_succ, List.set_cons_zero]
  refine wpAnyH_take (i := 17) (oi := ?o2x17) (v := ?v2x17) ?hi2x17 (by kernel_rfl) ?hf2x17 ?hr2x17 (fun _ _ _ h => h) ?hy2x17 (by assumption) ?rest2x17
  case hi2x17 => (simp only [List.getElem?_toArray, List.getElem?_cons_succ, List.getElem?_cons_zero]; exact rfl)
  case hf2x17 => kernel_rfl
  case hr2x17 => kernel_rfl
  case hy2x17 => (refine Or.inl ⟨by rfl, ?_⟩; intro w hSw; (try dsimp only at hSw); go_simp; try with_reducible rfl)
  simp only [put_mk, List.set_cons_succ, List.set_cons_zero]
  refine wpAnyH_take (i := 18) (oi := ?o2x18) (v := ?v2x18) ?hi2x18 (by kernel_rfl) ?hf2x18 ?hr2x18 (fun _ _ _ h => h) ?hy2x18 (by assumption) ?rest2x18
  case hi2x18 => (simp only [List.getElem?_toArray, List.getElem?_cons_succ, List.getElem?_cons_zero]; exact rfl)
  case hf2x18 => kernel_rfl
  case hr2x18 => kernel_rfl
  case hy2x18 => (refine Or.inl ⟨by rfl, ?_⟩; intro w hSw; (try dsimp only at hSw); go_simp; try with_reducible rfl)
  simp only [put_mk, List.set_cons_succ, List.set_cons_zero]
  refine wpAnyH_ready (rs := [4]) (by kernel_rfl) (by simp) ?_
  refine AllReadyH.cons (o := ?o2x4) ?hi2x4 (fun K hK => ?_) AllReadyH.nil
  case hi2x4 => (simp only [List.getElem?_toArray, List.getElem?_cons_succ, List.getElem?_cons_zero]; exact rfl)
  go_simp
  refine (order_any _ _ _).mono ?_
  rintro e w' ⟨rfl, hw'⟩
  subst hw'
  refine hK.out _ _ ?_ (fun hHeld => ?_)
  · (repeat (first | exact Gr.refl _ | assumption | refine Gr.alloc ?_ _ | refine Gr.drew ?_ | refine Gr.trans ?_ (by assumption)))
  clear hK K
  refine wpAnyH_ready (rs := [9]) (by kernel_rfl) (by simp) ?_
  refine AllReadyH.cons (o := ?o2x9) ?hi2x9 (fun K hK => ?_) AllReadyH.nil
  case hi2x9 => (simp only [List.getElem?_toArray, List.getElem?_cons_succ, List.getElem?_cons_zero]; exact rfl)
  go_simp
  refine (cmp_int _ _ _).mono ?_
  rintro e w' ⟨rfl, hw'⟩
  subst hw'
  refine hK.out _ _ ?_ (fun hHeld => ?_)
  · (repeat (first | exact Gr.refl _ | assumption | refine Gr.alloc ?_ _ | refine Gr.drew ?_ | refine Gr.trans ?_ (by assumption)))
  clear hK K
  refine wpAnyH_ready (rs := [12]) (by kernel_rfl) (by simp) ?_
  refine AllReadyH.cons (o := ?o2x12) ?hi2x12 (fun K hK => ?_) AllReadyH.nil
  case hi2x12 => (simp only [List.getElem?_toArray, List.getElem?_cons_succ, List.getElem?_cons_zero]; exact rfl)
  go_simp
  refine (standing1_any ⟨a.kind, a.x, a.y, a.size, a.age⟩ _).mono ?_
  rintro e w' ⟨rfl, hw'⟩
  refine hK.out _ _ ?_ (fun hHeld => ?_)
  · (repeat (first | exact Gr.refl _ | assumption | refine Gr.alloc ?_ _ | refine Gr.drew ?_ | refine Gr.trans ?_ (by assumption)))
  clear hK K
  refine wpAnyH_ready (rs := [15]) (by kernel_rfl) (by simp) ?_
  refine AllReadyH.cons (o := ?o2x15) ?hi2x15 (fun K hK => ?_) AllReadyH.nil
  case hi2x15 => (simp only [List.getElem?_toArray, List.getElem?_cons_succ, List.getElem?_cons_zero]; exact rfl)
  go_simp
  refine (standing1_any ⟨b.kind, b.x, b.y, b.size, b.age⟩ _).mono ?_
  rintro e w' ⟨rfl, hw'⟩
  refine hK.out _ _ ?_ (fun hHeld => ?_)
  · (repeat (first | exact Gr.refl _ | assumption | refine Gr.alloc ?_ _ | refine Gr.drew ?_ | refine Gr.trans ?_ (by assumption)))
  clear hK K
  refine wpAnyH_ready (rs := [16]) (by kernel_rfl) (by simp) ?_
  refine AllReadyH.cons (o := ?o2x16) ?hi2x16 (fun K hK => ?_) AllReadyH.nil
  case hi2x16 => (simp only [List.getElem?_toArray, List.getElem?_cons_succ, List.getElem?_cons_zero]; exact rfl)
  go_simp
  refine (cmp_u _ _ _).mono ?_
  rintro e w' ⟨rfl, hw'⟩
  subst hw'
  refine hK.out _ _ ?_ (fun hHeld => ?_)
  · (repeat (first | exact Gr.refl _ | assumption | refine Gr.alloc ?_ _ | refine Gr.drew ?_ | refine Gr.trans ?_ (by assumption)))
  clear hK K
  refine wpAnyH_ready (rs := [19]) (by kernel_rfl) (by simp) ?_
  refine AllReadyH.cons (o := ?o2x19) ?hi2x19 (fun K hK => ?_) AllReadyH.nil
  case hi2x19 => (simp only [List.getElem?_toArray, List.getElem?_cons_succ, List.getElem?_cons_zero]; exact rfl)
  go_simp
  refine (place_gr ⟨a.kind, a.x, a.y, a.size, a.age⟩ ⟨b.kind, b.x, b.y, b.size, b.age⟩ _).mono ?_
  rintro e w' ⟨rfl, hw'⟩
  refine hK.out _ _ ?_ (fun hHeld => ?_)
  · (repeat (first | exact Gr.refl _ | assumption | refine Gr.alloc ?_ _ | refine Gr.drew ?_ | refine Gr.trans ?_ (by assumption)))
  clear hK K
  refine wpAnyH_ready (rs := [20]) (by kernel_rfl) (by simp) ?_
  refine AllReadyH.cons (o := ?o2x20) ?hi2x20 (fun K hK => ?_) AllReadyH.nil
  case hi2x20 => (simp only [List.getElem?_toArray, List.getElem?_cons_succ, List.getElem?_cons_zero]; exact rfl)
  go_simp
  refine hK.out _ _ ?_ (fun hHeld => ?_)
  · (repeat (first | exact Gr.refl _ | assumption | refine Gr.alloc ?_ _ | refine Gr.drew ?_ | refine Gr.trans ?_ (by assumption)))
  clear hK K
  refine wpAnyH_ready (rs := [21]) (by kernel_rfl) (by simp) ?_
  refine AllReadyH.cons (o := ?o2x21) ?hi2x21 (fun K hK => ?_) AllReadyH.nil
  case hi2x21 => (simp only [List.getElem?_toArray, List.getElem?_cons_succ, List.getElem?_cons_zero]; exact rfl)
  go_simp
  refine (or_any _ 4 4 [ordI b.size a.size, cmpI b.age a.age, cmpI (mixK 0 a.x a.y 4 3) (mixK 0 b.x b.y 4 3), placeC a b] _ rfl (Rd.new (by first | rfl | simp) rfl) (by omega)).mono ?_
  rintro e w' ⟨rfl, hw'⟩
  subst hw'
  rw [show orI [ordI b.size a.size, cmpI b.age a.age, cmpI (mixK 0 a.x a.y 4 3) (mixK 0 b.x b.y 4 3), placeC a b] = standC a b from rfl]
  refine hK.out _ _ ?_ (fun hHeld => ?_)
  · (repeat (first | exact Gr.refl _ | assumption | refine Gr.alloc ?_ _ | refine Gr.drew ?_ | refine Gr.trans ?_ (by assumption)))
  clear hK K
  refine wpAnyH_take (i := 22) (oi := ?o2x22) (v := ?v2x22) ?hi2x22 (by kernel_rfl) ?hf2x22 ?hr2x22 (fun _ _ _ h => h) ?hy2x22 (by assumption) ?rest2x22
  case hi2x22 => (simp only [List.getElem?_toArray, List.getElem?_cons_succ, List.getElem?_cons_zero]; exact rfl)
  case hf2x22 => kernel_rfl
  case hr2x22 => kernel_rfl
  case hy2x22 => (refine Or.inl ⟨by rfl, ?_⟩; intro w hSw; (try dsimp only at hSw); go_simp; try with_reducible rfl)
  simp only [put_mk, List.set_cons_succ, List.set_cons_zero]
  refine wpAnyH_done (by kernel_rfl) ?_ _
  refine NoPanic.normal ?_
  go_wp2_with fail
  go_ret
  exact ⟨rfl, hx2.trans (by repeat (first | exact Gr.refl _ | assumption | refine Gr.alloc ?_ _ | refine Gr.drew ?_ | refine Gr.trans ?_ (by assumption)))⟩
end Go.Proofs.YtgaonoklbihkjaaDoor
namespace Go.Proofs.YtgaonoklbihkjaaDoor
open Go.RowKit Ieee

def lexC : List Int → List Int → Int
  | x :: r, y :: s => if cmpI x y ≠ 0 then cmpI x y else lexC r s
  | _, _ => 0
theorem cmpI_lt {x y : Int} (h : x < y) : cmpI x y = -1 := by unfold cmpI; rw [if_pos h]
theorem cmpI_gt {x y : Int} (h : y < x) : cmpI x y = 1 := by unfold cmpI; rw [if_neg (by omega), if_pos h]
theorem cmpI_eq (x : Int) : cmpI x x = 0 := by unfold cmpI; rw [if_neg (by omega), if_neg (by omega)]
theorem lexC_cons (x y : Int) (r s : List Int) : lexC (x :: r) (y :: s) = if cmpI x y ≠ 0 then cmpI x y else lexC r s := by rw [lexC]
theorem lex_lt (x y : Int) (r s : List Int) : lexC (x :: r) (y :: s) < 0 ↔ x < y ∨ x = y ∧ lexC r s < 0 := by
  rw [lexC_cons]
  rcases Int.lt_trichotomy x y with h | rfl | h
  · rw [cmpI_lt h]
    simp
    omega
  · rw [cmpI_eq]
    simp
  · rw [cmpI_gt h]
    simp
    omega
theorem lex_irrefl : ∀ a : List Int, lexC a a = 0
  | [] => rfl
  | x :: r => by rw [lexC_cons, cmpI_eq]; simpa using lex_irrefl r
theorem lex_trans : ∀ {a b c : List Int}, a.length = b.length → b.length = c.length → lexC a b < 0 → lexC b c < 0 → lexC a c < 0
  | [], [], [], _, _, h, _ => by simp [lexC] at h
  | x :: a, y :: b, z :: c, h1, h2, h3, h4 => by
    rw [lex_lt] at *
    have ih := @lex_trans a b c (by simpa using h1) (by simpa using h2)
    omega
  | [], _ :: _, _, h, _, _, _ => by simp at h
  | _ :: _, [], _, h, _, _, _ => by simp at h
  | [], [], _ :: _, _, h, _, _ => by simp at h
  | _ :: _, _ :: _, [], _, h, _, _ => by simp at h
theorem lex_ntrans : ∀ {a b c : List Int}, a.length = b.length → b.length = c.length → ¬ lexC a b < 0 → ¬ lexC b c < 0 → ¬ lexC a c < 0
  | [], [], [], _, _, _, _ => by simp [lexC]
  | x :: a, y :: b, z :: c, h1, h2, h3, h4 => by
    rw [lex_lt] at *
    have ih := @lex_ntrans a b c (by simpa using h1) (by simpa using h2)
    omega
  | [], _ :: _, _, h, _, _, _ => by simp at h
  | _ :: _, [], _, h, _, _, _ => by simp at h
  | [], [], _ :: _, _, h, _, _ => by simp at h
  | _ :: _, _ :: _, [], _, h, _, _ => by simp at h
theorem lex_total : ∀ {a b : List Int}, a.length = b.length → ¬ lexC a b < 0 → ¬ lexC b a < 0 → a = b
  | [], [], _, _, _ => rfl
  | x :: a, y :: b, h1, h3, h4 => by
    rw [lex_lt] at *
    have ih := @lex_total a b (by simpa using h1)
    have e : x = y := by omega
    rw [e, ih (by omega) (by omega)]
  | [], _ :: _, h, _, _ => by simp at h
  | _ :: _, [], h, _, _ => by simp at h

/-- the number of a single, in the least steps -/
def valF (b : Nat) : Int := match single.read b with
  | .number s m e => signed s m (e + 149).toNat
  | _ => 0
theorem valF_of {b : Nat} {s : Bool} {m k : Nat} (h : single.read b = .number s m ((k : Int) - 149)) : valF b = signed s m k := by
  unfold valF
  rw [h]
  dsimp only
  congr 1
  omega
theorem ord_valF {K J a b : Nat} (ha : Bd K a) (hb : Bd J b) (hK : K ≤ 127) (hJ : J ≤ 127) : ord a b = some (compare (valF a) (valF b)) := by
  obtain ⟨s, m, k, e1, _⟩ := read_bd ha hK
  obtain ⟨t, n, j, e2, _⟩ := read_bd hb hJ
  rw [ord_val e1 e2, valF_of e1, valF_of e2]
theorem ordI_val {K J a b : Nat} (ha : Bd K a) (hb : Bd J b) (hK : K ≤ 127) (hJ : J ≤ 127) : ordI a b = cmpI (valF a) (valF b) := by
  have o := ord_valF ha hb hK hJ
  unfold ordI
  rw [lt_def o, gt_def o]
  have hc : compare (valF a) (valF b) = if valF a < valF b then .lt else if valF a = valF b then .eq else .gt := rfl
  rcases Int.lt_trichotomy (valF a) (valF b) with h | h | h
  · rw [cmpI_lt h, hc, if_pos h]
    rfl
  · have h2 : compare (valF a) (valF b) = .eq := by
      rw [hc, if_neg (by rw [h]; exact Int.lt_irrefl _), if_pos h]
    rw [h2, h, cmpI_eq]
    rfl
  · have h2 : compare (valF a) (valF b) = .gt := by
      rw [hc, if_neg (by intro h3; exact absurd (Int.lt_trans h h3) (Int.lt_irrefl _)), if_neg (by intro h3; rw [h3] at h; exact absurd h (Int.lt_irrefl _))]
    rw [h2, cmpI_gt h]
    rfl

def keyS (a : PlantR) : List Int := [-valF a.size, -a.age, mixK 0 a.x a.y 4 3, a.y, a.x]
theorem keyS_len (a b : PlantR) : (keyS a).length = (keyS b).length := by simp [keyS]
theorem cmpI_neg (x y : Int) : cmpI (-x) (-y) = cmpI y x := by
  rcases Int.lt_trichotomy x y with h | rfl | h
  · rw [cmpI_gt h, cmpI_gt (by omega)]
  · rw [cmpI_eq, cmpI_eq]
  · rw [cmpI_lt h, cmpI_lt (by omega)]
theorem stand_lex {a b : PlantR} (ha : Bd 20 a.size) (hb : Bd 20 b.size) : standC a b = lexC (keyS a) (keyS b) := by
  unfold standC keyS
  rw [ordI_val hb ha (by omega) (by omega)]
  simp only [lexC, orI, cmpI_neg, placeC]
  by_cases h1 : cmpI (valF b.size) (valF a.size) = 0 <;> by_cases h2 : cmpI b.age a.age = 0 <;> by_cases h3 : cmpI (mixK 0 a.x a.y 4 3) (mixK 0 b.x b.y 4 3) = 0 <;> by_cases h4 : cmpI a.y b.y = 0 <;> by_cases h5 : cmpI a.x b.x = 0 <;> simp [h1, h2, h3, h4, h5]
/-- who stands first -/
def ltS (a b : PlantR) : Bool := decide (lexC (keyS a) (keyS b) < 0)
theorem ltS_stand {a b : PlantR} (ha : Bd 20 a.size) (hb : Bd 20 b.size) : decide (standC a b < 0) = ltS a b := by
  unfold ltS
  rw [stand_lex ha hb]
theorem ltS_irrefl (a : PlantR) : ltS a a = false := by
  unfold ltS
  rw [lex_irrefl]
  rfl
theorem ltS_trans {a b c : PlantR} (h1 : ltS a b = true) (h2 : ltS b c = true) : ltS a c = true := by
  unfold ltS at *
  simp only [decide_eq_true_eq] at *
  exact lex_trans (keyS_len a b) (keyS_len b c) h1 h2
theorem ltS_ntrans {a b c : PlantR} (h1 : ltS a b = false) (h2 : ltS b c = false) : ltS a c = false := by
  unfold ltS at *
  simp only [decide_eq_false_iff_not] at *
  exact lex_ntrans (keyS_len a b) (keyS_len b c) h1 h2
/-- of two that neither stands ahead of the other, the places are one -/
theorem ltS_total {a b : PlantR} (h1 : ltS a b = false) (h2 : ltS b a = false) : a.x = b.x ∧ a.y = b.y := by
  unfold ltS at *
  simp only [decide_eq_false_iff_not] at *
  have h := lex_total (keyS_len a b) h1 h2
  unfold keyS at h
  simp only [List.cons.injEq] at h
  exact ⟨h.2.2.2.2.1, h.2.2.2.1⟩
theorem ltS_le {a b : PlantR} (h : ltS a b = true) : ltS b a = false := by
  cases h2 : ltS b a
  · rfl
  · have := ltS_trans h h2
    rw [ltS_irrefl] at this
    cases this
/-- whose place comes first -/
def ltP (a b : PlantR) : Bool := decide (placeC a b < 0)
def keyP (a : PlantR) : List Int := [a.y, a.x]
theorem keyP_len (a b : PlantR) : (keyP a).length = (keyP b).length := rfl
theorem place_lex (a b : PlantR) : placeC a b = lexC (keyP a) (keyP b) := by
  unfold placeC keyP
  simp only [lexC]
  by_cases h4 : cmpI a.y b.y = 0 <;> by_cases h5 : cmpI a.x b.x = 0 <;> simp [h4, h5]
theorem ltP_irrefl (a : PlantR) : ltP a a = false := by
  unfold ltP
  rw [place_lex, lex_irrefl]
  rfl
theorem ltP_trans {a b c : PlantR} (h1 : ltP a b = true) (h2 : ltP b c = true) : ltP a c = true := by
  unfold ltP at *
  rw [place_lex] at *
  simp only [decide_eq_true_eq] at *
  exact lex_trans (keyP_len a b) (keyP_len b c) h1 h2
theorem ltP_ntrans {a b c : PlantR} (h1 : ltP a b = false) (h2 : ltP b c = false) : ltP a c = false := by
  unfold ltP at *
  rw [place_lex] at *
  simp only [decide_eq_false_iff_not] at *
  exact lex_ntrans (keyP_len a b) (keyP_len b c) h1 h2
theorem ltP_total {a b : PlantR} (h1 : ltP a b = false) (h2 : ltP b a = false) : a.x = b.x ∧ a.y = b.y := by
  unfold ltP at *
  rw [place_lex] at *
  simp only [decide_eq_false_iff_not] at *
  have h := lex_total (keyP_len a b) h1 h2
  unfold keyP at h
  simp only [List.cons.injEq] at h
  exact ⟨h.2.1, h.1⟩
theorem ltP_ahead (a b : PlantR) : ltP a b = aheadB a b := by
  unfold ltP placeC cmpI aheadB
  rw [Bool.eq_iff_iff]
  simp
  split <;> (try split) <;> (try split) <;> omega
end Go.Proofs.YtgaonoklbihkjaaDoor
