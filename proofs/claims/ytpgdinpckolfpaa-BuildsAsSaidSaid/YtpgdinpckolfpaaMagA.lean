/- Contracts: noise.Magnitude and tarnref2.Abs: a single without its sign. -/
import Derived.Test.YtpgdinpckolfpaaBaseA
import Derived.Test.YtpgdinpckolfpaaFloatE
import Derived.Laws.FloatArith
import Derived.Laws.FloatBits
import Derived.Laws.BitsAllLaws
namespace Go.Proofs.Ytpgdinpckolfpaa
open Go.RowKit
attribute [local go_sem ↓] Go.wp_at_zero Go.wp_at_succ

theorem fin_of {K b : Nat} (h : Bd K b) (hK : K ≤ 127) : b % 2147483648 < 2139095040 := by
  unfold Bd at h
  omega
theorem to_bits32 (a : Nat) (w : World) : (callFunc 68 #[.float .f32 a]).run Try.prog w = .ok (.value (.int .u32 a)) w := by kernel_rfl
theorem of_bits32 (a : Nat) (w : World) : (callFunc 92 #[.int .u32 a]).run Try.prog w = .ok (.value (.float .f32 a)) w := by kernel_rfl
theorem to_bits64 (a : Nat) (w : World) : (callFunc 136 #[.float .f64 a]).run Try.prog w = .ok (.value (.int .u64 a)) w := by kernel_rfl
theorem of_bits64 (a : Nat) (w : World) : (callFunc 135 #[.int .u64 a]).run Try.prog w = .ok (.value (.float .f64 a)) w := by kernel_rfl

theorem wide_lt {b d : Nat} (h : floatToFloatBits .f32 b .f64 = some d) : d < 18446744073709551616 := by
  unfold floatToFloatBits at h
  rw [if_neg (by decide)] at h
  split at h
  · cases h
  · cases h
    exact Ieee.Format.write_lt _ _
  · split at h
    · cases h
    · cases h
      exact Ieee.Format.write_lt _ _
theorem clear32 (b : Nat) (hb : b < 4294967296) : bits .andNot .u32 (b : Int) 2147483648 = ((absB b : Nat) : Int) := by
  have h := u32_andNot_nat b 2147483648 hb (by omega)
  rw [show (4294967295 : Nat) - 2147483648 = 2 ^ 31 - 1 from rfl, Nat.and_two_pow_sub_one_eq_mod] at h
  exact h
theorem clear64 (b : Nat) (hb : b < 18446744073709551616) : bits .andNot .u64 (b : Int) 9223372036854775808 = ((b % 9223372036854775808 : Nat) : Int) := by
  have h := u64_andNot_nat b 9223372036854775808 hb (by omega)
  rw [show (18446744073709551615 : Nat) - 9223372036854775808 = 2 ^ 63 - 1 from rfl, Nat.and_two_pow_sub_one_eq_mod] at h
  exact h
theorem refAbs_any (b : Nat) (w : World) (hb : b < 4294967296) :
    Calls Try.prog 52 #[.float .f32 b] w fun e w' => e = .returned (.float .f32 (absB b)) ∧ w' = w := by
  have h1 := to_bits32 b
  have h2 := of_bits32
  have h3 := clear32 b hb
  go_enter Try.func52, Try.ntmps52
  go_wp2
  go_ret
  exact ⟨rfl, rfl⟩
theorem mathAbs_any (b : Nat) (w : World) (hb : b < 18446744073709551616) :
    Calls Try.prog 130 #[.float .f64 b] w fun e w' => e = .returned (.float .f64 (b % 9223372036854775808)) ∧ w' = w := by
  have h1 := to_bits64 b
  have h2 := of_bits64
  have h3 := clear64 b hb
  generalize b % 9223372036854775808 = r at *
  go_enter Try.func130, Try.ntmps130
  go_wp2
  go_ret
  exact ⟨rfl, rfl⟩
theorem magnitude_any {K : Nat} (b : Nat) (w : World) (hb : Bd K b) (hK : K ≤ 127) :
    Calls Try.prog 119 #[.float .f32 b] w fun e w' => e = .returned (.float .f32 (absB b)) ∧ w' = w := by
  obtain ⟨d, h1, h2⟩ := mag_conv (fin_of hb hK)
  have hd : d < 18446744073709551616 := wide_lt h1
  have c1 := fun (w : World) => run_convert_float_float (P := Try.prog) w 27 165 .f32 .f64 b d (by kernel_rfl) Try.underlying165 h1
  have c2 := fun (w : World) => run_convert_float_float (P := Try.prog) w 165 27 .f64 .f32 (d % 9223372036854775808) (absB b) (by kernel_rfl) Try.underlying27 h2
  have hA := fun (w : World) => hidA (mathAbs_any d w hd)
  clear h1 h2 hb
  generalize d % 9223372036854775808 = r at *
  go_enter Try.func119, Try.ntmps119
  go_wp2_with fail
  refine ((hA _).out).mono ?_
  rintro e w1 ⟨rfl, hw1⟩
  rw [hw1]
  clear hw1 w1
  go_wp2
  go_ret
  exact ⟨rfl, rfl⟩
end Go.Proofs.Ytpgdinpckolfpaa
