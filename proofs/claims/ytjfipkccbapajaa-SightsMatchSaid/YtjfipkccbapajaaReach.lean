/- The lengths of steps: water.StepLength and tarnref2.Reach are the same. -/
import Derived.Test.YtjfipkccbapajaaSightsB
namespace Go.Proofs.Ytjfipkccbapajaa
open Go.RowKit
attribute [local go_sem ↓] Go.wp_at_zero Go.wp_at_succ

theorem mul_one_small : ∀ n : Nat, n < 600 → floatBits .mul .f32 (floatOfInt .f32 n) 1065353216 = some (floatOfInt .f32 n) := by decide +kernel

theorem long_any (d : Int) (w : World) (h0 : 0 ≤ d) (h : d < 8) :
    Calls Try.prog 132 #[.int .i64 d] w fun e w' => e = .returned (.float .f32 (if d % 2 = 1 then 1068827891 else 1065353216)) ∧ w' = w := by
  have hd : d = 0 ∨ d = 1 ∨ d = 2 ∨ d = 3 ∨ d = 4 ∨ d = 5 ∨ d = 6 ∨ d = 7 := by omega
  rcases hd with rfl | rfl | rfl | rfl | rfl | rfl | rfl | rfl
  all_goals
    go_enter Try.func132, Try.ntmps132
    go_wp2
    go_ret
    exact ⟨rfl, rfl⟩

theorem sqrt_two (w : World) : (callFunc 196 #[.float .f64 4611686018427387904]).run Try.prog w = .ok (.value (.float .f64 4609047870845172685)) w := by kernel_rfl
theorem Sqrt_two (w : World) :
    Calls Try.prog 171 #[.float .f64 4611686018427387904] w fun e w' => e = .returned (.float .f64 4609047870845172685) ∧ w' = w := by
  have h := sqrt_two
  go_enter Try.func171, Try.ntmps171
  go_wp2
  go_ret
  exact ⟨rfl, rfl⟩
set_option maxRecDepth 100000 in
theorem root_two (w : World) :
    Calls Try.prog 134 #[.float .f32 1073741824] w fun e w' => e = .returned (.float .f32 1068827891) ∧ w' = w := by
  have c1 := fun (w : World) => run_convert_float_float (P := Try.prog) w 71 247 .f32 .f64 1073741824 4611686018427387904 (by kernel_rfl) Try.underlying247 (by decide +kernel)
  have c2 := fun (w : World) => run_convert_float_float (P := Try.prog) w 247 71 .f64 .f32 4609047870845172685 1068827891 (by kernel_rfl) Try.underlying71 (by decide +kernel)
  go_enter Try.func134, Try.ntmps134
  go_wp2_with fail
  refine (Sqrt_two _).mono ?_
  rintro e w' ⟨rfl, rfl⟩
  go_wp2
  go_ret
  exact ⟨rfl, rfl⟩
end Go.Proofs.Ytjfipkccbapajaa
