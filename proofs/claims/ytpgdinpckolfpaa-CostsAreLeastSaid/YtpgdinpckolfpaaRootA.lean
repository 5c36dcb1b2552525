/- Contracts: math.Sqrt, noise.Root, tarnref2.Root. -/
import Derived.Test.YtpgdinpckolfpaaFloatF
import Derived.Test.YtpgdinpckolfpaaBaseA
import Derived.Deep.QuietTactic
import Derived.BigQuiet
namespace Go.Proofs.Ytpgdinpckolfpaa
open Go.RowKit
attribute [local go_sem ↓] Go.wp_at_zero Go.wp_at_succ

theorem sqrt_ext (d r : Nat) (h : Ieee.double.sqrt d = some r) (w : World) : (callFunc 131 #[.float .f64 d]).run Try.prog w = .ok (.value (.float .f64 r)) w := by
  have e : (callFunc 131 #[.float .f64 d]).run Try.prog w = ((match FloatKind.f64.format.sqrt d with | some r => (pure (.float .f64 r) : Sem Value) | none => do pure (.float .f64 (← choose (.nanBits .f64 d d)))) >>= fun v => pure (Next.value v)).run Try.prog w := by kernel_rfl
  have h2 : FloatKind.f64.format.sqrt d = some r := h
  rw [e, h2]
  rfl
theorem Sqrt_any (d r : Nat) (h : Ieee.double.sqrt d = some r) (w : World) :
    Calls Try.prog 120 #[.float .f64 d] w fun e w' => e = .returned (.float .f64 r) ∧ w' = w := by
  have h := sqrt_ext d r h
  go_enter Try.func120, Try.ntmps120
  go_wp2
  go_ret
  exact ⟨rfl, rfl⟩
theorem noiseRoot_any {K b : Nat} (hb : Bd K b) (hs : b < 2147483648) (hK : K ≤ 110) (w : World) :
    Calls Try.prog 96 #[.float .f32 b] w fun e w' => e = .returned (.float .f32 (rootB b)) ∧ w' = w := by
  obtain ⟨d, r, h1, h2, h3, _⟩ := root_ok hb hs hK
  have c1 := fun (w : World) => run_convert_float_float (P := Try.prog) w 27 165 .f32 .f64 b d (by kernel_rfl) Try.underlying165 h1
  have c2 := fun (w : World) => run_convert_float_float (P := Try.prog) w 165 27 .f64 .f32 r (rootB b) (by kernel_rfl) Try.underlying27 h3
  have hA := fun (w : World) => hidA (Sqrt_any d r h2 w)
  clear h1 h2 h3 hb hs hK
  generalize rootB b = q at *
  go_enter Try.func96, Try.ntmps96
  go_wp2_with fail
  refine ((hA _).out).mono ?_
  rintro e w1 ⟨rfl, hw1⟩
  rw [hw1]
  clear hw1 w1
  go_wp2_with fail
  go_ret
  exact ⟨rfl, rfl⟩
theorem refRoot_any {K b : Nat} (hb : Bd K b) (hs : b < 2147483648) (hK : K ≤ 110) (w : World) :
    Calls Try.prog 99 #[.float .f32 b] w fun e w' => e = .returned (.float .f32 (rootB b)) ∧ w' = w := by
  obtain ⟨d, r, h1, h2, h3, _⟩ := root_ok hb hs hK
  have c1 := fun (w : World) => run_convert_float_float (P := Try.prog) w 27 165 .f32 .f64 b d (by kernel_rfl) Try.underlying165 h1
  have c2 := fun (w : World) => run_convert_float_float (P := Try.prog) w 165 27 .f64 .f32 r (rootB b) (by kernel_rfl) Try.underlying27 h3
  have hA := fun (w : World) => hidA (Sqrt_any d r h2 w)
  clear h1 h2 h3 hb hs hK
  generalize rootB b = q at *
  go_enter Try.func99, Try.ntmps99
  go_wp2_with fail
  refine ((hA _).out).mono ?_
  rintro e w1 ⟨rfl, hw1⟩
  rw [hw1]
  clear hw1 w1
  go_wp2_with fail
  go_ret
  exact ⟨rfl, rfl⟩
end Go.Proofs.Ytpgdinpckolfpaa
