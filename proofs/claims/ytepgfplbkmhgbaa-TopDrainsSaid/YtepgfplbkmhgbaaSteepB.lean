/- Contracts: tarnref2.Long, Drop, SteepOf. -/
import Derived.Test.YtepgfplbkmhgbaaSteepA
import Derived.Test.YtepgfplbkmhgbaaFillR
namespace Go.Proofs.Ytepgfplbkmhgbaa
open Go.RowKit
attribute [local go_sem ↓] Go.wp_at_zero Go.wp_at_succ
attribute [local go_sem] run_store_float

theorem sqrt_two (w : World) : (callFunc 58 #[.float .f64 4611686018427387904]).run Try.prog w = .ok (.value (.float .f64 4609047870845172685)) w := by kernel_rfl
theorem Sqrt_two (w : World) :
    Calls Try.prog 57 #[.float .f64 4611686018427387904] w fun e w' => e = .returned (.float .f64 4609047870845172685) ∧ w' = w := by
  have h := sqrt_two
  go_enter Try.func57, Try.ntmps57
  go_wp2
  go_ret
  exact ⟨rfl, rfl⟩
/-- what Drop answers -/
def dropV (v : Nat → Nat) (Wn Hn k d : Nat) : Value := match nbr Wn Hn k d with
  | none => .tuple #[.float .f32 0, .bool false]
  | some n => .tuple #[.float .f32 (dropF v k n d), .bool true]
end Go.Proofs.Ytepgfplbkmhgbaa
