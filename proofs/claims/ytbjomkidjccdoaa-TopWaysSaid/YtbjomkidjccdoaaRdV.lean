/- Contracts: Leap of the reference, road.place. -/
import Derived.Test.YtbjomkidjccdoaaRdU
namespace Go.Proofs.Ytbjomkidjccdoaa
open Go.RowKit
attribute [local go_sem ↓] Go.wp_at_zero Go.wp_at_succ
attribute [local go_sem] run_max4

/-- what Leap tells -/
def lpV (x y : Int) : Value := match leapO x y with
  | none => .tuple #[.int .i64 0, .int .i64 0]
  | some (d, n) => .tuple #[.int .i64 d, .int .i64 n]
theorem leap_max {x y : Int} {d n : Nat} (h : leapO x y = some (d, n)) : max4 x (-x) y (-y) = n := by
  obtain ⟨hd, hn, hx, hy⟩ := leapO_spec h
  have h8 : d = 0 ∨ d = 1 ∨ d = 2 ∨ d = 3 ∨ d = 4 ∨ d = 5 ∨ d = 6 ∨ d = 7 := by omega
  unfold max4
  rcases h8 with rfl | rfl | rfl | rfl | rfl | rfl | rfl | rfl <;> simp [stepX, stepY] at hx hy <;> omega
theorem leap_hit {x y : Int} {j : Nat} (hj : j < 8) (h0 : 0 < max4 x (-x) y (-y)) (h1 : stepX j * max4 x (-x) y (-y) = x) (h2 : stepY j * max4 x (-x) y (-y) = y) : leapO x y = some (j, (max4 x (-x) y (-y)).toNat) := by
  obtain ⟨n, hn⟩ : ∃ n : Nat, max4 x (-x) y (-y) = n := ⟨(max4 x (-x) y (-y)).toNat, by omega⟩
  rw [hn] at h0 h1 h2
  have := leapO_of (d := j) (n := n) hj (by omega)
  rw [Int.mul_comm] at h1 h2
  rw [h1, h2] at this
  rw [this, hn]
  rfl
theorem mul_sgn {s m : Int} (h : s = -1 ∨ s = 0 ∨ s = 1) (h1 : 0 ≤ m) (h2 : m ≤ 33554432) : -33554432 ≤ s * m ∧ s * m ≤ 33554432 := by
  rcases h with rfl | rfl | rfl <;> omega
theorem max4_in {x y : Int} (h1 : -33554432 ≤ x ∧ x ≤ 33554432) (h2 : -33554432 ≤ y ∧ y ≤ 33554432) : 0 ≤ max4 x (-x) y (-y) ∧ max4 x (-x) y (-y) ≤ 33554432 := by
  unfold max4
  omega
end Go.Proofs.Ytbjomkidjccdoaa
