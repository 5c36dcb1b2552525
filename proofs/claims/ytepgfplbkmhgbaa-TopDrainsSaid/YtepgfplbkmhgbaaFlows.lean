/- Pits are filled: the guard flows() is true. -/
import Derived.Test.YtepgfplbkmhgbaaFillC
namespace Go.Proofs.Ytepgfplbkmhgbaa
open Go.RowKit
attribute [local go_sem ↓] Go.wp_at_zero Go.wp_at_succ
attribute [local go_sem] run_store_float

def l5 : List Nat := [1084227584, 1084227584, 1084227584, 1084227584, 0, 1084227584, 1084227584, 1084227584, 1084227584]
theorem up5 : upV 0 (valI 1084227584) = valI 1084227584 := by decide +kernel
theorem max5 : max (valI 0) (upV 0 (valI 1084227584)) = valI 1084227584 := by decide +kernel
theorem least5 : LeastG 3 3 (fun k => l5.getD k 0) 0 (fun _ => valI 1084227584) := by
  refine Least.mk' (upV_mono 0) (fun k hk => ?_) (fun k hk he => ?_) (fun n d k hn hd hnb hk => ?_)
  · have hc : k = 0 ∨ k = 1 ∨ k = 2 ∨ k = 3 ∨ k = 4 ∨ k = 5 ∨ k = 6 ∨ k = 7 ∨ k = 8 := by omega
    have st : ∀ j, j < 3 * 3 → brd 3 3 j = true → WayG 3 3 (fun k => l5.getD k 0) 0 j (valI (l5.getD j 0)) := fun j h1 h2 => Way.start (H := fun k => valI (l5.getD k 0)) h1 h2
    rcases hc with rfl | rfl | rfl | rfl | rfl | rfl | rfl | rfl | rfl
    · exact st 0 (by decide) (by decide)
    · exact st 1 (by decide) (by decide)
    · exact st 2 (by decide) (by decide)
    · exact st 3 (by decide) (by decide)
    · have h3 := st 3 (by decide) (by decide)
      have h4 := Way.step (H := fun k => valI (l5.getD k 0)) (up := upV 0) (nb := nbr 3 3) (edge := brd 3 3) (N := 3 * 3) (d := 0) (k := 4) h3 (by decide) (by decide) (by decide) (by decide)
      have e : max (valI (l5.getD 4 0)) (upV 0 (valI (l5.getD 3 0))) = valI 1084227584 := max5
      rw [← e]
      exact h4
    · exact st 5 (by decide) (by decide)
    · exact st 6 (by decide) (by decide)
    · exact st 7 (by decide) (by decide)
    · exact st 8 (by decide) (by decide)
  · have hc : k = 0 ∨ k = 1 ∨ k = 2 ∨ k = 3 ∨ k = 4 ∨ k = 5 ∨ k = 6 ∨ k = 7 ∨ k = 8 := by omega
    rcases hc with rfl | rfl | rfl | rfl | rfl | rfl | rfl | rfl | rfl
    all_goals first | exact Int.le_refl _ | (exfalso; revert he; decide)
  · show valI 1084227584 ≤ max _ (upV 0 (valI 1084227584))
    rw [up5]
    omega
theorem reg33 : Reg 0 0 3 3 := ⟨by omega, by omega, by omega, by omega, by omega, by omega, by omega, by omega, by omega⟩
theorem field5 : fieldE 0 0 ((3 : Nat) : Int) ((3 : Nat) : Int) l5 = 0 := by decide +kernel
theorem slope0 : slopeE 0 = 0 := by decide +kernel
theorem hgt5 : hgtB 1084227584 = true := by decide +kernel

end Go.Proofs.Ytepgfplbkmhgbaa
