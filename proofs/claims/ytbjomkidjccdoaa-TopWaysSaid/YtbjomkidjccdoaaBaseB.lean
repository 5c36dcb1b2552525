/- Contracts: errors of regions, numbers and fields, in the program and in the reference. -/
import Derived.Test.YtbjomkidjccdoaaBaseA
namespace Go.Proofs.Ytbjomkidjccdoaa
open Go.RowKit

theorem regE_three {x y w h : Int} (hs : w < 1 ∨ 512 < w ∨ h < 1 ∨ 512 < h) : regE x y w h = 3 := by unfold regE; rw [if_pos hs]

set_option maxHeartbeats 400000 in
theorem side_any (n : Int) (w : World) :
    Calls Try.prog 17 #[.int .i64 n] w fun e w' => e = .returned (.bool (decide (1 ≤ n) && decide (n ≤ 512))) ∧ w = w' := by
  go_enter Try.func17, Try.ntmps17
  go_wp2
  all_goals go_ret
  all_goals exact ⟨ret_b (by simp; try omega), rfl⟩

theorem side_yes (n : Int) (w : World) (h1 : 1 ≤ n) (h2 : n ≤ 512) :
    Calls Try.prog 17 #[.int .i64 n] w fun e w' => e = .returned (.bool true) ∧ w = w' :=
  (side_any n w).mono fun e w' ⟨he, hw⟩ => ⟨by rw [he]; exact ret_b (by simp [h1, h2]), hw⟩
theorem side_no (n : Int) (w : World) (h1 : n < 1 ∨ 512 < n) :
    Calls Try.prog 17 #[.int .i64 n] w fun e w' => e = .returned (.bool false) ∧ w = w' :=
  (side_any n w).mono fun e w' ⟨he, hw⟩ => ⟨by rw [he]; exact ret_b (by simp; omega), hw⟩

set_option maxHeartbeats 800000 in
theorem checkRegion_any (x y ww hh : Int) (w : World) :
    Calls Try.prog 9 #[.agg #[.int .i64 x, .int .i64 y, .int .i64 ww, .int .i64 hh]] w fun e w' => e = .returned (.int .i64 (regE x y ww hh)) ∧ Ext w w' := by
  by_cases hs : 1 ≤ ww ∧ ww ≤ 512 ∧ 1 ≤ hh ∧ hh ≤ 512
  · obtain ⟨h1, h2, h3, h4⟩ := hs
    obtain ⟨p1, p2⟩ := prod_bd (A := 512) (B := 512) (by omega : 0 ≤ ww) h2 (by omega : 0 ≤ hh) h4
    go_enter Try.func9, Try.ntmps9
    go_wp2_with (go_at_call 17; refine (side_yes _ _ (by omega) (by omega)).mono ?_; rintro e w' ⟨rfl, rfl⟩)
    all_goals go_ret
    all_goals refine ⟨ret_i ?_, (Ext.refl _).alloc _⟩
    all_goals (unfold regE; repeat (first | rw [if_pos (by omega)] | rw [if_neg (by omega)]))
  · have H3 : Hid (regE x y ww hh = 3) := regE_three (by omega)
    rcases (by omega : (ww < 1 ∨ 512 < ww) ∨ (1 ≤ ww ∧ ww ≤ 512 ∧ (hh < 1 ∨ 512 < hh))) with h | ⟨h, h', h''⟩
    · clear hs
      go_enter Try.func9, Try.ntmps9
      go_wp2_with (go_at_call 17; refine (side_no _ _ h).mono ?_; rintro e w' ⟨rfl, rfl⟩)
      go_ret
      exact ⟨ret_i H3.out.symm, (Ext.refl _).alloc _⟩
    · clear hs
      go_enter Try.func9, Try.ntmps9
      go_wp2_with (first | (go_at_call_of 17 (Value.int IntKind.i64 ww); refine (side_yes _ _ (by omega) (by omega)).mono ?_; rintro e w' ⟨rfl, rfl⟩) | (go_at_call 17; refine (side_no _ _ h'').mono ?_; rintro e w' ⟨rfl, rfl⟩))
      go_ret
      exact ⟨ret_i H3.out.symm, (Ext.refl _).alloc _⟩

end Go.Proofs.Ytbjomkidjccdoaa
