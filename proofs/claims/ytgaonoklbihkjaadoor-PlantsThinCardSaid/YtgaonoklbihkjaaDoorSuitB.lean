/- Contracts: plant.CheckKind and plant.Suit; grows() is true; equal bits. -/
import Derived.Test.YtgaonoklbihkjaaDoorSuitA
import Derived.Test.YtgaonoklbihkjaaDoorKindB
import Derived.Test.YtgaonoklbihkjaaDoorKindC
namespace Go.Proofs.YtgaonoklbihkjaaDoor
open Go.RowKit
attribute [local go_sem ↓] Go.wp_at_zero Go.wp_at_succ

theorem checkKind_any (s : ByteArray) (a0 a1 a2 a3 a4 a5 a6 a7 a8 a9 : Nat) (p q : Int) (w : World) (hs : s.size ≤ 9223372036854775807) :
    Calls Tryd.prog 74 #[.agg #[.string s, .float .f32 a0, .float .f32 a1, .float .f32 a2, .float .f32 a3, .float .f32 a4, .float .f32 a5, .float .f32 a6, .float .f32 a7, .float .f32 a8, .float .f32 a9, .int .i64 p, .int .i64 q]] w fun e w' => e = .returned (.int .i64 (kindE s a0 a1 a2 a3 a4 a5 a6 a7 a8 a9 p q)) ∧ Ext w w' := by
  unfold kindE
  by_cases h : nameOk s
  · rw [if_pos h]
    exact check_nums s a0 a1 a2 a3 a4 a5 a6 a7 a8 a9 p q w hs h
  · rw [if_neg h]
    exact check_name s a0 a1 a2 a3 a4 a5 a6 a7 a8 a9 p q w hs h
theorem kindE_zero {s : ByteArray} {a0 a1 a2 a3 a4 a5 a6 a7 a8 a9 : Nat} {p q : Int} (h : kindE s a0 a1 a2 a3 a4 a5 a6 a7 a8 a9 p q = 0) : Bd 20 a0 ∧ Bd 20 a1 ∧ Bd 20 a2 ∧ Bd 20 a3 ∧ Bd 20 a4 ∧ Bd 20 a5 := by
  unfold kindE numsE at h
  split at h
  · split at h
    · contradiction
    · have h2 := (numE_zero (by omega : numE [a0, a1, a2, a3, a4, a5, a6, a7, a8, a9] = 0)).2
      exact ⟨hgt_bd (h2 _ (by simp)), hgt_bd (h2 _ (by simp)), hgt_bd (h2 _ (by simp)), hgt_bd (h2 _ (by simp)), hgt_bd (h2 _ (by simp)), hgt_bd (h2 _ (by simp))⟩
  · omega

/-- the error of a kind and a ground -/
theorem grow_E : slackE 1094713344 0 1092616192 1082130432 = 0 := by decide +kernel
theorem grow_F : slackF 1094713344 0 1092616192 1082130432 = 1056964608 := by decide +kernel
theorem grows_any (w : World) : Calls Tryd.prog 13 #[] w fun e w' => e = .returned (.bool true) ∧ Ext w w' := by
  have c0 : (FloatKind.f32.format.order 1056964608 1056964608 == some .eq) = true := by decide +kernel
  have h := grow_F
  have HF := hidA h
  clear h
  go_enter Tryd.func13, Tryd.ntmps13
  go_wp2_with fail
  refine (Slack_ok _ _ _ _ _ grow_E).mono ?_
  rw [HF.out]
  rintro e w1 ⟨rfl, hb1⟩
  go_wp2
  go_ret
  exact ⟨rfl, (by repeat (first | exact Ext.refl _ | assumption | refine Ext.setCell ?_ (by first | (simp; done) | (simp; omega)) _ | refine Ext.drewN ?_ _ | refine Ext.alloc ?_ _ | refine Ext.drew ?_ | refine Ext.trans ?_ (by assumption)))⟩

end Go.Proofs.YtgaonoklbihkjaaDoor
