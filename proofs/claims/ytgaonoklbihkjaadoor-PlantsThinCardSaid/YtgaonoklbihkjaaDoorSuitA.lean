/- Contracts: how well ground suits a kind: plant.suit and tarnref2.SuitOf reckon the same; plant.Slack. -/
import Derived.Test.YtgaonoklbihkjaaDoorSlackA
import Derived.Test.YtgaonoklbihkjaaDoorBaseB
namespace Go.Proofs.YtgaonoklbihkjaaDoor
open Go.RowKit
attribute [local go_sem ↓] Go.wp_at_zero Go.wp_at_succ

def slopeF (g1 a3 : Nat) : Nat := if gt g1 a3 = true then 0 else if gt a3 0 = true then fsub 1065353216 (fmul 1056964608 (fdiv g1 a3)) else 1065353216
def suitF (a0 a1 a2 a3 a4 a5 g0 g1 g2 : Nat) : Nat := fmul (fmul (slackF g0 a0 a1 a2) (slopeF g1 a3)) (slackF g2 a4 a5 (fadd a4 1065353216))
def slackE (v low high soft : Nat) : Int := if numE [v, low, high, soft] ≠ 0 then numE [v, low, high, soft] else if lt high low = true then 8 else if lt soft 0 = true then 3 else 0
theorem slackE_zero {v low high soft : Nat} (h : slackE v low high soft = 0) : Bd 20 v ∧ Bd 20 low ∧ Bd 20 high ∧ Bd 22 soft := by
  unfold slackE at h
  split at h
  · contradiction
  · rename_i h1
    have h2 := (numE_zero (by omega : numE [v, low, high, soft] = 0)).2
    exact ⟨hgt_bd (h2 _ (by simp)), hgt_bd (h2 _ (by simp)), hgt_bd (h2 _ (by simp)), (hgt_bd (h2 soft (by simp))).mono (by omega)⟩

set_option maxHeartbeats 1600000 in
theorem Slack_bad (v low high soft : Nat) (w : World) (h : slackE v low high soft ≠ 0) :
    Calls Tryd.prog 36 #[.float .f32 v, .float .f32 low, .float .f32 high, .float .f32 soft] w fun e w' => e = .returned (.tuple #[.float .f32 0, .int .i64 (slackE v low high soft)]) ∧ Ext w w' := by
  go_enter Tryd.func36, Tryd.ntmps36
  go_wp2_with fail
  refine (heights_any _ 4 4 [v, low, high, soft] _ rfl (Rd.new (by first | rfl | simp) rfl) (by omega)).mono ?_
  rintro e w' ⟨rfl, rfl⟩
  by_cases h1 : numE [v, low, high, soft] = 0
  · have b0 : (numE [v, low, high, soft] != 0) = false := by simpa using h1
    by_cases h2 : lt high low = true
    · have HN : Hid (slackE v low high soft = 8) := by show _ = _; unfold slackE; rw [if_neg (by simpa using h1), if_pos h2]
      have C1 : (FloatKind.f32.format.order high low == some .lt) = true := h2
      clear h h1 h2
      go_wp2
      go_ret2
      exact ⟨by rw [HN.out]; rfl, (by repeat (first | exact Ext.refl _ | assumption | refine Ext.setCell ?_ (by first | (simp; done) | (simp; omega)) _ | refine Ext.drewN ?_ _ | refine Ext.alloc ?_ _ | refine Ext.drew ?_ | refine Ext.trans ?_ (by assumption)))⟩
    · have C1 : (FloatKind.f32.format.order high low == some .lt) = false := (Bool.not_eq_true _).mp h2
      by_cases h3 : lt soft 0 = true
      · have HN : Hid (slackE v low high soft = 3) := by show _ = _; unfold slackE; rw [if_neg (by simpa using h1), if_neg h2, if_pos h3]
        have C2 : (FloatKind.f32.format.order soft 0 == some .lt) = true := h3
        clear h h1 h2 h3
        go_wp2
        go_ret2
        exact ⟨by rw [HN.out]; rfl, (by repeat (first | exact Ext.refl _ | assumption | refine Ext.setCell ?_ (by first | (simp; done) | (simp; omega)) _ | refine Ext.drewN ?_ _ | refine Ext.alloc ?_ _ | refine Ext.drew ?_ | refine Ext.trans ?_ (by assumption)))⟩
      · exfalso
        apply h
        unfold slackE
        rw [if_neg (by simpa using h1), if_neg h2, if_neg h3]
  · have HN : Hid (slackE v low high soft = numE [v, low, high, soft]) := if_pos h1
    have b0 : (numE [v, low, high, soft] != 0) = true := by simpa using h1
    clear h h1
    go_wp2
    go_ret2
    exact ⟨by rw [HN.out]; rfl, (by repeat (first | exact Ext.refl _ | assumption | refine Ext.setCell ?_ (by first | (simp; done) | (simp; omega)) _ | refine Ext.drewN ?_ _ | refine Ext.alloc ?_ _ | refine Ext.drew ?_ | refine Ext.trans ?_ (by assumption)))⟩
set_option maxHeartbeats 1600000 in
theorem Slack_ok (v low high soft : Nat) (w : World) (h : slackE v low high soft = 0) :
    Calls Tryd.prog 36 #[.float .f32 v, .float .f32 low, .float .f32 high, .float .f32 soft] w fun e w' => e = .returned (.tuple #[.float .f32 (slackF v low high soft), .int .i64 0]) ∧ Ext w w' := by
  obtain ⟨hb0, hb1, hb2, hb3⟩ := slackE_zero h
  unfold slackE at h
  have HS := fun (w : World) => hidA (slack_any v low high soft w hb0 hb1 hb2 hb3)
  have h1 : numE [v, low, high, soft] = 0 := by
    by_cases h1 : numE [v, low, high, soft] = 0
    · exact h1
    · rw [if_pos h1] at h; exact h
  rw [if_neg (by simpa using h1)] at h
  have b0 : (numE [v, low, high, soft] != 0) = false := by simpa using h1
  have h2 : ¬ lt high low = true := fun h2 => by rw [if_pos h2] at h; omega
  rw [if_neg h2] at h
  have h3 : ¬ lt soft 0 = true := fun h3 => by rw [if_pos h3] at h; omega
  have C1 : (FloatKind.f32.format.order high low == some .lt) = false := (Bool.not_eq_true _).mp h2
  have C2 : (FloatKind.f32.format.order soft 0 == some .lt) = false := (Bool.not_eq_true _).mp h3
  clear h h1 h2 h3
  go_enter Tryd.func36, Tryd.ntmps36
  go_wp2_with fail
  refine (heights_any _ 4 4 [v, low, high, soft] _ rfl (Rd.new (by first | rfl | simp) rfl) (by omega)).mono ?_
  rintro e w' ⟨rfl, rfl⟩
  go_wp2_with fail
  refine ((HS _).out).mono ?_
  rintro e w1 ⟨rfl, hw1⟩
  rw [hw1]
  clear hw1 w1
  go_wp2
  go_ret2
  exact ⟨rfl, (by repeat (first | exact Ext.refl _ | assumption | refine Ext.setCell ?_ (by first | (simp; done) | (simp; omega)) _ | refine Ext.drewN ?_ _ | refine Ext.alloc ?_ _ | refine Ext.drew ?_ | refine Ext.trans ?_ (by assumption)))⟩

end Go.Proofs.YtgaonoklbihkjaaDoor
