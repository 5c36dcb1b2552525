/- Contracts: how well a value lies between two others: plant.slack and tarnref2.SlackOf reckon the same. -/
import Derived.Test.YtgaonoklbihkjaaDoorBaseA
import Derived.Test.YtgaonoklbihkjaaDoorFloatD
import Derived.Laws.FloatArith
namespace Go.Proofs.YtgaonoklbihkjaaDoor
open Go.RowKit
attribute [local go_sem ↓] Go.wp_at_zero Go.wp_at_succ

theorem slack_any (v low high soft : Nat) (w : World) (hv : Bd 20 v) (hl : Bd 20 low) (hh : Bd 20 high) (hs : Bd 22 soft) :
    Calls Tryd.prog 63 #[.float .f32 v, .float .f32 low, .float .f32 high, .float .f32 soft] w fun e w' => e = .returned (.float .f32 (slackF v low high soft)) ∧ w' = w := by
  by_cases h1 : lt v low = true
  · have C1 : (FloatKind.f32.format.order v low == some .lt) = true := h1
    obtain ⟨q, b, n⟩ := diff_ok hv hl (lt_ord.1 h1)
    have q1 := fun (w : World) => run_float_arith (P := Tryd.prog) w .sub 24 .f32 _ _ _ q
    by_cases h2 : lt (fsub low v) soft = true
    · have C2 : (FloatKind.f32.format.order (fsub low v) soft == some .lt) = true := h2
      obtain ⟨t1, t2, _⟩ := tail_ok b hs n h2
      have q2 := fun (w : World) => run_float_arith (P := Tryd.prog) w .quo 24 .f32 _ _ _ t1
      have q3 := fun (w : World) => run_float_arith (P := Tryd.prog) w .sub 24 .f32 _ _ _ t2
      have HF : Hid (fsub 1065353216 (fdiv (fsub low v) soft) = slackF v low high soft) := by show _ = _; unfold slackF tailF; rw [if_pos h1, if_pos h2]
      clear h1 h2 q b n t1 t2
      go_enter Tryd.func63, Tryd.ntmps63
      go_wp2
      go_ret
      exact ⟨ret_f HF.out, rfl⟩
    · have C2 : (FloatKind.f32.format.order (fsub low v) soft == some .lt) = false := (Bool.not_eq_true _).mp h2
      have HF : Hid (0 = slackF v low high soft) := by show _ = _; unfold slackF tailF; rw [if_pos h1, if_neg h2]
      clear h1 h2 q b n
      go_enter Tryd.func63, Tryd.ntmps63
      go_wp2
      go_ret
      exact ⟨ret_f HF.out, rfl⟩
  · have C1 : (FloatKind.f32.format.order v low == some .lt) = false := (Bool.not_eq_true _).mp h1
    by_cases h3 : gt v high = true
    · have C3 : (FloatKind.f32.format.order v high == some .gt) = true := h3
      obtain ⟨q, b, n⟩ := diff_ok hh hv ((ord_swap hv hh (by omega) (by omega)).1 (gt_ord.1 h3))
      have q1 := fun (w : World) => run_float_arith (P := Tryd.prog) w .sub 24 .f32 _ _ _ q
      by_cases h2 : lt (fsub v high) soft = true
      · have C2 : (FloatKind.f32.format.order (fsub v high) soft == some .lt) = true := h2
        obtain ⟨t1, t2, _⟩ := tail_ok b hs n h2
        have q2 := fun (w : World) => run_float_arith (P := Tryd.prog) w .quo 24 .f32 _ _ _ t1
        have q3 := fun (w : World) => run_float_arith (P := Tryd.prog) w .sub 24 .f32 _ _ _ t2
        have HF : Hid (fsub 1065353216 (fdiv (fsub v high) soft) = slackF v low high soft) := by show _ = _; unfold slackF tailF; rw [if_neg h1, if_pos h3, if_pos h2]
        clear h1 h2 h3 q b n t1 t2
        go_enter Tryd.func63, Tryd.ntmps63
        go_wp2
        go_ret
        exact ⟨ret_f HF.out, rfl⟩
      · have C2 : (FloatKind.f32.format.order (fsub v high) soft == some .lt) = false := (Bool.not_eq_true _).mp h2
        have HF : Hid (0 = slackF v low high soft) := by show _ = _; unfold slackF tailF; rw [if_neg h1, if_pos h3, if_neg h2]
        clear h1 h2 h3 q b n
        go_enter Tryd.func63, Tryd.ntmps63
        go_wp2
        go_ret
        exact ⟨ret_f HF.out, rfl⟩
    · have C3 : (FloatKind.f32.format.order v high == some .gt) = false := (Bool.not_eq_true _).mp h3
      have HF : Hid (1065353216 = slackF v low high soft) := by show _ = _; unfold slackF; rw [if_neg h1, if_neg h3]
      clear h1 h3
      go_enter Tryd.func63, Tryd.ntmps63
      go_wp2
      go_ret
      exact ⟨ret_f HF.out, rfl⟩

end Go.Proofs.YtgaonoklbihkjaaDoor
