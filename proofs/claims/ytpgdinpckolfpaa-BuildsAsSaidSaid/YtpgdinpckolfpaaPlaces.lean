/- Contracts: places in regions, in the program and in the reference. -/
import Derived.Test.YtpgdinpckolfpaaBaseC
import Derived.Test.YtpgdinpckolfpaaWordsB
namespace Go.Proofs.Ytpgdinpckolfpaa
open Go.RowKit

/-- A right region. -/
def RegOk (X Y W H : Int) : Prop := 1 ≤ W ∧ W ≤ 512 ∧ 1 ≤ H ∧ H ≤ 512 ∧ -4194304 ≤ X ∧ -4194304 ≤ Y ∧ X + W ≤ 4194304 ∧ Y + H ≤ 4194304
theorem RegOk.of_zero {X Y W H : Int} (h : regE X Y W H = 0) : RegOk X Y W H := by
  have := regE_zero h
  unfold RegOk; omega
def InR (X Y W H x y : Int) : Prop := X ≤ x ∧ x < X + W ∧ Y ≤ y ∧ y < Y + H
instance (X Y W H x y : Int) : Decidable (InR X Y W H x y) := by unfold InR; infer_instance
def cellN (X Y W x y : Int) : Int := (y - Y) * W + x - X

theorem cell_bd {X Y W H x y : Int} (hr : RegOk X Y W H) (h : InR X Y W H x y) : 0 ≤ (y - Y) * W ∧ (y - Y) * W ≤ (H - 1) * W ∧ (H - 1) * W + W = W * H ∧ (H - 1) * W ≤ 262144 ∧ 0 ≤ x - X ∧ x - X < W := by
  unfold RegOk at hr
  unfold InR at h
  have h1 : (y - Y) * W ≤ (H - 1) * W := Int.mul_le_mul_of_nonneg_right (by omega) (by omega)
  have h2 : 0 ≤ (y - Y) * W := Int.mul_nonneg (by omega) (by omega)
  have h3 : (H - 1) * W + W = W * H := by rw [Int.sub_mul, Int.mul_comm W H]; omega
  have h4 : (H - 1) * W ≤ 512 * 512 := Int.mul_le_mul (by omega) (by omega) (by omega) (by omega)
  omega

set_option maxHeartbeats 800000 in
theorem place_in (X Y W H x y : Int) (w : World) (hr : RegOk X Y W H) (h : InR X Y W H x y) :
    Calls Try.prog 71 #[.agg #[.int .i64 X, .int .i64 Y, .int .i64 W, .int .i64 H], .int .i64 x, .int .i64 y] w fun e w' => e = .returned (.tuple #[.int .i64 (cellN X Y W x y), .bool true]) ∧ Ext w w' := by
  have hb := cell_bd hr h
  unfold RegOk at hr
  unfold InR at h
  obtain ⟨r1, r2, r3, r4, r5, r6, r7, r8⟩ := hr
  obtain ⟨i1, i2, i3, i4⟩ := h
  obtain ⟨b1, b2, b3, b4, b5, b6⟩ := hb
  have b3' := hidA b3
  clear b3
  go_enter Try.func71, Try.ntmps71
  go_wp2
  go_ret2
  exact ⟨by simp [cellN], (Ext.refl _).alloc _⟩

set_option maxHeartbeats 800000 in
theorem place_out (X Y W H x y : Int) (w : World) (hr : RegOk X Y W H) (h : ¬ InR X Y W H x y) :
    Calls Try.prog 71 #[.agg #[.int .i64 X, .int .i64 Y, .int .i64 W, .int .i64 H], .int .i64 x, .int .i64 y] w fun e w' => e = .returned (.tuple #[.int .i64 0, .bool false]) ∧ Ext w w' := by
  unfold RegOk at hr
  unfold InR at h
  obtain ⟨r1, r2, r3, r4, r5, r6, r7, r8⟩ := hr
  rcases (by omega : x < X ∨ (X ≤ x ∧ y < Y) ∨ (X ≤ x ∧ Y ≤ y ∧ X + W ≤ x) ∨ (X ≤ x ∧ Y ≤ y ∧ x < X + W ∧ Y + H ≤ y)) with h1 | ⟨h1, h2⟩ | ⟨h1, h2, h3⟩ | ⟨h1, h2, h3, h4⟩
  all_goals
    clear h
    go_enter Try.func71, Try.ntmps71
    go_wp2
    go_ret2
    exact ⟨rfl, (Ext.refl _).alloc _⟩

def hasB (X Y W H x y : Int) : Bool := decide (X ≤ x) && decide (x < wrap64 (X + W)) && decide (Y ≤ y) && decide (y < wrap64 (Y + H))
theorem hasB_ok {X Y W H x y : Int} (hr : RegOk X Y W H) : hasB X Y W H x y = decide (InR X Y W H x y) := by
  unfold RegOk at hr
  have e1 : wrap64 (X + W) = X + W := by unfold wrap64; omega
  have e2 : wrap64 (Y + H) = Y + H := by unfold wrap64; omega
  unfold hasB InR
  rw [e1, e2, Bool.eq_iff_iff]
  simp only [Bool.and_eq_true, decide_eq_true_eq, and_assoc]
  exact ⟨fun h => decide_eq_true h, fun h => of_decide_eq_true h⟩

set_option maxHeartbeats 800000 in
theorem has_any (X Y W H x y : Int) (w : World) :
    Calls Try.prog 20 #[.agg #[.int .i64 X, .int .i64 Y, .int .i64 W, .int .i64 H], .int .i64 x, .int .i64 y] w fun e w' => e = .returned (.bool (hasB X Y W H x y)) ∧ Ext w w' := by
  go_enter Try.func20, Try.ntmps20
  go_wp2
  all_goals go_ret
  all_goals refine ⟨ret_b ?_, (Ext.refl _).alloc _⟩
  all_goals (unfold hasB; rw [Bool.eq_iff_iff]; simp; try omega)

set_option maxHeartbeats 800000 in
theorem cell_any (X Y W H x y : Int) (w : World) (hr : RegOk X Y W H) (h : InR X Y W H x y) :
    Calls Try.prog 66 #[.agg #[.int .i64 X, .int .i64 Y, .int .i64 W, .int .i64 H], .int .i64 x, .int .i64 y] w fun e w' => e = .returned (.int .i64 (cellN X Y W x y)) ∧ Ext w w' := by
  have hb := cell_bd hr h
  unfold RegOk at hr
  unfold InR at h
  obtain ⟨r1, r2, r3, r4, r5, r6, r7, r8⟩ := hr
  obtain ⟨i1, i2, i3, i4⟩ := h
  obtain ⟨b1, b2, b3, b4, b5, b6⟩ := hb
  have b3' := hidA b3
  clear b3
  go_enter Try.func66, Try.ntmps66
  go_wp2
  go_ret
  exact ⟨by simp [cellN], (Ext.refl _).alloc _⟩

end Go.Proofs.Ytpgdinpckolfpaa
