/- The guard of the laws of roads is true: a way of two cells is found. -/
import Derived.Test.YtpgdinpckolfpaaRdT
namespace Go.Proofs.Ytpgdinpckolfpaa
open Go.RowKit
attribute [local go_sem ↓] Go.wp_at_zero Go.wp_at_succ
attribute [local go_sem] run_store_float

def R1 : RlR := ⟨0, 0, 1065353216, 0, 0, none⟩
theorem R1_ok : RlOk R1 2 := by
  refine ⟨by unfold R1 Bd; decide, ?_, by unfold R1 Bd; decide, ?_, by unfold R1 Bd; decide, ?_, by unfold R1 Bd; decide, ?_, by unfold R1; decide, (fun l h => by cases h), (fun l h => by cases h)⟩
  all_goals (unfold R1; decide +kernel)
def V1 : Nat → Nat := fun j => ([0, 0] : List Nat).getD j 0
theorem st01 : stepF R1 V1 2 1 0 1 = some 1065353216 := by decide +kernel
theorem st11 : stepF R1 V1 2 1 1 1 = none := by decide +kernel
theorem one_up : upV 1065353216 0 = valI 1065353216 := by decide +kernel
theorem feq01 : feqB (fadd 0 1065353216) 1065353216 = true := by decide +kernel
theorem up_nn {c : Nat} {z : Int} (hc : 0 ≤ valI c) (hz : 0 ≤ z) : 0 ≤ upV c z := by
  have h0 : valK (rkey 0) = 0 := by decide +kernel
  unfold upV
  rw [← h0]
  exact valK_mono (rkey_mono (by omega))
theorem way_nn {N : Nat} {E : Nat → List (Nat × Nat)} {src k : Nat} {z : Int} (hE : EdOk N E) (h : RWay N E src k z) : 0 ≤ z := by
  induction h with
  | start => exact Int.le_refl _
  | step _ _ hm ih => exact up_nn (by have := hE.nn _ _ _ hm; omega) ih
theorem V1_bd : ∀ j, j < 2 → Bd 20 (V1 j) := fun j hj => by
  rcases (by omega : j = 0 ∨ j = 1) with rfl | rfl <;> exact bd_0 20
theorem leadsP {seen : Nat → Bool} {P : Nat → Nat} (h : PrOk 2 (edA R1 V1 2 1 2) 0 seen P) : seen 1 = true ∧ P 1 = 1065353216 ∧ ∀ H xs, HopOk 2 (edA R1 V1 2 1 2) 0 (tgt P) H → Chain R1 V1 2 1 2 H P 1 xs → xs.length = 2 := by
  have e01 : (1, 1065353216) ∈ edA R1 V1 2 1 2 0 := by
    rw [edA_at (by omega)]
    exact (edK_iff (Nat.le_succ 1) (by omega) (by omega)).2 st01
  have hw : RWay 2 (edA R1 V1 2 1 2) 0 1 (upV 1065353216 0) := .step .start (by omega) e01
  obtain ⟨h1, h2⟩ := h.least.low 1 _ hw
  have hway := h.least.way 1 (by omega) h1
  have hge : valI 1065353216 ≤ valI (P 1) := by
    obtain ⟨z, hz⟩ : ∃ z, z = valI (P 1) := ⟨_, rfl⟩
    have hway2 : RWay 2 (edA R1 V1 2 1 2) 0 1 z := by rw [hz]; exact hway
    rw [← hz]
    cases hway2 with
    | @step n m c z hw hn hm =>
      rw [edA_at hn] at hm
      have hs := (edK_iff (Nat.le_succ 1) (by omega) (by omega)).1 hm
      rcases (by omega : n = 0 ∨ n = 1) with rfl | rfl
      · rw [st01] at hs
        injection hs with hs
        subst hs
        rw [← one_up]
        exact upV_mono _ _ _ (way_nn (edA_ok R1_ok rfl V1_bd) hw)
      · rw [st11] at hs
        cases hs
  rw [one_up] at h2
  have hv : valI (P 1) = valI 1065353216 := Int.le_antisymm h2 hge
  have hP1 : P 1 = 1065353216 := val_one (h.ob 1 (by omega)).2.2 (by omega) hv (by rw [hv]; decide +kernel)
  refine ⟨h1, hP1, fun H xs hH hc => ?_⟩
  have ht : tgt P 0 1 1065353216 = true := by
    unfold tgt
    rw [h.os, hP1]
    exact feq01
  have h01 := hH.h2 0 1 1065353216 (by omega) (by rw [hH.h0]; omega) e01 ht
  rw [hH.h0] at h01
  have h1n : H 1 ≠ 0 := fun e => by have := hH.h4 1 (by omega) e; omega
  cases hc with
  | last h3 => omega
  | @next k p ys h3 hb hc2 =>
    have hp : p = 0 := hH.h4 p hb.1 (by rw [hb.2.1.1]; omega)
    subst hp
    cases hc2 with
    | last _ => rfl
    | next h4 _ _ => rw [hH.h0] at h4; omega
theorem z_field : fieldE 0 0 2 1 [0, 0] = 0 := by decide +kernel
theorem z_grnd : grndE 0 0 ((2 : Nat) : Int) ((1 : Nat) : Int) [0, 0] R1.gr R1.wt R1.br R1.de (R1.sp : Int) 0 0 0 0 0 [] = 0 := by decide +kernel
theorem reg21 : Reg 0 0 2 1 := ⟨by omega, by omega, by omega, by omega, by omega, by omega, by omega, by omega, by omega⟩
set_option maxRecDepth 100000 in
set_option maxHeartbeats 3200000 in
/-- leads() is true -/
theorem leads_any (w : World) : Calls Try.prog 15 #[] w fun e w' => e = .returned (.bool true) ∧ Ext w w' := by
  have HW : ∀ (w' : World) (A : Option Addr), Rd w' A (flt [0, 0]) → Hid (Calls Try.prog 24 #[.agg #[.int .i64 0, .int .i64 0, .int .i64 2, .int .i64 1, .slice A 2 2], .agg #[.float .f32 0, .float .f32 0, .float .f32 1065353216, .float .f32 0, .int .i64 0, .slice none 0 0], .agg #[.int .i64 0, .int .i64 0], .agg #[.int .i64 1, .int .i64 0]] w' fun e w'' => WayRes R1 [0, 0] 0 0 2 1 2 0 1 w' e w'') :=
    fun w' A h => hidA (Way_ok 0 0 2 1 A 2 2 R1 none 0 0 0 1 [0, 0] 0 0 0 0 [] w' reg21 rfl R1_ok rfl V1_bd (by omega) h rfl ⟨fun e => by cases e⟩ z_grnd (by omega))
  have hone : (FloatKind.f32.format.order 1065353216 1065353216 == some .eq) = true := by decide +kernel
  go_enter Try.func15, Try.ntmps15
  go_upto_region 2 with fail
  have kF : Bk ((w.alloc (.cells #[.float .f32 0, .float .f32 0] 27)).alloc (.cells #[.int .i64 0, .int .i64 0, .int .i64 2, .int .i64 1, .slice (some ⟨w.heap.size, 0, none⟩) 2 2] 26)) (w.heap.size + 1) 26 #[.int .i64 0, .int .i64 0, .int .i64 2, .int .i64 1, .slice (some ⟨w.heap.size, 0, none⟩) 2 2] := Bk.new' (by simp)
  have hV : Rd ((w.alloc (.cells #[.float .f32 0, .float .f32 0] 27)).alloc (.cells #[.int .i64 0, .int .i64 0, .int .i64 2, .int .i64 1, .slice (some ⟨w.heap.size, 0, none⟩) 2 2] 26)) (some ⟨w.heap.size, 0, none⟩) (flt [0, 0]) := (Rd.new rfl rfl).ext ((Ext.refl _).alloc _)
  have hx0 : Ext w ((w.alloc (.cells #[.float .f32 0, .float .f32 0] 27)).alloc (.cells #[.int .i64 0, .int .i64 0, .int .i64 2, .int .i64 1, .slice (some ⟨w.heap.size, 0, none⟩) 2 2] 26)) := ((Ext.refl w).alloc _).alloc _
  generalize (w.alloc (.cells #[.float .f32 0, .float .f32 0] 27)).alloc (.cells #[.int .i64 0, .int .i64 0, .int .i64 2, .int .i64 1, .slice (some ⟨w.heap.size, 0, none⟩) 2 2] 26) = w0 at *
  have f0 := kF.cell 0
  have f1 := kF.cell 1
  have f2 := kF.cell 2
  have f3 := kF.cell 3
  have f4 := kF.cell 4
  have HW0 := HW w0 _ hV
  clear HW
  go_wp2_with (go_at_call 24; refine HW0.out.mono ?_; rintro e w3 ⟨seen, P, hOk, hx3, hh⟩; obtain ⟨l1, l2, l3⟩ := leadsP hOk; rcases hh with ⟨h1, _⟩ | ⟨_, H, xs, g, cap, hH, hc, _, _, rfl, _⟩; (rw [l1] at h1; cases h1); have hx9 := l3 H xs hH hc; rw [l2]; rw [hx9]; clear hH hc l1 l2 l3 hOk hx9)
  go_ret
  exact ⟨rfl, hx0.trans hx3⟩
end Go.Proofs.Ytpgdinpckolfpaa
