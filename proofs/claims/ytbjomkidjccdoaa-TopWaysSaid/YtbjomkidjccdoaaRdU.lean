/- The guard of the laws of roads is true: a way of two cells is found. -/
import Derived.Test.YtbjomkidjccdoaaRdT
namespace Go.Proofs.Ytbjomkidjccdoaa
open Go.RowKit
attribute [local go_sem ↓] Go.wp_at_zero Go.wp_at_succ
attribute [local go_sem] run_store_float

def R1 : RlR := ⟨0, 0, 1065353216, 0, 0, none⟩
theorem R1_ok : RlOk R1 2 := by
  refine ⟨by unfold R1 Bd; decide, ?_, by unfold R1 Bd; decide, ?_, by unfold R1 Bd; decide, ?_, by unfold R1 Bd; decide, ?_, by unfold R1; decide, (fun l h => by cases h), (fun l h => by cases h)⟩
  all_goals (unfold R1; decide +kernel)
def V1 : Nat → Nat := fun j => ([0, 0] : List Nat).getD j 0
theorem st01 : stepF R1 V1 2 1 0 1 = some 1065353216 := by decide +kernel
theorem st11 : stepF R1 V1 2 1 1 1 = none := by decide +kernel
theorem one_up : upV 1065353216 0 = valI 1065353216 := by decide +kernel
theorem feq01 : feqB (fadd 0 1065353216) 1065353216 = true := by decide +kernel
theorem up_nn {c : Nat} {z : Int} (hc : 0 ≤ valI c) (hz : 0 ≤ z) : 0 ≤ upV c z := by
  have h0 : valK (rkey 0) = 0 := by decide +kernel
  unfold upV
  rw [← h0]
  exact valK_mono (rkey_mono (by omega))
theorem way_nn {N : Nat} {E : Nat → List (Nat × Nat)} {src k : Nat} {z : Int} (hE : EdOk N E) (h : RWay N E src k z) : 0 ≤ z := by
  induction h with
  | start => exact Int.le_refl _
  | step _ _ hm ih => exact up_nn (by have := hE.nn _ _ _ hm; omega) ih
theorem V1_bd : ∀ j, j < 2 → Bd 20 (V1 j) := fun j hj => by
  rcases (by omega : j = 0 ∨ j = 1) with rfl | rfl <;> exact bd_0 20
theorem leadsP {seen : Nat → Bool} {P : Nat → Nat} (h : PrOk 2 (edA R1 V1 2 1 2) 0 seen P) : seen 1 = true ∧ P 1 = 1065353216 ∧ ∀ H xs, HopOk 2 (edA R1 V1 2 1 2) 0 (tgt P) H → Chain R1 V1 2 1 2 H P 1 xs → xs.length = 2 := by
  have e01 : (1, 1065353216) ∈ edA R1 V1 2 1 2 0 := by
    rw [edA_at (by omega)]
    exact (edK_iff (Nat.le_succ 1) (by omega) (by omega)).2 st01
  have hw : RWay 2 (edA R1 V1 2 1 2) 0 1 (upV 1065353216 0) := .step .start (by omega) e01
  obtain ⟨h1, h2⟩ := h.least.low 1 _ hw
  have hway := h.least.way 1 (by omega) h1
  have hge : valI 1065353216 ≤ valI (P 1) := by
    obtain ⟨z, hz⟩ : ∃ z, z = valI (P 1) := ⟨_, rfl⟩
    have hway2 : RWay 2 (edA R1 V1 2 1 2) 0 1 z := by rw [hz]; exact hway
    rw [← hz]
    cases hway2 with
    | @step n m c z hw hn hm =>
      rw [edA_at hn] at hm
      have hs := (edK_iff (Nat.le_succ 1) (by omega) (by omega)).1 hm
      rcases (by omega : n = 0 ∨ n = 1) with rfl | rfl
      · rw [st01] at hs
        injection hs with hs
        subst hs
        rw [← one_up]
        exact upV_mono _ _ _ (way_nn (edA_ok R1_ok rfl V1_bd) hw)
      · rw [st11] at hs
        cases hs
  rw [one_up] at h2
  have hv : valI (P 1) = valI 1065353216 := Int.le_antisymm h2 hge
  have hP1 : P 1 = 1065353216 := val_one (h.ob 1 (by omega)).2.2 (by omega) hv (by rw [hv]; decide +kernel)
  refine ⟨h1, hP1, fun H xs hH hc => ?_⟩
  have ht : tgt P 0 1 1065353216 = true := by
    unfold tgt
    rw [h.os, hP1]
    exact feq01
  have h01 := hH.h2 0 1 1065353216 (by omega) (by rw [hH.h0]; omega) e01 ht
  rw [hH.h0] at h01
  have h1n : H 1 ≠ 0 := fun e => by have := hH.h4 1 (by omega) e; omega
  cases hc with
  | last h3 => omega
  | @next k p ys h3 hb hc2 =>
    have hp : p = 0 := hH.h4 p hb.1 (by rw [hb.2.1.1]; omega)
    subst hp
    cases hc2 with
    | last _ => rfl
    | next h4 _ _ => rw [hH.h0] at h4; omega
theorem z_field : fieldE 0 0 2 1 [0, 0] = 0 := by decide +kernel
theorem z_grnd : grndE 0 0 ((2 : Nat) : Int) ((1 : Nat) : Int) [0, 0] R1.gr R1.wt R1.br R1.de (R1.sp : Int) 0 0 0 0 0 [] = 0 := by decide +kernel
theorem reg21 : Reg 0 0 2 1 := ⟨by omega, by omega, by omega, by omega, by omega, by omega, by omega, by omega, by omega⟩
end Go.Proofs.Ytbjomkidjccdoaa
