/- Pits are filled: the guard flows() is true. -/
import Derived.Test.YtinohfgokpbcdaaFillC
namespace Go.Proofs.Ytinohfgokpbcdaa
open Go.RowKit
attribute [local go_sem ↓] Go.wp_at_zero Go.wp_at_succ
attribute [local go_sem] run_store_float

def l5 : List Nat := [1084227584, 1084227584, 1084227584, 1084227584, 0, 1084227584, 1084227584, 1084227584, 1084227584]
theorem up5 : upV 0 (valI 1084227584) = valI 1084227584 := by decide +kernel
theorem max5 : max (valI 0) (upV 0 (valI 1084227584)) = valI 1084227584 := by decide +kernel
theorem least5 : LeastG 3 3 (fun k => l5.getD k 0) 0 (fun _ => valI 1084227584) := by
  refine Least.mk' (upV_mono 0) (fun k hk => ?_) (fun k hk he => ?_) (fun n d k hn hd hnb hk => ?_)
  · have hc : k = 0 ∨ k = 1 ∨ k = 2 ∨ k = 3 ∨ k = 4 ∨ k = 5 ∨ k = 6 ∨ k = 7 ∨ k = 8 := by omega
    have st : ∀ j, j < 3 * 3 → brd 3 3 j = true → WayG 3 3 (fun k => l5.getD k 0) 0 j (valI (l5.getD j 0)) := fun j h1 h2 => Way.start (H := fun k => valI (l5.getD k 0)) h1 h2
    rcases hc with rfl | rfl | rfl | rfl | rfl | rfl | rfl | rfl | rfl
    · exact st 0 (by decide) (by decide)
    · exact st 1 (by decide) (by decide)
    · exact st 2 (by decide) (by decide)
    · exact st 3 (by decide) (by decide)
    · have h3 := st 3 (by decide) (by decide)
      have h4 := Way.step (H := fun k => valI (l5.getD k 0)) (up := upV 0) (nb := nbr 3 3) (edge := brd 3 3) (N := 3 * 3) (d := 0) (k := 4) h3 (by decide) (by decide) (by decide) (by decide)
      have e : max (valI (l5.getD 4 0)) (upV 0 (valI (l5.getD 3 0))) = valI 1084227584 := max5
      rw [← e]
      exact h4
    · exact st 5 (by decide) (by decide)
    · exact st 6 (by decide) (by decide)
    · exact st 7 (by decide) (by decide)
    · exact st 8 (by decide) (by decide)
  · have hc : k = 0 ∨ k = 1 ∨ k = 2 ∨ k = 3 ∨ k = 4 ∨ k = 5 ∨ k = 6 ∨ k = 7 ∨ k = 8 := by omega
    rcases hc with rfl | rfl | rfl | rfl | rfl | rfl | rfl | rfl | rfl
    all_goals first | exact Int.le_refl _ | (exfalso; revert he; decide)
  · show valI 1084227584 ≤ max _ (upV 0 (valI 1084227584))
    rw [up5]
    omega
theorem reg33 : Reg 0 0 3 3 := ⟨by omega, by omega, by omega, by omega, by omega, by omega, by omega, by omega, by omega⟩
theorem field5 : fieldE 0 0 ((3 : Nat) : Int) ((3 : Nat) : Int) l5 = 0 := by decide +kernel
theorem slope0 : slopeE 0 = 0 := by decide +kernel
theorem hgt5 : hgtB 1084227584 = true := by decide +kernel

set_option maxRecDepth 100000 in
set_option maxHeartbeats 3200000 in
theorem flows_any (w : World) : Calls Try.prog 20 #[] w fun e w' => e = .returned (.bool true) ∧ Ext w w' := by
  have HF : ∀ (B : Option Addr) (w : World), Rd w B (flt l5) → Hid (Calls Try.prog 15 #[.agg #[.int .i64 0, .int .i64 0, .int .i64 3, .int .i64 3, .slice B 9 9], .float .f32 0] w fun e w' => FilledPost 0 0 3 3 9 0 l5 w e w') := fun B w h => Filled_ok 0 0 3 3 9 B 9 0 l5 w reg33 rfl rfl h field5 slope0
  go_enter Try.func20, Try.ntmps20
  go_wp2_with fail
  refine ((HF _ _ (Rd.new rfl rfl)).out).mono ?_
  rintro e w2 ⟨g, out, hg, hB, hL, h36, hx2, hr⟩
  have hv : ∀ k, k < 9 → valI (out k) = valI 1084227584 := fun k hk => hL.unique least5 hk
  have hall : ((List.range 9).map out).all hgtB = true := by
    rw [List.all_eq_true]
    intro b hb
    obtain ⟨k, hk, rfl⟩ := List.mem_map.1 hb
    rw [hgt_val (hv k (List.mem_range.1 hk))]
    exact hgt5
  have he : e = .returned (.tuple #[.agg #[.int .i64 0, .int .i64 0, .int .i64 3, .int .i64 3, .slice (some ⟨g, 0, none⟩) 9 9], .int .i64 0]) := by
    rcases hr with ⟨_, h⟩ | ⟨h, _⟩
    · exact h
    · rw [hall] at h; cases h
  subst he
  have g4 : w2.cell? ⟨g, 4, none⟩ = some (.float .f32 (out 4)) := by rw [hB.cell]; exact flo_get _ (by omega)
  have o4 : (FloatKind.f32.format.order (out 4) 1084227584 == some .eq) = true := by
    have h4 := (eq_val (bd_Fin (h36 4 (by omega)) (by omega)) (show Fin 1084227584 by unfold Fin; omega)).2 (hv 4 (by omega))
    rw [ord_def, h4]
    rfl
  have hgl := hB.lt
  clear hr hall hv hL h36
  go_wp2
  go_ret
  exact ⟨rfl, (by repeat (first | (with_reducible exact Ext.refl _) | (with_reducible assumption) | (with_reducible refine Ext.setCell ?_ (by first | (simp; done) | (simp; omega)) _) | (with_reducible refine Ext.drewN ?_ _) | (with_reducible refine Ext.alloc ?_ _) | (with_reducible refine Ext.drew ?_) | (with_reducible refine Ext.trans ?_ (by assumption))))⟩
end Go.Proofs.Ytinohfgokpbcdaa
