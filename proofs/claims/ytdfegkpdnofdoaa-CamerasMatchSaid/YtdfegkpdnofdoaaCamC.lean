/- Contract: export.axesOf of a camera that is wrong. -/
import Derived.Test.YtdfegkpdnofdoaaCamB
namespace Go.Proofs.Ytdfegkpdnofdoaa
open Go.RowKit
attribute [local go_sem ↓] Go.wp_at_zero Go.wp_at_succ
attribute [local go_sem] run_store_float

set_option maxRecDepth 100000 in
set_option maxHeartbeats 3200000 in
theorem axes_bad (c : CamR) (w : World) (hc : camE c ≠ 0) :
    Calls Try.prog 44 #[c.v] w fun e w' => e = .returned (.tuple #[.agg #[.float .f32 0, .float .f32 0, .float .f32 0], .int .i64 (camE c)]) ∧ Ext w w' := by
  have HN := fun (A : Option Addr) (w : World) (hr : Rd w A (flt c.l)) => hidA (heights_any A 7 7 c.l w rfl hr (by omega))
  by_cases h : numE c.l = 0
  · obtain ⟨a1, a2, a3, a4, a5⟩ := cam_sum h
    have HR := fun (w : World) => hidA (noiseRoot_any a4 a5 (by omega) w)
    have q1 := fun (w : World) => run_float_arith (P := Try.prog) w .mul 22 .f32 _ _ _ a1
    have q2 := fun (w : World) => run_float_arith (P := Try.prog) w .mul 22 .f32 _ _ _ a2
    have q3 := fun (w : World) => run_float_arith (P := Try.prog) w .add 22 .f32 _ _ _ a3
    clear a1 a2 a3
    have HM : Hid (camE c = if c.out = true then 3 else 0) := by show _ = _; unfold camE; rw [if_neg (by simpa using h)]
    rw [h] at HN
    have HO : Hid (c.out = (lt (rootB c.s) 981467136 || (lt c.zoom 981467136 || gt c.zoom 1149239296))) := rfl
    rw [HM.out, HO.out] at hc ⊢
    clear a4 a5 h HM HO
    generalize c.s = s at *
    generalize rootB s = m at *
    rcases hA : lt m 981467136
    · rcases hB : lt c.zoom 981467136
      · rcases hC : gt c.zoom 1149239296
        · rw [hA, hB, hC] at hc
          exact absurd rfl hc
        · have b0 : (FloatKind.f32.format.order m 981467136 == some .lt) = _ := hA
          have b1 : (FloatKind.f32.format.order c.zoom 981467136 == some .lt) = _ := hB
          have b2 : (FloatKind.f32.format.order c.zoom 1149239296 == some .gt) = _ := hC
          clear hA hB hC hc
          obtain ⟨c0, c1, c2, c3, c4, c5, c6⟩ := c
          simp only [CamR.v] at *
          go_enter Try.func44, Try.ntmps44
          go_wp2_with fail
          refine ((HN _ _ (Rd.new (by first | rfl | simp) rfl)).out).mono ?_
          rintro e w1 ⟨rfl, rfl⟩
          go_wp2_with fail
          refine ((HR _).out).mono ?_
          rintro e w1 ⟨rfl, hw1⟩
          rw [hw1]
          clear hw1 w1
          go_wp2_with fail
          refine bodyPost_ret (v := .tuple #[.agg #[.float .f32 0, .float .f32 0, .float .f32 0], .int .i64 (3)]) (by simp [results, Try.results44, go_sem]) rfl ⟨rfl, ?_⟩
          exact (by repeat (first | exact Ext.refl _ | assumption | refine Ext.setCell ?_ (by first | (simp; done) | (simp; omega)) _ | refine Ext.drewN ?_ _ | refine Ext.alloc ?_ _ | refine Ext.drew ?_ | refine Ext.trans ?_ (by assumption)))
      · have b0 : (FloatKind.f32.format.order m 981467136 == some .lt) = _ := hA
        have b1 : (FloatKind.f32.format.order c.zoom 981467136 == some .lt) = _ := hB
        clear hA hB hc
        obtain ⟨c0, c1, c2, c3, c4, c5, c6⟩ := c
        simp only [CamR.v] at *
        go_enter Try.func44, Try.ntmps44
        go_wp2_with fail
        refine ((HN _ _ (Rd.new (by first | rfl | simp) rfl)).out).mono ?_
        rintro e w1 ⟨rfl, rfl⟩
        go_wp2_with fail
        refine ((HR _).out).mono ?_
        rintro e w1 ⟨rfl, hw1⟩
        rw [hw1]
        clear hw1 w1
        go_wp2_with fail
        refine bodyPost_ret (v := .tuple #[.agg #[.float .f32 0, .float .f32 0, .float .f32 0], .int .i64 (3)]) (by simp [results, Try.results44, go_sem]) rfl ⟨rfl, ?_⟩
        exact (by repeat (first | exact Ext.refl _ | assumption | refine Ext.setCell ?_ (by first | (simp; done) | (simp; omega)) _ | refine Ext.drewN ?_ _ | refine Ext.alloc ?_ _ | refine Ext.drew ?_ | refine Ext.trans ?_ (by assumption)))
    · have b0 : (FloatKind.f32.format.order m 981467136 == some .lt) = _ := hA
      clear hA hc
      obtain ⟨c0, c1, c2, c3, c4, c5, c6⟩ := c
      simp only [CamR.v] at *
      go_enter Try.func44, Try.ntmps44
      go_wp2_with fail
      refine ((HN _ _ (Rd.new (by first | rfl | simp) rfl)).out).mono ?_
      rintro e w1 ⟨rfl, rfl⟩
      go_wp2_with fail
      refine ((HR _).out).mono ?_
      rintro e w1 ⟨rfl, hw1⟩
      rw [hw1]
      clear hw1 w1
      go_wp2_with fail
      refine bodyPost_ret (v := .tuple #[.agg #[.float .f32 0, .float .f32 0, .float .f32 0], .int .i64 (3)]) (by simp [results, Try.results44, go_sem]) rfl ⟨rfl, ?_⟩
      exact (by repeat (first | exact Ext.refl _ | assumption | refine Ext.setCell ?_ (by first | (simp; done) | (simp; omega)) _ | refine Ext.drewN ?_ _ | refine Ext.alloc ?_ _ | refine Ext.drew ?_ | refine Ext.trans ?_ (by assumption)))
  · rw [camE_bad h]
    have t1 : (numE c.l != 0) = true := by simpa using h
    clear h hc
    generalize numE c.l = q at *
    obtain ⟨c0, c1, c2, c3, c4, c5, c6⟩ := c
    simp only [CamR.v] at *
    go_enter Try.func44, Try.ntmps44
    go_wp2_with fail
    refine ((HN _ _ (Rd.new (by first | rfl | simp) rfl)).out).mono ?_
    rintro e w1 ⟨rfl, rfl⟩
    go_wp2_with fail
    refine bodyPost_ret (v := .tuple #[.agg #[.float .f32 0, .float .f32 0, .float .f32 0], .int .i64 (q)]) (by simp [results, Try.results44, go_sem]) rfl ⟨rfl, ?_⟩
    exact (by repeat (first | exact Ext.refl _ | assumption | refine Ext.setCell ?_ (by first | (simp; done) | (simp; omega)) _ | refine Ext.drewN ?_ _ | refine Ext.alloc ?_ _ | refine Ext.drew ?_ | refine Ext.trans ?_ (by assumption)))
end Go.Proofs.Ytdfegkpdnofdoaa
