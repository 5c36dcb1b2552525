/- Contracts: tarnref2.Frame, export.axesOf. -/
import Derived.Test.YtdfegkpdnofdoaaCamA
namespace Go.Proofs.Ytdfegkpdnofdoaa
open Go.RowKit
attribute [local go_sem ↓] Go.wp_at_zero Go.wp_at_succ

theorem run_store_float {P : Program} {a : Addr} {m : Mode} {w : World} (k : FloatKind) (b : Nat) : (store a (.float k b) m).run P w = stored P w a (.float k b) m := run_store P w a _ m rfl
attribute [local go_sem] run_store_float

set_option maxRecDepth 100000 in
set_option maxHeartbeats 1600000 in
theorem frame_ok (c : CamR) (w : World) (hc : camE c = 0) :
    Calls Try.prog 49 #[c.v] w fun e w' => e = .returned (.tuple #[.float .f32 c.fx, .float .f32 c.fy, .float .f32 (fneg c.fy), .float .f32 c.fx, .float .f32 c.fe]) ∧ Ext w w' := by
  obtain ⟨a1, a2, a3, a4, a5⟩ := cam_sum (camE_zero hc).1
  obtain ⟨⟨f1, _⟩, ⟨f2, _⟩, ⟨f3, _⟩⟩ := cam_frame hc
  have HR := fun (w : World) => hidA (refRoot_any a4 a5 (by omega) w)
  have q1 := fun (w : World) => run_float_arith (P := Try.prog) w .mul 22 .f32 _ _ _ a1
  have q2 := fun (w : World) => run_float_arith (P := Try.prog) w .mul 22 .f32 _ _ _ a2
  have q3 := fun (w : World) => run_float_arith (P := Try.prog) w .add 22 .f32 _ _ _ a3
  have q4 := fun (w : World) => run_float_arith (P := Try.prog) w .quo 22 .f32 _ _ _ f1
  have q5 := fun (w : World) => run_float_arith (P := Try.prog) w .quo 22 .f32 _ _ _ f2
  have q6 := fun (w : World) => run_float_arith (P := Try.prog) w .quo 22 .f32 _ _ _ f3
  have q7 : Op.unary .neg (.float .f32 c.fy) = pure (.float .f32 (fneg c.fy)) := rfl
  have em : c.m = rootB c.s := rfl
  rw [← em] at HR
  clear a1 a2 a3 a4 a5 f1 f2 f3 em hc
  generalize c.fx = fx at *
  generalize c.fy = fy at *
  generalize c.fe = fe at *
  generalize fneg fy = ny at *
  generalize c.m = m at *
  generalize c.s = s at *
  obtain ⟨c0, c1, c2, c3, c4, c5, c6⟩ := c
  simp only [CamR.v] at *
  go_enter Try.func49, Try.ntmps49
  go_wp2_with fail
  refine ((HR _).out).mono ?_
  rintro e w1 ⟨rfl, hw1⟩
  rw [hw1]
  clear hw1 w1
  go_wp2_with fail
  go_quiet (fail)
  go_wp2_with fail
  go_quiet (fail)
  go_wp2_with fail
  refine bodyPost_ret (v := .tuple #[.float .f32 fx, .float .f32 fy, .float .f32 ny, .float .f32 fx, .float .f32 fe]) (by simp [results, Try.results49, go_sem]) rfl ⟨rfl, (by repeat (first | exact Ext.refl _ | assumption | refine Ext.setCell ?_ (by first | (simp; done) | (simp; omega)) _ | refine Ext.drewN ?_ _ | refine Ext.alloc ?_ _ | refine Ext.drew ?_ | refine Ext.trans ?_ (by assumption)))⟩

set_option maxRecDepth 100000 in
set_option maxHeartbeats 1600000 in
theorem axes_ok (c : CamR) (w : World) (hc : camE c = 0) :
    Calls Try.prog 44 #[c.v] w fun e w' => e = .returned (.tuple #[.agg #[.float .f32 c.fx, .float .f32 c.fy, .float .f32 c.fe], .int .i64 0]) ∧ Ext w w' := by
  obtain ⟨a1, a2, a3, a4, a5⟩ := cam_sum (camE_zero hc).1
  obtain ⟨⟨f1, _⟩, ⟨f2, _⟩, ⟨f3, _⟩⟩ := cam_frame hc
  obtain ⟨hn, ho⟩ := camE_zero hc
  have HR := fun (w : World) => hidA (noiseRoot_any a4 a5 (by omega) w)
  have HN := fun (A : Option Addr) (w : World) (hr : Rd w A (flt c.l)) => hidA (heights_any A 7 7 c.l w rfl hr (by omega))
  rw [hn] at HN
  have q1 := fun (w : World) => run_float_arith (P := Try.prog) w .mul 22 .f32 _ _ _ a1
  have q2 := fun (w : World) => run_float_arith (P := Try.prog) w .mul 22 .f32 _ _ _ a2
  have q3 := fun (w : World) => run_float_arith (P := Try.prog) w .add 22 .f32 _ _ _ a3
  have q4 := fun (w : World) => run_float_arith (P := Try.prog) w .quo 22 .f32 _ _ _ f1
  have q5 := fun (w : World) => run_float_arith (P := Try.prog) w .quo 22 .f32 _ _ _ f2
  have q6 := fun (w : World) => run_float_arith (P := Try.prog) w .quo 22 .f32 _ _ _ f3
  unfold CamR.out at ho
  simp only [Bool.or_eq_false_iff] at ho
  obtain ⟨o1, o2, o3⟩ := ho
  have b0 : (FloatKind.f32.format.order c.m 981467136 == some .lt) = false := o1
  have b1 : (FloatKind.f32.format.order c.zoom 981467136 == some .lt) = false := o2
  have b2 : (FloatKind.f32.format.order c.zoom 1149239296 == some .gt) = false := o3
  have em : c.m = rootB c.s := rfl
  rw [← em] at HR
  clear a1 a2 a3 a4 a5 f1 f2 f3 em hc hn o1 o2 o3
  generalize c.fx = fx at *
  generalize c.fy = fy at *
  generalize c.fe = fe at *
  generalize c.m = m at *
  generalize c.s = s at *
  obtain ⟨c0, c1, c2, c3, c4, c5, c6⟩ := c
  simp only [CamR.v] at *
  go_enter Try.func44, Try.ntmps44
  go_wp2_with fail
  refine ((HN _ _ (Rd.new (by first | rfl | simp) rfl)).out).mono ?_
  rintro e w1 ⟨rfl, rfl⟩
  go_wp2_with fail
  refine ((HR _).out).mono ?_
  rintro e w1 ⟨rfl, hw1⟩
  rw [hw1]
  clear hw1 w1
  go_wp2_with fail
  refine bodyPost_ret (v := .tuple #[.agg #[.float .f32 fx, .float .f32 fy, .float .f32 fe], .int .i64 0]) (by simp [results, Try.results44, go_sem]) rfl ⟨rfl, ?_⟩
  exact (by repeat (first | exact Ext.refl _ | assumption | refine Ext.setCell ?_ (by first | (simp; done) | (simp; omega)) _ | refine Ext.drewN ?_ _ | refine Ext.alloc ?_ _ | refine Ext.drew ?_ | refine Ext.trans ?_ (by assumption)))
end Go.Proofs.Ytdfegkpdnofdoaa
