/- Contracts: math.Sqrt, noise.Root, tarnref2.Root, tarnref2.CameraError, tarnref2.Frame, export.axesOf, field.Value. -/
import Derived.Test.YtdfegkpdnofdoaaCamP
import Derived.Test.YtdfegkpdnofdoaaBaseC
import Derived.Deep.QuietTactic
import Derived.BigQuiet
namespace Go.Proofs.Ytdfegkpdnofdoaa
open Go.RowKit
attribute [local go_sem ↓] Go.wp_at_zero Go.wp_at_succ

theorem sqrt_ext (d r : Nat) (h : Ieee.double.sqrt d = some r) (w : World) : (callFunc 86 #[.float .f64 d]).run Try.prog w = .ok (.value (.float .f64 r)) w := by
  have e : (callFunc 86 #[.float .f64 d]).run Try.prog w = ((match FloatKind.f64.format.sqrt d with | some r => (pure (.float .f64 r) : Sem Value) | none => do pure (.float .f64 (← choose (.nanBits .f64 d d)))) >>= fun v => pure (Next.value v)).run Try.prog w := by kernel_rfl
  have h2 : FloatKind.f64.format.sqrt d = some r := h
  rw [e, h2]
  rfl
theorem Sqrt_any (d r : Nat) (h : Ieee.double.sqrt d = some r) (w : World) :
    Calls Try.prog 74 #[.float .f64 d] w fun e w' => e = .returned (.float .f64 r) ∧ w' = w := by
  have h := sqrt_ext d r h
  go_enter Try.func74, Try.ntmps74
  go_wp2
  go_ret
  exact ⟨rfl, rfl⟩
theorem noiseRoot_any {K b : Nat} (hb : Bd K b) (hs : b < 2147483648) (hK : K ≤ 110) (w : World) :
    Calls Try.prog 71 #[.float .f32 b] w fun e w' => e = .returned (.float .f32 (rootB b)) ∧ w' = w := by
  obtain ⟨d, r, h1, h2, h3, _⟩ := root_ok hb hs hK
  have c1 := fun (w : World) => run_convert_float_float (P := Try.prog) w 22 64 .f32 .f64 b d (by kernel_rfl) Try.underlying64 h1
  have c2 := fun (w : World) => run_convert_float_float (P := Try.prog) w 64 22 .f64 .f32 r (rootB b) (by kernel_rfl) Try.underlying22 h3
  have hA := fun (w : World) => hidA (Sqrt_any d r h2 w)
  clear h1 h2 h3 hb hs hK
  generalize rootB b = q at *
  go_enter Try.func71, Try.ntmps71
  go_wp2_with fail
  refine ((hA _).out).mono ?_
  rintro e w1 ⟨rfl, hw1⟩
  rw [hw1]
  clear hw1 w1
  go_wp2_with fail
  go_ret
  exact ⟨rfl, rfl⟩
theorem refRoot_any {K b : Nat} (hb : Bd K b) (hs : b < 2147483648) (hK : K ≤ 110) (w : World) :
    Calls Try.prog 47 #[.float .f32 b] w fun e w' => e = .returned (.float .f32 (rootB b)) ∧ w' = w := by
  obtain ⟨d, r, h1, h2, h3, _⟩ := root_ok hb hs hK
  have c1 := fun (w : World) => run_convert_float_float (P := Try.prog) w 22 64 .f32 .f64 b d (by kernel_rfl) Try.underlying64 h1
  have c2 := fun (w : World) => run_convert_float_float (P := Try.prog) w 64 22 .f64 .f32 r (rootB b) (by kernel_rfl) Try.underlying22 h3
  have hA := fun (w : World) => hidA (Sqrt_any d r h2 w)
  clear h1 h2 h3 hb hs hK
  generalize rootB b = q at *
  go_enter Try.func47, Try.ntmps47
  go_wp2_with fail
  refine ((hA _).out).mono ?_
  rintro e w1 ⟨rfl, hw1⟩
  rw [hw1]
  clear hw1 w1
  go_wp2_with fail
  go_ret
  exact ⟨rfl, rfl⟩
theorem value_any (b : Nat) (w : World) (hf : finB b = true) :
    Calls Try.prog 46 #[.float .f32 b] w fun e w' => e = .returned (.tuple #[.float .f32 (if numE [b] = 0 then b else 0), .int .i64 (numE [b])]) ∧ w' = w := by
  have H1 := fun (w : World) => hidA (height_any b w)
  by_cases hh : hgtB b = true
  · have e0 : numE [b] = 0 := numE_ok (by simpa using hf) (by simpa using hh)
    rw [e0, if_pos rfl]
    rw [hh] at H1
    clear hh hf e0
    go_enter Try.func46, Try.ntmps46
    go_wp2_with fail
    refine ((H1 _).out).mono ?_
    rintro e w1 ⟨rfl, rfl⟩
    go_wp2_with fail
    go_ret2
    exact ⟨rfl, rfl⟩
  · have hh' : hgtB b = false := by simpa using hh
    have e0 : numE [b] = 3 := numE_three (k := 0) (by simpa using hf) (by simp) hh'
    rw [e0, if_neg (by decide)]
    rw [hh'] at H1
    clear hh hh' hf e0
    go_enter Try.func46, Try.ntmps46
    go_wp2_with fail
    refine ((H1 _).out).mono ?_
    rintro e w1 ⟨rfl, rfl⟩
    go_wp2_with fail
    go_ret2
    exact ⟨rfl, rfl⟩

def CamR.v (c : CamR) : Value := .agg #[.float .f32 c.x, .float .f32 c.y, .float .f32 c.h, .float .f32 c.dx, .float .f32 c.dy, .float .f32 c.dh, .float .f32 c.zoom]
set_option maxRecDepth 100000 in
set_option maxHeartbeats 1600000 in
theorem cameraError_any (c : CamR) (w : World) :
    Calls Try.prog 10 #[c.v] w fun e w' => e = .returned (.int .i64 (camE c)) ∧ Ext w w' := by
  have HN := fun (A : Option Addr) (w : World) (hr : Rd w A (flt c.l)) => hidA (numberError_any A 7 7 c.l w rfl hr (by omega))
  by_cases h : numE c.l = 0
  · obtain ⟨a1, a2, a3, a4, a5⟩ := cam_sum h
    have HR := fun (w : World) => hidA (refRoot_any a4 a5 (by omega) w)
    have q1 := fun (w : World) => run_float_arith (P := Try.prog) w .mul 22 .f32 _ _ _ a1
    have q2 := fun (w : World) => run_float_arith (P := Try.prog) w .mul 22 .f32 _ _ _ a2
    have q3 := fun (w : World) => run_float_arith (P := Try.prog) w .add 22 .f32 _ _ _ a3
    clear a1 a2 a3
    have HM : Hid (camE c = if c.out = true then 3 else 0) := by show _ = _; unfold camE; rw [if_neg (by simpa using h)]
    rw [h] at HN
    have HO : Hid (c.out = (lt (rootB c.s) 981467136 || (lt c.zoom 981467136 || gt c.zoom 1149239296))) := rfl
    clear a4 a5 h
    generalize c.s = s at *
    generalize rootB s = m at *
    rw [HM.out, HO.out]
    clear HM HO
    rcases hA : lt m 981467136
    · rcases hB : lt c.zoom 981467136
      · rcases hC : gt c.zoom 1149239296
        all_goals
          have b0 : (FloatKind.f32.format.order m 981467136 == some .lt) = _ := hA
          have b1 : (FloatKind.f32.format.order c.zoom 981467136 == some .lt) = _ := hB
          have b2 : (FloatKind.f32.format.order c.zoom 1149239296 == some .gt) = _ := hC
          clear hA hB hC
          obtain ⟨c0, c1, c2, c3, c4, c5, c6⟩ := c
          simp only [CamR.v] at *
          go_enter Try.func10, Try.ntmps10
          go_wp2_with fail
          refine ((HN _ _ (Rd.new (by first | rfl | simp) rfl)).out).mono ?_
          rintro e w1 ⟨rfl, rfl⟩
          go_wp2_with fail
          refine ((HR _).out).mono ?_
          rintro e w1 ⟨rfl, hw1⟩
          rw [hw1]
          clear hw1 w1
          go_wp2_with fail
          go_ret
          exact ⟨rfl, (by repeat (first | exact Ext.refl _ | assumption | refine Ext.setCell ?_ (by first | (simp; done) | (simp; omega)) _ | refine Ext.drewN ?_ _ | refine Ext.alloc ?_ _ | refine Ext.drew ?_ | refine Ext.trans ?_ (by assumption)))⟩
      · have b0 : (FloatKind.f32.format.order m 981467136 == some .lt) = _ := hA
        have b1 : (FloatKind.f32.format.order c.zoom 981467136 == some .lt) = _ := hB
        clear hA hB
        obtain ⟨c0, c1, c2, c3, c4, c5, c6⟩ := c
        simp only [CamR.v] at *
        go_enter Try.func10, Try.ntmps10
        go_wp2_with fail
        refine ((HN _ _ (Rd.new (by first | rfl | simp) rfl)).out).mono ?_
        rintro e w1 ⟨rfl, rfl⟩
        go_wp2_with fail
        refine ((HR _).out).mono ?_
        rintro e w1 ⟨rfl, hw1⟩
        rw [hw1]
        clear hw1 w1
        go_wp2_with fail
        go_ret
        exact ⟨rfl, (by repeat (first | exact Ext.refl _ | assumption | refine Ext.setCell ?_ (by first | (simp; done) | (simp; omega)) _ | refine Ext.drewN ?_ _ | refine Ext.alloc ?_ _ | refine Ext.drew ?_ | refine Ext.trans ?_ (by assumption)))⟩
    · have b0 : (FloatKind.f32.format.order m 981467136 == some .lt) = _ := hA
      clear hA
      obtain ⟨c0, c1, c2, c3, c4, c5, c6⟩ := c
      simp only [CamR.v] at *
      go_enter Try.func10, Try.ntmps10
      go_wp2_with fail
      refine ((HN _ _ (Rd.new (by first | rfl | simp) rfl)).out).mono ?_
      rintro e w1 ⟨rfl, rfl⟩
      go_wp2_with fail
      refine ((HR _).out).mono ?_
      rintro e w1 ⟨rfl, hw1⟩
      rw [hw1]
      clear hw1 w1
      go_wp2_with fail
      go_ret
      exact ⟨rfl, (by repeat (first | exact Ext.refl _ | assumption | refine Ext.setCell ?_ (by first | (simp; done) | (simp; omega)) _ | refine Ext.drewN ?_ _ | refine Ext.alloc ?_ _ | refine Ext.drew ?_ | refine Ext.trans ?_ (by assumption)))⟩
  · rw [camE_bad h]
    have t1 : (numE c.l != 0) = true := by simpa using h
    clear h
    generalize numE c.l = q at *
    obtain ⟨c0, c1, c2, c3, c4, c5, c6⟩ := c
    simp only [CamR.v] at *
    go_enter Try.func10, Try.ntmps10
    go_wp2_with fail
    refine ((HN _ _ (Rd.new (by first | rfl | simp) rfl)).out).mono ?_
    rintro e w1 ⟨rfl, rfl⟩
    go_wp2_with fail
    go_ret
    exact ⟨rfl, (by repeat (first | exact Ext.refl _ | assumption | refine Ext.setCell ?_ (by first | (simp; done) | (simp; omega)) _ | refine Ext.drewN ?_ _ | refine Ext.alloc ?_ _ | refine Ext.drew ?_ | refine Ext.trans ?_ (by assumption)))⟩
end Go.Proofs.Ytdfegkpdnofdoaa
