/- The walk of the law CamerasMatch. -/
import Derived.Test.YtdfegkpdnofdoaaCamE
import Derived.Test.YtdfegkpdnofdoaaCamF
import Derived.Test.YtdfegkpdnofdoaaWritesC
namespace Go.Proofs.Ytdfegkpdnofdoaa
open Go.RowKit
attribute [local go_sem ↓] Go.wp_at_zero Go.wp_at_succ
attribute [local go_sem] run_store_float run_equalIn_flo

theorem eq_self {b : Nat} (h : nanB b = false) : (FloatKind.f32.format.order b b == some .eq) = true := by rw [ord_def, ord_self h]; rfl

set_option maxRecDepth 100000 in
set_option maxHeartbeats 3200000 in
theorem cam_bad (c : CamR) (x y h : Nat) (w : World) (hc : camE c ≠ 0) :
    Calls Try.prog 3 #[c.v, .float .f32 x, .float .f32 y, .float .f32 h] w fun e w' => e = .returned (.bool true) ∧ Ext w w' := by
  have HP := fun (w : World) => hidA (proj_bad c x y h w hc)
  have HE := fun (w : World) => hidA (cameraError_any c w)
  have HN := fun (A : Option Addr) (w : World) (hr : Rd w A (flt [x, y, h])) => hidA (numberError_any A 3 3 [x, y, h] w rfl hr (by omega))
  have z0 : (FloatKind.f32.format.order 0 0 == some .eq) = true := by decide +kernel
  have F1 : Hid (firstE [camE c, numE [x, y, h]] = camE c) := by show _ = _; simp [firstE, hc]
  have t1 : (camE c != 0) = true := by simpa using hc
  clear hc
  generalize camE c = q at *
  generalize numE [x, y, h] = q2 at *
  obtain ⟨c0, c1, c2, c3, c4, c5, c6⟩ := c
  simp only [CamR.v] at *
  go_enter Try.func3, Try.ntmps3
  go_wp2_with fail
  refine ((HP _).out).mono ?_
  rintro e w1 ⟨rfl, hb1⟩
  have hC : Bk w1 w.heap.size 24 #[.float .f32 c0, .float .f32 c1, .float .f32 c2, .float .f32 c3, .float .f32 c4, .float .f32 c5, .float .f32 c6] := (Bk.new' rfl).ext hb1
  have hx1 : Ext w w1 := ((Ext.refl w).alloc _).trans hb1
  have k0 := hC.cell 0
  have k1 := hC.cell 1
  have k2 := hC.cell 2
  have k3 := hC.cell 3
  have k4 := hC.cell 4
  have k5 := hC.cell 5
  have k6 := hC.cell 6
  have hlt := hC.lt
  have hC := hidA hC
  clear hb1
  go_wp2_with fail
  refine ((HE _).out).mono ?_
  rintro e w2 ⟨rfl, hb2⟩
  have hx2 : Ext w1 w2 := Ext.trans (by repeat (first | exact Ext.refl _ | assumption | refine Ext.setCell ?_ (by first | (simp; done) | (simp; omega)) _ | refine Ext.drewN ?_ _ | refine Ext.alloc ?_ _ | refine Ext.drew ?_ | refine Ext.trans ?_ (by assumption))) hb2
  have hS : Bk w2 w1.heap.size 26 #[.float .f32 0, .float .f32 0] := (Bk.new w1 26 _).ext hb2
  have hC2 := hidA (hC.out.ext hx2)
  have hS2 := hidA hS
  clear hC k0 k1 k2 k3 k4 k5 k6 hlt hS hb2
  go_wp2_with fail
  refine ((HN _ _ (Rd.new (by first | rfl | simp) rfl)).out).mono ?_
  rintro e w3 ⟨rfl, hw3⟩
  have hx3 : Ext w2 w3 := by rw [← hw3]; exact (Ext.refl w2).alloc _
  clear hw3
  go_wp2_with fail
  refine (first_any _ 2 2 [q, q2] _ rfl (Rd.new (by first | rfl | simp) rfl) (by omega)).mono ?_
  rintro e w4 ⟨rfl, hw4⟩
  have hx4 : Ext w3 w4 := by rw [← hw4]; exact (Ext.refl w3).alloc _
  clear hw4
  rw [F1.out]
  clear F1
  go_wp2_with fail
  refine (writes_any _).mono ?_
  rintro e w5 ⟨rfl, hx5⟩
  go_wp2_with fail
  refine (writes_any _).mono ?_
  rintro e w6 ⟨rfl, hx6⟩
  have hS6 := ((((hS2.out.ext hx3).ext hx4).ext hx5).ext hx6)
  have s0 := hS6.cell 0
  have s1 := hS6.cell 1
  clear hS6
  go_wp2_with fail
  go_ret
  exact ⟨by first | rfl | simp, ((((hx1.trans hx2).trans hx3).trans hx4).trans hx5).trans hx6⟩

set_option maxRecDepth 100000 in
set_option maxHeartbeats 3200000 in
theorem cam_num (c : CamR) (x y h : Nat) (w : World) (hc : camE c = 0) (hn : numE [x, y, h] ≠ 0) :
    Calls Try.prog 3 #[c.v, .float .f32 x, .float .f32 y, .float .f32 h] w fun e w' => e = .returned (.bool true) ∧ Ext w w' := by
  have HP := fun (w : World) => hidA (proj_num c x y h w hc hn)
  have HE := fun (w : World) => hidA (cameraError_any c w)
  have HN := fun (A : Option Addr) (w : World) (hr : Rd w A (flt [x, y, h])) => hidA (numberError_any A 3 3 [x, y, h] w rfl hr (by omega))
  have z0 : (FloatKind.f32.format.order 0 0 == some .eq) = true := by decide +kernel
  rw [hc] at HE
  have F1 : Hid (firstE [0, numE [x, y, h]] = numE [x, y, h]) := by show _ = _; simp [firstE, hn]
  have t1 : (numE [x, y, h] != 0) = true := by simpa using hn
  clear hc hn
  generalize numE [x, y, h] = q at *
  obtain ⟨c0, c1, c2, c3, c4, c5, c6⟩ := c
  simp only [CamR.v] at *
  go_enter Try.func3, Try.ntmps3
  go_wp2_with fail
  refine ((HP _).out).mono ?_
  rintro e w1 ⟨rfl, hb1⟩
  have hC : Bk w1 w.heap.size 24 #[.float .f32 c0, .float .f32 c1, .float .f32 c2, .float .f32 c3, .float .f32 c4, .float .f32 c5, .float .f32 c6] := (Bk.new' rfl).ext hb1
  have hx1 : Ext w w1 := ((Ext.refl w).alloc _).trans hb1
  have k0 := hC.cell 0
  have k1 := hC.cell 1
  have k2 := hC.cell 2
  have k3 := hC.cell 3
  have k4 := hC.cell 4
  have k5 := hC.cell 5
  have k6 := hC.cell 6
  have hlt := hC.lt
  have hC := hidA hC
  clear hb1
  go_wp2_with fail
  refine ((HE _).out).mono ?_
  rintro e w2 ⟨rfl, hb2⟩
  have hx2 : Ext w1 w2 := Ext.trans (by repeat (first | exact Ext.refl _ | assumption | refine Ext.setCell ?_ (by first | (simp; done) | (simp; omega)) _ | refine Ext.drewN ?_ _ | refine Ext.alloc ?_ _ | refine Ext.drew ?_ | refine Ext.trans ?_ (by assumption))) hb2
  have hS : Bk w2 w1.heap.size 26 #[.float .f32 0, .float .f32 0] := (Bk.new w1 26 _).ext hb2
  have hC2 := hidA (hC.out.ext hx2)
  have hS2 := hidA hS
  clear hC k0 k1 k2 k3 k4 k5 k6 hlt hS hb2
  go_wp2_with fail
  refine ((HN _ _ (Rd.new (by first | rfl | simp) rfl)).out).mono ?_
  rintro e w3 ⟨rfl, hw3⟩
  have hx3 : Ext w2 w3 := by rw [← hw3]; exact (Ext.refl w2).alloc _
  clear hw3
  go_wp2_with fail
  refine (first_any _ 2 2 [0, q] _ rfl (Rd.new (by first | rfl | simp) rfl) (by omega)).mono ?_
  rintro e w4 ⟨rfl, hw4⟩
  have hx4 : Ext w3 w4 := by rw [← hw4]; exact (Ext.refl w3).alloc _
  clear hw4
  rw [F1.out]
  clear F1
  go_wp2_with fail
  refine (writes_any _).mono ?_
  rintro e w5 ⟨rfl, hx5⟩
  go_wp2_with fail
  refine (writes_any _).mono ?_
  rintro e w6 ⟨rfl, hx6⟩
  have hS6 := ((((hS2.out.ext hx3).ext hx4).ext hx5).ext hx6)
  have s0 := hS6.cell 0
  have s1 := hS6.cell 1
  clear hS6
  go_wp2_with fail
  go_ret
  exact ⟨by first | rfl | simp, ((((hx1.trans hx2).trans hx3).trans hx4).trans hx5).trans hx6⟩

set_option maxRecDepth 100000 in
set_option maxHeartbeats 3200000 in
theorem cam_near (c : CamR) (x y h : Nat) (w : World) (hc : camE c = 0) (hn : numE [x, y, h] = 0) (ha : lt (pjA c x y) 1065353216 = true) :
    Calls Try.prog 3 #[c.v, .float .f32 x, .float .f32 y, .float .f32 h] w fun e w' => e = .returned (.bool true) ∧ Ext w w' := by
  have HP := fun (w : World) => hidA (proj_near c x y h w hc hn ha)
  have HE := fun (w : World) => hidA (cameraError_any c w)
  have HN := fun (A : Option Addr) (w : World) (hr : Rd w A (flt [x, y, h])) => hidA (numberError_any A 3 3 [x, y, h] w rfl hr (by omega))
  have z0 : (FloatKind.f32.format.order 0 0 == some .eq) = true := by decide +kernel
  have HO := fun (w : World) => hidA (projOf_near c x y h w hc hn ha)
  rw [hc] at HE
  rw [hn] at HN
  have HB := fun (A : Option Addr) (w : World) (hr : Rd w A (flt [0])) => hidA (numberError_any A 1 1 [0] w rfl hr (by omega))
  have e1 : numE [0] = 0 := by decide +kernel
  rw [e1] at HB
  clear hc hn ha e1
  obtain ⟨c0, c1, c2, c3, c4, c5, c6⟩ := c
  simp only [CamR.v] at *
  go_enter Try.func3, Try.ntmps3
  go_wp2_with fail
  refine ((HP _).out).mono ?_
  rintro e w1 ⟨rfl, hb1⟩
  have hC : Bk w1 w.heap.size 24 #[.float .f32 c0, .float .f32 c1, .float .f32 c2, .float .f32 c3, .float .f32 c4, .float .f32 c5, .float .f32 c6] := (Bk.new' rfl).ext hb1
  have hx1 : Ext w w1 := ((Ext.refl w).alloc _).trans hb1
  have k0 := hC.cell 0
  have k1 := hC.cell 1
  have k2 := hC.cell 2
  have k3 := hC.cell 3
  have k4 := hC.cell 4
  have k5 := hC.cell 5
  have k6 := hC.cell 6
  have hlt := hC.lt
  have hC := hidA hC
  clear hb1
  go_wp2_with fail
  refine ((HE _).out).mono ?_
  rintro e w2 ⟨rfl, hb2⟩
  have hx2 : Ext w1 w2 := Ext.trans (by repeat (first | exact Ext.refl _ | assumption | refine Ext.setCell ?_ (by first | (simp; done) | (simp; omega)) _ | refine Ext.drewN ?_ _ | refine Ext.alloc ?_ _ | refine Ext.drew ?_ | refine Ext.trans ?_ (by assumption))) hb2
  have hS : Bk w2 w1.heap.size 26 #[.float .f32 0, .float .f32 0] := (Bk.new w1 26 _).ext hb2
  have hC2 := hidA (hC.out.ext hx2)
  have hS2 := hidA hS
  clear hC k0 k1 k2 k3 k4 k5 k6 hlt hS hb2
  go_wp2_with fail
  refine ((HN _ _ (Rd.new (by first | rfl | simp) rfl)).out).mono ?_
  rintro e w3 ⟨rfl, hw3⟩
  have hx3 : Ext w2 w3 := by rw [← hw3]; exact (Ext.refl w2).alloc _
  clear hw3
  go_wp2_with fail
  refine (first_any _ 2 2 [0, 0] _ rfl (Rd.new (by first | rfl | simp) rfl) (by omega)).mono ?_
  rintro e w4 ⟨rfl, hw4⟩
  have hx4 : Ext w3 w4 := by rw [← hw4]; exact (Ext.refl w3).alloc _
  clear hw4
  have e0 : firstE [0, 0] = 0 := rfl
  rw [e0]
  clear e0
  go_wp2_with fail
  refine (writes_any _).mono ?_
  rintro e w5 ⟨rfl, hx5⟩
  have k0 := ((((hC2.out.ext hx3).ext hx4).ext hx5)).cell 0
  have k1 := ((((hC2.out.ext hx3).ext hx4).ext hx5)).cell 1
  have k2 := ((((hC2.out.ext hx3).ext hx4).ext hx5)).cell 2
  have k3 := ((((hC2.out.ext hx3).ext hx4).ext hx5)).cell 3
  have k4 := ((((hC2.out.ext hx3).ext hx4).ext hx5)).cell 4
  have k5 := ((((hC2.out.ext hx3).ext hx4).ext hx5)).cell 5
  have k6 := ((((hC2.out.ext hx3).ext hx4).ext hx5)).cell 6
  go_wp2_with fail
  refine ((HO _).out).mono ?_
  rintro e w6 ⟨rfl, hx6⟩
  have hS6 := hidA ((((hS2.out.ext hx3).ext hx4).ext hx5).ext hx6)
  have hlt6 := hS6.out.lt
  clear k0 k1 k2 k3 k4 k5 k6
  go_wp2_with fail
  refine ((HB _ _ (Rd.new (by first | rfl | simp) rfl)).out).mono ?_
  rintro e w7 ⟨rfl, hw7⟩
  have hx7 : Ext w6 w7 := by rw [← hw7]; exact (by repeat (first | exact Ext.refl _ | assumption | refine Ext.setCell ?_ (by first | (simp; done) | (simp; omega)) _ | refine Ext.drewN ?_ _ | refine Ext.alloc ?_ _ | refine Ext.drew ?_ | refine Ext.trans ?_ (by assumption)))
  have hT : Bk w7 w6.heap.size 26 #[.float .f32 0, .float .f32 0] := by rw [← hw7]; exact (Bk.new w6 26 _).alloc _
  have t0 := hT.cell 0
  have t1 := hT.cell 1
  have s0 := (hS6.out.ext hx7).cell 0
  have s1 := (hS6.out.ext hx7).cell 1
  clear hw7 hT hS6 hlt6
  go_wp2_with fail
  go_ret
  exact ⟨by first | rfl | simp, (((((hx1.trans hx2).trans hx3).trans hx4).trans hx5).trans hx6).trans hx7⟩

set_option maxRecDepth 100000 in
set_option maxHeartbeats 3200000 in
theorem cam_far (c : CamR) (x y h : Nat) (w : World) (hc : camE c = 0) (hn : numE [x, y, h] = 0) (ha : lt (pjA c x y) 1065353216 = false) (hv : numE [pjA c x y] ≠ 0) :
    Calls Try.prog 3 #[c.v, .float .f32 x, .float .f32 y, .float .f32 h] w fun e w' => e = .returned (.bool true) ∧ Ext w w' := by
  have HP := fun (w : World) => hidA (proj_far c x y h w hc hn ha hv)
  have HE := fun (w : World) => hidA (cameraError_any c w)
  have HN := fun (A : Option Addr) (w : World) (hr : Rd w A (flt [x, y, h])) => hidA (numberError_any A 3 3 [x, y, h] w rfl hr (by omega))
  have z0 : (FloatKind.f32.format.order 0 0 == some .eq) = true := by decide +kernel
  have HO := fun (w : World) => hidA (projOf_ok c x y h w hc hn ha)
  rw [hc] at HE
  rw [hn] at HN
  have HB := fun (A : Option Addr) (w : World) (hr : Rd w A (flt [pjA c x y])) => hidA (numberError_any A 1 1 [pjA c x y] w rfl hr (by omega))
  obtain ⟨_, _, _, _, _, _, p7, _⟩ := pj_ok hc hn
  have e3 : numE [pjA c x y] = 3 := by
    have hf : finB (pjA c x y) = true := bd_finB p7 (by omega)
    by_cases hh : hgtB (pjA c x y) = true
    · exact absurd (numE_ok (by simpa using hf) (by simpa using hh)) hv
    · exact numE_three (k := 0) (by simpa using hf) (by simp) (by simpa using hh)
  rw [e3] at HP HB
  clear hc hn ha hv e3 p7
  generalize pjX c x y = rx at *
  generalize pjY c x y h = ry at *
  generalize pjA c x y = a at *
  obtain ⟨c0, c1, c2, c3, c4, c5, c6⟩ := c
  simp only [CamR.v] at *
  go_enter Try.func3, Try.ntmps3
  go_wp2_with fail
  refine ((HP _).out).mono ?_
  rintro e w1 ⟨rfl, hb1⟩
  have hC : Bk w1 w.heap.size 24 #[.float .f32 c0, .float .f32 c1, .float .f32 c2, .float .f32 c3, .float .f32 c4, .float .f32 c5, .float .f32 c6] := (Bk.new' rfl).ext hb1
  have hx1 : Ext w w1 := ((Ext.refl w).alloc _).trans hb1
  have k0 := hC.cell 0
  have k1 := hC.cell 1
  have k2 := hC.cell 2
  have k3 := hC.cell 3
  have k4 := hC.cell 4
  have k5 := hC.cell 5
  have k6 := hC.cell 6
  have hlt := hC.lt
  have hC := hidA hC
  clear hb1
  go_wp2_with fail
  refine ((HE _).out).mono ?_
  rintro e w2 ⟨rfl, hb2⟩
  have hx2 : Ext w1 w2 := Ext.trans (by repeat (first | exact Ext.refl _ | assumption | refine Ext.setCell ?_ (by first | (simp; done) | (simp; omega)) _ | refine Ext.drewN ?_ _ | refine Ext.alloc ?_ _ | refine Ext.drew ?_ | refine Ext.trans ?_ (by assumption))) hb2
  have hS : Bk w2 w1.heap.size 26 #[.float .f32 0, .float .f32 0] := (Bk.new w1 26 _).ext hb2
  have hC2 := hidA (hC.out.ext hx2)
  have hS2 := hidA hS
  clear hC k0 k1 k2 k3 k4 k5 k6 hlt hS hb2
  go_wp2_with fail
  refine ((HN _ _ (Rd.new (by first | rfl | simp) rfl)).out).mono ?_
  rintro e w3 ⟨rfl, hw3⟩
  have hx3 : Ext w2 w3 := by rw [← hw3]; exact (Ext.refl w2).alloc _
  clear hw3
  go_wp2_with fail
  refine (first_any _ 2 2 [0, 0] _ rfl (Rd.new (by first | rfl | simp) rfl) (by omega)).mono ?_
  rintro e w4 ⟨rfl, hw4⟩
  have hx4 : Ext w3 w4 := by rw [← hw4]; exact (Ext.refl w3).alloc _
  clear hw4
  have e0 : firstE [0, 0] = 0 := rfl
  rw [e0]
  clear e0
  go_wp2_with fail
  refine (writes_any _).mono ?_
  rintro e w5 ⟨rfl, hx5⟩
  have k0 := ((((hC2.out.ext hx3).ext hx4).ext hx5)).cell 0
  have k1 := ((((hC2.out.ext hx3).ext hx4).ext hx5)).cell 1
  have k2 := ((((hC2.out.ext hx3).ext hx4).ext hx5)).cell 2
  have k3 := ((((hC2.out.ext hx3).ext hx4).ext hx5)).cell 3
  have k4 := ((((hC2.out.ext hx3).ext hx4).ext hx5)).cell 4
  have k5 := ((((hC2.out.ext hx3).ext hx4).ext hx5)).cell 5
  have k6 := ((((hC2.out.ext hx3).ext hx4).ext hx5)).cell 6
  go_wp2_with fail
  refine ((HO _).out).mono ?_
  rintro e w6 ⟨rfl, hx6⟩
  have hS6 := hidA ((((hS2.out.ext hx3).ext hx4).ext hx5).ext hx6)
  have hlt6 := hS6.out.lt
  clear k0 k1 k2 k3 k4 k5 k6
  go_wp2_with fail
  refine ((HB _ _ (Rd.new (by first | rfl | simp) rfl)).out).mono ?_
  rintro e w7 ⟨rfl, hw7⟩
  have hx7 : Ext w6 w7 := by rw [← hw7]; exact (by repeat (first | exact Ext.refl _ | assumption | refine Ext.setCell ?_ (by first | (simp; done) | (simp; omega)) _ | refine Ext.drewN ?_ _ | refine Ext.alloc ?_ _ | refine Ext.drew ?_ | refine Ext.trans ?_ (by assumption)))
  have hT : Bk w7 w6.heap.size 26 #[.float .f32 rx, .float .f32 ry] := by rw [← hw7]; exact (Bk.new w6 26 _).alloc _
  have t0 := hT.cell 0
  have t1 := hT.cell 1
  have s0 := (hS6.out.ext hx7).cell 0
  have s1 := (hS6.out.ext hx7).cell 1
  clear hw7 hT hS6 hlt6
  go_wp2_with fail
  go_ret
  exact ⟨by first | rfl | simp, (((((hx1.trans hx2).trans hx3).trans hx4).trans hx5).trans hx6).trans hx7⟩

set_option maxRecDepth 100000 in
set_option maxHeartbeats 3200000 in
theorem cam_ok (c : CamR) (x y h : Nat) (w : World) (hc : camE c = 0) (hn : numE [x, y, h] = 0) (ha : lt (pjA c x y) 1065353216 = false) (hv : numE [pjA c x y] = 0) :
    Calls Try.prog 3 #[c.v, .float .f32 x, .float .f32 y, .float .f32 h] w fun e w' => e = .returned (.bool true) ∧ Ext w w' := by
  have HP := fun (w : World) => hidA (proj_ok c x y h w hc hn ha hv)
  have HE := fun (w : World) => hidA (cameraError_any c w)
  have HN := fun (A : Option Addr) (w : World) (hr : Rd w A (flt [x, y, h])) => hidA (numberError_any A 3 3 [x, y, h] w rfl hr (by omega))
  have z0 : (FloatKind.f32.format.order 0 0 == some .eq) = true := by decide +kernel
  have HO := fun (w : World) => hidA (projOf_ok c x y h w hc hn ha)
  rw [hc] at HE
  rw [hn] at HN
  have HB := fun (A : Option Addr) (w : World) (hr : Rd w A (flt [pjA c x y])) => hidA (numberError_any A 1 1 [pjA c x y] w rfl hr (by omega))
  obtain ⟨_, _, _, _, n1, n2⟩ := pj_spot hc hn ha
  obtain ⟨_, _, _, _, _, _, p7, _⟩ := pj_ok hc hn
  have z1 := eq_self n1
  have z2 := eq_self n2
  have z3 := eq_self (bd_fin p7 (by omega))
  rw [hv] at HB
  clear hc hn ha hv n1 n2 p7
  generalize pjX c x y = rx at *
  generalize pjY c x y h = ry at *
  generalize pjA c x y = a at *
  obtain ⟨c0, c1, c2, c3, c4, c5, c6⟩ := c
  simp only [CamR.v] at *
  go_enter Try.func3, Try.ntmps3
  go_wp2_with fail
  refine ((HP _).out).mono ?_
  rintro e w1 ⟨rfl, hb1⟩
  have hC : Bk w1 w.heap.size 24 #[.float .f32 c0, .float .f32 c1, .float .f32 c2, .float .f32 c3, .float .f32 c4, .float .f32 c5, .float .f32 c6] := (Bk.new' rfl).ext hb1
  have hx1 : Ext w w1 := ((Ext.refl w).alloc _).trans hb1
  have k0 := hC.cell 0
  have k1 := hC.cell 1
  have k2 := hC.cell 2
  have k3 := hC.cell 3
  have k4 := hC.cell 4
  have k5 := hC.cell 5
  have k6 := hC.cell 6
  have hlt := hC.lt
  have hC := hidA hC
  clear hb1
  go_wp2_with fail
  refine ((HE _).out).mono ?_
  rintro e w2 ⟨rfl, hb2⟩
  have hx2 : Ext w1 w2 := Ext.trans (by repeat (first | exact Ext.refl _ | assumption | refine Ext.setCell ?_ (by first | (simp; done) | (simp; omega)) _ | refine Ext.drewN ?_ _ | refine Ext.alloc ?_ _ | refine Ext.drew ?_ | refine Ext.trans ?_ (by assumption))) hb2
  have hS : Bk w2 w1.heap.size 26 #[.float .f32 rx, .float .f32 ry] := (Bk.new w1 26 _).ext hb2
  have hC2 := hidA (hC.out.ext hx2)
  have hS2 := hidA hS
  clear hC k0 k1 k2 k3 k4 k5 k6 hlt hS hb2
  go_wp2_with fail
  refine ((HN _ _ (Rd.new (by first | rfl | simp) rfl)).out).mono ?_
  rintro e w3 ⟨rfl, hw3⟩
  have hx3 : Ext w2 w3 := by rw [← hw3]; exact (Ext.refl w2).alloc _
  clear hw3
  go_wp2_with fail
  refine (first_any _ 2 2 [0, 0] _ rfl (Rd.new (by first | rfl | simp) rfl) (by omega)).mono ?_
  rintro e w4 ⟨rfl, hw4⟩
  have hx4 : Ext w3 w4 := by rw [← hw4]; exact (Ext.refl w3).alloc _
  clear hw4
  have e0 : firstE [0, 0] = 0 := rfl
  rw [e0]
  clear e0
  go_wp2_with fail
  refine (writes_any _).mono ?_
  rintro e w5 ⟨rfl, hx5⟩
  have k0 := ((((hC2.out.ext hx3).ext hx4).ext hx5)).cell 0
  have k1 := ((((hC2.out.ext hx3).ext hx4).ext hx5)).cell 1
  have k2 := ((((hC2.out.ext hx3).ext hx4).ext hx5)).cell 2
  have k3 := ((((hC2.out.ext hx3).ext hx4).ext hx5)).cell 3
  have k4 := ((((hC2.out.ext hx3).ext hx4).ext hx5)).cell 4
  have k5 := ((((hC2.out.ext hx3).ext hx4).ext hx5)).cell 5
  have k6 := ((((hC2.out.ext hx3).ext hx4).ext hx5)).cell 6
  go_wp2_with fail
  refine ((HO _).out).mono ?_
  rintro e w6 ⟨rfl, hx6⟩
  have hS6 := hidA ((((hS2.out.ext hx3).ext hx4).ext hx5).ext hx6)
  have hlt6 := hS6.out.lt
  clear k0 k1 k2 k3 k4 k5 k6
  go_wp2_with fail
  refine ((HB _ _ (Rd.new (by first | rfl | simp) rfl)).out).mono ?_
  rintro e w7 ⟨rfl, hw7⟩
  have hx7 : Ext w6 w7 := by rw [← hw7]; exact (by repeat (first | exact Ext.refl _ | assumption | refine Ext.setCell ?_ (by first | (simp; done) | (simp; omega)) _ | refine Ext.drewN ?_ _ | refine Ext.alloc ?_ _ | refine Ext.drew ?_ | refine Ext.trans ?_ (by assumption)))
  have hT : Bk w7 w6.heap.size 26 #[.float .f32 rx, .float .f32 ry] := by rw [← hw7]; exact (Bk.new w6 26 _).alloc _
  have t0 := hT.cell 0
  have t1 := hT.cell 1
  have s0 := (hS6.out.ext hx7).cell 0
  have s1 := (hS6.out.ext hx7).cell 1
  clear hw7 hT hS6 hlt6
  go_wp2_with fail
  go_ret
  exact ⟨by first | rfl | simp, (((((hx1.trans hx2).trans hx3).trans hx4).trans hx5).trans hx6).trans hx7⟩

theorem cameras_walk (c : CamR) (x y h : Nat) (w : World) :
    Calls Try.prog 3 #[c.v, .float .f32 x, .float .f32 y, .float .f32 h] w fun e w' => e = .returned (.bool true) ∧ Ext w w' := by
  by_cases hc : camE c = 0
  · by_cases hn : numE [x, y, h] = 0
    · rcases ha : lt (pjA c x y) 1065353216
      · by_cases hv : numE [pjA c x y] = 0
        · exact cam_ok c x y h w hc hn ha hv
        · exact cam_far c x y h w hc hn ha hv
      · exact cam_near c x y h w hc hn ha
    · exact cam_num c x y h w hc hn
  · exact cam_bad c x y h w hc
end Go.Proofs.Ytdfegkpdnofdoaa
