/- Contracts: export.Project of what is right. -/
import Derived.Test.YtdfegkpdnofdoaaCamD
namespace Go.Proofs.Ytdfegkpdnofdoaa
open Go.RowKit
attribute [local go_sem ↓] Go.wp_at_zero Go.wp_at_succ
attribute [local go_sem] run_store_float
set_option maxRecDepth 100000 in
set_option maxHeartbeats 3200000 in
theorem proj_near (c : CamR) (x y h : Nat) (w : World) (hc : camE c = 0) (hn : numE [x, y, h] = 0) (ha : lt (pjA c x y) 1065353216 = true) :
    Calls Try.prog 8 #[c.v, .float .f32 x, .float .f32 y, .float .f32 h] w fun e w' => e = .returned (.tuple #[.agg #[.float .f32 0, .float .f32 0], .float .f32 0, .bool false, .int .i64 0]) ∧ Ext w w' := by
  have HA := fun (w : World) => hidA (axes_ok c w hc)
  have HN := fun (A : Option Addr) (w : World) (hr : Rd w A (flt [x, y, h])) => hidA (heights_any A 3 3 [x, y, h] w rfl hr (by omega))
  rw [hn] at HN
  obtain ⟨p1, p2, p3, p4, p5, p6, p7, p8, p9, p10, p11, p12, p13, p14⟩ := pj_ok hc hn
  have q1 := fun (w : World) => run_float_arith (P := Try.prog) w .sub 22 .f32 _ _ _ p1
  have q2 := fun (w : World) => run_float_arith (P := Try.prog) w .sub 22 .f32 _ _ _ p2
  have q3 := fun (w : World) => run_float_arith (P := Try.prog) w .sub 22 .f32 _ _ _ p3
  have q4 := fun (w : World) => run_float_arith (P := Try.prog) w .mul 22 .f32 _ _ _ p4
  have q5 := fun (w : World) => run_float_arith (P := Try.prog) w .mul 22 .f32 _ _ _ p5
  have q6 := fun (w : World) => run_float_arith (P := Try.prog) w .add 22 .f32 _ _ _ p6
  have q7 := fun (w : World) => run_float_arith (P := Try.prog) w .mul 22 .f32 _ _ _ p8
  have q8 := fun (w : World) => run_float_arith (P := Try.prog) w .mul 22 .f32 _ _ _ p9
  have q9 := fun (w : World) => run_float_arith (P := Try.prog) w .add 22 .f32 _ _ _ p10
  have q10 := fun (w : World) => run_float_arith (P := Try.prog) w .mul 22 .f32 _ _ _ p12
  have q11 := fun (w : World) => run_float_arith (P := Try.prog) w .sub 22 .f32 _ _ _ p13
  have q0 : Op.unary .neg (.float .f32 c.fy) = pure (.float .f32 (fneg c.fy)) := rfl
  have b0 : (FloatKind.f32.format.order (pjA c x y) 1065353216 == some .lt) = true := ha
  clear p1 p2 p3 p4 p5 p6 p7 p8 p9 p10 p11 p12 p13 p14
  clear ha hc hn
  generalize pjX c x y = rx at *
  generalize pjY c x y h = ry at *
  generalize fdiv (pjB c x y) (pjA c x y) = ba at *
  generalize fdiv (pjU c x y h) (pjA c x y) = ua at *
  generalize pjU c x y h = u at *
  generalize fmul c.fe (pjA c x y) = ea at *
  generalize pjB c x y = b at *
  generalize pjA c x y = a at *
  generalize fmul (fsub x c.x) c.fx = t1 at *
  generalize fmul (fsub y c.y) c.fy = t2 at *
  generalize fmul (fsub x c.x) (fneg c.fy) = t3 at *
  generalize fmul (fsub y c.y) c.fx = t4 at *
  generalize fsub x c.x = px at *
  generalize fsub y c.y = py at *
  generalize fsub h c.h = pz at *
  generalize c.fx = fx at *
  generalize fneg c.fy = ny at *
  generalize c.fy = fy at *
  generalize c.fe = fe at *
  obtain ⟨c0, c1, c2, c3, c4, c5, c6⟩ := c
  simp only [CamR.v] at *
  go_enter Try.func8, Try.ntmps8
  go_wp2_with fail
  refine ((HA _).out).mono ?_
  rintro e w1 ⟨rfl, hb1⟩
  have hC : Bk w1 w.heap.size 24 #[.float .f32 c0, .float .f32 c1, .float .f32 c2, .float .f32 c3, .float .f32 c4, .float .f32 c5, .float .f32 c6] := ((Bk.new' rfl).alloc _).ext hb1
  have hR : Bk w1 (w.heap.size + 1) 26 #[.float .f32 0, .float .f32 0] := (Bk.new' (by simp)).ext hb1
  have k0 := hC.cell 0
  have k1 := hC.cell 1
  have k2 := hC.cell 2
  have k6 := hC.cell 6
  have r0 := hR.cell 0
  have r1 := hR.cell 1
  have r2 := hR.frozen 0
  have r3 := hR.frozen 1
  have hlt := hR.lt
  have hx1 : Ext w w1 := (((Ext.refl w).alloc _).alloc _).trans hb1
  have ne1 : w1.heap.size ≠ w.heap.size + 1 := by omega
  have ne2 : w1.heap.size ≠ w.heap.size := by omega
  have HB := hidA (And.intro hC hR)
  clear hC hR hb1
  go_wp2_with fail
  refine ((HN _ _ (Rd.new (by first | rfl | simp) rfl)).out).mono ?_
  rintro e w2 ⟨rfl, hw2⟩
  have hx12 : Ext w1 w2 := by rw [← hw2]; exact ((Ext.refl w1).alloc _).alloc _
  have hX : Bk w2 w1.heap.size 79 #[.float .f32 fx, .float .f32 fy, .float .f32 fe] := by rw [← hw2]; exact (Bk.new' rfl).alloc _
  obtain ⟨hC, hR⟩ := HB.out
  have hC := hC.ext hx12
  have hR := hR.ext hx12
  have k0 := hC.cell 0
  have k1 := hC.cell 1
  have k2 := hC.cell 2
  have k6 := hC.cell 6
  have r0 := hR.cell 0
  have r1 := hR.cell 1
  have r2 := hR.frozen 0
  have r3 := hR.frozen 1
  have s0 := hX.cell 0
  have s1 := hX.cell 1
  have s2 := hX.cell 2
  have hlt := hR.lt
  have hx2 : Ext w w2 := hx1.trans hx12
  clear hw2 hx12 hX hC hR HB hx1 ne1 ne2
  go_wp2_with fail
  go_quiet (fail)
  go_wp2_with fail
  refine bodyPost_ret (v := .tuple #[.agg #[.float .f32 0, .float .f32 0], .float .f32 0, .bool false, .int .i64 0]) (by simp [results, Try.results8, go_sem, r0, r1]) rfl ⟨rfl, ?_⟩
  exact (by repeat (first | exact Ext.refl _ | assumption | refine Ext.setCell ?_ (by first | (simp; done) | (simp; omega)) _ | refine Ext.drewN ?_ _ | refine Ext.alloc ?_ _ | refine Ext.drew ?_ | refine Ext.trans ?_ (by assumption)))
set_option maxRecDepth 100000 in
set_option maxHeartbeats 3200000 in
theorem proj_far (c : CamR) (x y h : Nat) (w : World) (hc : camE c = 0) (hn : numE [x, y, h] = 0) (ha : lt (pjA c x y) 1065353216 = false) (hv : numE [pjA c x y] ≠ 0) :
    Calls Try.prog 8 #[c.v, .float .f32 x, .float .f32 y, .float .f32 h] w fun e w' => e = .returned (.tuple #[.agg #[.float .f32 0, .float .f32 0], .float .f32 0, .bool false, .int .i64 (numE [pjA c x y])]) ∧ Ext w w' := by
  have HA := fun (w : World) => hidA (axes_ok c w hc)
  have HN := fun (A : Option Addr) (w : World) (hr : Rd w A (flt [x, y, h])) => hidA (heights_any A 3 3 [x, y, h] w rfl hr (by omega))
  rw [hn] at HN
  obtain ⟨p1, p2, p3, p4, p5, p6, p7, p8, p9, p10, p11, p12, p13, p14⟩ := pj_ok hc hn
  have q1 := fun (w : World) => run_float_arith (P := Try.prog) w .sub 22 .f32 _ _ _ p1
  have q2 := fun (w : World) => run_float_arith (P := Try.prog) w .sub 22 .f32 _ _ _ p2
  have q3 := fun (w : World) => run_float_arith (P := Try.prog) w .sub 22 .f32 _ _ _ p3
  have q4 := fun (w : World) => run_float_arith (P := Try.prog) w .mul 22 .f32 _ _ _ p4
  have q5 := fun (w : World) => run_float_arith (P := Try.prog) w .mul 22 .f32 _ _ _ p5
  have q6 := fun (w : World) => run_float_arith (P := Try.prog) w .add 22 .f32 _ _ _ p6
  have q7 := fun (w : World) => run_float_arith (P := Try.prog) w .mul 22 .f32 _ _ _ p8
  have q8 := fun (w : World) => run_float_arith (P := Try.prog) w .mul 22 .f32 _ _ _ p9
  have q9 := fun (w : World) => run_float_arith (P := Try.prog) w .add 22 .f32 _ _ _ p10
  have q10 := fun (w : World) => run_float_arith (P := Try.prog) w .mul 22 .f32 _ _ _ p12
  have q11 := fun (w : World) => run_float_arith (P := Try.prog) w .sub 22 .f32 _ _ _ p13
  have q0 : Op.unary .neg (.float .f32 c.fy) = pure (.float .f32 (fneg c.fy)) := rfl
  have HV := fun (w : World) => hidA (value_any (pjA c x y) w (bd_finB p7 (by omega)))
  have b0 : (FloatKind.f32.format.order (pjA c x y) 1065353216 == some .lt) = false := ha
  rw [if_neg hv] at HV
  have t1 : (numE [pjA c x y] != 0) = true := by simpa using hv
  clear p1 p2 p3 p4 p5 p6 p7 p8 p9 p10 p11 p12 p13 p14
  clear ha hc hn hv
  generalize numE [pjA c x y] = q at *
  generalize pjX c x y = rx at *
  generalize pjY c x y h = ry at *
  generalize fdiv (pjB c x y) (pjA c x y) = ba at *
  generalize fdiv (pjU c x y h) (pjA c x y) = ua at *
  generalize pjU c x y h = u at *
  generalize fmul c.fe (pjA c x y) = ea at *
  generalize pjB c x y = b at *
  generalize pjA c x y = a at *
  generalize fmul (fsub x c.x) c.fx = t1 at *
  generalize fmul (fsub y c.y) c.fy = t2 at *
  generalize fmul (fsub x c.x) (fneg c.fy) = t3 at *
  generalize fmul (fsub y c.y) c.fx = t4 at *
  generalize fsub x c.x = px at *
  generalize fsub y c.y = py at *
  generalize fsub h c.h = pz at *
  generalize c.fx = fx at *
  generalize fneg c.fy = ny at *
  generalize c.fy = fy at *
  generalize c.fe = fe at *
  obtain ⟨c0, c1, c2, c3, c4, c5, c6⟩ := c
  simp only [CamR.v] at *
  go_enter Try.func8, Try.ntmps8
  go_wp2_with fail
  refine ((HA _).out).mono ?_
  rintro e w1 ⟨rfl, hb1⟩
  have hC : Bk w1 w.heap.size 24 #[.float .f32 c0, .float .f32 c1, .float .f32 c2, .float .f32 c3, .float .f32 c4, .float .f32 c5, .float .f32 c6] := ((Bk.new' rfl).alloc _).ext hb1
  have hR : Bk w1 (w.heap.size + 1) 26 #[.float .f32 0, .float .f32 0] := (Bk.new' (by simp)).ext hb1
  have k0 := hC.cell 0
  have k1 := hC.cell 1
  have k2 := hC.cell 2
  have k6 := hC.cell 6
  have r0 := hR.cell 0
  have r1 := hR.cell 1
  have r2 := hR.frozen 0
  have r3 := hR.frozen 1
  have hlt := hR.lt
  have hx1 : Ext w w1 := (((Ext.refl w).alloc _).alloc _).trans hb1
  have ne1 : w1.heap.size ≠ w.heap.size + 1 := by omega
  have ne2 : w1.heap.size ≠ w.heap.size := by omega
  have HB := hidA (And.intro hC hR)
  clear hC hR hb1
  go_wp2_with fail
  refine ((HN _ _ (Rd.new (by first | rfl | simp) rfl)).out).mono ?_
  rintro e w2 ⟨rfl, hw2⟩
  have hx12 : Ext w1 w2 := by rw [← hw2]; exact ((Ext.refl w1).alloc _).alloc _
  have hX : Bk w2 w1.heap.size 79 #[.float .f32 fx, .float .f32 fy, .float .f32 fe] := by rw [← hw2]; exact (Bk.new' rfl).alloc _
  obtain ⟨hC, hR⟩ := HB.out
  have hC := hC.ext hx12
  have hR := hR.ext hx12
  have k0 := hC.cell 0
  have k1 := hC.cell 1
  have k2 := hC.cell 2
  have k6 := hC.cell 6
  have r0 := hR.cell 0
  have r1 := hR.cell 1
  have r2 := hR.frozen 0
  have r3 := hR.frozen 1
  have s0 := hX.cell 0
  have s1 := hX.cell 1
  have s2 := hX.cell 2
  have hlt := hR.lt
  have hx2 : Ext w w2 := hx1.trans hx12
  clear hw2 hx12 hX hC hR HB hx1 ne1 ne2
  go_wp2_with fail
  go_quiet (fail)
  go_wp2_with fail
  refine ((HV _).out).mono ?_
  rintro e w3 ⟨rfl, hw3⟩
  rw [hw3]
  clear hw3 w3
  go_wp2_with fail
  refine bodyPost_ret (v := .tuple #[.agg #[.float .f32 0, .float .f32 0], .float .f32 0, .bool false, .int .i64 q]) (by simp [results, Try.results8, go_sem, r0, r1]) rfl ⟨rfl, ?_⟩
  exact (by repeat (first | exact Ext.refl _ | assumption | refine Ext.setCell ?_ (by first | (simp; done) | (simp; omega)) _ | refine Ext.drewN ?_ _ | refine Ext.alloc ?_ _ | refine Ext.drew ?_ | refine Ext.trans ?_ (by assumption)))
set_option maxRecDepth 100000 in
set_option maxHeartbeats 3200000 in
theorem proj_ok (c : CamR) (x y h : Nat) (w : World) (hc : camE c = 0) (hn : numE [x, y, h] = 0) (ha : lt (pjA c x y) 1065353216 = false) (hv : numE [pjA c x y] = 0) :
    Calls Try.prog 8 #[c.v, .float .f32 x, .float .f32 y, .float .f32 h] w fun e w' => e = .returned (.tuple #[.agg #[.float .f32 (pjX c x y), .float .f32 (pjY c x y h)], .float .f32 (pjA c x y), .bool true, .int .i64 0]) ∧ Ext w w' := by
  have HA := fun (w : World) => hidA (axes_ok c w hc)
  have HN := fun (A : Option Addr) (w : World) (hr : Rd w A (flt [x, y, h])) => hidA (heights_any A 3 3 [x, y, h] w rfl hr (by omega))
  rw [hn] at HN
  obtain ⟨p1, p2, p3, p4, p5, p6, p7, p8, p9, p10, p11, p12, p13, p14⟩ := pj_ok hc hn
  have q1 := fun (w : World) => run_float_arith (P := Try.prog) w .sub 22 .f32 _ _ _ p1
  have q2 := fun (w : World) => run_float_arith (P := Try.prog) w .sub 22 .f32 _ _ _ p2
  have q3 := fun (w : World) => run_float_arith (P := Try.prog) w .sub 22 .f32 _ _ _ p3
  have q4 := fun (w : World) => run_float_arith (P := Try.prog) w .mul 22 .f32 _ _ _ p4
  have q5 := fun (w : World) => run_float_arith (P := Try.prog) w .mul 22 .f32 _ _ _ p5
  have q6 := fun (w : World) => run_float_arith (P := Try.prog) w .add 22 .f32 _ _ _ p6
  have q7 := fun (w : World) => run_float_arith (P := Try.prog) w .mul 22 .f32 _ _ _ p8
  have q8 := fun (w : World) => run_float_arith (P := Try.prog) w .mul 22 .f32 _ _ _ p9
  have q9 := fun (w : World) => run_float_arith (P := Try.prog) w .add 22 .f32 _ _ _ p10
  have q10 := fun (w : World) => run_float_arith (P := Try.prog) w .mul 22 .f32 _ _ _ p12
  have q11 := fun (w : World) => run_float_arith (P := Try.prog) w .sub 22 .f32 _ _ _ p13
  have q0 : Op.unary .neg (.float .f32 c.fy) = pure (.float .f32 (fneg c.fy)) := rfl
  have HV := fun (w : World) => hidA (value_any (pjA c x y) w (bd_finB p7 (by omega)))
  have b0 : (FloatKind.f32.format.order (pjA c x y) 1065353216 == some .lt) = false := ha
  obtain ⟨u1, u2, u3, u4, _, _⟩ := pj_spot hc hn ha
  have q12 := fun (w : World) => run_float_arith (P := Try.prog) w .quo 22 .f32 _ _ _ u1
  have q13 := fun (w : World) => run_float_arith (P := Try.prog) w .mul 22 .f32 _ _ _ u2
  have q14 := fun (w : World) => run_float_arith (P := Try.prog) w .quo 22 .f32 _ _ _ u3
  have q15 := fun (w : World) => run_float_arith (P := Try.prog) w .mul 22 .f32 _ _ _ u4
  clear u1 u2 u3 u4
  rw [if_pos hv, hv] at HV
  clear p1 p2 p3 p4 p5 p6 p7 p8 p9 p10 p11 p12 p13 p14
  clear ha hc hn hv
  generalize pjX c x y = rx at *
  generalize pjY c x y h = ry at *
  generalize fdiv (pjB c x y) (pjA c x y) = ba at *
  generalize fdiv (pjU c x y h) (pjA c x y) = ua at *
  generalize pjU c x y h = u at *
  generalize fmul c.fe (pjA c x y) = ea at *
  generalize pjB c x y = b at *
  generalize pjA c x y = a at *
  generalize fmul (fsub x c.x) c.fx = t1 at *
  generalize fmul (fsub y c.y) c.fy = t2 at *
  generalize fmul (fsub x c.x) (fneg c.fy) = t3 at *
  generalize fmul (fsub y c.y) c.fx = t4 at *
  generalize fsub x c.x = px at *
  generalize fsub y c.y = py at *
  generalize fsub h c.h = pz at *
  generalize c.fx = fx at *
  generalize fneg c.fy = ny at *
  generalize c.fy = fy at *
  generalize c.fe = fe at *
  obtain ⟨c0, c1, c2, c3, c4, c5, c6⟩ := c
  simp only [CamR.v] at *
  go_enter Try.func8, Try.ntmps8
  go_wp2_with fail
  refine ((HA _).out).mono ?_
  rintro e w1 ⟨rfl, hb1⟩
  have hC : Bk w1 w.heap.size 24 #[.float .f32 c0, .float .f32 c1, .float .f32 c2, .float .f32 c3, .float .f32 c4, .float .f32 c5, .float .f32 c6] := ((Bk.new' rfl).alloc _).ext hb1
  have hR : Bk w1 (w.heap.size + 1) 26 #[.float .f32 0, .float .f32 0] := (Bk.new' (by simp)).ext hb1
  have k0 := hC.cell 0
  have k1 := hC.cell 1
  have k2 := hC.cell 2
  have k6 := hC.cell 6
  have r0 := hR.cell 0
  have r1 := hR.cell 1
  have r2 := hR.frozen 0
  have r3 := hR.frozen 1
  have hlt := hR.lt
  have hx1 : Ext w w1 := (((Ext.refl w).alloc _).alloc _).trans hb1
  have ne1 : w1.heap.size ≠ w.heap.size + 1 := by omega
  have ne2 : w1.heap.size ≠ w.heap.size := by omega
  have HB := hidA (And.intro hC hR)
  clear hC hR hb1
  go_wp2_with fail
  refine ((HN _ _ (Rd.new (by first | rfl | simp) rfl)).out).mono ?_
  rintro e w2 ⟨rfl, hw2⟩
  have hx12 : Ext w1 w2 := by rw [← hw2]; exact ((Ext.refl w1).alloc _).alloc _
  have hX : Bk w2 w1.heap.size 79 #[.float .f32 fx, .float .f32 fy, .float .f32 fe] := by rw [← hw2]; exact (Bk.new' rfl).alloc _
  obtain ⟨hC, hR⟩ := HB.out
  have hC := hC.ext hx12
  have hR := hR.ext hx12
  have k0 := hC.cell 0
  have k1 := hC.cell 1
  have k2 := hC.cell 2
  have k6 := hC.cell 6
  have r0 := hR.cell 0
  have r1 := hR.cell 1
  have r2 := hR.frozen 0
  have r3 := hR.frozen 1
  have s0 := hX.cell 0
  have s1 := hX.cell 1
  have s2 := hX.cell 2
  have hlt := hR.lt
  have hx2 : Ext w w2 := hx1.trans hx12
  clear hw2 hx12 hX hC hR HB hx1 ne1 ne2
  go_wp2_with fail
  go_quiet (fail)
  go_wp2_with fail
  refine ((HV _).out).mono ?_
  rintro e w3 ⟨rfl, hw3⟩
  rw [hw3]
  clear hw3 w3
  go_wp2_with fail
  refine bodyPost_ret (v := .tuple #[.agg #[.float .f32 rx, .float .f32 ry], .float .f32 a, .bool true, .int .i64 0]) (by simp [results, Try.results8, go_sem, r0, r1]) rfl ⟨rfl, ?_⟩
  exact (by repeat (first | exact Ext.refl _ | assumption | refine Ext.setCell ?_ (by first | (simp; done) | (simp; omega)) _ | refine Ext.drewN ?_ _ | refine Ext.alloc ?_ _ | refine Ext.drew ?_ | refine Ext.trans ?_ (by assumption)))
end Go.Proofs.Ytdfegkpdnofdoaa
