/- Contracts: export.Project and tarnref2.ProjectOf. -/
import Derived.Test.YtdfegkpdnofdoaaCamC
import Derived.Test.YtdfegkpdnofdoaaFloatG
namespace Go.Proofs.Ytdfegkpdnofdoaa
open Go.RowKit
attribute [local go_sem ↓] Go.wp_at_zero Go.wp_at_succ
attribute [local go_sem] run_store_float

def nospot : Value := .agg #[.float .f32 0, .float .f32 0]
set_option maxRecDepth 100000 in
set_option maxHeartbeats 3200000 in
theorem proj_bad (c : CamR) (x y h : Nat) (w : World) (hc : camE c ≠ 0) :
    Calls Try.prog 8 #[c.v, .float .f32 x, .float .f32 y, .float .f32 h] w fun e w' => e = .returned (.tuple #[.agg #[.float .f32 0, .float .f32 0], .float .f32 0, .bool false, .int .i64 (camE c)]) ∧ Ext w w' := by
  have HA := fun (w : World) => hidA (axes_bad c w hc)
  have t1 : (camE c != 0) = true := by simpa using hc
  clear hc
  generalize camE c = q at *
  obtain ⟨c0, c1, c2, c3, c4, c5, c6⟩ := c
  simp only [CamR.v] at *
  go_enter Try.func8, Try.ntmps8
  go_wp2_with fail
  refine ((HA _).out).mono ?_
  rintro e w1 ⟨rfl, hb1⟩
  have hC : Bk w1 w.heap.size 24 #[.float .f32 c0, .float .f32 c1, .float .f32 c2, .float .f32 c3, .float .f32 c4, .float .f32 c5, .float .f32 c6] := ((Bk.new' rfl).alloc _).ext hb1
  have hR : Bk w1 (w.heap.size + 1) 26 #[.float .f32 0, .float .f32 0] := (Bk.new' (by simp)).ext hb1
  have k0 := hC.cell 0
  have k1 := hC.cell 1
  have k2 := hC.cell 2
  have k6 := hC.cell 6
  have r0 := hR.cell 0
  have r1 := hR.cell 1
  have r2 := hR.frozen 0
  have r3 := hR.frozen 1
  have hlt := hR.lt
  have hx1 : Ext w w1 := (((Ext.refl w).alloc _).alloc _).trans hb1
  have ne1 : w1.heap.size ≠ w.heap.size + 1 := by omega
  have ne2 : w1.heap.size ≠ w.heap.size := by omega
  have HB := hidA (And.intro hC hR)
  clear hC hR hb1
  go_wp2_with fail
  refine bodyPost_ret (v := .tuple #[.agg #[.float .f32 0, .float .f32 0], .float .f32 0, .bool false, .int .i64 q]) (by simp [results, Try.results8, go_sem, hlt, r0, r1]) rfl ⟨rfl, ?_⟩
  exact (by repeat (first | exact Ext.refl _ | assumption | refine Ext.setCell ?_ (by first | (simp; done) | (simp; omega)) _ | refine Ext.drewN ?_ _ | refine Ext.alloc ?_ _ | refine Ext.drew ?_ | refine Ext.trans ?_ (by assumption)))
set_option maxRecDepth 100000 in
set_option maxHeartbeats 3200000 in
theorem proj_num (c : CamR) (x y h : Nat) (w : World) (hc : camE c = 0) (hn : numE [x, y, h] ≠ 0) :
    Calls Try.prog 8 #[c.v, .float .f32 x, .float .f32 y, .float .f32 h] w fun e w' => e = .returned (.tuple #[.agg #[.float .f32 0, .float .f32 0], .float .f32 0, .bool false, .int .i64 (numE [x, y, h])]) ∧ Ext w w' := by
  have HA := fun (w : World) => hidA (axes_ok c w hc)
  have HN := fun (A : Option Addr) (w : World) (hr : Rd w A (flt [x, y, h])) => hidA (heights_any A 3 3 [x, y, h] w rfl hr (by omega))
  have t1 : (numE [x, y, h] != 0) = true := by simpa using hn
  clear hc hn
  generalize c.fx = fx at *
  generalize c.fy = fy at *
  generalize c.fe = fe at *
  generalize numE [x, y, h] = q at *
  obtain ⟨c0, c1, c2, c3, c4, c5, c6⟩ := c
  simp only [CamR.v] at *
  go_enter Try.func8, Try.ntmps8
  go_wp2_with fail
  refine ((HA _).out).mono ?_
  rintro e w1 ⟨rfl, hb1⟩
  have hC : Bk w1 w.heap.size 24 #[.float .f32 c0, .float .f32 c1, .float .f32 c2, .float .f32 c3, .float .f32 c4, .float .f32 c5, .float .f32 c6] := ((Bk.new' rfl).alloc _).ext hb1
  have hR : Bk w1 (w.heap.size + 1) 26 #[.float .f32 0, .float .f32 0] := (Bk.new' (by simp)).ext hb1
  have k0 := hC.cell 0
  have k1 := hC.cell 1
  have k2 := hC.cell 2
  have k6 := hC.cell 6
  have r0 := hR.cell 0
  have r1 := hR.cell 1
  have r2 := hR.frozen 0
  have r3 := hR.frozen 1
  have hlt := hR.lt
  have hx1 : Ext w w1 := (((Ext.refl w).alloc _).alloc _).trans hb1
  have ne1 : w1.heap.size ≠ w.heap.size + 1 := by omega
  have ne2 : w1.heap.size ≠ w.heap.size := by omega
  have HB := hidA (And.intro hC hR)
  clear hC hR hb1
  go_wp2_with fail
  refine ((HN _ _ (Rd.new (by first | rfl | simp) rfl)).out).mono ?_
  rintro e w2 ⟨rfl, hw2⟩
  have hx12 : Ext w1 w2 := by rw [← hw2]; exact ((Ext.refl w1).alloc _).alloc _
  have hX : Bk w2 w1.heap.size 79 #[.float .f32 fx, .float .f32 fy, .float .f32 fe] := by rw [← hw2]; exact (Bk.new' rfl).alloc _
  obtain ⟨hC, hR⟩ := HB.out
  have hC := hC.ext hx12
  have hR := hR.ext hx12
  have k0 := hC.cell 0
  have k1 := hC.cell 1
  have k2 := hC.cell 2
  have k6 := hC.cell 6
  have r0 := hR.cell 0
  have r1 := hR.cell 1
  have r2 := hR.frozen 0
  have r3 := hR.frozen 1
  have s0 := hX.cell 0
  have s1 := hX.cell 1
  have s2 := hX.cell 2
  have hlt := hR.lt
  have hx2 : Ext w w2 := hx1.trans hx12
  clear hw2 hx12 hX hC hR HB hx1 ne1 ne2
  go_wp2_with fail
  refine bodyPost_ret (v := .tuple #[.agg #[.float .f32 0, .float .f32 0], .float .f32 0, .bool false, .int .i64 q]) (by simp [results, Try.results8, go_sem, r0, r1]) rfl ⟨rfl, ?_⟩
  exact (by repeat (first | exact Ext.refl _ | assumption | refine Ext.setCell ?_ (by first | (simp; done) | (simp; omega)) _ | refine Ext.drewN ?_ _ | refine Ext.alloc ?_ _ | refine Ext.drew ?_ | refine Ext.trans ?_ (by assumption)))
end Go.Proofs.Ytdfegkpdnofdoaa
