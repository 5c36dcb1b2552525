/- The walk of the law GroundsMatch where the fields are refused. -/
import Derived.Test.YtjkalnboijkikaaDoorGroundI
import Derived.BigRegion
import Derived.BigQuiet
namespace Go.Proofs.YtjkalnboijkikaaDoor
open Go.RowKit
attribute [local go_sem ↓] Go.wp_at_zero Go.wp_at_succ
attribute [local go_sem] run_store_float

theorem run_equalIn_flo (w : World) (d : Nat) (a b : Nat) : (Op.equalIn (d + 1) 26 (.float .f32 a) (.float .f32 b)).run Tryd.prog w = .ok (FloatKind.f32.format.order a b == some .eq) w := by
  simp [Op.equalIn, run_underlying Tryd.underlying26]; rfl
attribute [local go_sem] run_equalIn_flo
set_option maxRecDepth 100000 in
set_option maxHeartbeats 6400000 in
theorem grounds_bad (s : ByteArray) (a0 a1 a2 a3 a4 a5 a6 a7 a8 a9 : Nat) (p q X Y W H X' Y' W' H' x y : Int) (A A' : Option Addr) (n c n' c' : Nat) (l l' : List Nat) (w : World) (hn : l.length = n) (hn' : l'.length = n') (hd : Rd w A (flt l)) (hd' : Rd w A' (flt l')) (hb : n ≤ 140737488351232) (hb' : n' ≤ 140737488351232)
    (ht : twoE X Y W H l X' Y' W' H' l' ≠ 0) :
    Calls Tryd.prog 5 #[.agg #[.int .i64 X, .int .i64 Y, .int .i64 W, .int .i64 H, .slice A n c], .agg #[.int .i64 X', .int .i64 Y', .int .i64 W', .int .i64 H', .slice A' n' c'], .agg #[.string s, .float .f32 a0, .float .f32 a1, .float .f32 a2, .float .f32 a3, .float .f32 a4, .float .f32 a5, .float .f32 a6, .float .f32 a7, .float .f32 a8, .float .f32 a9, .int .i64 p, .int .i64 q], .int .i64 x, .int .i64 y] w fun e w' => e = .returned (.bool true) ∧ Ext w w' := by
  have b9 : (twoE X Y W H l X' Y' W' H' l' != 0) = true := by simpa using ht
  have z0 : (FloatKind.f32.format.order 0 0 == some .eq) = true := by decide +kernel
  have HT := hidA ht
  clear ht
  go_enter Tryd.func5, Tryd.ntmps5
  go_wp2_with fail
  refine (Ground_bad X Y W H X' Y' W' H' x y A A' n c n' c' l l' _ hn hn' (((hd.alloc _).alloc _).alloc _) (((hd'.alloc _).alloc _).alloc _) hb hb' HT.out).mono ?_
  rintro e w1 ⟨rfl, hb1⟩
  have hF1 : Bk w1 w.heap.size 47 #[.int .i64 X, .int .i64 Y, .int .i64 W, .int .i64 H, .slice A n c] := (((Bk.new' rfl).alloc _).alloc _).ext hb1
  have hW1 : Bk w1 (w.heap.size + 1) 47 #[.int .i64 X', .int .i64 Y', .int .i64 W', .int .i64 H', .slice A' n' c'] := ((Bk.new' (by simp)).alloc _).ext hb1
  have hK1 : Bk w1 (w.heap.size + 1 + 1) 28 #[.string s, .float .f32 a0, .float .f32 a1, .float .f32 a2, .float .f32 a3, .float .f32 a4, .float .f32 a5, .float .f32 a6, .float .f32 a7, .float .f32 a8, .float .f32 a9, .int .i64 p, .int .i64 q] := (Bk.new' (by simp)).ext hb1
  have hd1 := (((hd.alloc _).alloc _).alloc _).ext hb1
  have hd1' := (((hd'.alloc _).alloc _).alloc _).ext hb1
  have hx1 : Ext w w1 := ((((Ext.refl w).alloc _).alloc _).alloc _).trans hb1
  have hlK := hK1.lt
  have hq0 : w.heap.size < w1.heap.size := by omega
  have hq1 : w.heap.size + 1 < w1.heap.size := by omega
  clear hd hd' hb1
  have b0 := hF1.cell 0
  have b1 := hF1.cell 1
  have b2 := hF1.cell 2
  have b3 := hF1.cell 3
  have b4 := hF1.cell 4
  have c0 := hW1.cell 0
  have c1 := hW1.cell 1
  have c2 := hW1.cell 2
  have c3 := hW1.cell 3
  have c4 := hW1.cell 4
  have d0 := hK1.cell 0
  have d1 := hK1.cell 1
  have d2 := hK1.cell 2
  have d3 := hK1.cell 3
  have d4 := hK1.cell 4
  have d5 := hK1.cell 5
  have d6 := hK1.cell 6
  have d7 := hK1.cell 7
  have d8 := hK1.cell 8
  have d9 := hK1.cell 9
  have d10 := hK1.cell 10
  have d11 := hK1.cell 11
  have d12 := hK1.cell 12
  go_wp2_with fail
  refine (Fitness_bad s a0 a1 a2 a3 a4 a5 a6 a7 a8 a9 p q X Y W H X' Y' W' H' A A' n c n' c' l l' _ hn hn' (hd1.ext (by repeat (first | exact Ext.refl _ | assumption | refine Ext.setCell ?_ (by first | (simp; done) | (simp; omega)) _ | refine Ext.drewN ?_ _ | refine Ext.alloc ?_ _ | refine Ext.drew ?_ | refine Ext.trans ?_ (by assumption)))) (hd1'.ext (by repeat (first | exact Ext.refl _ | assumption | refine Ext.setCell ?_ (by first | (simp; done) | (simp; omega)) _ | refine Ext.drewN ?_ _ | refine Ext.alloc ?_ _ | refine Ext.drew ?_ | refine Ext.trans ?_ (by assumption)))) hb hb' HT.out).mono ?_
  rintro e w2 ⟨rfl, hb2⟩
  have hw2 : Ext w1 w2 := (by repeat (first | exact Ext.refl _ | assumption | refine Ext.setCell ?_ (by first | (simp; done) | (simp; omega)) _ | refine Ext.drewN ?_ _ | refine Ext.alloc ?_ _ | refine Ext.drew ?_ | refine Ext.trans ?_ (by assumption)))
  have hP2 : Bk w2 w1.heap.size 32 #[.float .f32 0, .float .f32 0, .float .f32 0] := Bk.ext (by first | exact Bk.new' rfl | simpa using (((Bk.new w1 32 #[.float .f32 0, .float .f32 0, .float .f32 0]).set 0 (.float .f32 0)).set 1 (.float .f32 0)).set 2 (.float .f32 0)) hb2
  have hF2 := hF1.ext hw2
  have hW2 := hW1.ext hw2
  have hK2 := hK1.ext hw2
  have hd2 := hd1.ext hw2
  have hd2' := hd1'.ext hw2
  have hx2 := hx1.trans hw2
  have hlP := hP2.lt
  have hq2 : w.heap.size < w2.heap.size := by omega
  have hq3 : w.heap.size + 1 < w2.heap.size := by omega
  have hq4 : w.heap.size + 1 + 1 < w2.heap.size := by omega
  clear b0 b1 b2 b3 b4 c0 c1 c2 c3 c4 d0 d1 d2 d3 d4 d5 d6 d7 d8 d9 d10 d11 d12
  clear hF1 hW1 hK1 hd1 hd1' hx1 hb2
  have b0 := hF2.cell 0
  have b1 := hF2.cell 1
  have b2 := hF2.cell 2
  have b3 := hF2.cell 3
  have b4 := hF2.cell 4
  have c0 := hW2.cell 0
  have c1 := hW2.cell 1
  have c2 := hW2.cell 2
  have c3 := hW2.cell 3
  have c4 := hW2.cell 4
  go_wp2_with fail
  refine (groundsError_any X Y W H X' Y' W' H' A A' n c n' c' l l' _ hn hn' (hd2.ext (by repeat (first | exact Ext.refl _ | assumption | refine Ext.setCell ?_ (by first | (simp; done) | (simp; omega)) _ | refine Ext.drewN ?_ _ | refine Ext.alloc ?_ _ | refine Ext.drew ?_ | refine Ext.trans ?_ (by assumption)))) (hd2'.ext (by repeat (first | exact Ext.refl _ | assumption | refine Ext.setCell ?_ (by first | (simp; done) | (simp; omega)) _ | refine Ext.drewN ?_ _ | refine Ext.alloc ?_ _ | refine Ext.drew ?_ | refine Ext.trans ?_ (by assumption)))) hb hb').mono ?_
  rintro e w3 ⟨rfl, hb3⟩
  have hw3 : Ext w2 w3 := (by repeat (first | exact Ext.refl _ | assumption | refine Ext.setCell ?_ (by first | (simp; done) | (simp; omega)) _ | refine Ext.drewN ?_ _ | refine Ext.alloc ?_ _ | refine Ext.drew ?_ | refine Ext.trans ?_ (by assumption)))
  have hQ3 : Bk w3 w2.heap.size 47 #[.int .i64 0, .int .i64 0, .int .i64 0, .int .i64 0, .slice none 0 0] := Bk.ext (by first | exact Bk.new' rfl | simpa using (((((Bk.new w2 47 #[.int .i64 0, .int .i64 0, .int .i64 0, .int .i64 0, .slice none 0 0]).set 0 (.int .i64 0)).set 1 (.int .i64 0)).set 2 (.int .i64 0)).set 3 (.int .i64 0)).set 4 (.slice none 0 0)) hb3
  have hP3 := hP2.ext hw3
  have hF3 := hF2.ext hw3
  have hW3 := hW2.ext hw3
  have hK3 := hK2.ext hw3
  have hd3 := hd2.ext hw3
  have hd3' := hd2'.ext hw3
  have hx3 := hx2.trans hw3
  have hlQ := hQ3.lt
  clear b0 b1 b2 b3 b4 c0 c1 c2 c3 c4
  clear hw2 hw3 hP2 hF2 hW2 hK2 hx2 hd2 hd2' hb3
  clear hd3 hd3' hF3 hW3 hK3
  have r : ∀ w', Ext w3 w' → Bk w' w1.heap.size 32 #[.float .f32 0, .float .f32 0, .float .f32 0] := fun w' h => hP3.ext h
  have t : ∀ w', Ext w3 w' → Bk w' w2.heap.size 47 #[.int .i64 0, .int .i64 0, .int .i64 0, .int .i64 0, .slice none 0 0] := fun w' h => hQ3.ext h
  go_wp2_with fail
  refine (grows_any _).mono ?_
  rintro e w4 ⟨rfl, hb4⟩
  go_wp2_with (first
    | (go_at_call 6; refine (grows_any _).mono ?_; rintro e w5 ⟨rfl, hb5⟩; have g0 := (r _ (hb4.trans hb5)).cell 0; have g1 := (r _ (hb4.trans hb5)).cell 1; have g2 := (r _ (hb4.trans hb5)).cell 2; have t0 := (t _ (hb4.trans hb5)).cell 0; have t1 := (t _ (hb4.trans hb5)).cell 1; have t2 := (t _ (hb4.trans hb5)).cell 2; have t3 := (t _ (hb4.trans hb5)).cell 3; have t4 := (t _ (hb4.trans hb5)).cell 4)
    | (go_at_call 22; refine (empty_zero _).mono ?_; rintro e w6 ⟨rfl, hb6⟩))
  go_ret
  exact ⟨ret_b (by simp), (by repeat (first | exact Ext.refl _ | assumption | refine Ext.setCell ?_ (by first | (simp; done) | (simp; omega)) _ | refine Ext.drewN ?_ _ | refine Ext.alloc ?_ _ | refine Ext.drew ?_ | refine Ext.trans ?_ (by assumption)))⟩
end Go.Proofs.YtjkalnboijkikaaDoor
