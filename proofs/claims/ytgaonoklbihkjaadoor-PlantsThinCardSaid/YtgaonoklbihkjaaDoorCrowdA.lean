/- Contracts: plant.square, tarnref2.square, tarnref2.Weighed, plant.crowd. -/
import Derived.Test.YtgaonoklbihkjaaDoorCrowdQ
import Derived.Test.YtgaonoklbihkjaaDoorRootA
namespace Go.Proofs.YtgaonoklbihkjaaDoor
open Go.RowKit
attribute [local go_sem ↓] Go.wp_at_zero Go.wp_at_succ
attribute [local go_sem] run_store_float

theorem sq_wraps {a b : PlantR} (ha : a.farB = false) (hb : b.farB = false) : wrap64 (a.x - b.x) = a.x - b.x ∧ wrap64 (a.y - b.y) = a.y - b.y ∧ wrap64 ((a.x - b.x) * (a.x - b.x)) = (a.x - b.x) * (a.x - b.x) ∧ wrap64 ((a.y - b.y) * (a.y - b.y)) = (a.y - b.y) * (a.y - b.y) ∧ wrap64 ((a.x - b.x) * (a.x - b.x) + (a.y - b.y) * (a.y - b.y)) = ((sqD a b : Nat) : Int) := by
  obtain ⟨h1, h2, ⟨s1, s2⟩, s3, s4⟩ := sq_int ha hb
  obtain ⟨u1, u2, u3, u4⟩ := far_no ha
  obtain ⟨v1, v2, v3, v4⟩ := far_no hb
  refine ⟨IntWalk.wrap64_in _ ⟨by omega, by omega⟩, IntWalk.wrap64_in _ ⟨by omega, by omega⟩, ?_, ?_, ?_⟩
  · generalize (a.x - b.x) * (a.x - b.x) = q at *
    exact IntWalk.wrap64_in _ ⟨by omega, by omega⟩
  · generalize (a.y - b.y) * (a.y - b.y) = q at *
    exact IntWalk.wrap64_in _ ⟨by omega, by omega⟩
  · rw [h1]
    have h3 : sqD a b < 1152921504606846976 := h2
    exact IntWalk.wrap64_in _ ⟨by omega, by omega⟩
theorem square_any (a b : PlantR) (w : World) (ha : a.farB = false) (hb : b.farB = false) :
    Calls Tryd.prog 40 #[a.v, b.v] w fun e w' => e = .returned (.int .i64 (sqD a b)) ∧ Ext w w' := by
  obtain ⟨z1, z2, z3, z4, z5⟩ := sq_wraps ha hb
  clear ha hb
  generalize sqD a b = d at *
  obtain ⟨k1, x1, y1, s1, g1⟩ := a
  obtain ⟨k2, x2, y2, s2, g2⟩ := b
  simp only [PlantR.v]
  dsimp only at z1 z2 z3 z4 z5
  generalize hA : (x1 - x2) * (x1 - x2) = A at *
  generalize hB : (y1 - y2) * (y1 - y2) = B at *
  have y1' := IntWalk.i64_left (x1 - x2)
  have y2' := IntWalk.i64_left (y1 - y2)
  go_enter Tryd.func40, Tryd.ntmps40
  go_wp2
  go_ret
  exact ⟨ret_i z5, (by repeat (first | exact Ext.refl _ | assumption | refine Ext.setCell ?_ (by first | (simp; done) | (simp; omega)) _ | refine Ext.drewN ?_ _ | refine Ext.alloc ?_ _ | refine Ext.drew ?_ | refine Ext.trans ?_ (by assumption)))⟩
theorem refSquare_any (a b : PlantR) (w : World) (ha : a.farB = false) (hb : b.farB = false) :
    Calls Tryd.prog 37 #[.int .i64 a.x, .int .i64 a.y, .int .i64 b.x, .int .i64 b.y] w fun e w' => e = .returned (.int .i64 (sqD a b)) ∧ w' = w := by
  obtain ⟨z1, z2, z3, z4, z5⟩ := sq_wraps ha hb
  clear ha hb
  generalize sqD a b = d at *
  obtain ⟨k1, x1, y1, s1, g1⟩ := a
  obtain ⟨k2, x2, y2, s2, g2⟩ := b
  dsimp only at *
  generalize hA : (x1 - x2) * (x1 - x2) = A at *
  generalize hB : (y1 - y2) * (y1 - y2) = B at *
  go_enter Tryd.func37, Tryd.ntmps37
  go_wp2
  go_ret
  exact ⟨ret_i z5, rfl⟩
theorem weighed_any (size d r : Nat) (w : World) (hs : Bd 20 size) (hd : d < 2 ^ 60) (hr : r ≤ 64) :
    Calls Tryd.prog 23 #[.float .f32 size, .int .i64 d, .float .f32 (floatOfInt .f32 (r : Int))] w fun e w' => e = .returned (.tuple #[.float .f32 (if d < r * r then wgt size d r else 0), .bool (decide (d < r * r))]) ∧ w' = w := by
  have hlt := root_lt hd hr
  have HR := fun (w : World) => hidA (refRoot_any (K := 60) (int_bd' hd) (int_pos d) (by omega) w)
  by_cases h : d < r * r
  · obtain ⟨p1, p2, p3, _⟩ := wgt_ok hs h hr
    rw [if_pos h, decide_eq_true h]
    rw [decide_eq_true h] at hlt
    have C1 : (FloatKind.f32.format.order (rootB (floatOfInt .f32 (d : Int))) (floatOfInt .f32 (r : Int)) == some .lt) = true := hlt
    have q1 := fun (w : World) => run_float_arith (P := Tryd.prog) w .quo 24 .f32 _ _ _ p1
    have q2 := fun (w : World) => run_float_arith (P := Tryd.prog) w .sub 24 .f32 _ _ _ p2
    have q3 := fun (w : World) => run_float_arith (P := Tryd.prog) w .mul 24 .f32 _ _ _ p3
    clear h hlt p1 p2 p3 hs hd hr
    generalize wgt size d r = v at *
    generalize fsub 1065353216 (fdiv (rootB (floatOfInt .f32 (d : Int))) (floatOfInt .f32 (r : Int))) = u at *
    generalize fdiv (rootB (floatOfInt .f32 (d : Int))) (floatOfInt .f32 (r : Int)) = t at *
    generalize rootB (floatOfInt .f32 (d : Int)) = q at *
    generalize floatOfInt .f32 (r : Int) = rf at *
    go_enter Tryd.func23, Tryd.ntmps23
    go_wp2_with fail
    refine ((HR _).out).mono ?_
    rintro e w1 ⟨rfl, hw1⟩
    rw [hw1]
    clear hw1 w1
    go_wp2
    go_ret2
    exact ⟨rfl, rfl⟩
  · rw [if_neg h, decide_eq_false h]
    rw [decide_eq_false h] at hlt
    have C1 : (FloatKind.f32.format.order (rootB (floatOfInt .f32 (d : Int))) (floatOfInt .f32 (r : Int)) == some .lt) = false := hlt
    clear h hlt hs hd hr
    generalize rootB (floatOfInt .f32 (d : Int)) = q at *
    generalize floatOfInt .f32 (r : Int) = rf at *
    go_enter Tryd.func23, Tryd.ntmps23
    go_wp2_with fail
    refine ((HR _).out).mono ?_
    rintro e w1 ⟨rfl, hw1⟩
    rw [hw1]
    clear hw1 w1
    go_wp2
    go_ret2
    exact ⟨rfl, rfl⟩
end Go.Proofs.YtgaonoklbihkjaaDoor
