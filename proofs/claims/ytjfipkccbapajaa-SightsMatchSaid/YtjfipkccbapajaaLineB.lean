/- Contracts: cells of lines, in the program and in the reference. -/
import Derived.Test.YtjfipkccbapajaaLineA
import Derived.Deep.AppendLies
import Derived.Deep.DeepCutAuto
import Derived.Deep.RegionLaw
import Derived.Deep.RegionHeld3
namespace Go.Proofs.Ytjfipkccbapajaa
open Go.RowKit
attribute [local go_sem ↓] Go.wp_at_zero Go.wp_at_succ

def max4 (x y z u : Int) : Int := max (max (max x y) z) u
theorem run_max4 {P : Program} (w : World) (ts : Array TypeId) (t : TypeId) (k k1 k2 k3 : IntKind) (x y z u : Int) :
    (Builtin.max_ ts t #[.int k x, .int k1 y, .int k2 z, .int k3 u]).run P w = .ok (.int k (max4 x y z u)) w := by
  have e : ∀ a b : Int, (if b > a then b else a) = max a b := fun a b => by split <;> omega
  simp [Builtin.max_, Builtin.max2, e, max4]
attribute [local go_sem] run_max4

def stepsZ (ax ay bx by' : Int) : Int := max4 (bx - ax) (-(bx - ax)) (by' - ay) (-(by' - ay))
def placeE (x y : Int) : Int := if -4194304 ≤ x ∧ x ≤ 4194304 ∧ -4194304 ≤ y ∧ y ≤ 4194304 then 0 else 5
theorem placeE_ok {x y : Int} (h : -4194304 ≤ x ∧ x ≤ 4194304 ∧ -4194304 ≤ y ∧ y ≤ 4194304) : placeE x y = 0 := if_pos h
theorem placeE_no {x y : Int} (h : ¬ (-4194304 ≤ x ∧ x ≤ 4194304 ∧ -4194304 ≤ y ∧ y ≤ 4194304)) : placeE x y = 5 := if_neg h

theorem checkPlace_any (x y : Int) (w : World) :
    Calls Try.prog 86 #[.int .i64 x, .int .i64 y] w fun e w' => e = .returned (.int .i64 (placeE x y)) ∧ w = w' := by
  go_enter Try.func86, Try.ntmps86
  go_wp2
  all_goals go_ret
  all_goals exact ⟨ret_i (by first | (rw [placeE_ok (by omega)]; done) | (rw [placeE_no (by omega)]; done)), rfl⟩

theorem steps_any (ax ay bx by' : Int) (w : World) (h1 : -8388608 ≤ ax ∧ ax ≤ 8388608) (h2 : -8388608 ≤ ay ∧ ay ≤ 8388608) (h3 : -8388608 ≤ bx ∧ bx ≤ 8388608) (h4 : -8388608 ≤ by' ∧ by' ≤ 8388608) :
    Calls Try.prog 87 #[.agg #[.int .i64 ax, .int .i64 ay], .agg #[.int .i64 bx, .int .i64 by']] w fun e w' => e = .returned (.int .i64 (stepsZ ax ay bx by')) ∧ Ext w w' := by
  go_enter Try.func87, Try.ntmps87
  go_wp2
  go_quiet (fail)
  go_wp2
  go_ret
  exact ⟨rfl, by repeat (first | exact Ext.refl _ | assumption | refine Ext.drewN ?_ _ | refine Ext.alloc ?_ _ | refine Ext.drew ?_)⟩

theorem along_any (d i n : Int) (w : World) (hi : 0 ≤ i ∧ i ≤ 65536) (hn : 1 ≤ n ∧ n ≤ 65536) (hid : -34359738368 ≤ 2 * i * d ∧ 2 * i * d ≤ 34359738368) :
    Calls Try.prog 186 #[.int .i64 d, .int .i64 i, .int .i64 n] w fun e w' => e = .returned (.int .i64 ((2 * i * d + n) / (2 * n))) ∧ ∃ m, w' = w.drewN m := by
  go_enter Try.func186, Try.ntmps186
  go_wp2_with fail
  refine (lattice_any _ _ _ (by omega) (by omega) (by omega)).mono ?_
  rintro e w1 ⟨rfl, m, rfl⟩
  go_wp2
  go_ret
  exact ⟨rfl, _, rfl⟩

def ptX (a b i n : Int) : Int := a + (2 * i * (b - a) + n) / (2 * n)

set_option maxHeartbeats 1600000 in
theorem between_any (ax ay bx by' i n : Int) (w : World) (h1 : -4194304 ≤ ax ∧ ax ≤ 4194304) (h2 : -4194304 ≤ ay ∧ ay ≤ 4194304) (h3 : -4194304 ≤ bx ∧ bx ≤ 4194304) (h4 : -4194304 ≤ by' ∧ by' ≤ 4194304)
    (hi : 0 ≤ i ∧ i ≤ 65536) (hn : 1 ≤ n ∧ n ≤ 65536) (p1 : -34359738368 ≤ 2 * i * (bx - ax)) (p2 : 2 * i * (bx - ax) ≤ 34359738368) (p3 : -34359738368 ≤ 2 * i * (by' - ay)) (p4 : 2 * i * (by' - ay) ≤ 34359738368) :
    Calls Try.prog 147 #[.agg #[.int .i64 ax, .int .i64 ay], .agg #[.int .i64 bx, .int .i64 by'], .int .i64 i, .int .i64 n] w fun e w' =>
      e = .returned (.agg #[.int .i64 (ptX ax bx i n), .int .i64 (ptX ay by' i n)]) ∧ Ext w w' := by
  have b1 := ediv_bd (x := 2 * i * (bx - ax) + n) (c := 2 * n) (M := 34359803904) (by omega) (by omega) (by omega)
  have b2 := ediv_bd (x := 2 * i * (by' - ay) + n) (c := 2 * n) (M := 34359803904) (by omega) (by omega) (by omega)
  have z1 : IntKind.i64.wrap (bx - ax) = bx - ax := IntWalk.i64_in _ (by omega)
  have z2 : IntKind.i64.wrap (by' - ay) = by' - ay := IntWalk.i64_in _ (by omega)
  have z3 : IntKind.i64.wrap (ax + (2 * i * (bx - ax) + n) / (2 * n)) = ax + (2 * i * (bx - ax) + n) / (2 * n) := IntWalk.i64_in _ (by omega)
  have z4 : IntKind.i64.wrap (ay + (2 * i * (by' - ay) + n) / (2 * n)) = ay + (2 * i * (by' - ay) + n) / (2 * n) := IntWalk.i64_in _ (by omega)
  go_enter Try.func147, Try.ntmps147
  go_wp2_with fail
  go_region_held3 (fun w' => w'.cell? ⟨w.heap.size, 0, none⟩ = some (.int .i64 ax) ∧ w'.cell? ⟨w.heap.size, 1, none⟩ = some (.int .i64 ay) ∧ w'.cell? ⟨w.heap.size + 1, 0, none⟩ = some (.int .i64 bx) ∧ w'.cell? ⟨w.heap.size + 1, 1, none⟩ = some (.int .i64 by')) (first | (go_keep; done) | ((try dsimp only); (repeat' apply And.intro) <;> (first | (go_keep; done) | (rw [set_far (by omega), set_far (by omega)]; go_keep))))
    (first
      | (go_at_call_of 186 (Value.int IntKind.i64 (bx - ax)); refine (along_any _ _ _ _ hi hn ⟨?_, ?_⟩).mono ?_; (omega); (omega); rintro e w' ⟨rfl, m, rfl⟩)
      | (go_at_call_of 186 (Value.int IntKind.i64 (by' - ay)); refine (along_any _ _ _ _ hi hn ⟨?_, ?_⟩).mono ?_; (omega); (omega); rintro e w' ⟨rfl, m, rfl⟩))
  go_wp2
  exact bodyPost_ret (v := .agg #[.int .i64 (ptX ax bx i n), .int .i64 (ptX ay by' i n)]) (by simp [results, Try.results147, go_sem, ptX]) rfl ⟨rfl, (by repeat (first | exact Ext.refl _ | assumption | refine Ext.setCell ?_ (by first | (simp; done) | (simp; omega)) _ | refine Ext.drewN ?_ _ | refine Ext.alloc ?_ _ | refine Ext.drew ?_ | refine Ext.trans ?_ (by assumption)))⟩

end Go.Proofs.Ytjfipkccbapajaa
