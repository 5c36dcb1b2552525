/- The steps in eight directions: water.Toward and tarnref2.Step are the same. -/
import Derived.Test.YtjfipkccbapajaaReach
namespace Go.Proofs.Ytjfipkccbapajaa
open Go.RowKit
attribute [local go_sem ↓] Go.wp_at_zero Go.wp_at_succ

def stepX (d : Int) : Int := if d = 0 then 1 else if d = 1 then 1 else if d = 2 then 0 else if d = 3 then -1 else if d = 4 then -1 else if d = 5 then -1 else if d = 6 then 0 else 1
def stepY (d : Int) : Int := if d = 0 then 0 else if d = 1 then 1 else if d = 2 then 1 else if d = 3 then 1 else if d = 4 then 0 else if d = 5 then -1 else if d = 6 then -1 else -1

set_option maxRecDepth 100000 in
set_option maxHeartbeats 3200000 in
theorem step_any (d : Int) (w : World) (h0 : 0 ≤ d) (h : d < 8) :
    Calls Try.prog 68 #[.int .i64 d] w fun e w' => e = .returned (.tuple #[.int .i64 (stepX d), .int .i64 (stepY d)]) ∧ Ext w w' := by
  have hd : d = 0 ∨ d = 1 ∨ d = 2 ∨ d = 3 ∨ d = 4 ∨ d = 5 ∨ d = 6 ∨ d = 7 := by omega
  rcases hd with rfl | rfl | rfl | rfl | rfl | rfl | rfl | rfl
  all_goals
    go_enter Try.func68, Try.ntmps68
    go_wp2
    (try (go_quiet (fail)))
    (try go_wp2)
    go_ret2
    exact ⟨rfl, (by repeat (first | exact Ext.refl _ | assumption | refine Ext.setCell ?_ (by first | (simp; done) | (simp; omega)) _ | refine Ext.drewN ?_ _ | refine Ext.alloc ?_ _ | refine Ext.drew ?_ | refine Ext.trans ?_ (by assumption)))⟩
end Go.Proofs.Ytjfipkccbapajaa
