/- Contracts: level.Horizon, where it refuses. -/
import Derived.Test.YtjfipkccbapajaaHorB
import Derived.Handy
namespace Go.Proofs.Ytjfipkccbapajaa
open Go.RowKit
attribute [local go_sem ↓] Go.wp_at_zero Go.wp_at_succ

set_option maxRecDepth 100000 in
set_option maxHeartbeats 1600000 in
theorem Horizon_bad (X Y W H ax ay dir : Int) (A : Option Addr) (n c eye : Nat) (l : List Nat) (w : World) (hn : l.length = n) (hd : Rd w A (flt l)) (hb : n ≤ 140737488351232) (hs : sightE X Y W H l eye [(ax, ay)] ≠ 0) :
    Calls Try.prog 64 #[.agg #[.int .i64 X, .int .i64 Y, .int .i64 W, .int .i64 H, .slice A n c], .agg #[.int .i64 ax, .int .i64 ay], .float .f32 eye, .int .i64 dir] w fun e w' =>
      e = .returned (.tuple #[.float .f32 0, .bool false, .int .i64 (sightE X Y W H l eye [(ax, ay)])]) ∧ Ext w w' := by
  have b0 : (sightE X Y W H l eye [(ax, ay)] != 0) = true := by simpa using hs
  clear hs
  go_enter Try.func64, Try.ntmps64
  go_wp2_with fail
  refine (checkSight_any X Y W H A _ n c 1 1 eye l [(ax, ay)] _ hn (((hd.alloc _).alloc _).alloc _) hb rfl (Rd.new (by simp) rfl) (by omega)).mono ?_
  rintro e w1 ⟨rfl, hb1⟩
  clear hn hd
  go_wp2
  go_ret3
  exact ⟨rfl, (by repeat (first | exact Ext.refl _ | assumption | refine Ext.setCell ?_ (by first | (simp; done) | (simp; omega)) _ | refine Ext.drewN ?_ _ | refine Ext.alloc ?_ _ | refine Ext.drew ?_ | refine Ext.trans ?_ (by assumption)))⟩

set_option maxRecDepth 100000 in
set_option maxHeartbeats 1600000 in
theorem Horizon_dir (X Y W H ax ay dir : Int) (A : Option Addr) (n c eye : Nat) (l : List Nat) (w : World) (hn : l.length = n) (hd : Rd w A (flt l)) (hb : n ≤ 140737488351232) (hs : sightE X Y W H l eye [(ax, ay)] = 0) (hf : ¬ (0 ≤ dir ∧ dir ≤ 7)) :
    Calls Try.prog 64 #[.agg #[.int .i64 X, .int .i64 Y, .int .i64 W, .int .i64 H, .slice A n c], .agg #[.int .i64 ax, .int .i64 ay], .float .f32 eye, .int .i64 dir] w fun e w' =>
      e = .returned (.tuple #[.float .f32 0, .bool false, .int .i64 3]) ∧ Ext w w' := by
  have b0 := hidA hs
  clear hs
  rcases (by omega : dir < 0 ∨ (0 ≤ dir ∧ 8 ≤ dir)) with h | h
  all_goals
    clear hf
    go_enter Try.func64, Try.ntmps64
    go_wp2_with fail
    refine (checkSight_any X Y W H A _ n c 1 1 eye l [(ax, ay)] _ hn (((hd.alloc _).alloc _).alloc _) hb rfl (Rd.new (by simp) rfl) (by omega)).mono ?_
    rw [b0.out]
    rintro e w1 ⟨rfl, hb1⟩
    clear hn hd
    go_wp2
    go_ret3
    exact ⟨rfl, (by repeat (first | exact Ext.refl _ | assumption | refine Ext.setCell ?_ (by first | (simp; done) | (simp; omega)) _ | refine Ext.drewN ?_ _ | refine Ext.alloc ?_ _ | refine Ext.drew ?_ | refine Ext.trans ?_ (by assumption)))⟩
end Go.Proofs.Ytjfipkccbapajaa
