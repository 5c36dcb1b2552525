/- Contract: the law's result, where the field is that which is wanted, and where it is refused. -/
import Derived.Test.YtinohfgokpbcdaaResP
import Derived.Test.YtinohfgokpbcdaaBitsP
namespace Go.Proofs.Ytinohfgokpbcdaa
open Go.RowKit
attribute [local go_sem ↓] Go.wp_at_zero Go.wp_at_succ

set_option maxHeartbeats 1600000 in
set_option maxRecDepth 100000 in
theorem result_ok (X Y W H : Int) (A B : Option Addr) (n c d : Nat) (l : List Nat) (w : World) (hn : l.length = n) (ha : Rd w A (flt l)) (hb : Rd w B (flt l)) (hnb : n ≤ 4000000000) (hz : numE l = 0) :
    Calls Try.prog 39 #[.agg #[.int .i64 X, .int .i64 Y, .int .i64 W, .int .i64 H, .slice B n d], .int .i64 0, .agg #[.int .i64 X, .int .i64 Y, .int .i64 W, .int .i64 H], .slice A n c] w fun e w' => e = .returned (.bool true) ∧ Ext w w' := by
  have HZ := hidA hz
  clear hz
  go_enter Try.func39, Try.ntmps39
  go_wp2_with fail
  refine (numberError_any A n c l _ hn ((ha.alloc _).alloc _) (by omega)).mono ?_
  rw [HZ.out]
  rintro e w' ⟨rfl, rfl⟩
  go_wp2_with (go_at_call 56; refine (bits_same B A n d c l _ hn ((hb.alloc _).alloc _) ((ha.alloc _).alloc _) hnb).mono ?_; rintro e w2 ⟨rfl, rfl⟩)
  go_ret
  exact ⟨rfl, (by repeat (first | exact Ext.refl _ | assumption | refine Ext.setCell ?_ (by first | (simp; done) | (simp; omega)) _ | refine Ext.drewN ?_ _ | refine Ext.alloc ?_ _ | refine Ext.drew ?_ | refine Ext.trans ?_ (by assumption)))⟩
set_option maxHeartbeats 1600000 in
set_option maxRecDepth 100000 in
theorem result_no (X Y W H : Int) (A : Option Addr) (n c : Nat) (l : List Nat) (w : World) (hn : l.length = n) (ha : Rd w A (flt l)) (hnb : n ≤ 4000000000) (hz : numE l ≠ 0) :
    Calls Try.prog 39 #[.agg #[.int .i64 0, .int .i64 0, .int .i64 0, .int .i64 0, .slice none 0 0], .int .i64 3, .agg #[.int .i64 X, .int .i64 Y, .int .i64 W, .int .i64 H], .slice A n c] w fun e w' => e = .returned (.bool true) ∧ Ext w w' := by
  have HN := fun (w : World) (h : Rd w A (flt l)) => hidA (numberError_any A n c l w hn h (by omega))
  have HZ := fun (w : World) => hidA (empty_zero w)
  have hz' : (numE l != 0) = true := by simpa using hz
  generalize numE l = E at *
  clear hz
  go_enter Try.func39, Try.ntmps39
  go_wp2_with fail
  refine ((HN _ ((ha.alloc _).alloc _)).out).mono ?_
  rintro e w' ⟨rfl, rfl⟩
  go_wp2_with (go_at_call 21; refine ((HZ _).out).mono ?_; rintro e w2 ⟨rfl, hx2⟩)
  go_ret
  exact ⟨rfl, (by repeat (first | exact Ext.refl _ | assumption | refine Ext.setCell ?_ (by first | (simp; done) | (simp; omega)) _ | refine Ext.drewN ?_ _ | refine Ext.alloc ?_ _ | refine Ext.drew ?_ | refine Ext.trans ?_ (by assumption)))⟩
end Go.Proofs.Ytinohfgokpbcdaa
