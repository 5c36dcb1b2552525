/- Contract: levels() answers true. -/
import Derived.Test.YtjfipkccbapajaaDownB
namespace Go.Proofs.Ytjfipkccbapajaa
open Go.RowKit

theorem lev_fieldE : fieldE (2 * 0) (2 * 0) (2 * (1 : Nat)) (2 * (1 : Nat)) [1065353216, 1077936128, 1073741824, 1073741824] = 0 := by decide +kernel
theorem lev_q : quarter 1065353216 1077936128 1073741824 1073741824 = some 1073741824 := by decide +kernel
theorem lev_hgt : hgtB 1073741824 = true := by decide +kernel
theorem lev_eq : FloatKind.f32.format.order 1073741824 1073741824 = some .eq := by decide +kernel

theorem lev_down (w : World) (g : Nat) (hr : Rd w (some ⟨g, 0, none⟩) (flt [1065353216, 1077936128, 1073741824, 1073741824])) :
    Calls Try.prog 30 #[.agg #[.int .i64 0, .int .i64 0, .int .i64 2, .int .i64 2, .slice (some ⟨g, 0, none⟩) 4 4]] w fun e w' =>
      ∃ A' c', e = .returned (.tuple #[.agg #[.int .i64 0, .int .i64 0, .int .i64 1, .int .i64 1, .slice A' 1 c'], .int .i64 0]) ∧ Rdb (w.heap.size + 2) w' A' (flt [1073741824]) ∧ Ext w w' := by
  have h := down_ok 0 0 1 1 4 4 (some ⟨g, 0, none⟩) [1065353216, 1077936128, 1073741824, 1073741824] w rfl hr rfl (by omega) lev_fieldE (fun _ => 1073741824)
    (fun j i hj hi => by
      obtain rfl : j = 0 := by omega
      obtain rfl : i = 0 := by omega
      exact lev_q) (fun _ _ => lev_hgt)
  exact h

set_option maxHeartbeats 800000 in
theorem levels_any (w : World) : Calls Try.prog 15 #[] w fun e w' => e = .returned (.bool true) ∧ Ext w w' := by
  have hord := lev_eq
  go_enter Try.func15, Try.ntmps15
  go_wp2_with fail
  refine (lev_down _ _ (Rd.new (by simp) rfl)).mono ?_
  rintro e w1 ⟨A', c', rfl, hr1, hb1⟩
  obtain ⟨ad, rfl, h0, h1, hc⟩ := hr1 (by simp [flt])
  have e0 := hc 0 (.float .f32 1073741824) rfl
  simp only [show ad.add 0 = ad from rfl] at e0
  clear hc hr1
  go_wp2
  go_ret
  exact ⟨rfl, by repeat (first | exact Ext.refl _ | assumption | refine Ext.setCell ?_ (by simp) _ | refine Ext.alloc ?_ _ | refine Ext.drew ?_ | refine Ext.trans ?_ (by assumption))⟩

end Go.Proofs.Ytjfipkccbapajaa
