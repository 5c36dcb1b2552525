/- Contracts: tarnref2.Long, Reach and Place. -/
import Derived.Test.YtjfipkccbapajaaHorA
import Derived.Test.YtjfipkccbapajaaViewA
import Derived.BigQuiet
namespace Go.Proofs.Ytjfipkccbapajaa
open Go.RowKit
attribute [local go_sem ↓] Go.wp_at_zero Go.wp_at_succ

theorem Long_any (d : Int) (w : World) (h0 : 0 ≤ d) (h : d < 8) :
    Calls Try.prog 133 #[.int .i64 d] w fun e w' => e = .returned (.float .f32 (longB d)) ∧ w' = w := by
  have hd : d = 0 ∨ d = 1 ∨ d = 2 ∨ d = 3 ∨ d = 4 ∨ d = 5 ∨ d = 6 ∨ d = 7 := by omega
  rcases hd with rfl | rfl | rfl | rfl | rfl | rfl | rfl | rfl
  all_goals
    go_enter Try.func133, Try.ntmps133
    go_wp2_with (go_at_call 134; refine (root_two _).mono ?_; rintro e w' ⟨rfl, rfl⟩)
    go_ret
    exact ⟨rfl, rfl⟩

theorem reach_first (d : Int) (w : World) (h0 : 0 ≤ d) (h : d < 8) :
    Calls Try.prog 70 #[.int .i64 d, .int .i64 1] w fun e w' => e = .returned (.float .f32 (reachF d 1)) ∧ w' = w := by
  rw [reach_one]
  go_enter Try.func70, Try.ntmps70
  go_wp2_with fail
  refine (Long_any d _ h0 h).mono ?_
  rintro e w' ⟨rfl, rfl⟩
  go_wp2
  go_ret
  exact ⟨rfl, rfl⟩

theorem reach_any (d : Int) (n : Nat) (w : World) (h0 : 0 ≤ d) (h : d < 8) (hn : 0 < n) (hn2 : n ≤ 512) :
    Calls Try.prog 70 #[.int .i64 d, .int .i64 n] w fun e w' => e = .returned (.float .f32 (reachF d n)) ∧ w' = w := by
  by_cases h1 : n = 1
  · subst h1
    exact reach_first d w h0 h
  · by_cases hd : d % 2 = 1
    · have q := fun (w : World) => run_float_arith (P := Try.prog) w .mul 71 .f32 (floatOfInt .f32 n) 1068827891 (reachF d n) (by
        have := (reach_ok (d := d) hn (by omega : n ≤ 600)).1
        unfold longB at this
        rw [if_pos hd] at this
        exact this)
      go_enter Try.func70, Try.ntmps70
      go_wp2_with fail
      refine (root_two _).mono ?_
      rintro e w' ⟨rfl, rfl⟩
      go_wp2
      go_ret
      exact ⟨rfl, rfl⟩
    · have hr := hidA (reach_even (d := d) (n := n) hd (by omega))
      go_enter Try.func70, Try.ntmps70
      go_wp2
      go_ret
      exact ⟨by rw [hr.out]; rfl, rfl⟩

set_option maxRecDepth 100000 in
set_option maxHeartbeats 1600000 in
theorem Place_any (X Y W H : Int) (k : Nat) (w : World) (hr : RegOk X Y W H) (hk : k ≤ 65536) :
    Calls Try.prog 66 #[.agg #[.int .i64 X, .int .i64 Y, .int .i64 W, .int .i64 H], .int .i64 k] w fun e w' => e = .returned (.tuple #[.int .i64 (placeK X Y W k).1, .int .i64 (placeK X Y W k).2]) ∧ Ext w w' := by
  unfold RegOk at hr
  obtain ⟨r1, r2, r3, r4, r5, r6, r7, r8⟩ := hr
  obtain ⟨Wn, rfl⟩ := Int.eq_ofNat_of_zero_le (show 0 ≤ W by omega)
  obtain ⟨y1, y2, z6, _, _⟩ := place_facts (k := k) (Wn := Wn) (X := X) (Y := Y) hk (by omega) (by omega) (by omega) (by omega) (by omega) (by omega)
  go_enter Try.func66, Try.ntmps66
  go_wp2
  go_quiet (fail)
  go_wp2
  go_ret2
  exact ⟨by simp [placeK], (by repeat (first | exact Ext.refl _ | assumption | refine Ext.setCell ?_ (by first | (simp; done) | (simp; omega)) _ | refine Ext.drewN ?_ _ | refine Ext.alloc ?_ _ | refine Ext.drew ?_ | refine Ext.trans ?_ (by assumption)))⟩
end Go.Proofs.Ytjfipkccbapajaa
