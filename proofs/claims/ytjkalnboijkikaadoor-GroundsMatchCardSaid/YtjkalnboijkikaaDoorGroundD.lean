/- Contracts: tarnref2.Place and Neighbour. -/
import Derived.Test.YtjkalnboijkikaaDoorGroundC
import Derived.BigQuiet
namespace Go.Proofs.YtjkalnboijkikaaDoor
open Go.RowKit
attribute [local go_sem ↓] Go.wp_at_zero Go.wp_at_succ

def placeK (X Y W : Int) (k : Nat) : Int × Int := (X + ((k % W.toNat : Nat) : Int), Y + ((k / W.toNat : Nat) : Int))
theorem placeK_in {X Y W H : Int} (hr : RegOk X Y W H) {k n : Nat} (hn : (n : Int) = W * H) (hk : k < n) : InR X Y W H (placeK X Y W k).1 (placeK X Y W k).2 := by
  unfold RegOk at hr
  obtain ⟨Wn, rfl⟩ := Int.eq_ofNat_of_zero_le (show 0 ≤ W by omega)
  obtain ⟨Hn, rfl⟩ := Int.eq_ofNat_of_zero_le (show 0 ≤ H by omega)
  have h1 : k % Wn < Wn := Nat.mod_lt _ (by omega)
  have hn' : n = Wn * Hn := by rw [← Int.natCast_mul] at hn; exact Int.ofNat.inj hn
  have h2 : k / Wn < Hn := Nat.div_lt_of_lt_mul (by rw [← hn']; exact hk)
  unfold InR placeK
  simp only [Int.toNat_natCast]
  generalize k % Wn = g at *
  generalize k / Wn = h at *
  omega

theorem place_facts {k Wn : Nat} {X Y : Int} (hk : k ≤ 65536) (h1 : 1 ≤ Wn) (h2 : Wn ≤ 512) (hX1 : -4194304 ≤ X) (hX2 : X ≤ 4194304) (hY1 : -4194304 ≤ Y) (hY2 : Y ≤ 4194304) :
    wrap64 ((k : Int) / (Wn : Int)) = (k : Int) / (Wn : Int) ∧ wrap64 (Y + (k : Int) / (Wn : Int)) = Y + (k : Int) / (Wn : Int) ∧ IntKind.i64.wrap (X + (k : Int) % (Wn : Int)) = X + (k : Int) % (Wn : Int) ∧
      (-8388608 ≤ X + (k : Int) % (Wn : Int) ∧ X + (k : Int) % (Wn : Int) ≤ 8388608) ∧ (-8388608 ≤ Y + (k : Int) / (Wn : Int) ∧ Y + (k : Int) / (Wn : Int) ≤ 8388608) := by
  have a1 : 0 ≤ (k : Int) % (Wn : Int) := Int.emod_nonneg _ (by omega)
  have a2 : (k : Int) % (Wn : Int) < Wn := Int.emod_lt_of_pos _ (by omega)
  have a3 : 0 ≤ (k : Int) / (Wn : Int) := Int.ediv_nonneg (by omega) (by omega)
  have a4 : (k : Int) / (Wn : Int) ≤ k := Int.ediv_le_self _ (by omega)
  generalize (k : Int) % (Wn : Int) = a at *
  generalize (k : Int) / (Wn : Int) = b at *
  refine ⟨by unfold wrap64; omega, by unfold wrap64; omega, IntWalk.i64_in _ (by omega), by omega, by omega⟩

set_option maxRecDepth 100000 in
set_option maxHeartbeats 1600000 in
theorem Place_any (X Y W H : Int) (k : Nat) (w : World) (hr : RegOk X Y W H) (hk : k ≤ 65536) :
    Calls Tryd.prog 65 #[.agg #[.int .i64 X, .int .i64 Y, .int .i64 W, .int .i64 H], .int .i64 k] w fun e w' => e = .returned (.tuple #[.int .i64 (placeK X Y W k).1, .int .i64 (placeK X Y W k).2]) ∧ Ext w w' := by
  unfold RegOk at hr
  obtain ⟨r1, r2, r3, r4, r5, r6, r7, r8⟩ := hr
  obtain ⟨Wn, rfl⟩ := Int.eq_ofNat_of_zero_le (show 0 ≤ W by omega)
  obtain ⟨y1, y2, z6, _, _⟩ := place_facts (k := k) (Wn := Wn) (X := X) (Y := Y) hk (by omega) (by omega) (by omega) (by omega) (by omega) (by omega)
  go_enter Tryd.func65, Tryd.ntmps65
  go_wp2
  go_quiet (fail)
  go_wp2
  go_ret2
  exact ⟨by simp [placeK], (by repeat (first | exact Ext.refl _ | assumption | refine Ext.setCell ?_ (by first | (simp; done) | (simp; omega)) _ | refine Ext.drewN ?_ _ | refine Ext.alloc ?_ _ | refine Ext.drew ?_ | refine Ext.trans ?_ (by assumption)))⟩

theorem cell_place {X Y W : Int} (hW : 1 ≤ W) (k : Nat) : cellN X Y W (placeK X Y W k).1 (placeK X Y W k).2 = k := by
  obtain ⟨Wn, rfl⟩ := Int.eq_ofNat_of_zero_le (show 0 ≤ W by omega)
  unfold cellN placeK
  simp only [Int.toNat_natCast]
  have h1 := Nat.div_add_mod k Wn
  have h2 : ((Wn * (k / Wn) + k % Wn : Nat) : Int) = (k : Int) := by rw [h1]
  rw [Int.natCast_add, Int.natCast_mul] at h2
  rw [show Y + ((k / Wn : Nat) : Int) - Y = ((k / Wn : Nat) : Int) by omega, Int.mul_comm]
  generalize (Wn : Int) * ((k / Wn : Nat) : Int) = a at *
  omega

theorem hasAt (X Y W H x y : Int) (b : Bool) (w : World) (h : hasB X Y W H x y = b) :
    Calls Tryd.prog 23 #[.agg #[.int .i64 X, .int .i64 Y, .int .i64 W, .int .i64 H], .int .i64 x, .int .i64 y] w fun e w' => e = .returned (.bool b) ∧ Ext w w' :=
  h ▸ has_any X Y W H x y w
def nbE (X Y W H x y d : Int) : Int := if InR X Y W H (nbOf x y d).1 (nbOf x y d).2 then cellN X Y W (nbOf x y d).1 (nbOf x y d).2 else -1
set_option maxRecDepth 100000 in
set_option maxHeartbeats 3200000 in
theorem neighbour_any (X Y W H d x y : Int) (k n : Nat) (w : World) (hxy : placeK X Y W k = (x, y)) (hr : RegOk X Y W H) (hnw : (n : Int) = W * H) (hk : k < n) (hn : n ≤ 65536) (h0 : 0 ≤ d) (h8 : d < 8) :
    Calls Tryd.prog 55 #[.agg #[.int .i64 X, .int .i64 Y, .int .i64 W, .int .i64 H], .int .i64 k, .int .i64 d] w fun e w' =>
      e = .returned (.int .i64 (nbE X Y W H x y d)) ∧ Ext w w' := by
  have hi := placeK_in hr hnw hk
  rw [hxy] at hi
  have Hr := hidA hr
  have Hxy := hidA hxy
  have hpb : -4194304 ≤ x ∧ x ≤ 4194304 ∧ -4194304 ≤ y ∧ y ≤ 4194304 := by
    unfold RegOk at hr
    unfold InR at hi
    omega
  clear hr hnw hi hxy
  go_enter Tryd.func55, Tryd.ntmps55
  go_wp2_with fail
  refine (Place_any X Y W H k _ Hr.out (by omega)).mono ?_
  rw [Hxy.out]
  rintro e w1 ⟨rfl, hb1⟩
  obtain ⟨hp1, hp2, hp3, hp4⟩ := hpb
  have hB : Bk w1 w.heap.size 44 #[.int .i64 X, .int .i64 Y, .int .i64 W, .int .i64 H] := (Bk.new _ _ _).ext hb1
  go_wp2_with fail
  refine (step_any d _ h0 h8).mono ?_
  rintro e w2 ⟨rfl, hb2⟩
  obtain ⟨t1, t2, t3, t4⟩ := step_bd d
  have hB2 := hB.ext hb2
  have d0 := hB2.cell 0
  have d1 := hB2.cell 1
  have d2 := hB2.cell 2
  have d3 := hB2.cell 3
  have z1 : wrap64 (x + stepX d) = x + stepX d := by unfold wrap64; omega
  have z2 : wrap64 (y + stepY d) = y + stepY d := by unfold wrap64; omega
  go_wp2_with fail
  by_cases hib : InR X Y W H (nbOf x y d).1 (nbOf x y d).2
  · have hq : hasB X Y W H (x + stepX d) (y + stepY d) = true := by
      rw [hasB_ok Hr.out]
      simpa [nbOf] using hib
    have HN : Hid (nbE X Y W H x y d = cellN X Y W (nbOf x y d).1 (nbOf x y d).2) := if_pos hib
    have Hib := hidA hib
    clear hib
    refine (hasAt X Y W H _ _ true _ hq).mono ?_
    rintro e w3 ⟨rfl, hb3⟩
    have hB3 := hB2.ext hb3
    clear d0 d1 d2 d3 hq
    have e0 := hB3.cell 0
    have e1 := hB3.cell 1
    have e2 := hB3.cell 2
    have e3 := hB3.cell 3
    go_wp2_with (go_at_call 25; refine (cell_any X Y W H _ _ _ Hr.out Hib.out).mono ?_; rintro e w4 ⟨rfl, hb4⟩)
    go_ret
    exact ⟨ret_i HN.out.symm, (by repeat (first | exact Ext.refl _ | assumption | refine Ext.setCell ?_ (by first | (simp; done) | (simp; omega)) _ | refine Ext.drewN ?_ _ | refine Ext.alloc ?_ _ | refine Ext.drew ?_ | refine Ext.trans ?_ (by assumption)))⟩
  · have hq : hasB X Y W H (x + stepX d) (y + stepY d) = false := by
      rw [hasB_ok Hr.out]
      simpa [nbOf] using hib
    have HN : Hid (nbE X Y W H x y d = -1) := if_neg hib
    clear hib
    refine (hasAt X Y W H _ _ false _ hq).mono ?_
    rintro e w3 ⟨rfl, hb3⟩
    clear d0 d1 d2 d3 hq
    go_wp2
    go_ret
    exact ⟨ret_i HN.out.symm, (by repeat (first | exact Ext.refl _ | assumption | refine Ext.setCell ?_ (by first | (simp; done) | (simp; omega)) _ | refine Ext.drewN ?_ _ | refine Ext.alloc ?_ _ | refine Ext.drew ?_ | refine Ext.trans ?_ (by assumption)))⟩
end Go.Proofs.YtjkalnboijkikaaDoor
