/- Contract: plant.lights. -/
import Derived.Test.YtgaonoklbihkjaaDoorFireA
import Derived.Test.YtgaonoklbihkjaaDoorCrowdB
import Derived.BigRegion
import Derived.BigQuiet
namespace Go.Proofs.YtgaonoklbihkjaaDoor
open Go.RowKit
attribute [local go_sem ↓] Go.wp_at_zero Go.wp_at_succ
attribute [local go_sem] run_store_float

def downB (a b : PlantR) (wind : Int) : Bool := decide (0 ≤ wind) && decide (0 < (b.x - a.x) * stepX wind + (b.y - a.y) * stepY wind)
def radE (sa sb : Int) (a b : PlantR) (wind : Int) : Int := sa + sb + 1 + (if downB a b wind = true then 2 else 0)
def edgeB (sa sb : Int) (a b : PlantR) (wind : Int) : Bool := decide ((sqD a b : Int) ≤ radE sa sb a b wind * radE sa sb a b wind)
theorem stepX_in (d : Int) : stepX d = -1 ∨ stepX d = 0 ∨ stepX d = 1 := by
  unfold stepX
  repeat (split; · simp)
  simp
theorem stepY_in (d : Int) : stepY d = -1 ∨ stepY d = 0 ∨ stepY d = 1 := by
  unfold stepY
  repeat (split; · simp)
  simp
theorem mul_in {u t : Int} (ht : t = -1 ∨ t = 0 ∨ t = 1) (hu : -8388608 ≤ u ∧ u ≤ 8388608) : -8388608 ≤ u * t ∧ u * t ≤ 8388608 := by
  rcases ht with rfl | rfl | rfl <;> omega
theorem far_sub {a b : PlantR} (ha : a.farB = false) (hb : b.farB = false) : (-8388608 ≤ b.x - a.x ∧ b.x - a.x ≤ 8388608) ∧ (-8388608 ≤ b.y - a.y ∧ b.y - a.y ≤ 8388608) := by
  obtain ⟨u1, u2, u3, u4⟩ := far_no ha
  obtain ⟨v1, v2, v3, v4⟩ := far_no hb
  omega
theorem rad_in {sa sb : Int} (ha : 0 ≤ sa ∧ sa ≤ 32) (hb : 0 ≤ sb ∧ sb ≤ 32) (a b : PlantR) (wind : Int) : 1 ≤ radE sa sb a b wind ∧ radE sa sb a b wind ≤ 67 := by
  unfold radE
  split <;> omega

theorem cell_ext {w w' : World} {a : Addr} {v : Value} (h : w.cell? a = some v) (hx : Ext w w') : w'.cell? a = some v := by
  have hb : a.block < w.heap.size := by
    by_cases hb : a.block < w.heap.size
    · exact hb
    · simp [World.cell?, Array.getElem?_eq_none (Nat.le_of_not_lt hb)] at h
  rw [hx.cell a hb]
  exact h

set_option maxRecDepth 100000 in
set_option maxHeartbeats 3200000 in
theorem lights_any (A : Option Addr) (n c : Nat) (l : List KindR) (a b : PlantR) (ia ib : Nat) (wind : Int) (w : World) (hn : l.length = n) (hd : Rd w A (kcells l)) (hia : ia < l.length) (hib : ib < l.length) (hka : a.kind = ia) (hkb : b.kind = ib) (hsa : 0 ≤ l[ia].p ∧ l[ia].p ≤ 32) (hsb : 0 ≤ l[ib].p ∧ l[ib].p ≤ 32) (ha : a.farB = false) (hb : b.farB = false) (hw : -1 ≤ wind ∧ wind < 8) :
    Calls Tryd.prog 50 #[.slice A n c, a.v, b.v, .int .i64 wind] w fun e w' => e = .returned (.bool (edgeB l[ia].p l[ib].p a b wind)) ∧ Ext w w' := by
  have HQ := fun (w : World) => hidA (square_any a b w ha hb)
  have hsub := far_sub ha hb
  have m1 := mul_in (stepX_in wind) hsub.1
  have m2 := mul_in (stepY_in wind) hsub.2
  have hq : sqD a b < 1152921504606846976 := (sq_int ha hb).2.1
  have HT := fun (w : World) (h : 0 ≤ wind) => hidA (toward_any wind w h hw.2)
  obtain ⟨ak, rfl, hka2, _⟩ := hd.at (k := ia) (by rw [kcells_length]; omega)
  have g1 := hd.space hia
  have g2 := hd.space hib
  have a0 : (0 : Int) ≤ ia := by omega
  have a1 : (ia : Int) < n := by omega
  have b0 : (0 : Int) ≤ ib := by omega
  have b1 : (ib : Int) < n := by omega
  have hR := rad_in hsa hsb a b wind
  have HE : Hid (edgeB l[ia].p l[ib].p a b wind = decide ((sqD a b : Int) ≤ radE l[ia].p l[ib].p a b wind * radE l[ia].p l[ib].p a b wind)) := rfl
  have HD : Hid (radE l[ia].p l[ib].p a b wind = l[ia].p + l[ib].p + 1 + (if downB a b wind = true then 2 else 0)) := rfl
  have HB : Hid (downB a b wind = (decide (0 ≤ wind) && decide (0 < (b.x - a.x) * stepX wind + (b.y - a.y) * stepY wind))) := rfl
  generalize edgeB l[ia].p l[ib].p a b wind = eb at *
  generalize radE l[ia].p l[ib].p a b wind = rr at *
  generalize downB a b wind = db at *
  generalize l[ia].p = sa at *
  generalize l[ib].p = sb at *
  generalize sqD a b = q at *
  clear hd hia hib ha hb hn hka2
  obtain ⟨k1, x1, y1, s1, o1⟩ := a
  obtain ⟨k2, x2, y2, s2, o2⟩ := b
  simp only [PlantR.v] at *
  subst hka
  subst hkb
  obtain ⟨R2, hR2⟩ : ∃ R2 : Int, R2 = rr * rr := ⟨_, rfl⟩
  have hR2b : 0 ≤ R2 ∧ R2 ≤ 4489 := by
    rw [hR2]
    obtain ⟨k, hk⟩ : ∃ k : Nat, rr = (k : Int) := ⟨rr.toNat, by omega⟩
    subst hk
    have : k * k ≤ 67 * 67 := Nat.mul_le_mul (by omega) (by omega)
    rw [← Int.natCast_mul]
    omega
  have W4 : wrap64 (rr * rr) = R2 := by rw [← hR2]; exact IntWalk.wrap64_in _ ⟨by omega, by omega⟩
  rw [← hR2] at HE
  have V1 : wrap64 (x2 - x1) = x2 - x1 := IntWalk.wrap64_in _ ⟨by omega, by omega⟩
  have V2 : wrap64 (y2 - y1) = y2 - y1 := IntWalk.wrap64_in _ ⟨by omega, by omega⟩
  go_enter Tryd.func50, Tryd.ntmps50
  go_wp2_with fail
  obtain ⟨w2, hw2⟩ : ∃ w2, w2 = (w.alloc (.cells #[.int .i64 ia, .int .i64 x1, .int .i64 y1, .float .f32 s1, .int .i64 o1] 46)).alloc (.cells #[.int .i64 ib, .int .i64 x2, .int .i64 y2, .float .f32 s2, .int .i64 o2] 46) := ⟨_, rfl⟩
  rw [← hw2]
  have hA : Bk w2 w.heap.size 46 #[.int .i64 ia, .int .i64 x1, .int .i64 y1, .float .f32 s1, .int .i64 o1] := by rw [hw2]; exact (Bk.new' rfl).alloc _
  have hB : Bk w2 (w.heap.size + 1) 46 #[.int .i64 ib, .int .i64 x2, .int .i64 y2, .float .f32 s2, .int .i64 o2] := by rw [hw2]; exact Bk.new' (by simp)
  have hx2 : Ext w w2 := by rw [hw2]; exact ((Ext.refl w).alloc _).alloc _
  have g1' := (cell_ext g1 hx2)
  have g2' := (cell_ext g2 hx2)
  clear hw2 g1 g2
  have c0 := hA.cell 0
  have d0 := hB.cell 0
  go_quiet (fail)
  obtain ⟨w3, hw3⟩ : ∃ w3, w3 = w2.drewN nq := ⟨_, rfl⟩
  rw [← hw3]
  have hA3 : Bk w3 w.heap.size 46 #[.int .i64 ia, .int .i64 x1, .int .i64 y1, .float .f32 s1, .int .i64 o1] := by rw [hw3]; exact hA
  have hB3 : Bk w3 (w.heap.size + 1) 46 #[.int .i64 ib, .int .i64 x2, .int .i64 y2, .float .f32 s2, .int .i64 o2] := by rw [hw3]; exact hB
  have hx3 : Ext w w3 := by rw [hw3]; exact hx2.drewN nq
  clear hw3 c0 d0 g1' g2' hA hB hx2 w2
  by_cases hwn : wind = -1
  · have e1 : (wind != -1) = false := by simp [hwn]
    have hdb : db = false := by rw [HB.out]; simp [hwn]
    subst hdb
    obtain rfl : rr = sa + sb + 1 := by have := HD.out; simpa using this
    clear HD HB HT m1 m2 hwn hR2
    have c0 := hA3.cell 0
    have c1 := hA3.cell 1
    have c2 := hA3.cell 2
    have c3 := hA3.cell 3
    have c4 := hA3.cell 4
    have d0 := hB3.cell 0
    have d1 := hB3.cell 1
    have d2 := hB3.cell 2
    have d3 := hB3.cell 3
    have d4 := hB3.cell 4
    go_wp2_with fail
    refine ((HQ _).out).mono ?_
    rintro e w5 ⟨rfl, hb5⟩
    go_wp2_with fail
    go_ret
    exact ⟨ret_b (by rw [HE.out]), (by repeat (first | exact Ext.refl _ | assumption | refine Ext.setCell ?_ (by first | (simp; done) | (simp; omega)) _ | refine Ext.drewN ?_ _ | refine Ext.alloc ?_ _ | refine Ext.drew ?_ | refine Ext.trans ?_ (by assumption)))⟩
  · have e1 : (wind != -1) = true := by simp [hwn]
    have hw0 : 0 ≤ wind := by omega
    have HT2 := fun (w : World) => HT w hw0
    have HB2 : Hid (db = decide (0 < (x2 - x1) * stepX wind + (y2 - y1) * stepY wind)) := by show _ = _; rw [HB.out, decide_eq_true hw0]; rfl
    clear HT HB hwn
    generalize stepX wind = tx at *
    generalize stepY wind = ty at *
    go_wp2_with fail
    refine ((HT2 _).out).mono ?_
    rintro e w4 ⟨rfl, hb4⟩
    obtain ⟨w5, hw5⟩ : ∃ w5, w5 = w4.alloc (.cells #[.int .i64 tx, .int .i64 ty] 36) := ⟨_, rfl⟩
    go_upto_region 4 with fail
    rw [← hw5]
    have hA3 := (hA3.ext hb4).alloc (.cells #[.int .i64 tx, .int .i64 ty] 36)
    have hB3 := (hB3.ext hb4).alloc (.cells #[.int .i64 tx, .int .i64 ty] 36)
    have hP : Bk w5 w4.heap.size 36 #[.int .i64 tx, .int .i64 ty] := by rw [hw5]; exact Bk.new' rfl
    have hx5 : Ext w w5 := by rw [hw5]; exact (hx3.trans hb4).alloc _
    rw [← hw5] at hA3 hB3
    clear hw5 hx3 hb4 HT2
    generalize hP1 : (x2 - x1) * tx = p1 at *
    generalize hP2 : (y2 - y1) * ty = p2 at *
    have p0 := hP.cell 0
    have p1' := hP.cell 1
    have c0 := hA3.cell 0
    have c1 := hA3.cell 1
    have c2 := hA3.cell 2
    have c3 := hA3.cell 3
    have c4 := hA3.cell 4
    have d0 := hB3.cell 0
    have d1 := hB3.cell 1
    have d2 := hB3.cell 2
    have d3 := hB3.cell 3
    have d4 := hB3.cell 4
    by_cases hp : 0 < p1 + p2
    · have hdb : db = true := by rw [HB2.out]; exact decide_eq_true hp
      subst hdb
      obtain rfl : rr = sa + sb + 1 + 2 := by have := HD.out; simpa using this
      clear HD HB2 hR2
      go_wp2_with fail
      refine ((HQ _).out).mono ?_
      rintro e w5 ⟨rfl, hb5⟩
      go_wp2_with fail
      go_ret
      exact ⟨ret_b (by rw [HE.out]), (by repeat (first | exact Ext.refl _ | assumption | refine Ext.setCell ?_ (by first | (simp; done) | (simp; omega)) _ | refine Ext.drewN ?_ _ | refine Ext.alloc ?_ _ | refine Ext.drew ?_ | refine Ext.trans ?_ (by assumption)))⟩
    · have hdb : db = false := by rw [HB2.out]; exact decide_eq_false hp
      subst hdb
      obtain rfl : rr = sa + sb + 1 := by have := HD.out; simpa using this
      clear HD HB2 hR2
      go_wp2_with fail
      refine ((HQ _).out).mono ?_
      rintro e w5 ⟨rfl, hb5⟩
      go_wp2_with fail
      go_ret
      exact ⟨ret_b (by rw [HE.out]), (by repeat (first | exact Ext.refl _ | assumption | refine Ext.setCell ?_ (by first | (simp; done) | (simp; omega)) _ | refine Ext.drewN ?_ _ | refine Ext.alloc ?_ _ | refine Ext.drew ?_ | refine Ext.trans ?_ (by assumption)))⟩
end Go.Proofs.YtgaonoklbihkjaaDoor
