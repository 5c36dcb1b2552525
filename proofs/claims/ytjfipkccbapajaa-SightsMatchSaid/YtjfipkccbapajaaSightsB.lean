/- Contract: level.Sees. -/
import Derived.Test.YtjfipkccbapajaaSightsA
namespace Go.Proofs.Ytjfipkccbapajaa
open Go.RowKit
attribute [local go_sem ↓] Go.wp_at_zero Go.wp_at_succ

theorem sight_zero {X Y W H : Int} {l : List Nat} {eye : Nat} {pts : List (Int × Int)} (h : sightE X Y W H l eye pts = 0) : fieldE X Y W H l = 0 ∧ numE [eye] = 0 ∧ negB eye = false ∧ insE X Y W H pts = 0 := by
  unfold sightE at h
  split at h
  · contradiction
  · split at h
    · contradiction
    · split at h
      · omega
      · rename_i h1 h2 h3
        exact ⟨by omega, by omega, by simpa using h3, h⟩
theorem ins_zero {X Y W H : Int} : ∀ {l : List (Int × Int)}, insE X Y W H l = 0 → ∀ p ∈ l, InR X Y W H p.1 p.2
  | [], _ => by simp
  | p :: r, h => by
    unfold insE at h
    split at h
    · rename_i hp
      intro q hq
      rcases List.mem_cons.1 hq with rfl | hq
      · exact hp
      · exact ins_zero h q hq
    · omega

/-- whether the ground at b is seen from a -/
def seesV (X Y W : Int) (l : List Nat) (ax ay bx by' : Int) (eye : Nat) : Bool :=
  seesB X Y W l ax ay bx by' (fadd (valAt X Y W l (ax, ay)) eye) (valAt X Y W l (bx, by')) (stepsZ ax ay bx by').toNat
theorem steps_in {X Y W H ax ay bx by' : Int} (hr : RegOk X Y W H) (ha : InR X Y W H ax ay) (hb : InR X Y W H bx by') : stepsZ ax ay bx by' = ((stepsZ ax ay bx by').toNat : Nat) ∧ (stepsZ ax ay bx by').toNat ≤ 511 := by
  unfold RegOk at hr
  unfold InR at ha hb
  unfold stepsZ max4
  omega

set_option maxRecDepth 100000 in
set_option maxHeartbeats 1600000 in
theorem Sees_bad (X Y W H ax ay bx by' : Int) (A : Option Addr) (n c eye : Nat) (l : List Nat) (w : World) (hn : l.length = n) (hd : Rd w A (flt l)) (hb : n ≤ 140737488351232) (hs : sightE X Y W H l eye [(ax, ay), (bx, by')] ≠ 0) :
    Calls Try.prog 62 #[.agg #[.int .i64 X, .int .i64 Y, .int .i64 W, .int .i64 H, .slice A n c], .agg #[.int .i64 ax, .int .i64 ay], .agg #[.int .i64 bx, .int .i64 by'], .float .f32 eye] w fun e w' =>
      e = .returned (.tuple #[.bool false, .int .i64 (sightE X Y W H l eye [(ax, ay), (bx, by')])]) ∧ Ext w w' := by
  have b0 : (sightE X Y W H l eye [(ax, ay), (bx, by')] != 0) = true := by simpa using hs
  clear hs
  go_enter Try.func62, Try.ntmps62
  go_wp2_with fail
  refine (checkSight_any X Y W H A _ n c 2 2 eye l [(ax, ay), (bx, by')] _ hn ((((hd.alloc _).alloc _).alloc _).alloc _) hb rfl (Rd.new (by simp) rfl) (by omega)).mono ?_
  rintro e w1 ⟨rfl, hb1⟩
  clear hn hd
  go_wp2
  go_ret2
  exact ⟨rfl, (by repeat (first | exact Ext.refl _ | assumption | refine Ext.setCell ?_ (by first | (simp; done) | (simp; omega)) _ | refine Ext.drewN ?_ _ | refine Ext.alloc ?_ _ | refine Ext.drew ?_ | refine Ext.trans ?_ (by assumption)))⟩

set_option maxRecDepth 100000 in
set_option maxHeartbeats 1600000 in
theorem Sees_ok (X Y W H ax ay bx by' : Int) (A : Option Addr) (n c eye : Nat) (l : List Nat) (w : World) (hn : l.length = n) (hd : Rd w A (flt l)) (hs : sightE X Y W H l eye [(ax, ay), (bx, by')] = 0) :
    Calls Try.prog 62 #[.agg #[.int .i64 X, .int .i64 Y, .int .i64 W, .int .i64 H, .slice A n c], .agg #[.int .i64 ax, .int .i64 ay], .agg #[.int .i64 bx, .int .i64 by'], .float .f32 eye] w fun e w' =>
      e = .returned (.tuple #[.bool (seesV X Y W l ax ay bx by' eye), .int .i64 0]) ∧ Ext w w' := by
  obtain ⟨f1, f2, f3, f4⟩ := sight_zero hs
  obtain ⟨g1, g2, g3⟩ := fieldE_parts f1
  have hr := RegOk.of_zero g1
  have hia : InR X Y W H ax ay := ins_zero f4 (ax, ay) (by simp)
  have hib : InR X Y W H bx by' := ins_zero f4 (bx, by') (by simp)
  have hst := steps_in hr hia hib
  have hhl := (numE_zero g3).2
  have hhe := (numE_zero f2).2 eye (by simp)
  have hb : n ≤ 140737488351232 := by
    have := (regE_zero g1).2.2.2.2.1
    omega
  have hnw : (n : Int) = W * H := by rw [← hn]; exact g2
  have b0 := hidA hs
  have Hn := hidA hn
  have HC := fun (w' : World) (h : Rd w' A (flt l)) => hidA (sees_any X Y W H ax ay bx by' A n c _ eye l w' hn hnw h hr hia hib hst.1 (by omega) hhl hhe)
  clear hs f1 f2 f3 f4 g1 g2 g3 hr hia hib hst hhl hhe hnw hn
  go_enter Try.func62, Try.ntmps62
  go_wp2_with fail
  refine (checkSight_any X Y W H A _ n c 2 2 eye l [(ax, ay), (bx, by')] _ Hn.out ((((hd.alloc _).alloc _).alloc _).alloc _) hb rfl (Rd.new (by simp) rfl) (by omega)).mono ?_
  rw [b0.out]
  rintro e w1 ⟨rfl, hb1⟩
  have hB0 : Bk w1 w.heap.size 48 #[.int .i64 X, .int .i64 Y, .int .i64 W, .int .i64 H, .slice A n c] := ((((Bk.new' rfl).alloc _).alloc _).alloc _).ext hb1
  have hB1 : Bk w1 (w.heap.size + 1) 31 #[.int .i64 ax, .int .i64 ay] := (((Bk.new' (by simp)).alloc _).alloc _).ext hb1
  have hB2 : Bk w1 (w.heap.size + 1 + 1) 31 #[.int .i64 bx, .int .i64 by'] := ((Bk.new' (by simp)).alloc _).ext hb1
  have hd2 := ((((hd.alloc _).alloc _).alloc _).alloc _).ext hb1
  have d0 := hB0.cell 0
  have d1 := hB0.cell 1
  have d2 := hB0.cell 2
  have d3 := hB0.cell 3
  have d4 := hB0.cell 4
  have d5 := hB1.cell 0
  have d6 := hB1.cell 1
  have d7 := hB2.cell 0
  have d8 := hB2.cell 1
  clear hd
  go_wp2_with fail
  refine ((HC _ hd2).out).mono ?_
  rintro e w2 ⟨rfl, hb2⟩
  clear hd2 HC
  go_wp2
  go_ret2
  exact ⟨rfl, (by repeat (first | exact Ext.refl _ | assumption | refine Ext.setCell ?_ (by first | (simp; done) | (simp; omega)) _ | refine Ext.drewN ?_ _ | refine Ext.alloc ?_ _ | refine Ext.drew ?_ | refine Ext.trans ?_ (by assumption)))⟩
end Go.Proofs.Ytjfipkccbapajaa
