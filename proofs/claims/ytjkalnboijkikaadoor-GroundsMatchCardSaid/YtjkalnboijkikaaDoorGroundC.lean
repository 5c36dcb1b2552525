/- Contracts: field.Value and plant.Ground. -/
import Derived.Test.YtjkalnboijkikaaDoorGroundB
namespace Go.Proofs.YtjkalnboijkikaaDoor
open Go.RowKit
attribute [local go_sem ↓] Go.wp_at_zero Go.wp_at_succ
attribute [local go_sem] run_store_float

theorem Value_ok (v : Nat) (w : World) (h : hgtB v = true) : Calls Tryd.prog 36 #[.float .f32 v] w fun e w' => e = .returned (.tuple #[.float .f32 v, .int .i64 0]) ∧ w = w' := by
  have HH := fun (w : World) => hidA (height_any v w)
  have Hh := hidA h
  clear h
  go_enter Tryd.func36, Tryd.ntmps36
  go_wp2_with fail
  refine ((HH _).out).mono ?_
  rw [Hh.out]
  rintro e w' ⟨rfl, rfl⟩
  go_wp2
  go_ret2
  exact ⟨rfl, rfl⟩
theorem Value_no (v : Nat) (w : World) (h : hgtB v = false) : Calls Tryd.prog 36 #[.float .f32 v] w fun e w' => e = .returned (.tuple #[.float .f32 0, .int .i64 3]) ∧ w = w' := by
  have HH := fun (w : World) => hidA (height_any v w)
  have Hh := hidA h
  clear h
  go_enter Tryd.func36, Tryd.ntmps36
  go_wp2_with fail
  refine ((HH _).out).mono ?_
  rw [Hh.out]
  rintro e w' ⟨rfl, rfl⟩
  go_wp2
  go_ret2
  exact ⟨rfl, rfl⟩

/-- what plant.Ground answers -/
def grdE (X Y W H : Int) (l : List Nat) (X' Y' W' H' : Int) (l' : List Nat) (x y : Int) : Int :=
  if twoE X Y W H l X' Y' W' H' l' ≠ 0 then twoE X Y W H l X' Y' W' H' l' else if InR X Y W H x y then (if hgtB (slopeK X Y W H l x y 4) = true then 0 else 3) else 5

set_option maxRecDepth 100000 in
set_option maxHeartbeats 3200000 in
theorem Ground_bad (X Y W H X' Y' W' H' x y : Int) (A A' : Option Addr) (n c n' c' : Nat) (l l' : List Nat) (w : World) (hn : l.length = n) (hn' : l'.length = n') (hd : Rd w A (flt l)) (hd' : Rd w A' (flt l')) (hb : n ≤ 140737488351232) (hb' : n' ≤ 140737488351232) (h : twoE X Y W H l X' Y' W' H' l' ≠ 0) :
    Calls Tryd.prog 19 #[.agg #[.int .i64 X, .int .i64 Y, .int .i64 W, .int .i64 H, .slice A n c], .agg #[.int .i64 X', .int .i64 Y', .int .i64 W', .int .i64 H', .slice A' n' c'], .int .i64 x, .int .i64 y] w fun e w' => e = .returned (.tuple #[.agg #[.float .f32 0, .float .f32 0, .float .f32 0], .int .i64 (twoE X Y W H l X' Y' W' H' l')]) ∧ Ext w w' := by
  have b0 : (twoE X Y W H l X' Y' W' H' l' != 0) = true := by simpa using h
  clear h
  go_enter Tryd.func19, Tryd.ntmps19
  go_wp2_with fail
  refine (checkFields_any X Y W H X' Y' W' H' A A' n c n' c' l l' _ hn hn' (((hd.alloc _).alloc _).alloc _) (((hd'.alloc _).alloc _).alloc _) hb hb').mono ?_
  rintro e w1 ⟨rfl, hb1⟩
  have hR : Bk w1 (w.heap.size + 1 + 1) 32 #[.float .f32 0, .float .f32 0, .float .f32 0] := (Bk.new' (by simp)).ext hb1
  have r0 := hR.cell 0
  have r1 := hR.cell 1
  have r2 := hR.cell 2
  have r3 := hR.frozen 0
  have r4 := hR.frozen 1
  have r5 := hR.frozen 2
  clear hn hn' hd hd' hb hb'
  go_wp2
  have hBf : Bk (((w1.setCell ⟨w.heap.size + 1 + 1, 0, none⟩ (.float .f32 0)).setCell ⟨w.heap.size + 1 + 1, 1, none⟩ (.float .f32 0)).setCell ⟨w.heap.size + 1 + 1, 2, none⟩ (.float .f32 0)) (w.heap.size + 1 + 1) 32 #[.float .f32 0, .float .f32 0, .float .f32 0] := by
    simpa using (((hR).set 0 (.float .f32 0)).set 1 (.float .f32 0)).set 2 (.float .f32 0)
  have hBg := hBf
  have q0 := hBg.cell 0
  have q1 := hBg.cell 1
  have q2 := hBg.cell 2
  refine bodyPost_ret (v := .tuple #[.agg #[.float .f32 0, .float .f32 0, .float .f32 0], .int .i64 (twoE X Y W H l X' Y' W' H' l')]) (by simp [results, Tryd.results19, go_sem, q0, q1, q2]) rfl ⟨rfl, ?_⟩
  (repeat (first | exact Ext.refl _ | assumption | refine Ext.setCell ?_ (by first | (simp; done) | (simp; omega)) _ | refine Ext.drewN ?_ _ | refine Ext.alloc ?_ _ | refine Ext.drew ?_ | refine Ext.trans ?_ (by assumption)))
theorem two_zero {X Y W H X' Y' W' H' : Int} {l l' : List Nat} (h : twoE X Y W H l X' Y' W' H' l' = 0) : fieldE X Y W H l = 0 ∧ fieldE X' Y' W' H' l' = 0 := by
  unfold twoE at h
  by_cases h1 : fieldE X Y W H l = 0
  · by_cases h2 : fieldE X' Y' W' H' l' = 0
    · exact ⟨h1, h2⟩
    · simp [firstE, h1, h2] at h
  · simp [firstE, h1] at h

set_option maxRecDepth 100000 in
set_option maxHeartbeats 3200000 in
theorem Ground_out (X Y W H x y : Int) (A A' : Option Addr) (n c n' c' : Nat) (l l' : List Nat) (w : World) (hn : l.length = n) (hn' : l'.length = n') (hd : Rd w A (flt l)) (hd' : Rd w A' (flt l')) (hb : n ≤ 140737488351232) (hb' : n' ≤ 140737488351232) (ht : twoE X Y W H l X Y W H l' = 0) (hi : ¬ InR X Y W H x y) :
    Calls Tryd.prog 19 #[.agg #[.int .i64 X, .int .i64 Y, .int .i64 W, .int .i64 H, .slice A n c], .agg #[.int .i64 X, .int .i64 Y, .int .i64 W, .int .i64 H, .slice A' n' c'], .int .i64 x, .int .i64 y] w fun e w' => e = .returned (.tuple #[.agg #[.float .f32 0, .float .f32 0, .float .f32 0], .int .i64 5]) ∧ Ext w w' := by
  obtain ⟨f1, f2⟩ := two_zero ht
  have hr := RegOk.of_zero (fieldE_parts f1).1
  have Hr := hidA hr
  have Ht := hidA ht
  have HG := fun (w' : World) (hi : InR X Y W H x y) (h1 : Rd w' A (flt l)) (h2 : Rd w' A' (flt l')) => hidA (ground_any X Y W H x y A A' n c n' c' l l' w' hn hn' h1 h2 hr (by rw [← hn]; exact (fieldE_parts f1).2.1) (by rw [← hn']; exact (fieldE_parts f2).2.1) hi (numE_zero (fieldE_parts f1).2.2).2)
  clear f1 f2 hr ht
  go_enter Tryd.func19, Tryd.ntmps19
  go_wp2_with fail
  refine (checkFields_any X Y W H X Y W H A A' n c n' c' l l' _ hn hn' (((hd.alloc _).alloc _).alloc _) (((hd'.alloc _).alloc _).alloc _) hb hb').mono ?_
  rw [Ht.out]
  rintro e w1 ⟨rfl, hb1⟩
  have hF : Bk w1 w.heap.size 47 #[.int .i64 X, .int .i64 Y, .int .i64 W, .int .i64 H, .slice A n c] := (((Bk.new' rfl).alloc _).alloc _).ext hb1
  have hF' : Bk w1 (w.heap.size + 1) 47 #[.int .i64 X, .int .i64 Y, .int .i64 W, .int .i64 H, .slice A' n' c'] := ((Bk.new' (by simp)).alloc _).ext hb1
  have hR1 : Bk w1 (w.heap.size + 1 + 1) 32 #[.float .f32 0, .float .f32 0, .float .f32 0] := (Bk.new' (by simp)).ext hb1
  have hd1 := (((hd.alloc _).alloc _).alloc _).ext hb1
  have hd1' := (((hd'.alloc _).alloc _).alloc _).ext hb1
  have d0 := hF.cell 0
  have d1 := hF.cell 1
  have d2 := hF.cell 2
  have d3 := hF.cell 3
  clear hn hn' hd hd' hb hb'
  go_wp2_with fail
  refine (place_out X Y W H x y _ Hr.out hi).mono ?_
  rintro e w2 ⟨rfl, hb2⟩
  have hR := hR1.ext hb2
  have r0 := hR.cell 0
  have r1 := hR.cell 1
  have r2 := hR.cell 2
  have r3 := hR.frozen 0
  have r4 := hR.frozen 1
  have r5 := hR.frozen 2
  clear d0 d1 d2 d3 HG
  go_wp2
  have hBf : Bk (((w2.setCell ⟨w.heap.size + 1 + 1, 0, none⟩ (.float .f32 0)).setCell ⟨w.heap.size + 1 + 1, 1, none⟩ (.float .f32 0)).setCell ⟨w.heap.size + 1 + 1, 2, none⟩ (.float .f32 0)) (w.heap.size + 1 + 1) 32 #[.float .f32 0, .float .f32 0, .float .f32 0] := by
    simpa using (((hR).set 0 (.float .f32 0)).set 1 (.float .f32 0)).set 2 (.float .f32 0)
  have hBg := hBf
  have q0 := hBg.cell 0
  have q1 := hBg.cell 1
  have q2 := hBg.cell 2
  refine bodyPost_ret (v := .tuple #[.agg #[.float .f32 0, .float .f32 0, .float .f32 0], .int .i64 5]) (by simp [results, Tryd.results19, go_sem, q0, q1, q2]) rfl ⟨rfl, ?_⟩
  (repeat (first | exact Ext.refl _ | assumption | refine Ext.setCell ?_ (by first | (simp; done) | (simp; omega)) _ | refine Ext.drewN ?_ _ | refine Ext.alloc ?_ _ | refine Ext.drew ?_ | refine Ext.trans ?_ (by assumption)))

set_option maxRecDepth 100000 in
set_option maxHeartbeats 3200000 in
theorem Ground_steep (X Y W H x y : Int) (A A' : Option Addr) (n c n' c' : Nat) (l l' : List Nat) (w : World) (hn : l.length = n) (hn' : l'.length = n') (hd : Rd w A (flt l)) (hd' : Rd w A' (flt l')) (hb : n ≤ 140737488351232) (hb' : n' ≤ 140737488351232) (ht : twoE X Y W H l X Y W H l' = 0) (Hi : Hid (InR X Y W H x y)) (hs : hgtB (slopeK X Y W H l x y 4) = false) :
    Calls Tryd.prog 19 #[.agg #[.int .i64 X, .int .i64 Y, .int .i64 W, .int .i64 H, .slice A n c], .agg #[.int .i64 X, .int .i64 Y, .int .i64 W, .int .i64 H, .slice A' n' c'], .int .i64 x, .int .i64 y] w fun e w' => e = .returned (.tuple #[.agg #[.float .f32 0, .float .f32 0, .float .f32 0], .int .i64 3]) ∧ Ext w w' := by
  obtain ⟨f1, f2⟩ := two_zero ht
  have hr := RegOk.of_zero (fieldE_parts f1).1
  have Hr := hidA hr
  have Ht := hidA ht
  have HG := fun (w' : World) (hi : InR X Y W H x y) (h1 : Rd w' A (flt l)) (h2 : Rd w' A' (flt l')) => hidA (ground_any X Y W H x y A A' n c n' c' l l' w' hn hn' h1 h2 hr (by rw [← hn]; exact (fieldE_parts f1).2.1) (by rw [← hn']; exact (fieldE_parts f2).2.1) hi (numE_zero (fieldE_parts f1).2.2).2)
  clear f1 f2 hr ht
  go_enter Tryd.func19, Tryd.ntmps19
  go_wp2_with fail
  refine (checkFields_any X Y W H X Y W H A A' n c n' c' l l' _ hn hn' (((hd.alloc _).alloc _).alloc _) (((hd'.alloc _).alloc _).alloc _) hb hb').mono ?_
  rw [Ht.out]
  rintro e w1 ⟨rfl, hb1⟩
  have hF : Bk w1 w.heap.size 47 #[.int .i64 X, .int .i64 Y, .int .i64 W, .int .i64 H, .slice A n c] := (((Bk.new' rfl).alloc _).alloc _).ext hb1
  have hF' : Bk w1 (w.heap.size + 1) 47 #[.int .i64 X, .int .i64 Y, .int .i64 W, .int .i64 H, .slice A' n' c'] := ((Bk.new' (by simp)).alloc _).ext hb1
  have hR1 : Bk w1 (w.heap.size + 1 + 1) 32 #[.float .f32 0, .float .f32 0, .float .f32 0] := (Bk.new' (by simp)).ext hb1
  have hd1 := (((hd.alloc _).alloc _).alloc _).ext hb1
  have hd1' := (((hd'.alloc _).alloc _).alloc _).ext hb1
  have d0 := hF.cell 0
  have d1 := hF.cell 1
  have d2 := hF.cell 2
  have d3 := hF.cell 3
  clear hn hn' hd hd' hb hb'
  go_wp2_with fail
  refine (place_in X Y W H x y _ Hr.out Hi.out).mono ?_
  rintro e w2 ⟨rfl, hb2⟩
  have hF2 := hF.ext hb2
  have hF2' := hF'.ext hb2
  have hR2 := hR1.ext hb2
  have hlR := hR2.lt
  have e0 := hF2.cell 0
  have e1 := hF2.cell 1
  have e2 := hF2.cell 2
  have e3 := hF2.cell 3
  have e4 := hF2.cell 4
  have f0 := hF2'.cell 0
  have f1 := hF2'.cell 1
  have f2 := hF2'.cell 2
  have f3 := hF2'.cell 3
  have f4 := hF2'.cell 4
  clear d0 d1 d2 d3
  go_wp2_with fail
  refine ((HG _ Hi.out (hd1.ext hb2) (hd1'.ext hb2)).out).mono ?_
  rintro e w3 ⟨rfl, hb3⟩
  clear e0 e1 e2 e3 e4 f0 f1 f2 f3 f4 HG
  have hR3 := hR2.ext hb3
  have hlR3 := hR3.lt
  generalize hsl : slopeK X Y W H l x y 4 = sl at *
  go_wp2_with fail
  refine (Value_no sl _ hs).mono ?_
  rintro e w' ⟨rfl, rfl⟩
  have hR := hR3
  have r0 := hR.cell 0
  have r1 := hR.cell 1
  have r2 := hR.cell 2
  have r3 := hR.frozen 0
  have r4 := hR.frozen 1
  have r5 := hR.frozen 2
  go_wp2
  have hBf : Bk (((w3.setCell ⟨w.heap.size + 1 + 1, 0, none⟩ (.float .f32 0)).setCell ⟨w.heap.size + 1 + 1, 1, none⟩ (.float .f32 0)).setCell ⟨w.heap.size + 1 + 1, 2, none⟩ (.float .f32 0)) (w.heap.size + 1 + 1) 32 #[.float .f32 0, .float .f32 0, .float .f32 0] := by
    simpa using (((hR).set 0 (.float .f32 0)).set 1 (.float .f32 0)).set 2 (.float .f32 0)
  have hBg := hBf.alloc (.cells #[.float .f32 (valAt X Y W l (x, y)), .float .f32 sl, .float .f32 (wetF (valAt X Y W l' (x, y)))] 32)
  have q0 := hBg.cell 0
  have q1 := hBg.cell 1
  have q2 := hBg.cell 2
  refine bodyPost_ret (v := .tuple #[.agg #[.float .f32 0, .float .f32 0, .float .f32 0], .int .i64 3]) (by simp [results, Tryd.results19, go_sem, q0, q1, q2]) rfl ⟨rfl, ?_⟩
  (repeat (first | exact Ext.refl _ | assumption | refine Ext.setCell ?_ (by first | (simp; done) | (simp; omega)) _ | refine Ext.drewN ?_ _ | refine Ext.alloc ?_ _ | refine Ext.drew ?_ | refine Ext.trans ?_ (by assumption)))

set_option maxRecDepth 100000 in
set_option maxHeartbeats 3200000 in
theorem Ground_ok (X Y W H x y : Int) (A A' : Option Addr) (n c n' c' : Nat) (l l' : List Nat) (w : World) (hn : l.length = n) (hn' : l'.length = n') (hd : Rd w A (flt l)) (hd' : Rd w A' (flt l')) (hb : n ≤ 140737488351232) (hb' : n' ≤ 140737488351232) (ht : twoE X Y W H l X Y W H l' = 0) (Hi : Hid (InR X Y W H x y)) (hs : hgtB (slopeK X Y W H l x y 4) = true) :
    Calls Tryd.prog 19 #[.agg #[.int .i64 X, .int .i64 Y, .int .i64 W, .int .i64 H, .slice A n c], .agg #[.int .i64 X, .int .i64 Y, .int .i64 W, .int .i64 H, .slice A' n' c'], .int .i64 x, .int .i64 y] w fun e w' => e = .returned (.tuple #[.agg #[.float .f32 (valAt X Y W l (x, y)), .float .f32 (slopeK X Y W H l x y 4), .float .f32 (wetF (valAt X Y W l' (x, y)))], .int .i64 0]) ∧ Ext w w' := by
  obtain ⟨f1, f2⟩ := two_zero ht
  have hr := RegOk.of_zero (fieldE_parts f1).1
  have Hr := hidA hr
  have Ht := hidA ht
  have HG := fun (w' : World) (hi : InR X Y W H x y) (h1 : Rd w' A (flt l)) (h2 : Rd w' A' (flt l')) => hidA (ground_any X Y W H x y A A' n c n' c' l l' w' hn hn' h1 h2 hr (by rw [← hn]; exact (fieldE_parts f1).2.1) (by rw [← hn']; exact (fieldE_parts f2).2.1) hi (numE_zero (fieldE_parts f1).2.2).2)
  clear f1 f2 hr ht
  go_enter Tryd.func19, Tryd.ntmps19
  go_wp2_with fail
  refine (checkFields_any X Y W H X Y W H A A' n c n' c' l l' _ hn hn' (((hd.alloc _).alloc _).alloc _) (((hd'.alloc _).alloc _).alloc _) hb hb').mono ?_
  rw [Ht.out]
  rintro e w1 ⟨rfl, hb1⟩
  have hF : Bk w1 w.heap.size 47 #[.int .i64 X, .int .i64 Y, .int .i64 W, .int .i64 H, .slice A n c] := (((Bk.new' rfl).alloc _).alloc _).ext hb1
  have hF' : Bk w1 (w.heap.size + 1) 47 #[.int .i64 X, .int .i64 Y, .int .i64 W, .int .i64 H, .slice A' n' c'] := ((Bk.new' (by simp)).alloc _).ext hb1
  have hR1 : Bk w1 (w.heap.size + 1 + 1) 32 #[.float .f32 0, .float .f32 0, .float .f32 0] := (Bk.new' (by simp)).ext hb1
  have hd1 := (((hd.alloc _).alloc _).alloc _).ext hb1
  have hd1' := (((hd'.alloc _).alloc _).alloc _).ext hb1
  have d0 := hF.cell 0
  have d1 := hF.cell 1
  have d2 := hF.cell 2
  have d3 := hF.cell 3
  clear hn hn' hd hd' hb hb'
  go_wp2_with fail
  refine (place_in X Y W H x y _ Hr.out Hi.out).mono ?_
  rintro e w2 ⟨rfl, hb2⟩
  have hF2 := hF.ext hb2
  have hF2' := hF'.ext hb2
  have hR2 := hR1.ext hb2
  have hlR := hR2.lt
  have e0 := hF2.cell 0
  have e1 := hF2.cell 1
  have e2 := hF2.cell 2
  have e3 := hF2.cell 3
  have e4 := hF2.cell 4
  have f0 := hF2'.cell 0
  have f1 := hF2'.cell 1
  have f2 := hF2'.cell 2
  have f3 := hF2'.cell 3
  have f4 := hF2'.cell 4
  clear d0 d1 d2 d3
  go_wp2_with fail
  refine ((HG _ Hi.out (hd1.ext hb2) (hd1'.ext hb2)).out).mono ?_
  rintro e w3 ⟨rfl, hb3⟩
  clear e0 e1 e2 e3 e4 f0 f1 f2 f3 f4 HG
  have hR3 := hR2.ext hb3
  have hlR3 := hR3.lt
  generalize hsl : slopeK X Y W H l x y 4 = sl at *
  go_wp2_with fail
  refine (Value_ok sl _ hs).mono ?_
  rintro e w' ⟨rfl, rfl⟩
  have hR := hR3
  have r0 := hR.cell 0
  have r1 := hR.cell 1
  have r2 := hR.cell 2
  have r3 := hR.frozen 0
  have r4 := hR.frozen 1
  have r5 := hR.frozen 2
  go_wp2
  have hBf : Bk (((w3.setCell ⟨w.heap.size + 1 + 1, 0, none⟩ (.float .f32 (valAt X Y W l (x, y)))).setCell ⟨w.heap.size + 1 + 1, 1, none⟩ (.float .f32 sl)).setCell ⟨w.heap.size + 1 + 1, 2, none⟩ (.float .f32 (wetF (valAt X Y W l' (x, y))))) (w.heap.size + 1 + 1) 32 #[.float .f32 (valAt X Y W l (x, y)), .float .f32 sl, .float .f32 (wetF (valAt X Y W l' (x, y)))] := by
    simpa using (((hR).set 0 (.float .f32 (valAt X Y W l (x, y)))).set 1 (.float .f32 sl)).set 2 (.float .f32 (wetF (valAt X Y W l' (x, y))))
  have hBg := hBf.alloc (.cells #[.float .f32 (valAt X Y W l (x, y)), .float .f32 sl, .float .f32 (wetF (valAt X Y W l' (x, y)))] 32)
  have q0 := hBg.cell 0
  have q1 := hBg.cell 1
  have q2 := hBg.cell 2
  refine bodyPost_ret (v := .tuple #[.agg #[.float .f32 (valAt X Y W l (x, y)), .float .f32 sl, .float .f32 (wetF (valAt X Y W l' (x, y)))], .int .i64 0]) (by simp [results, Tryd.results19, go_sem, q0, q1, q2]) rfl ⟨by rw [hsl], ?_⟩
  (repeat (first | exact Ext.refl _ | assumption | refine Ext.setCell ?_ (by first | (simp; done) | (simp; omega)) _ | refine Ext.drewN ?_ _ | refine Ext.alloc ?_ _ | refine Ext.drew ?_ | refine Ext.trans ?_ (by assumption)))
end Go.Proofs.YtjkalnboijkikaaDoor
