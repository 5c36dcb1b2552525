/- Contracts: plant.Cover and plant.Shade where they refuse; the walk of the law CoversMatch where it refuses. -/
import Derived.Test.YtgaonoklbihkjaaDoorCoverD
namespace Go.Proofs.YtgaonoklbihkjaaDoor
open Go.RowKit
attribute [local go_sem ↓] Go.wp_at_zero Go.wp_at_succ
attribute [local go_sem] run_store_float

set_option maxRecDepth 100000 in
set_option maxHeartbeats 3200000 in
theorem Cover_bad (X Y W H : Int) (A : Option Addr) (n c : Nat) (l : List KindR) (B : Option Addr) (m d : Nat) (p : List PlantR) (w : World) (hn : l.length = n) (hd : Rd w A (kcells l)) (hb : n ≤ 4000000000000) (hc : n ≤ c) (hsz : ∀ x ∈ l, x.s.size ≤ 9223372036854775807) (hm : p.length = m) (hp : Rd w B (pcells p)) (hbm : m ≤ 4000000000000) (h0 : covE X Y W H l p ≠ 0) :
    Calls Tryd.prog 18 #[.agg #[.int .i64 X, .int .i64 Y, .int .i64 W, .int .i64 H], .slice A n c, .slice B m d] w fun e w' => e = .returned (.tuple #[.agg #[.int .i64 0, .int .i64 0, .int .i64 0, .int .i64 0, .slice none 0 0], .int .i64 (covE X Y W H l p)]) ∧ Ext w w' := by
  have HC := fun (w : World) (hd : Rd w A (kcells l)) (hp : Rd w B (pcells p)) => hidA (checkRegionP_any X Y W H A n c l B m d p w hn hd hb hc hsz hm hp hbm)
  have b0 : (covE X Y W H l p != 0) = true := by simpa using h0
  generalize covE X Y W H l p = q at *
  clear h0 hn hm hsz
  go_enter Tryd.func18, Tryd.ntmps18
  go_wp2_with fail
  refine ((HC _ ((hd.alloc _).alloc _) ((hp.alloc _).alloc _)).out).mono ?_
  rintro e w1 ⟨rfl, hb1⟩
  have kF : Bk w1 (w.heap.size + 1) 55 #[.int .i64 0, .int .i64 0, .int .i64 0, .int .i64 0, .slice none 0 0] := (Bk.new' (by simp)).ext hb1
  have hx1 : Ext w w1 := (((Ext.refl w).alloc _).alloc _).trans hb1
  have b1 := kF.cell 0
  have b2 := kF.cell 1
  have b3 := kF.cell 2
  have b4 := kF.cell 3
  have b5 := kF.cell 4
  have f1 := kF.frozen 0
  have f2 := kF.frozen 1
  have f3 := kF.frozen 2
  have f4 := kF.frozen 3
  have f5 := kF.frozen 4
  clear HC hd hp hb1
  go_wp2_with fail
  have hfin : Ext w (((((w1.setCell ⟨w.heap.size + 1, 0, none⟩ (.int .i64 0)).setCell ⟨w.heap.size + 1, 1, none⟩ (.int .i64 0)).setCell ⟨w.heap.size + 1, 2, none⟩ (.int .i64 0)).setCell ⟨w.heap.size + 1, 3, none⟩ (.int .i64 0)).setCell ⟨w.heap.size + 1, 4, none⟩ (.slice none 0 0)) := by
    repeat (refine Ext.setCell ?_ (by show w.heap.size ≤ w.heap.size + 1; omega) _)
    exact hx1
  have hBf : Bk (((((w1.setCell ⟨w.heap.size + 1, 0, none⟩ (.int .i64 0)).setCell ⟨w.heap.size + 1, 1, none⟩ (.int .i64 0)).setCell ⟨w.heap.size + 1, 2, none⟩ (.int .i64 0)).setCell ⟨w.heap.size + 1, 3, none⟩ (.int .i64 0)).setCell ⟨w.heap.size + 1, 4, none⟩ (.slice none 0 0)) (w.heap.size + 1) 55 #[.int .i64 0, .int .i64 0, .int .i64 0, .int .i64 0, .slice none 0 0] := by
    simpa using ((((kF.set 0 (.int .i64 0)).set 1 (.int .i64 0)).set 2 (.int .i64 0)).set 3 (.int .i64 0)).set 4 (.slice none 0 0)
  have q0 := hBf.cell 0
  have q1 := hBf.cell 1
  have q2 := hBf.cell 2
  have q3 := hBf.cell 3
  have q4 := hBf.cell 4
  refine bodyPost_ret (v := .tuple #[.agg #[.int .i64 0, .int .i64 0, .int .i64 0, .int .i64 0, .slice none 0 0], .int .i64 q]) (by simp [results, Tryd.results18, go_sem, q0, q1, q2, q3, q4]) rfl ⟨rfl, hfin⟩

set_option maxRecDepth 100000 in
set_option maxHeartbeats 3200000 in
theorem Shade_bad (X Y W H : Int) (A : Option Addr) (n c : Nat) (l : List KindR) (B : Option Addr) (m d : Nat) (p : List PlantR) (w : World) (hn : l.length = n) (hd : Rd w A (kcells l)) (hb : n ≤ 4000000000000) (hc : n ≤ c) (hsz : ∀ x ∈ l, x.s.size ≤ 9223372036854775807) (hm : p.length = m) (hp : Rd w B (pcells p)) (hbm : m ≤ 4000000000000) (h0 : covE X Y W H l p ≠ 0) :
    Calls Tryd.prog 19 #[.agg #[.int .i64 X, .int .i64 Y, .int .i64 W, .int .i64 H], .slice A n c, .slice B m d] w fun e w' => e = .returned (.tuple #[.agg #[.int .i64 0, .int .i64 0, .int .i64 0, .int .i64 0, .slice none 0 0], .int .i64 (covE X Y W H l p)]) ∧ Ext w w' := by
  have HC := fun (w : World) (hd : Rd w A (kcells l)) (hp : Rd w B (pcells p)) => hidA (checkRegionP_any X Y W H A n c l B m d p w hn hd hb hc hsz hm hp hbm)
  have b0 : (covE X Y W H l p != 0) = true := by simpa using h0
  generalize covE X Y W H l p = q at *
  clear h0 hn hm hsz
  go_enter Tryd.func19, Tryd.ntmps19
  go_wp2_with fail
  refine ((HC _ ((hd.alloc _).alloc _) ((hp.alloc _).alloc _)).out).mono ?_
  rintro e w1 ⟨rfl, hb1⟩
  have kF : Bk w1 (w.heap.size + 1) 55 #[.int .i64 0, .int .i64 0, .int .i64 0, .int .i64 0, .slice none 0 0] := (Bk.new' (by simp)).ext hb1
  have hx1 : Ext w w1 := (((Ext.refl w).alloc _).alloc _).trans hb1
  have b1 := kF.cell 0
  have b2 := kF.cell 1
  have b3 := kF.cell 2
  have b4 := kF.cell 3
  have b5 := kF.cell 4
  have f1 := kF.frozen 0
  have f2 := kF.frozen 1
  have f3 := kF.frozen 2
  have f4 := kF.frozen 3
  have f5 := kF.frozen 4
  clear HC hd hp hb1
  go_wp2_with fail
  have hfin : Ext w (((((w1.setCell ⟨w.heap.size + 1, 0, none⟩ (.int .i64 0)).setCell ⟨w.heap.size + 1, 1, none⟩ (.int .i64 0)).setCell ⟨w.heap.size + 1, 2, none⟩ (.int .i64 0)).setCell ⟨w.heap.size + 1, 3, none⟩ (.int .i64 0)).setCell ⟨w.heap.size + 1, 4, none⟩ (.slice none 0 0)) := by
    repeat (refine Ext.setCell ?_ (by show w.heap.size ≤ w.heap.size + 1; omega) _)
    exact hx1
  have hBf : Bk (((((w1.setCell ⟨w.heap.size + 1, 0, none⟩ (.int .i64 0)).setCell ⟨w.heap.size + 1, 1, none⟩ (.int .i64 0)).setCell ⟨w.heap.size + 1, 2, none⟩ (.int .i64 0)).setCell ⟨w.heap.size + 1, 3, none⟩ (.int .i64 0)).setCell ⟨w.heap.size + 1, 4, none⟩ (.slice none 0 0)) (w.heap.size + 1) 55 #[.int .i64 0, .int .i64 0, .int .i64 0, .int .i64 0, .slice none 0 0] := by
    simpa using ((((kF.set 0 (.int .i64 0)).set 1 (.int .i64 0)).set 2 (.int .i64 0)).set 3 (.int .i64 0)).set 4 (.slice none 0 0)
  have q0 := hBf.cell 0
  have q1 := hBf.cell 1
  have q2 := hBf.cell 2
  have q3 := hBf.cell 3
  have q4 := hBf.cell 4
  refine bodyPost_ret (v := .tuple #[.agg #[.int .i64 0, .int .i64 0, .int .i64 0, .int .i64 0, .slice none 0 0], .int .i64 q]) (by simp [results, Tryd.results19, go_sem, q0, q1, q2, q3, q4]) rfl ⟨rfl, hfin⟩

theorem cov_first (X Y W H : Int) (l : List KindR) (p : List PlantR) : firstE [regE X Y W H, plantsE l p] = covE X Y W H l p := by
  unfold covE
  by_cases h1 : regE X Y W H = 0
  · simp [firstE, h1]
    exact fun h => h.symm
  · simp [firstE, h1]

set_option maxRecDepth 100000 in
set_option maxHeartbeats 6400000 in
theorem covers_bad (X Y W H : Int) (A : Option Addr) (n c : Nat) (l : List KindR) (B : Option Addr) (m d : Nat) (p : List PlantR) (w : World) (hn : l.length = n) (hd : Rd w A (kcells l)) (hb : n ≤ 4000000000000) (hc : n ≤ c) (hsz : ∀ x ∈ l, x.s.size ≤ 9223372036854775807) (hm : p.length = m) (hp : Rd w B (pcells p)) (hbm : m ≤ 4000000000000) (h0 : covE X Y W H l p ≠ 0) :
    Calls Tryd.prog 5 #[.agg #[.int .i64 X, .int .i64 Y, .int .i64 W, .int .i64 H], .slice A n c, .slice B m d] w fun e w' => e = .returned (.bool true) ∧ Ext w w' := by
  have HC := fun (w : World) (hd : Rd w A (kcells l)) (hp : Rd w B (pcells p)) => hidA (Cover_bad X Y W H A n c l B m d p w hn hd hb hc hsz hm hp hbm h0)
  have HD := fun (w : World) (hd : Rd w A (kcells l)) (hp : Rd w B (pcells p)) => hidA (Shade_bad X Y W H A n c l B m d p w hn hd hb hc hsz hm hp hbm h0)
  have HP := fun (w : World) (hd : Rd w A (kcells l)) (hp : Rd w B (pcells p)) => hidA (plantsError_any A n c l B m d p w hn hd hb hc hsz hm hp hbm)
  have HR := fun (w : World) => hidA (regionError_any X Y W H w)
  have HS := fun (A : Option Addr) (w : World) (hr : Rd w A ([regE X Y W H, plantsE l p].map (.int .i64))) => hidA (first_any A 2 2 [regE X Y W H, plantsE l p] w rfl hr (by omega))
  rw [cov_first] at HS
  have HG := fun (w : World) => hidA (grows_any w)
  have HE := fun (w : World) => hidA (empty_zero w)
  have b0 : (covE X Y W H l p != 0) = true := by simpa using h0
  generalize covE X Y W H l p = q at *
  generalize regE X Y W H = eR at *
  generalize plantsE l p = eP at *
  clear h0 hn hm hsz
  go_enter Tryd.func5, Tryd.ntmps5
  go_wp2_with fail
  refine ((HC _ (hd.alloc _) (hp.alloc _)).out).mono ?_
  rintro e w1 ⟨rfl, hb1⟩
  have kR : Bk w1 w.heap.size 52 #[.int .i64 X, .int .i64 Y, .int .i64 W, .int .i64 H] := (Bk.new' rfl).ext hb1
  have hx1 : Ext w w1 := ((Ext.refl w).alloc _).trans hb1
  have c0 := kR.cell 0
  have c1 := kR.cell 1
  have c2 := kR.cell 2
  have c3 := kR.cell 3
  have hRl := kR.lt
  go_wp2_with fail
  refine ((HD _ (hd.ext (by repeat (first | exact Ext.refl _ | assumption | refine Ext.setCell ?_ (by first | (simp; done) | (simp; omega)) _ | refine Ext.drewN ?_ _ | refine Ext.alloc ?_ _ | refine Ext.drew ?_ | refine Ext.trans ?_ (by assumption)))) (hp.ext (by repeat (first | exact Ext.refl _ | assumption | refine Ext.setCell ?_ (by first | (simp; done) | (simp; omega)) _ | refine Ext.drewN ?_ _ | refine Ext.alloc ?_ _ | refine Ext.drew ?_ | refine Ext.trans ?_ (by assumption))))).out).mono ?_
  rintro e w2 ⟨rfl, hb2⟩
  have kR2 := (kR.alloc _).ext hb2
  have kC2 : Bk w2 w1.heap.size 55 #[.int .i64 0, .int .i64 0, .int .i64 0, .int .i64 0, .slice none 0 0] := (Bk.new' rfl).ext hb2
  have hx2 : Ext w w2 := by (repeat (first | exact Ext.refl _ | assumption | refine Ext.setCell ?_ (by first | (simp; done) | (simp; omega)) _ | refine Ext.drewN ?_ _ | refine Ext.alloc ?_ _ | refine Ext.drew ?_ | refine Ext.trans ?_ (by assumption)))
  clear c0 c1 c2 c3 hb2 HC HD
  have c0 := kR2.cell 0
  have c1 := kR2.cell 1
  have c2 := kR2.cell 2
  have c3 := kR2.cell 3
  have hRl2 := kR2.lt
  obtain ⟨w3, hw3⟩ : ∃ w3, w3 = w2.alloc (.cells #[.int .i64 0, .int .i64 0, .int .i64 0, .int .i64 0, .slice none 0 0] 55) := ⟨_, rfl⟩
  have hx3 : Ext w w3 := by rw [hw3]; exact hx2.alloc _
  have kC3 : Bk w3 w1.heap.size 55 #[.int .i64 0, .int .i64 0, .int .i64 0, .int .i64 0, .slice none 0 0] := by rw [hw3]; exact kC2.alloc _
  have kS3 : Bk w3 w2.heap.size 55 #[.int .i64 0, .int .i64 0, .int .i64 0, .int .i64 0, .slice none 0 0] := by rw [hw3]; exact Bk.new' rfl
  go_wp2_with fail
  rw [← hw3]
  clear hw3 c0 c1 c2 c3 kR2 kC2 hx2 hRl hRl2
  refine ((HR _).out).mono ?_
  rintro e w4 ⟨rfl, hb4⟩
  go_wp2_with fail
  refine ((HP _ (hd.ext (hx3.trans hb4)) (hp.ext (hx3.trans hb4))).out).mono ?_
  rintro e w5 ⟨rfl, hb5⟩
  go_wp2_with fail
  refine ((HS _ _ (Rd.new (by first | rfl | simp) rfl)).out).mono ?_
  rintro e w6 ⟨rfl, hw6⟩
  have hx6 : Ext w3 w6 := by rw [← hw6]; (repeat (first | exact Ext.refl _ | assumption | refine Ext.setCell ?_ (by first | (simp; done) | (simp; omega)) _ | refine Ext.drewN ?_ _ | refine Ext.alloc ?_ _ | refine Ext.drew ?_ | refine Ext.trans ?_ (by assumption)))
  clear hw6 hb4 hb5
  go_wp2_with fail
  refine ((HG _).out).mono ?_
  rintro e w7 ⟨rfl, hb7⟩
  go_wp2_with fail
  refine ((HG _).out).mono ?_
  rintro e w8 ⟨rfl, hb8⟩
  have kC8 := ((kC3.ext hx6).ext hb7).ext hb8
  have c0 := kC8.cell 0
  have c1 := kC8.cell 1
  have c2 := kC8.cell 2
  have c3 := kC8.cell 3
  have c4 := kC8.cell 4
  go_wp2_with fail
  refine ((HE _).out).mono ?_
  rintro e w9 ⟨rfl, hb9⟩
  have kS9 := (((kS3.ext hx6).ext hb7).ext hb8).ext hb9
  clear c0 c1 c2 c3 c4
  have c0 := kS9.cell 0
  have c1 := kS9.cell 1
  have c2 := kS9.cell 2
  have c3 := kS9.cell 3
  have c4 := kS9.cell 4
  go_wp2_with fail
  refine ((HE _).out).mono ?_
  rintro e w10 ⟨rfl, hb10⟩
  go_wp2_with fail
  go_ret
  exact ⟨by first | rfl | simp, (by repeat (first | exact Ext.refl _ | assumption | refine Ext.setCell ?_ (by first | (simp; done) | (simp; omega)) _ | refine Ext.drewN ?_ _ | refine Ext.alloc ?_ _ | refine Ext.drew ?_ | refine Ext.trans ?_ (by assumption)))⟩
end Go.Proofs.YtgaonoklbihkjaaDoor
