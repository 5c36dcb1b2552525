/- The walk of the law GroundsMatch where the fields are right and the kind is right. -/
import Derived.Test.YtjkalnboijkikaaDoorGroundJ
import Derived.Deep.DeepCutAuto
import Derived.Deep.AppendLies
import Derived.Deep.RegionLaw
import Derived.BigRegion
import Derived.BigQuiet
namespace Go.Proofs.YtjkalnboijkikaaDoor
open Go.RowKit
attribute [local go_sem ↓] Go.wp_at_zero Go.wp_at_succ
attribute [local go_sem] run_store_float run_equalIn_flo

set_option maxRecDepth 100000 in
set_option maxHeartbeats 6400000 in
theorem grounds_ok (s : ByteArray) (a0 a1 a2 a3 a4 a5 a6 a7 a8 a9 g0 g1 g2 : Nat) (ge p q X Y W H x y : Int) (A A' : Option Addr) (n c n' c' : Nat) (l l' : List Nat) (w : World) (hs : s.size ≤ 9223372036854775807) (hn : l.length = n) (hn' : l'.length = n') (hd : Rd w A (flt l)) (hd' : Rd w A' (flt l')) (hb : n ≤ 140737488351232) (hb' : n' ≤ 140737488351232)
    (ht : twoE X Y W H l X Y W H l' = 0) (hk : kindE s a0 a1 a2 a3 a4 a5 a6 a7 a8 a9 p q = 0)
    (hG : ∀ w', Rd w' A (flt l) → Rd w' A' (flt l') → Calls Tryd.prog 19 #[.agg #[.int .i64 X, .int .i64 Y, .int .i64 W, .int .i64 H, .slice A n c], .agg #[.int .i64 X, .int .i64 Y, .int .i64 W, .int .i64 H, .slice A' n' c'], .int .i64 x, .int .i64 y] w' fun e w'' => e = .returned (.tuple #[.agg #[.float .f32 g0, .float .f32 g1, .float .f32 g2], .int .i64 ge]) ∧ Ext w' w'')
    (hC : (¬ InR X Y W H x y ∧ ge = 5 ∧ g0 = 0 ∧ g1 = 0 ∧ g2 = 0) ∨ (InR X Y W H x y ∧ ((hgtB (slopeK X Y W H l x y 4) = false ∧ ge = 3 ∧ g0 = 0 ∧ g1 = 0 ∧ g2 = 0) ∨ (hgtB (slopeK X Y W H l x y 4) = true ∧ ge = 0 ∧ g0 = valAt X Y W l (x, y) ∧ g1 = slopeK X Y W H l x y 4 ∧ g2 = wetF (valAt X Y W l' (x, y)))))) :
    Calls Tryd.prog 5 #[.agg #[.int .i64 X, .int .i64 Y, .int .i64 W, .int .i64 H, .slice A n c], .agg #[.int .i64 X, .int .i64 Y, .int .i64 W, .int .i64 H, .slice A' n' c'], .agg #[.string s, .float .f32 a0, .float .f32 a1, .float .f32 a2, .float .f32 a3, .float .f32 a4, .float .f32 a5, .float .f32 a6, .float .f32 a7, .float .f32 a8, .float .f32 a9, .int .i64 p, .int .i64 q], .int .i64 x, .int .i64 y] w fun e w' => e = .returned (.bool true) ∧ Ext w w' := by
  obtain ⟨f1, f2⟩ := two_zero ht
  have hr := RegOk.of_zero (fieldE_parts f1).1
  have hn6 : n ≤ 65536 := by
    have h1 := (regE_zero (fieldE_parts f1).1).2.2.2.2.1
    have h2 := (fieldE_parts f1).2.1
    omega
  have hnw : (n : Int) = W * H := by rw [← hn]; exact (fieldE_parts f1).2.1
  have hnw' : (n' : Int) = W * H := by rw [← hn']; exact (fieldE_parts f2).2.1
  have hv := val_bd f1
  have hv' := val_bd f2
  have hh := (numE_zero (fieldE_parts f1).2.2).2
  have HGK := fun (w' : World) (k : Nat) (hk : k < n) (h1 : Rd w' A (flt l)) (h2 : Rd w' A' (flt l')) => hidA (groundOf_any X Y W H (placeK X Y W k).1 (placeK X Y W k).2 A A' n c n' c' k l l' w' hn hn' h1 h2 hr hnw hnw' hk hn6 rfl hh)
  obtain ⟨q0, q1, q2, q3, q4, q5⟩ := kindE_zero hk
  have HZ := hidA (fits_zero hn ht q0 q1 q2 q3 q4 q5)
  clear q0 q1 q2 q3 q4 q5
  have HT := hidA ht
  have HK := hidA hk
  have HV := hidA hv
  have HV' := hidA hv'
  have HR := hidA hr
  have HNW := hidA hnw
  have HGR := fun w' h1 h2 => hidA (hG w' h1 h2)
  have HCC := hidA hC
  have z0 : (FloatKind.f32.format.order 0 0 == some .eq) = true := by decide +kernel
  clear ht hk hG hC f1 f2 hr hnw hnw' hv hv' hh
  go_enter Tryd.func5, Tryd.ntmps5
  go_wp2_with fail
  refine ((HGR _ (((hd.alloc _).alloc _).alloc _) (((hd'.alloc _).alloc _).alloc _)).out).mono ?_
  rintro e w1 ⟨rfl, hb1⟩
  clear HGR
  have hF1 : Bk w1 w.heap.size 47 #[.int .i64 X, .int .i64 Y, .int .i64 W, .int .i64 H, .slice A n c] := (((Bk.new' rfl).alloc _).alloc _).ext hb1
  have hW1 : Bk w1 (w.heap.size + 1) 47 #[.int .i64 X, .int .i64 Y, .int .i64 W, .int .i64 H, .slice A' n' c'] := ((Bk.new' (by simp)).alloc _).ext hb1
  have hK1 : Bk w1 (w.heap.size + 1 + 1) 28 #[.string s, .float .f32 a0, .float .f32 a1, .float .f32 a2, .float .f32 a3, .float .f32 a4, .float .f32 a5, .float .f32 a6, .float .f32 a7, .float .f32 a8, .float .f32 a9, .int .i64 p, .int .i64 q] := (Bk.new' (by simp)).ext hb1
  have hd1 := (((hd.alloc _).alloc _).alloc _).ext hb1
  have hd1' := (((hd'.alloc _).alloc _).alloc _).ext hb1
  have hx1 : Ext w w1 := ((((Ext.refl w).alloc _).alloc _).alloc _).trans hb1
  have hlK := hK1.lt
  have hq0 : w.heap.size < w1.heap.size := by omega
  have hq1 : w.heap.size + 1 < w1.heap.size := by omega
  clear hd hd' hb1
  have b0 := hF1.cell 0
  have b1 := hF1.cell 1
  have b2 := hF1.cell 2
  have b3 := hF1.cell 3
  have b4 := hF1.cell 4
  have c0 := hW1.cell 0
  have c1 := hW1.cell 1
  have c2 := hW1.cell 2
  have c3 := hW1.cell 3
  have c4 := hW1.cell 4
  have d0 := hK1.cell 0
  have d1 := hK1.cell 1
  have d2 := hK1.cell 2
  have d3 := hK1.cell 3
  have d4 := hK1.cell 4
  have d5 := hK1.cell 5
  have d6 := hK1.cell 6
  have d7 := hK1.cell 7
  have d8 := hK1.cell 8
  have d9 := hK1.cell 9
  have d10 := hK1.cell 10
  have d11 := hK1.cell 11
  have d12 := hK1.cell 12
  go_wp2_with fail
  refine (Fitness_ok s a0 a1 a2 a3 a4 a5 a6 a7 a8 a9 p q X Y W H A A' n c n' c' l l' _ hs hn hn' (hd1.ext (by repeat (first | exact Ext.refl _ | assumption | refine Ext.setCell ?_ (by first | (simp; done) | (simp; omega)) _ | refine Ext.drewN ?_ _ | refine Ext.alloc ?_ _ | refine Ext.drew ?_ | refine Ext.trans ?_ (by assumption)))) (hd1'.ext (by repeat (first | exact Ext.refl _ | assumption | refine Ext.setCell ?_ (by first | (simp; done) | (simp; omega)) _ | refine Ext.drewN ?_ _ | refine Ext.alloc ?_ _ | refine Ext.drew ?_ | refine Ext.trans ?_ (by assumption)))) hb hb' HT.out HK.out).mono ?_
  rintro e w2 ⟨B, d, rfl, hB2, hb2⟩
  have hw2 : Ext w1 w2 := (by repeat (first | exact Ext.refl _ | assumption | refine Ext.setCell ?_ (by first | (simp; done) | (simp; omega)) _ | refine Ext.drewN ?_ _ | refine Ext.alloc ?_ _ | refine Ext.drew ?_ | refine Ext.trans ?_ (by assumption)))
  have hP2 : Bk w2 w1.heap.size 32 #[.float .f32 g0, .float .f32 g1, .float .f32 g2] := Bk.ext (by first | exact Bk.new' rfl | simpa using (((Bk.new w1 32 #[.float .f32 0, .float .f32 0, .float .f32 0]).set 0 (.float .f32 g0)).set 1 (.float .f32 g1)).set 2 (.float .f32 g2)) hb2
  have hF2 := hF1.ext hw2
  have hW2 := hW1.ext hw2
  have hK2 := hK1.ext hw2
  have hd2 := hd1.ext hw2
  have hd2' := hd1'.ext hw2
  have hx2 := hx1.trans hw2
  have hlP := hP2.lt
  have hq2 : w.heap.size < w2.heap.size := by omega
  have hq3 : w.heap.size + 1 < w2.heap.size := by omega
  have hq4 : w.heap.size + 1 + 1 < w2.heap.size := by omega
  clear b0 b1 b2 b3 b4 c0 c1 c2 c3 c4 d0 d1 d2 d3 d4 d5 d6 d7 d8 d9 d10 d11 d12
  clear hF1 hW1 hK1 hd1 hd1' hx1 hb2
  have b0 := hF2.cell 0
  have b1 := hF2.cell 1
  have b2 := hF2.cell 2
  have b3 := hF2.cell 3
  have b4 := hF2.cell 4
  have c0 := hW2.cell 0
  have c1 := hW2.cell 1
  have c2 := hW2.cell 2
  have c3 := hW2.cell 3
  have c4 := hW2.cell 4
  go_wp2_with fail
  refine (groundsError_any X Y W H X Y W H A A' n c n' c' l l' _ hn hn' (hd2.ext (by repeat (first | exact Ext.refl _ | assumption | refine Ext.setCell ?_ (by first | (simp; done) | (simp; omega)) _ | refine Ext.drewN ?_ _ | refine Ext.alloc ?_ _ | refine Ext.drew ?_ | refine Ext.trans ?_ (by assumption)))) (hd2'.ext (by repeat (first | exact Ext.refl _ | assumption | refine Ext.setCell ?_ (by first | (simp; done) | (simp; omega)) _ | refine Ext.drewN ?_ _ | refine Ext.alloc ?_ _ | refine Ext.drew ?_ | refine Ext.trans ?_ (by assumption)))) hb hb').mono ?_
  rw [HT.out]
  rintro e w3 ⟨rfl, hb3⟩
  have hw3 : Ext w2 w3 := (by repeat (first | exact Ext.refl _ | assumption | refine Ext.setCell ?_ (by first | (simp; done) | (simp; omega)) _ | refine Ext.drewN ?_ _ | refine Ext.alloc ?_ _ | refine Ext.drew ?_ | refine Ext.trans ?_ (by assumption)))
  have hQ3 : Bk w3 w2.heap.size 47 #[.int .i64 X, .int .i64 Y, .int .i64 W, .int .i64 H, .slice B n d] := Bk.ext (by first | exact Bk.new' rfl | simpa using (((((Bk.new w2 47 #[.int .i64 0, .int .i64 0, .int .i64 0, .int .i64 0, .slice none 0 0]).set 0 (.int .i64 X)).set 1 (.int .i64 Y)).set 2 (.int .i64 W)).set 3 (.int .i64 H)).set 4 (.slice B n d)) hb3
  have hP3 := hP2.ext hw3
  have hF3 := hF2.ext hw3
  have hW3 := hW2.ext hw3
  have hK3 := hK2.ext hw3
  have hd3 := hd2.ext hw3
  have hd3' := hd2'.ext hw3
  have hx3 := hx2.trans hw3
  have hlQ := hQ3.lt
  clear b0 b1 b2 b3 b4 c0 c1 c2 c3 c4
  have hw3' : Ext w2 w3 := hw3
  clear hw2 hw3 hP2 hF2 hW2 hK2 hx2 hd2 hd2' hb3
  have hB3 : Rd w3 B (flt ((List.range n).map (fitK X Y W H l l' a0 a1 a2 a3 a4 a5))) := hB2.ext hw3'
  clear hB2
  have s0 : ∀ w', Ext w3 w' → w'.cell? ⟨w.heap.size, 0, none⟩ = some (.int .i64 X) := fun w' h => (hF3.ext h).cell 0
  have s1 : ∀ w', Ext w3 w' → w'.cell? ⟨w.heap.size, 1, none⟩ = some (.int .i64 Y) := fun w' h => (hF3.ext h).cell 1
  have s2 : ∀ w', Ext w3 w' → w'.cell? ⟨w.heap.size, 2, none⟩ = some (.int .i64 W) := fun w' h => (hF3.ext h).cell 2
  have s3 : ∀ w', Ext w3 w' → w'.cell? ⟨w.heap.size, 3, none⟩ = some (.int .i64 H) := fun w' h => (hF3.ext h).cell 3
  have s4 : ∀ w', Ext w3 w' → w'.cell? ⟨w.heap.size, 4, none⟩ = some (.slice A n c) := fun w' h => (hF3.ext h).cell 4
  have u0 : ∀ w', Ext w3 w' → w'.cell? ⟨w.heap.size + 1, 0, none⟩ = some (.int .i64 X) := fun w' h => (hW3.ext h).cell 0
  have u1 : ∀ w', Ext w3 w' → w'.cell? ⟨w.heap.size + 1, 1, none⟩ = some (.int .i64 Y) := fun w' h => (hW3.ext h).cell 1
  have u2 : ∀ w', Ext w3 w' → w'.cell? ⟨w.heap.size + 1, 2, none⟩ = some (.int .i64 W) := fun w' h => (hW3.ext h).cell 2
  have u3 : ∀ w', Ext w3 w' → w'.cell? ⟨w.heap.size + 1, 3, none⟩ = some (.int .i64 H) := fun w' h => (hW3.ext h).cell 3
  have u4 : ∀ w', Ext w3 w' → w'.cell? ⟨w.heap.size + 1, 4, none⟩ = some (.slice A' n' c') := fun w' h => (hW3.ext h).cell 4
  have k0 : ∀ w', Ext w3 w' → w'.cell? ⟨w.heap.size + 1 + 1, 0, none⟩ = some (.string s) := fun w' h => (hK3.ext h).cell 0
  have k1 : ∀ w', Ext w3 w' → w'.cell? ⟨w.heap.size + 1 + 1, 1, none⟩ = some (.float .f32 a0) := fun w' h => (hK3.ext h).cell 1
  have k2 : ∀ w', Ext w3 w' → w'.cell? ⟨w.heap.size + 1 + 1, 2, none⟩ = some (.float .f32 a1) := fun w' h => (hK3.ext h).cell 2
  have k3 : ∀ w', Ext w3 w' → w'.cell? ⟨w.heap.size + 1 + 1, 3, none⟩ = some (.float .f32 a2) := fun w' h => (hK3.ext h).cell 3
  have k4 : ∀ w', Ext w3 w' → w'.cell? ⟨w.heap.size + 1 + 1, 4, none⟩ = some (.float .f32 a3) := fun w' h => (hK3.ext h).cell 4
  have k5 : ∀ w', Ext w3 w' → w'.cell? ⟨w.heap.size + 1 + 1, 5, none⟩ = some (.float .f32 a4) := fun w' h => (hK3.ext h).cell 5
  have k6 : ∀ w', Ext w3 w' → w'.cell? ⟨w.heap.size + 1 + 1, 6, none⟩ = some (.float .f32 a5) := fun w' h => (hK3.ext h).cell 6
  have k7 : ∀ w', Ext w3 w' → w'.cell? ⟨w.heap.size + 1 + 1, 7, none⟩ = some (.float .f32 a6) := fun w' h => (hK3.ext h).cell 7
  have k8 : ∀ w', Ext w3 w' → w'.cell? ⟨w.heap.size + 1 + 1, 8, none⟩ = some (.float .f32 a7) := fun w' h => (hK3.ext h).cell 8
  have k9 : ∀ w', Ext w3 w' → w'.cell? ⟨w.heap.size + 1 + 1, 9, none⟩ = some (.float .f32 a8) := fun w' h => (hK3.ext h).cell 9
  have k10 : ∀ w', Ext w3 w' → w'.cell? ⟨w.heap.size + 1 + 1, 10, none⟩ = some (.float .f32 a9) := fun w' h => (hK3.ext h).cell 10
  have k11 : ∀ w', Ext w3 w' → w'.cell? ⟨w.heap.size + 1 + 1, 11, none⟩ = some (.int .i64 p) := fun w' h => (hK3.ext h).cell 11
  have k12 : ∀ w', Ext w3 w' → w'.cell? ⟨w.heap.size + 1 + 1, 12, none⟩ = some (.int .i64 q) := fun w' h => (hK3.ext h).cell 12
  have p0 : ∀ w', Ext w3 w' → w'.cell? ⟨w1.heap.size, 0, none⟩ = some (.float .f32 g0) := fun w' h => (hP3.ext h).cell 0
  have p1 : ∀ w', Ext w3 w' → w'.cell? ⟨w1.heap.size, 1, none⟩ = some (.float .f32 g1) := fun w' h => (hP3.ext h).cell 1
  have p2 : ∀ w', Ext w3 w' → w'.cell? ⟨w1.heap.size, 2, none⟩ = some (.float .f32 g2) := fun w' h => (hP3.ext h).cell 2
  have t0 : ∀ w', Ext w3 w' → w'.cell? ⟨w2.heap.size, 0, none⟩ = some (.int .i64 X) := fun w' h => (hQ3.ext h).cell 0
  have t1 : ∀ w', Ext w3 w' → w'.cell? ⟨w2.heap.size, 1, none⟩ = some (.int .i64 Y) := fun w' h => (hQ3.ext h).cell 1
  have t2 : ∀ w', Ext w3 w' → w'.cell? ⟨w2.heap.size, 2, none⟩ = some (.int .i64 W) := fun w' h => (hQ3.ext h).cell 2
  have t3 : ∀ w', Ext w3 w' → w'.cell? ⟨w2.heap.size, 3, none⟩ = some (.int .i64 H) := fun w' h => (hQ3.ext h).cell 3
  have t4 : ∀ w', Ext w3 w' → w'.cell? ⟨w2.heap.size, 4, none⟩ = some (.slice B n d) := fun w' h => (hQ3.ext h).cell 4
  have hD : ∀ w', Ext w3 w' → Rd w' A (flt l) := fun w' h => hd3.ext h
  have hD' : ∀ w', Ext w3 w' → Rd w' A' (flt l') := fun w' h => hd3'.ext h
  have hl3 : w2.heap.size < w3.heap.size := hlQ
  clear hF3 hW3 hK3 hP3 hQ3 hd3 hd3'
  go_wp2_with fail
  refine (grows_any _).mono ?_
  rintro e w4 ⟨rfl, hb4⟩
  obtain ⟨b6, hbv⟩ : ∃ b, hasB X Y W H x y = b := ⟨_, rfl⟩
  have HB := hidA hbv
  clear hbv
  have d0 : w4.cell? ⟨w.heap.size, 0, none⟩ = some (.int .i64 X) := s0 _ hb4
  have d1 : w4.cell? ⟨w.heap.size, 1, none⟩ = some (.int .i64 Y) := s1 _ hb4
  have d2 : w4.cell? ⟨w.heap.size, 2, none⟩ = some (.int .i64 W) := s2 _ hb4
  have d3 : w4.cell? ⟨w.heap.size, 3, none⟩ = some (.int .i64 H) := s3 _ hb4
  have d4 : w4.cell? ⟨w.heap.size, 4, none⟩ = some (.slice A n c) := s4 _ hb4
  go_upto_if 69 with (go_at_call 23; refine (hasAt X Y W H x y b6 _ HB.out).mono ?_; rintro e w5 ⟨rfl, hb5⟩)
  have hx5 : Ext w3 w5 := (by repeat (first | exact Ext.refl _ | assumption | refine Ext.setCell ?_ (by first | (simp; done) | (simp; omega)) _ | refine Ext.drewN ?_ _ | refine Ext.alloc ?_ _ | refine Ext.drew ?_ | refine Ext.trans ?_ (by assumption)))
  have hl5 := hx5.size
  clear d0 d1 d2 d3 d4
  go_cut [] from 16 to 103 (fun wx => Ext w3 wx)
  case first =>
    by_cases hi : InR X Y W H x y
    · have HI := hidA hi
      obtain rfl : b6 = true := by rw [← HB.out, hasB_ok HR.out]; exact decide_eq_true hi
      obtain ⟨kk, hkk, hkl, _⟩ := valAt_get (l := l) HR.out hi (by rw [hn]; exact HNW.out)
      have hpk : placeK X Y W kk = (x, y) := place_cell HR.out hi hkk
      have HGO := fun (w' : World) (h : Ext w3 w') => HGK w' kk (by omega) (hD w' h) (hD' w' h)
      rw [hpk] at HGO
      have HC : Hid (cellN X Y W x y = kk) := hkk
      clear hkk hkl hpk hi
      go_upto_region 9 with fail
      go_cut [16] from 77 to 84 (fun s16 wx => ∃ g : Nat, s16 = .pointer (some ⟨g, 0, none⟩) ∧ w5.heap.size ≤ g ∧ Bk wx g 32 #[.float .f32 (valAt X Y W l (x, y)), .float .f32 (slopeK X Y W H l x y 4), .float .f32 (wetR (valAt X Y W l' (x, y)))] ∧ Ext w5 wx)
      case first =>
        have s0' : ∀ w', Ext w5 w' → w'.cell? ⟨w.heap.size, 0, none⟩ = some (.int .i64 X) := fun w' h => s0 _ (hx5.trans h)
        have s1' : ∀ w', Ext w5 w' → w'.cell? ⟨w.heap.size, 1, none⟩ = some (.int .i64 Y) := fun w' h => s1 _ (hx5.trans h)
        have s2' : ∀ w', Ext w5 w' → w'.cell? ⟨w.heap.size, 2, none⟩ = some (.int .i64 W) := fun w' h => s2 _ (hx5.trans h)
        have s3' : ∀ w', Ext w5 w' → w'.cell? ⟨w.heap.size, 3, none⟩ = some (.int .i64 H) := fun w' h => s3 _ (hx5.trans h)
        have s4' : ∀ w', Ext w5 w' → w'.cell? ⟨w.heap.size, 4, none⟩ = some (.slice A n c) := fun w' h => s4 _ (hx5.trans h)
        have u0' : ∀ w', Ext w5 w' → w'.cell? ⟨w.heap.size + 1, 0, none⟩ = some (.int .i64 X) := fun w' h => u0 _ (hx5.trans h)
        have u1' : ∀ w', Ext w5 w' → w'.cell? ⟨w.heap.size + 1, 1, none⟩ = some (.int .i64 Y) := fun w' h => u1 _ (hx5.trans h)
        have u2' : ∀ w', Ext w5 w' → w'.cell? ⟨w.heap.size + 1, 2, none⟩ = some (.int .i64 W) := fun w' h => u2 _ (hx5.trans h)
        have u3' : ∀ w', Ext w5 w' → w'.cell? ⟨w.heap.size + 1, 3, none⟩ = some (.int .i64 H) := fun w' h => u3 _ (hx5.trans h)
        have u4' : ∀ w', Ext w5 w' → w'.cell? ⟨w.heap.size + 1, 4, none⟩ = some (.slice A' n' c') := fun w' h => u4 _ (hx5.trans h)
        clear s0 s1 s2 s3 s4 u0 u1 u2 u3 u4 k0 k1 k2 k3 k4 k5 k6 k7 k8 k9 k10 k11 k12 p0 p1 p2 t0 t1 t2 t3 t4
        refine wp_region_noPanic ?_
        refine wp_region_held_drew (S := fun w' => Ext w5 w') (by kernel_rfl) ?_ (fun hHeld => ?_)
        · (repeat (first | exact Ext.refl _ | assumption | refine Ext.setCell ?_ (by first | (simp; done) | (simp; omega)) _ | refine Ext.drewN ?_ _ | refine Ext.alloc ?_ _ | refine Ext.drew ?_ | refine Ext.trans ?_ (by assumption)))
        refine wpAnyH_take (i := 0) (oi := ?o18x0) (v := ?v18x0) ?hi18x0 (by kernel_rfl) ?hf18x0 ?hr18x0 (fun _ _ _ h => h) ?hy18x0 (by assumption) ?rest18x0
        case hi18x0 => (simp only [List.getElem?_toArray, List.getElem?_cons_zero]; exact rfl)
        case hf18x0 => kernel_rfl
        case hr18x0 => kernel_rfl
        case hy18x0 => (refine Or.inl ⟨by rfl, ?_⟩; intro w hSw; (try dsimp only at hSw); go_simp; try with_reducible rfl)
        simp only [put_mk, List.set_cons_succ, List.set_cons_zero]
        refine wpAnyH_take (i := 1) (oi := ?o19x1) (v := ?v19x1) ?hi19x1 (by kernel_rfl) ?hf19x1 ?hr19x1 (fun _ _ _ h => h) ?hy19x1 (by assumption) ?rest19x1
        case hi19x1 => (simp only [List.getElem?_toArray, List.getElem?_cons_succ, List.getElem?_cons_zero]; exact rfl)
        case hf19x1 => kernel_rfl
        case hr19x1 => kernel_rfl
        case hy19x1 => (refine Or.inl ⟨by rfl, ?_⟩; intro w hSw; (try dsimp only at hSw); go_simp; try with_reducible rfl)
        simp only [put_mk, List.set_cons_succ, List.set_cons_zero]
        refine wpAnyH_take (i := 2) (oi := ?o20x2) (v := ?v20x2) ?hi20x2 (by kernel_rfl) ?hf20x2 ?hr20x2 (fun _ _ _ h => h) ?hy20x2 (by assumption) ?rest20x2
        case hi20x2 => (simp only [List.getElem?_toArray, List.getElem?_cons_succ, List.getElem?_cons_zero]; exact rfl)
        case hf20x2 => kernel_rfl
        case hr20x2 => kernel_rfl
        case hy20x2 => (refine Or.inl ⟨by rfl, ?_⟩; intro w hSw; (try dsimp only at hSw); go_simp; try with_reducible rfl)
        simp only [put_mk, List.set_cons_succ, List.set_cons_zero]
        refine wpAnyH_take (i := 3) (oi := ?o21x3) (v := ?v21x3) ?hi21x3 (by kernel_rfl) ?hf21x3 ?hr21x3 (fun _ _ _ h => h) ?hy21x3 (by assumption) ?rest21x3
        case hi21x3 => (simp only [List.getElem?_toArray, List.getElem?_cons_succ, List.getElem?_cons_zero]; exact rfl)
        case hf21x3 => kernel_rfl
        case hr21x3 => kernel_rfl
        case hy21x3 => (refine Or.inl ⟨by rfl, ?_⟩; intro w hSw; (try dsimp only at hSw); go_simp; try with_reducible rfl)
        simp only [put_mk, List.set_cons_succ, List.set_cons_zero]
        refine wpAnyH_take (i := 4) (oi := ?o22x4) (v := ?v22x4) ?hi22x4 (by kernel_rfl) ?hf22x4 ?hr22x4 (fun _ _ _ h => h) ?hy22x4 (by assumption) ?rest22x4
        case hi22x4 => (simp only [List.getElem?_toArray, List.getElem?_cons_succ, List.getElem?_cons_zero]; exact rfl)
        case hf22x4 => kernel_rfl
        case hr22x4 => kernel_rfl
        case hy22x4 => (refine Or.inl ⟨by rfl, ?_⟩; intro w hSw; (try dsimp only at hSw); go_simp; try with_reducible rfl)
        simp only [put_mk, List.set_cons_succ, List.set_cons_zero]
        refine wpAnyH_take (i := 5) (oi := ?o23x5) (v := ?v23x5) ?hi23x5 (by kernel_rfl) ?hf23x5 ?hr23x5 (fun _ _ _ h => h) ?hy23x5 (by assumption) ?rest23x5
        case hi23x5 => (simp only [List.getElem?_toArray, List.getElem?_cons_succ, List.getElem?_cons_zero]; exact rfl)
        case hf23x5 => kernel_rfl
        case hr23x5 => kernel_rfl
        case hy23x5 => (refine Or.inl ⟨by rfl, ?_⟩; intro w hSw; (try dsimp only at hSw); go_simp; try with_reducible rfl)
        simp only [put_mk, List.set_cons_succ, List.set_cons_zero]
        refine wpAnyH_ready (rs := [6, 8]) (by kernel_rfl) (by simp) ?_
        refine (AllReadyH.cons (o := ?o24x6) ?hi24x6 (fun K hK => ?_) (AllReadyH.cons (o := ?o24x8) ?hi24x8 (fun K hK => ?_) AllReadyH.nil))
        case hi24x6 => (simp only [List.getElem?_toArray, List.getElem?_cons_succ, List.getElem?_cons_zero]; exact rfl)
        case hi24x8 => (simp only [List.getElem?_toArray, List.getElem?_cons_succ, List.getElem?_cons_zero]; exact rfl)
        · go_simp
          refine (cell_any X Y W H x y _ HR.out HI.out).mono ?_
          rw [HC.out]
          rintro e w6 ⟨rfl, hb6⟩
          have hl6 : w5.heap.size ≤ w6.heap.size := by have := hb6.size; (try simp at this); omega
          refine hK.out _ _ ?_ (fun hHeld => ?_)
          · (repeat (first | exact Ext.refl _ | assumption | refine Ext.setCell ?_ (by first | (simp; done) | (simp; omega)) _ | refine Ext.drewN ?_ _ | refine Ext.alloc ?_ _ | refine Ext.drew ?_ | refine Ext.trans ?_ (by assumption)))
          clear hK K
          refine wpAnyH_ready (rs := [7, 8]) (by kernel_rfl) (by simp) ?_
          refine (AllReadyH.cons (o := ?o25x7) ?hi25x7 (fun K hK => ?_) (AllReadyH.cons (o := ?o25x8) ?hi25x8 (fun K hK => ?_) AllReadyH.nil))
          case hi25x7 => (simp only [List.getElem?_toArray, List.getElem?_cons_succ, List.getElem?_cons_zero]; exact rfl)
          case hi25x8 => (simp only [List.getElem?_toArray, List.getElem?_cons_succ, List.getElem?_cons_zero]; exact rfl)
          · go_simp
            refine ((HGO _ ?_).out).mono ?_
            · (repeat (first | exact Ext.refl _ | assumption | refine Ext.setCell ?_ (by first | (simp; done) | (simp; omega)) _ | refine Ext.drewN ?_ _ | refine Ext.alloc ?_ _ | refine Ext.drew ?_ | refine Ext.trans ?_ (by assumption)))
            rintro e w7 ⟨rfl, hb7⟩
            refine hK.out _ _ ?_ (fun hHeld => ?_)
            · (repeat (first | exact Ext.refl _ | assumption | refine Ext.setCell ?_ (by first | (simp; done) | (simp; omega)) _ | refine Ext.drewN ?_ _ | refine Ext.alloc ?_ _ | refine Ext.drew ?_ | refine Ext.trans ?_ (by assumption)))
            clear hK K
            refine wpAnyH_ready (rs := [8]) (by kernel_rfl) (by simp) ?_
            refine AllReadyH.cons (o := ?o26x8) ?hi26x8 (fun K hK => ?_) AllReadyH.nil
            case hi26x8 => (simp only [List.getElem?_toArray, List.getElem?_cons_succ, List.getElem?_cons_zero]; exact rfl)
            go_simp
            refine hK.out _ _ ?_ (fun hHeld => ?_)
            · (repeat (first | exact Ext.refl _ | assumption | refine Ext.setCell ?_ (by first | (simp; done) | (simp; omega)) _ | refine Ext.drewN ?_ _ | refine Ext.alloc ?_ _ | refine Ext.drew ?_ | refine Ext.trans ?_ (by assumption)))
            clear hK K
            refine wpAnyH_ready (rs := [9]) (by kernel_rfl) (by simp) ?_
            refine AllReadyH.cons (o := ?o27x9) ?hi27x9 (fun K hK => ?_) AllReadyH.nil
            case hi27x9 => (simp only [List.getElem?_toArray, List.getElem?_cons_succ, List.getElem?_cons_zero]; exact rfl)
            go_simp
            refine hK.out _ _ ?_ (fun hHeld => ?_)
            · (repeat (first | exact Ext.refl _ | assumption | refine Ext.setCell ?_ (by first | (simp; done) | (simp; omega)) _ | refine Ext.drewN ?_ _ | refine Ext.alloc ?_ _ | refine Ext.drew ?_ | refine Ext.trans ?_ (by assumption)))
            clear hK K
            refine wpAnyH_done (by kernel_rfl) ?_ _
            refine NoPanic.normal ?_
            go_wp2_with fail
            go_meet
            case rel =>
              refine ⟨_, rfl, ?_, ?_, (by repeat (first | exact Ext.refl _ | assumption | refine Ext.setCell ?_ (by first | (simp; done) | (simp; omega)) _ | refine Ext.drewN ?_ _ | refine Ext.alloc ?_ _ | refine Ext.drew ?_ | refine Ext.trans ?_ (by assumption)))⟩
              · first | exact Nat.le_refl _ | exact hb7.size | (have := hb7.size; have := hb6.size; simp at *; omega)
              · first | exact Bk.new' rfl | exact (by simpa using ((hg.set 0 (.float .f32 (valAt X Y W l (x, y)))).set 1 (.float .f32 (slopeK X Y W H l x y 4))).set 2 (.float .f32 (wetR (valAt X Y W l' (x, y)))))
          · go_simp
            refine hK.out _ _ ?_ (fun hHeld => ?_)
            · (repeat (first | exact Ext.refl _ | assumption | refine Ext.setCell ?_ (by first | (simp; done) | (simp; omega)) _ | refine Ext.drewN ?_ _ | refine Ext.alloc ?_ _ | refine Ext.drew ?_ | refine Ext.trans ?_ (by assumption)))
            clear hK K
            refine wpAnyH_ready (rs := [7]) (by kernel_rfl) (by simp) ?_
            refine AllReadyH.cons (o := ?o28x7) ?hi28x7 (fun K hK => ?_) AllReadyH.nil
            case hi28x7 => (simp only [List.getElem?_toArray, List.getElem?_cons_succ, List.getElem?_cons_zero]; exact rfl)
            go_simp
            refine ((HGO _ ?_).out).mono ?_
            · (repeat (first | exact Ext.refl _ | assumption | refine Ext.setCell ?_ (by first | (simp; done) | (simp; omega)) _ | refine Ext.drewN ?_ _ | refine Ext.alloc ?_ _ | refine Ext.drew ?_ | refine Ext.trans ?_ (by assumption)))
            rintro e w7 ⟨rfl, hb7⟩
            have hg : Bk w7 w6.heap.size 32 #[.float .f32 0, .float .f32 0, .float .f32 0] := by first | exact (Bk.new _ _ _).ext hb7 | exact (Bk.new _ _ _).drew.ext hb7 | exact ((Bk.new _ _ _).ext hb6).ext hb7 | exact ((Bk.new _ _ _).drew.ext hb6).ext hb7 | exact ((Bk.new _ _ _).drew.ext hb6).drew.ext hb7
            have c0 := hg.cell 0
            have c1 := hg.cell 1
            have c2 := hg.cell 2
            have c3 := hg.frozen 0
            have c4 := hg.frozen 1
            have c5 := hg.frozen 2
            refine hK.out _ _ ?_ (fun hHeld => ?_)
            · (repeat (first | exact Ext.refl _ | assumption | refine Ext.setCell ?_ (by first | (simp; done) | (simp; omega)) _ | refine Ext.drewN ?_ _ | refine Ext.alloc ?_ _ | refine Ext.drew ?_ | refine Ext.trans ?_ (by assumption)))
            clear hK K
            refine wpAnyH_ready (rs := [9]) (by kernel_rfl) (by simp) ?_
            refine AllReadyH.cons (o := ?o29x9) ?hi29x9 (fun K hK => ?_) AllReadyH.nil
            case hi29x9 => (simp only [List.getElem?_toArray, List.getElem?_cons_succ, List.getElem?_cons_zero]; exact rfl)
            go_simp
            refine hK.out _ _ ?_ (fun hHeld => ?_)
            · (repeat (first | exact Ext.refl _ | assumption | refine Ext.setCell ?_ (by first | (simp; done) | (simp; omega)) _ | refine Ext.drewN ?_ _ | refine Ext.alloc ?_ _ | refine Ext.drew ?_ | refine Ext.trans ?_ (by assumption)))
            clear hK K
            refine wpAnyH_done (by kernel_rfl) ?_ _
            refine NoPanic.normal ?_
            go_wp2_with fail
            go_meet
            case rel =>
              refine ⟨_, rfl, ?_, ?_, (by repeat (first | exact Ext.refl _ | assumption | refine Ext.setCell ?_ (by first | (simp; done) | (simp; omega)) _ | refine Ext.drewN ?_ _ | refine Ext.alloc ?_ _ | refine Ext.drew ?_ | refine Ext.trans ?_ (by assumption)))⟩
              · first | exact Nat.le_refl _ | exact hb7.size | (have := hb7.size; have := hb6.size; simp at *; omega)
              · first | exact Bk.new' rfl | exact (by simpa using ((hg.set 0 (.float .f32 (valAt X Y W l (x, y)))).set 1 (.float .f32 (slopeK X Y W H l x y 4))).set 2 (.float .f32 (wetR (valAt X Y W l' (x, y)))))
        · go_simp
          refine hK.out _ _ ?_ (fun hHeld => ?_)
          · (repeat (first | exact Ext.refl _ | assumption | refine Ext.setCell ?_ (by first | (simp; done) | (simp; omega)) _ | refine Ext.drewN ?_ _ | refine Ext.alloc ?_ _ | refine Ext.drew ?_ | refine Ext.trans ?_ (by assumption)))
          clear hK K
          refine wpAnyH_ready (rs := [6]) (by kernel_rfl) (by simp) ?_
          refine AllReadyH.cons (o := ?o30x6) ?hi30x6 (fun K hK => ?_) AllReadyH.nil
          case hi30x6 => (simp only [List.getElem?_toArray, List.getElem?_cons_succ, List.getElem?_cons_zero]; exact rfl)
          go_simp
          refine (cell_any X Y W H x y _ HR.out HI.out).mono ?_
          rw [HC.out]
          rintro e w6 ⟨rfl, hb6⟩
          have hl6 : w5.heap.size ≤ w6.heap.size := by have := hb6.size; (try simp at this); omega
          refine hK.out _ _ ?_ (fun hHeld => ?_)
          · (repeat (first | exact Ext.refl _ | assumption | refine Ext.setCell ?_ (by first | (simp; done) | (simp; omega)) _ | refine Ext.drewN ?_ _ | refine Ext.alloc ?_ _ | refine Ext.drew ?_ | refine Ext.trans ?_ (by assumption)))
          clear hK K
          refine wpAnyH_ready (rs := [7]) (by kernel_rfl) (by simp) ?_
          refine AllReadyH.cons (o := ?o31x7) ?hi31x7 (fun K hK => ?_) AllReadyH.nil
          case hi31x7 => (simp only [List.getElem?_toArray, List.getElem?_cons_succ, List.getElem?_cons_zero]; exact rfl)
          go_simp
          refine ((HGO _ ?_).out).mono ?_
          · (repeat (first | exact Ext.refl _ | assumption | refine Ext.setCell ?_ (by first | (simp; done) | (simp; omega)) _ | refine Ext.drewN ?_ _ | refine Ext.alloc ?_ _ | refine Ext.drew ?_ | refine Ext.trans ?_ (by assumption)))
          rintro e w7 ⟨rfl, hb7⟩
          have hg : Bk w7 w5.heap.size 32 #[.float .f32 0, .float .f32 0, .float .f32 0] := by first | exact (Bk.new _ _ _).ext hb7 | exact (Bk.new _ _ _).drew.ext hb7 | exact ((Bk.new _ _ _).ext hb6).ext hb7 | exact ((Bk.new _ _ _).drew.ext hb6).ext hb7 | exact ((Bk.new _ _ _).drew.ext hb6).drew.ext hb7
          have c0 := hg.cell 0
          have c1 := hg.cell 1
          have c2 := hg.cell 2
          have c3 := hg.frozen 0
          have c4 := hg.frozen 1
          have c5 := hg.frozen 2
          refine hK.out _ _ ?_ (fun hHeld => ?_)
          · (repeat (first | exact Ext.refl _ | assumption | refine Ext.setCell ?_ (by first | (simp; done) | (simp; omega)) _ | refine Ext.drewN ?_ _ | refine Ext.alloc ?_ _ | refine Ext.drew ?_ | refine Ext.trans ?_ (by assumption)))
          clear hK K
          refine wpAnyH_ready (rs := [9]) (by kernel_rfl) (by simp) ?_
          refine AllReadyH.cons (o := ?o32x9) ?hi32x9 (fun K hK => ?_) AllReadyH.nil
          case hi32x9 => (simp only [List.getElem?_toArray, List.getElem?_cons_succ, List.getElem?_cons_zero]; exact rfl)
          go_simp
          refine hK.out _ _ ?_ (fun hHeld => ?_)
          · (repeat (first | exact Ext.refl _ | assumption | refine Ext.setCell ?_ (by first | (simp; done) | (simp; omega)) _ | refine Ext.drewN ?_ _ | refine Ext.alloc ?_ _ | refine Ext.drew ?_ | refine Ext.trans ?_ (by assumption)))
          clear hK K
          refine wpAnyH_done (by kernel_rfl) ?_ _
          refine NoPanic.normal ?_
          go_wp2_with fail
          go_meet
          case rel =>
            refine ⟨_, rfl, ?_, ?_, (by repeat (first | exact Ext.refl _ | assumption | refine Ext.setCell ?_ (by first | (simp; done) | (simp; omega)) _ | refine Ext.drewN ?_ _ | refine Ext.alloc ?_ _ | refine Ext.drew ?_ | refine Ext.trans ?_ (by assumption)))⟩
            · first | exact Nat.le_refl _ | exact hb7.size | (have := hb7.size; have := hb6.size; simp at *; omega)
            · first | exact Bk.new' rfl | exact (by simpa using ((hg.set 0 (.float .f32 (valAt X Y W l (x, y)))).set 1 (.float .f32 (slopeK X Y W H l x y 4))).set 2 (.float .f32 (wetR (valAt X Y W l' (x, y)))))
      case rest =>
        obtain ⟨g, rfl, hg0, hGB, hxc⟩ := hcut
        have hx6 := hx5.trans hxc
        have m0 := hGB.cell 0
        have m1 := hGB.cell 1
        have m2 := hGB.cell 2
        have hlg := hGB.lt
        have hq5 : w1.heap.size < wc.heap.size := by have := hx6.size; omega
        have HSL := slope_bd HV.out HI.out 4
        have hcs : (hgtB (slopeK X Y W H l x y 4) = false ∧ ge = 3 ∧ g0 = 0 ∧ g1 = 0 ∧ g2 = 0) ∨ (hgtB (slopeK X Y W H l x y 4) = true ∧ ge = 0 ∧ g0 = valAt X Y W l (x, y) ∧ g1 = slopeK X Y W H l x y 4 ∧ g2 = wetF (valAt X Y W l' (x, y))) := by
          rcases HCC.out with ⟨h, _⟩ | ⟨_, h⟩
          · exact absurd HI.out h
          · exact h
        rcases hcs with ⟨hz, rfl, rfl, rfl, rfl⟩ | ⟨hz, rfl, rfl, rfl, rfl⟩
        · have b9 : (numE [slopeK X Y W H l x y 4] != 0) = true := by
            have : numE [slopeK X Y W H l x y 4] ≠ 0 := fun h => by have := (numE_zero h).2 (slopeK X Y W H l x y 4) (by simp); rw [hz] at this; cases this
            simpa using this
          have r0 := p0 _ hx6
          have r1 := p1 _ hx6
          have r2 := p2 _ hx6
          clear HCC
          go_wp2_with fail
          refine (numberError_any _ 1 1 [slopeK X Y W H l x y 4] _ rfl (Rd.new (by first | rfl | simp) rfl) (by omega)).mono ?_
          rintro e w' ⟨rfl, rfl⟩
          go_wp2_with fail
          go_meet
          case rel => exact (by repeat (first | exact Ext.refl _ | assumption | refine Ext.setCell ?_ (by first | (simp; done) | (simp; omega)) _ | refine Ext.drewN ?_ _ | refine Ext.alloc ?_ _ | refine Ext.drew ?_ | refine Ext.trans ?_ (by assumption)))
        · have HN : Hid (numE [slopeK X Y W H l x y 4] = 0) := numE_ok (by simpa using bd_finB (hgt_bd hz) (by omega)) (by simpa using hz)
          have e0 : (FloatKind.f32.format.order (valAt X Y W l (x, y)) (valAt X Y W l (x, y)) == some .eq) = true := by rw [ord_def, ord_self (bd_fin (HV.out _ _ HI.out) (by omega))]; rfl
          have e1 : (FloatKind.f32.format.order (slopeK X Y W H l x y 4) (slopeK X Y W H l x y 4) == some .eq) = true := by rw [ord_def, ord_self (bd_fin HSL.1 (by omega))]; rfl
          have e2 : (FloatKind.f32.format.order (wetF (valAt X Y W l' (x, y))) (wetR (valAt X Y W l' (x, y))) == some .eq) = true := by rw [ord_def, wet_eq (HV'.out _ _ HI.out) (by omega)]; rfl
          have r0 := p0 _ hx6
          have r1 := p1 _ hx6
          have r2 := p2 _ hx6
          clear HCC
          go_wp2_with fail
          refine (numberError_any _ 1 1 [slopeK X Y W H l x y 4] _ rfl (Rd.new (by first | rfl | simp) rfl) (by omega)).mono ?_
          rw [HN.out]
          rintro e w' ⟨rfl, rfl⟩
          go_wp2_with fail
          go_meet
          case rel => exact (by repeat (first | exact Ext.refl _ | assumption | refine Ext.setCell ?_ (by first | (simp; done) | (simp; omega)) _ | refine Ext.drewN ?_ _ | refine Ext.alloc ?_ _ | refine Ext.drew ?_ | refine Ext.trans ?_ (by assumption)))
    · obtain rfl : b6 = false := by rw [← HB.out, hasB_ok HR.out]; exact decide_eq_false hi
      have hcs : ge = 5 ∧ g0 = 0 ∧ g1 = 0 ∧ g2 = 0 := by
        rcases HCC.out with ⟨_, h⟩ | ⟨h, _⟩
        · exact h
        · exact absurd h hi
      obtain ⟨rfl, rfl, rfl, rfl⟩ := hcs
      clear HCC hi
      have r0 := p0 _ hx5
      have r1 := p1 _ hx5
      have r2 := p2 _ hx5
      go_wp2_with fail
      go_meet
      case rel => exact (by repeat (first | exact Ext.refl _ | assumption | refine Ext.setCell ?_ (by first | (simp; done) | (simp; omega)) _ | refine Ext.drewN ?_ _ | refine Ext.alloc ?_ _ | refine Ext.drew ?_ | refine Ext.trans ?_ (by assumption)))
  case rest =>
    clear HCC p0 p1 p2
    have hxc : Ext w3 wc := hcut
    have d0 : wc.cell? ⟨w.heap.size + 1 + 1, 0, none⟩ = some (.string s) := k0 _ hxc
    have d1 : wc.cell? ⟨w.heap.size + 1 + 1, 1, none⟩ = some (.float .f32 a0) := k1 _ hxc
    have d2 : wc.cell? ⟨w.heap.size + 1 + 1, 2, none⟩ = some (.float .f32 a1) := k2 _ hxc
    have d3 : wc.cell? ⟨w.heap.size + 1 + 1, 3, none⟩ = some (.float .f32 a2) := k3 _ hxc
    have d4 : wc.cell? ⟨w.heap.size + 1 + 1, 4, none⟩ = some (.float .f32 a3) := k4 _ hxc
    have d5 : wc.cell? ⟨w.heap.size + 1 + 1, 5, none⟩ = some (.float .f32 a4) := k5 _ hxc
    have d6 : wc.cell? ⟨w.heap.size + 1 + 1, 6, none⟩ = some (.float .f32 a5) := k6 _ hxc
    have d7 : wc.cell? ⟨w.heap.size + 1 + 1, 7, none⟩ = some (.float .f32 a6) := k7 _ hxc
    have d8 : wc.cell? ⟨w.heap.size + 1 + 1, 8, none⟩ = some (.float .f32 a7) := k8 _ hxc
    have d9 : wc.cell? ⟨w.heap.size + 1 + 1, 9, none⟩ = some (.float .f32 a8) := k9 _ hxc
    have d10 : wc.cell? ⟨w.heap.size + 1 + 1, 10, none⟩ = some (.float .f32 a9) := k10 _ hxc
    have d11 : wc.cell? ⟨w.heap.size + 1 + 1, 11, none⟩ = some (.int .i64 p) := k11 _ hxc
    have d12 : wc.cell? ⟨w.heap.size + 1 + 1, 12, none⟩ = some (.int .i64 q) := k12 _ hxc
    go_wp2_with fail
    refine (kindError_any s a0 a1 a2 a3 a4 a5 a6 a7 a8 a9 p q _ hs).mono ?_
    rw [HK.out]
    rintro e w6 ⟨rfl, hb6⟩
    have hx6 : Ext w3 w6 := (by repeat (first | exact Ext.refl _ | assumption | refine Ext.setCell ?_ (by first | (simp; done) | (simp; omega)) _ | refine Ext.drewN ?_ _ | refine Ext.alloc ?_ _ | refine Ext.drew ?_ | refine Ext.trans ?_ (by assumption)))
    obtain ⟨i0, hi0, hz0, hz1, hz2⟩ := info_parts Tryd.infoF32
    have k0' : ∀ w', Ext w6 w' → w'.cell? ⟨w.heap.size + 1 + 1, 0, none⟩ = some (.string s) := fun w' h => k0 _ (hx6.trans h)
    have k1' : ∀ w', Ext w6 w' → w'.cell? ⟨w.heap.size + 1 + 1, 1, none⟩ = some (.float .f32 a0) := fun w' h => k1 _ (hx6.trans h)
    have k2' : ∀ w', Ext w6 w' → w'.cell? ⟨w.heap.size + 1 + 1, 2, none⟩ = some (.float .f32 a1) := fun w' h => k2 _ (hx6.trans h)
    have k3' : ∀ w', Ext w6 w' → w'.cell? ⟨w.heap.size + 1 + 1, 3, none⟩ = some (.float .f32 a2) := fun w' h => k3 _ (hx6.trans h)
    have k4' : ∀ w', Ext w6 w' → w'.cell? ⟨w.heap.size + 1 + 1, 4, none⟩ = some (.float .f32 a3) := fun w' h => k4 _ (hx6.trans h)
    have k5' : ∀ w', Ext w6 w' → w'.cell? ⟨w.heap.size + 1 + 1, 5, none⟩ = some (.float .f32 a4) := fun w' h => k5 _ (hx6.trans h)
    have k6' : ∀ w', Ext w6 w' → w'.cell? ⟨w.heap.size + 1 + 1, 6, none⟩ = some (.float .f32 a5) := fun w' h => k6 _ (hx6.trans h)
    have k7' : ∀ w', Ext w6 w' → w'.cell? ⟨w.heap.size + 1 + 1, 7, none⟩ = some (.float .f32 a6) := fun w' h => k7 _ (hx6.trans h)
    have k8' : ∀ w', Ext w6 w' → w'.cell? ⟨w.heap.size + 1 + 1, 8, none⟩ = some (.float .f32 a7) := fun w' h => k8 _ (hx6.trans h)
    have k9' : ∀ w', Ext w6 w' → w'.cell? ⟨w.heap.size + 1 + 1, 9, none⟩ = some (.float .f32 a8) := fun w' h => k9 _ (hx6.trans h)
    have k10' : ∀ w', Ext w6 w' → w'.cell? ⟨w.heap.size + 1 + 1, 10, none⟩ = some (.float .f32 a9) := fun w' h => k10 _ (hx6.trans h)
    have k11' : ∀ w', Ext w6 w' → w'.cell? ⟨w.heap.size + 1 + 1, 11, none⟩ = some (.int .i64 p) := fun w' h => k11 _ (hx6.trans h)
    have k12' : ∀ w', Ext w6 w' → w'.cell? ⟨w.heap.size + 1 + 1, 12, none⟩ = some (.int .i64 q) := fun w' h => k12 _ (hx6.trans h)
    have s0' : ∀ w', Ext w6 w' → w'.cell? ⟨w.heap.size, 0, none⟩ = some (.int .i64 X) := fun w' h => s0 _ (hx6.trans h)
    have s1' : ∀ w', Ext w6 w' → w'.cell? ⟨w.heap.size, 1, none⟩ = some (.int .i64 Y) := fun w' h => s1 _ (hx6.trans h)
    have s2' : ∀ w', Ext w6 w' → w'.cell? ⟨w.heap.size, 2, none⟩ = some (.int .i64 W) := fun w' h => s2 _ (hx6.trans h)
    have s3' : ∀ w', Ext w6 w' → w'.cell? ⟨w.heap.size, 3, none⟩ = some (.int .i64 H) := fun w' h => s3 _ (hx6.trans h)
    have s4' : ∀ w', Ext w6 w' → w'.cell? ⟨w.heap.size, 4, none⟩ = some (.slice A n c) := fun w' h => s4 _ (hx6.trans h)
    have u0' : ∀ w', Ext w6 w' → w'.cell? ⟨w.heap.size + 1, 0, none⟩ = some (.int .i64 X) := fun w' h => u0 _ (hx6.trans h)
    have u1' : ∀ w', Ext w6 w' → w'.cell? ⟨w.heap.size + 1, 1, none⟩ = some (.int .i64 Y) := fun w' h => u1 _ (hx6.trans h)
    have u2' : ∀ w', Ext w6 w' → w'.cell? ⟨w.heap.size + 1, 2, none⟩ = some (.int .i64 W) := fun w' h => u2 _ (hx6.trans h)
    have u3' : ∀ w', Ext w6 w' → w'.cell? ⟨w.heap.size + 1, 3, none⟩ = some (.int .i64 H) := fun w' h => u3 _ (hx6.trans h)
    have u4' : ∀ w', Ext w6 w' → w'.cell? ⟨w.heap.size + 1, 4, none⟩ = some (.slice A' n' c') := fun w' h => u4 _ (hx6.trans h)
    have t0' : ∀ w', Ext w6 w' → w'.cell? ⟨w2.heap.size, 0, none⟩ = some (.int .i64 X) := fun w' h => t0 _ (hx6.trans h)
    have t1' : ∀ w', Ext w6 w' → w'.cell? ⟨w2.heap.size, 1, none⟩ = some (.int .i64 Y) := fun w' h => t1 _ (hx6.trans h)
    have t2' : ∀ w', Ext w6 w' → w'.cell? ⟨w2.heap.size, 2, none⟩ = some (.int .i64 W) := fun w' h => t2 _ (hx6.trans h)
    have t3' : ∀ w', Ext w6 w' → w'.cell? ⟨w2.heap.size, 3, none⟩ = some (.int .i64 H) := fun w' h => t3 _ (hx6.trans h)
    have t4' : ∀ w', Ext w6 w' → w'.cell? ⟨w2.heap.size, 4, none⟩ = some (.slice B n d) := fun w' h => t4 _ (hx6.trans h)
    have hQ : w2.heap.size < w6.heap.size := Nat.lt_of_lt_of_le hl3 hx6.size
    have hd6 := fun (w' : World) (h : Ext w6 w') => hD w' (hx6.trans h)
    have hd6' := fun (w' : World) (h : Ext w6 w') => hD' w' (hx6.trans h)
    have hB6 := hB3.ext hx6
    have HX6 := hidA hx6
    clear d0 d1 d2 d3 d4 d5 d6 d7 d8 d9 d10 d11 d12 k0 k1 k2 k3 k4 k5 k6 k7 k8 k9 k10 k11 k12 s0 s1 s2 s3 s4 u0 u1 u2 u3 u4 t0 t1 t2 t3 t4 hD hD' hB3 hx6 hb6 hxc hcut hl3
    have e0 := s4' _ (Ext.refl _)
    go_wp2_with fail
    clear e0
    go_loopw [18, 118] (fun v i wr => ∃ (k : Nat) (C : Option Addr) (z : Nat), k ≤ n ∧ i = .int .i64 k ∧ v = .slice C k z ∧ wr.ownsRow w6.heap.size 26 1 (.slice C k z) k (flt ((List.range k).map (fitK X Y W H l l' a0 a1 a2 a3 a4 a5))) ∧ Ext w6 wr) (fun _ i _ => n - (intOf i).toNat)
    case atStart => exact ⟨0, none, 0, by omega, rfl, rfl, by simpa [flt] using World.ownsRow_nil _ _ _ _, Ext.refl _⟩
    case round =>
      obtain ⟨k, C, z, hk, rfl, rfl, hown, hxr⟩ := hrel
      by_cases hlt : k < n
      · obtain ⟨xk, yk, hpk⟩ : ∃ xk yk, placeK X Y W k = (xk, yk) := ⟨_, _, rfl⟩
        have hik : InR X Y W H xk yk := by
          have h := placeK_in HR.out HNW.out hlt
          rw [hpk] at h
          exact h
        have HGO := fun (w' : World) (h : Ext w6 w') => HGK w' k hlt (hd6 w' h) (hd6' w' h)
        rw [hpk] at HGO
        obtain ⟨q0, q1, q2, q3, q4, q5⟩ := kindE_zero HK.out
        have HSO := fun (w' : World) => hidA (show Calls Tryd.prog 18 #[.agg #[.string s, .float .f32 a0, .float .f32 a1, .float .f32 a2, .float .f32 a3, .float .f32 a4, .float .f32 a5, .float .f32 a6, .float .f32 a7, .float .f32 a8, .float .f32 a9, .int .i64 p, .int .i64 q], .agg #[.float .f32 (valAt X Y W l (xk, yk)), .float .f32 (slopeK X Y W H l xk yk 4), .float .f32 (wetR (valAt X Y W l' (xk, yk)))]] w' fun e w'' => e = .returned (.float .f32 (fitK X Y W H l l' a0 a1 a2 a3 a4 a5 k)) ∧ Ext w' w'' from by
          have h := suitOf_any s a0 a1 a2 a3 a4 a5 a6 a7 a8 a9 (valAt X Y W l (xk, yk)) (slopeK X Y W H l xk yk 4) (wetR (valAt X Y W l' (xk, yk))) p q w' (HV.out _ _ hik) (slope_bd HV.out hik 4).1 (wetR_bd (HV'.out _ _ hik)) (slope_nonneg HV.out hik 4) q0 q1 q2 q3 q4 q5
          rw [← suit_wet (HV'.out _ _ hik) q4 q5] at h
          have e : fitK X Y W H l l' a0 a1 a2 a3 a4 a5 k = suitF a0 a1 a2 a3 a4 a5 (valAt X Y W l (xk, yk)) (slopeK X Y W H l xk yk 4) (wetF (valAt X Y W l' (xk, yk))) := by
            unfold fitK fitAt
            rw [hpk]
          rw [e]
          exact h)
        clear hpk hik q0 q1 q2 q3 q4 q5
        have u1 : k + 1 ≤ maxLen := by unfold maxLen; omega
        have u2 : (k + 1) * 4 ≤ 140737488355328 := by omega
        have hlr := hxr.size
        go_wp2_with fail
        refine wp_region_noPanic ?_
        refine wp_region_held_drew (S := fun w' => Ext w6 w') (by kernel_rfl) ?_ (fun hHeld => ?_)
        · (repeat (first | exact Ext.refl _ | assumption | refine Ext.setCell ?_ (by first | (simp; done) | (simp; omega)) _ | refine Ext.drewN ?_ _ | refine Ext.alloc ?_ _ | refine Ext.drew ?_ | refine Ext.trans ?_ (by assumption)))
        refine wpAnyH_take (i := 0) (oi := ?o33x0) (v := ?v33x0) ?hi33x0 (by kernel_rfl) ?hf33x0 ?hr33x0 (fun _ _ _ h => h) ?hy33x0 (by assumption) ?rest33x0
        case hi33x0 => (simp only [List.getElem?_toArray, List.getElem?_cons_zero]; exact rfl)
        case hf33x0 => kernel_rfl
        case hr33x0 => kernel_rfl
        case hy33x0 => (refine Or.inl ⟨by rfl, ?_⟩; intro w hSw; (try dsimp only at hSw); go_simp; try with_reducible rfl)
        simp only [put_mk, List.set_cons_succ, List.set_cons_zero]
        refine wpAnyH_take (i := 1) (oi := ?o33x1) (v := ?v33x1) ?hi33x1 (by kernel_rfl) ?hf33x1 ?hr33x1 (fun _ _ _ h => h) ?hy33x1 (by assumption) ?rest33x1
        case hi33x1 => (simp only [List.getElem?_toArray, List.getElem?_cons_succ, List.getElem?_cons_zero]; exact rfl)
        case hf33x1 => kernel_rfl
        case hr33x1 => kernel_rfl
        case hy33x1 => (refine Or.inl ⟨by rfl, ?_⟩; intro w hSw; (try dsimp only at hSw); go_simp; try with_reducible rfl)
        simp only [put_mk, List.set_cons_succ, List.set_cons_zero]
        refine wpAnyH_take (i := 2) (oi := ?o33x2) (v := ?v33x2) ?hi33x2 (by kernel_rfl) ?hf33x2 ?hr33x2 (fun _ _ _ h => h) ?hy33x2 (by assumption) ?rest33x2
        case hi33x2 => (simp only [List.getElem?_toArray, List.getElem?_cons_succ, List.getElem?_cons_zero]; exact rfl)
        case hf33x2 => kernel_rfl
        case hr33x2 => kernel_rfl
        case hy33x2 => (refine Or.inl ⟨by rfl, ?_⟩; intro w hSw; (try dsimp only at hSw); go_simp; try with_reducible rfl)
        simp only [put_mk, List.set_cons_succ, List.set_cons_zero]
        refine wpAnyH_take (i := 3) (oi := ?o33x3) (v := ?v33x3) ?hi33x3 (by kernel_rfl) ?hf33x3 ?hr33x3 (fun _ _ _ h => h) ?hy33x3 (by assumption) ?rest33x3
        case hi33x3 => (simp only [List.getElem?_toArray, List.getElem?_cons_succ, List.getElem?_cons_zero]; exact rfl)
        case hf33x3 => kernel_rfl
        case hr33x3 => kernel_rfl
        case hy33x3 => (refine Or.inl ⟨by rfl, ?_⟩; intro w hSw; (try dsimp only at hSw); go_simp; try with_reducible rfl)
        simp only [put_mk, List.set_cons_succ, List.set_cons_zero]
        refine wpAnyH_take (i := 4) (oi := ?o33x4) (v := ?v33x4) ?hi33x4 (by kernel_rfl) ?hf33x4 ?hr33x4 (fun _ _ _ h => h) ?hy33x4 (by assumption) ?rest33x4
        case hi33x4 => (simp only [List.getElem?_toArray, List.getElem?_cons_succ, List.getElem?_cons_zero]; exact rfl)
        case hf33x4 => kernel_rfl
        case hr33x4 => kernel_rfl
        case hy33x4 => (refine Or.inl ⟨by rfl, ?_⟩; intro w hSw; (try dsimp only at hSw); go_simp; try with_reducible rfl)
        simp only [put_mk, List.set_cons_succ, List.set_cons_zero]
        refine wpAnyH_ready (rs := [5]) (by kernel_rfl) (by simp) ?_
        refine AllReadyH.cons (o := ?o33x5) ?hi33x5 (fun K hK => ?_) AllReadyH.nil
        case hi33x5 => (simp only [List.getElem?_toArray, List.getElem?_cons_succ, List.getElem?_cons_zero]; exact rfl)
        go_simp
        refine ((HGO _ ?_).out).mono ?_
        · (repeat (first | exact Ext.refl _ | assumption | refine Ext.setCell ?_ (by first | (simp; done) | (simp; omega)) _ | refine Ext.drewN ?_ _ | refine Ext.alloc ?_ _ | refine Ext.drew ?_ | refine Ext.trans ?_ (by assumption)))
        rintro e w7 ⟨rfl, hb7⟩
        refine hK.out _ _ ?_ (fun hHeld => ?_)
        · (repeat (first | exact Ext.refl _ | assumption | refine Ext.setCell ?_ (by first | (simp; done) | (simp; omega)) _ | refine Ext.drewN ?_ _ | refine Ext.alloc ?_ _ | refine Ext.drew ?_ | refine Ext.trans ?_ (by assumption)))
        clear hK K
        refine wpAnyH_ready (rs := [6]) (by kernel_rfl) (by simp) ?_
        refine AllReadyH.cons (o := ?o33x6) ?hi33x6 (fun K hK => ?_) AllReadyH.nil
        case hi33x6 => (simp only [List.getElem?_toArray, List.getElem?_cons_succ, List.getElem?_cons_zero]; exact rfl)
        go_simp
        refine ((HSO _).out).mono ?_
        rintro e w8 ⟨rfl, hb8⟩
        have hx8 : Ext wr w8 := ((Ext.refl wr).drew.trans hb7).trans hb8
        have hown8 := own_ext hown hx8
        have hl8 := hx8.size
        refine hK.out _ _ ?_ (fun hHeld => ?_)
        · (repeat (first | exact Ext.refl _ | assumption | refine Ext.setCell ?_ (by first | (simp; done) | (simp; omega)) _ | refine Ext.drewN ?_ _ | refine Ext.alloc ?_ _ | refine Ext.drew ?_ | refine Ext.trans ?_ (by assumption)))
        clear hK K
        refine wpAnyH_ready (rs := [7]) (by kernel_rfl) (by simp) ?_
        refine AllReadyH.cons (o := ?o33x7) ?hi33x7 (fun K hK => ?_) AllReadyH.nil
        case hi33x7 => (simp only [List.getElem?_toArray, List.getElem?_cons_succ, List.getElem?_cons_zero]; exact rfl)
        go_simp
        refine hK.out _ _ ?_ (fun hHeld => ?_)
        · (repeat (first | exact Ext.refl _ | assumption | refine Ext.setCell ?_ (by first | (simp; done) | (simp; omega)) _ | refine Ext.drewN ?_ _ | refine Ext.alloc ?_ _ | refine Ext.drew ?_ | refine Ext.trans ?_ (by assumption)))
        clear hK K
        refine wpAnyH_ready (rs := [8]) (by kernel_rfl) (by simp) ?_
        refine AllReadyH.cons (o := ?o33x8) ?hi33x8 (fun K hK => ?_) AllReadyH.nil
        case hi33x8 => (simp only [List.getElem?_toArray, List.getElem?_cons_succ, List.getElem?_cons_zero]; exact rfl)
        refine step_append_lies _ (by rfl) _ _ _ (by rfl) w6.heap.size 26 i0 _ 1 4 Tryd.underlying45 hi0 hz0 hz1 hz2 rfl (by decide) _ _ _ (by rfl) (hown8.alloc _) ⟨w8.heap.size, 0, none⟩ 1 1 [.float .f32 (fitK X Y W H l l' a0 a1 a2 a3 a4 a5 k)] (by rfl) (by rfl) (World.news_of_block (cs := #[.float .f32 (fitK X Y W H l l' a0 a1 a2 a3 a4 a5 k)]) (t := 26) (fr := (0, 0)) (heap_alloc_new w8 _)) (by simp [Value.oneCell']) (by decide) u1 u2 (by rw [World.size_alloc]; omega) (w8.heap.size + 1) (by simp) ?_
        intro gg cap w9 hown9 hgrow hat hltg
        have hx9 : Ext w6 w9 := ((hxr.trans hx8).alloc _).own (hown8.alloc _) (Nat.le_refl _) hgrow
        refine hK.out _ _ ?_ (fun hHeld => ?_)
        · (repeat (first | exact Ext.refl _ | assumption | refine Ext.setCell ?_ (by first | (simp; done) | (simp; omega)) _ | refine Ext.drewN ?_ _ | refine Ext.alloc ?_ _ | refine Ext.drew ?_ | refine Ext.trans ?_ (by assumption)))
        clear hK K
        simp only [put_mk, List.set_cons_succ, List.set_cons_zero]
        refine wpAnyH_take (i := 9) (oi := ?o33x9) (v := ?v33x9) ?hi33x9 (by kernel_rfl) ?hf33x9 ?hr33x9 (fun _ _ _ h => h) ?hy33x9 (by assumption) ?rest33x9
        case hi33x9 => (simp only [List.getElem?_toArray, List.getElem?_cons_succ, List.getElem?_cons_zero]; exact rfl)
        case hf33x9 => kernel_rfl
        case hr33x9 => kernel_rfl
        case hy33x9 => (refine Or.inl ⟨by rfl, ?_⟩; intro w hSw; (try dsimp only at hSw); go_simp; try with_reducible rfl)
        simp only [put_mk, List.set_cons_succ, List.set_cons_zero]
        refine wpAnyH_done (by kernel_rfl) ?_ _
        refine NoPanic.normal ?_
        go_wp2_with fail
        go_roundw
        case rel => exact ⟨k + 1, some ⟨gg, 0, none⟩, cap, by omega, by go_num, rfl, by rw [List.range_succ, List.map_append]; simpa [flt] using hown9, hx9⟩
        case measure => simp [intOf]; omega
      · obtain rfl : k = n := by omega
        have r0 := t0' _ hxr; have r1 := t1' _ hxr; have r2 := t2' _ hxr; have r3 := t3' _ hxr; have r4 := t4' _ hxr; have v0 := s0' _ hxr; have v1 := s1' _ hxr; have v2 := s2' _ hxr; have v3 := s3' _ hxr; have v4 := s4' _ hxr; have hrd := Rd.of_own hown
        have hBr := hB6.ext hxr
        have hxx := HX6.out.trans hxr
        go_wp2_with fail
        refine (result_ok X Y W H C B k z d ((List.range k).map (fitK X Y W H l l' a0 a1 a2 a3 a4 a5)) _ (by simp) (hrd.ext (by repeat (first | exact Ext.refl _ | assumption | refine Ext.setCell ?_ (by first | (simp; done) | (simp; omega)) _ | refine Ext.drewN ?_ _ | refine Ext.alloc ?_ _ | refine Ext.drew ?_ | refine Ext.trans ?_ (by assumption)))) (hBr.ext (by repeat (first | exact Ext.refl _ | assumption | refine Ext.setCell ?_ (by first | (simp; done) | (simp; omega)) _ | refine Ext.drewN ?_ _ | refine Ext.alloc ?_ _ | refine Ext.drew ?_ | refine Ext.trans ?_ (by assumption)))) (by omega) HZ.out).mono ?_
        rintro e w7 ⟨rfl, hb7⟩
        go_wp2
        go_ret
        exact ⟨rfl, (by repeat (first | exact Ext.refl _ | assumption | refine Ext.setCell ?_ (by first | (simp; done) | (simp; omega)) _ | refine Ext.drewN ?_ _ | refine Ext.alloc ?_ _ | refine Ext.drew ?_ | refine Ext.trans ?_ (by assumption)))⟩
end Go.Proofs.YtjkalnboijkikaaDoor
