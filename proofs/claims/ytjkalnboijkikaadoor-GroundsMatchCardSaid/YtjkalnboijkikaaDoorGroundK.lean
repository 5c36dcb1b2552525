/- The walk of the law GroundsMatch where the fields are right and the kind is refused. -/
import Derived.Test.YtjkalnboijkikaaDoorGroundJ
import Derived.Deep.DeepCutAuto
import Derived.Deep.AppendLies
import Derived.Deep.RegionLaw
import Derived.BigRegion
import Derived.BigQuiet
namespace Go.Proofs.YtjkalnboijkikaaDoor
open Go.RowKit
attribute [local go_sem ↓] Go.wp_at_zero Go.wp_at_succ
attribute [local go_sem] run_store_float run_equalIn_flo

set_option maxRecDepth 100000 in
set_option maxHeartbeats 6400000 in
theorem grounds_kind (s : ByteArray) (a0 a1 a2 a3 a4 a5 a6 a7 a8 a9 g0 g1 g2 : Nat) (ge p q X Y W H x y : Int) (A A' : Option Addr) (n c n' c' : Nat) (l l' : List Nat) (w : World) (hs : s.size ≤ 9223372036854775807) (hn : l.length = n) (hn' : l'.length = n') (hd : Rd w A (flt l)) (hd' : Rd w A' (flt l')) (hb : n ≤ 140737488351232) (hb' : n' ≤ 140737488351232)
    (ht : twoE X Y W H l X Y W H l' = 0) (hk : kindE s a0 a1 a2 a3 a4 a5 a6 a7 a8 a9 p q ≠ 0)
    (hG : ∀ w', Rd w' A (flt l) → Rd w' A' (flt l') → Calls Tryd.prog 19 #[.agg #[.int .i64 X, .int .i64 Y, .int .i64 W, .int .i64 H, .slice A n c], .agg #[.int .i64 X, .int .i64 Y, .int .i64 W, .int .i64 H, .slice A' n' c'], .int .i64 x, .int .i64 y] w' fun e w'' => e = .returned (.tuple #[.agg #[.float .f32 g0, .float .f32 g1, .float .f32 g2], .int .i64 ge]) ∧ Ext w' w'')
    (hC : (¬ InR X Y W H x y ∧ ge = 5 ∧ g0 = 0 ∧ g1 = 0 ∧ g2 = 0) ∨ (InR X Y W H x y ∧ ((hgtB (slopeK X Y W H l x y 4) = false ∧ ge = 3 ∧ g0 = 0 ∧ g1 = 0 ∧ g2 = 0) ∨ (hgtB (slopeK X Y W H l x y 4) = true ∧ ge = 0 ∧ g0 = valAt X Y W l (x, y) ∧ g1 = slopeK X Y W H l x y 4 ∧ g2 = wetF (valAt X Y W l' (x, y)))))) :
    Calls Tryd.prog 5 #[.agg #[.int .i64 X, .int .i64 Y, .int .i64 W, .int .i64 H, .slice A n c], .agg #[.int .i64 X, .int .i64 Y, .int .i64 W, .int .i64 H, .slice A' n' c'], .agg #[.string s, .float .f32 a0, .float .f32 a1, .float .f32 a2, .float .f32 a3, .float .f32 a4, .float .f32 a5, .float .f32 a6, .float .f32 a7, .float .f32 a8, .float .f32 a9, .int .i64 p, .int .i64 q], .int .i64 x, .int .i64 y] w fun e w' => e = .returned (.bool true) ∧ Ext w w' := by
  obtain ⟨f1, f2⟩ := two_zero ht
  have hr := RegOk.of_zero (fieldE_parts f1).1
  have hn6 : n ≤ 65536 := by
    have h1 := (regE_zero (fieldE_parts f1).1).2.2.2.2.1
    have h2 := (fieldE_parts f1).2.1
    omega
  have hnw : (n : Int) = W * H := by rw [← hn]; exact (fieldE_parts f1).2.1
  have hnw' : (n' : Int) = W * H := by rw [← hn']; exact (fieldE_parts f2).2.1
  have hv := val_bd f1
  have hv' := val_bd f2
  have hh := (numE_zero (fieldE_parts f1).2.2).2
  have HGK := fun (w' : World) (k : Nat) (hk : k < n) (h1 : Rd w' A (flt l)) (h2 : Rd w' A' (flt l')) => hidA (groundOf_any X Y W H (placeK X Y W k).1 (placeK X Y W k).2 A A' n c n' c' k l l' w' hn hn' h1 h2 hr hnw hnw' hk hn6 rfl hh)
  have HT := hidA ht
  have HK := hidA hk
  have HV := hidA hv
  have HV' := hidA hv'
  have HR := hidA hr
  have HNW := hidA hnw
  have HGR := fun w' h1 h2 => hidA (hG w' h1 h2)
  have HCC := hidA hC
  have z0 : (FloatKind.f32.format.order 0 0 == some .eq) = true := by decide +kernel
  clear ht hk hG hC f1 f2 hr hnw hnw' hv hv' hh
  go_enter Tryd.func5, Tryd.ntmps5
  go_wp2_with fail
  refine ((HGR _ (((hd.alloc _).alloc _).alloc _) (((hd'.alloc _).alloc _).alloc _)).out).mono ?_
  rintro e w1 ⟨rfl, hb1⟩
  clear HGR
  have hF1 : Bk w1 w.heap.size 47 #[.int .i64 X, .int .i64 Y, .int .i64 W, .int .i64 H, .slice A n c] := (((Bk.new' rfl).alloc _).alloc _).ext hb1
  have hW1 : Bk w1 (w.heap.size + 1) 47 #[.int .i64 X, .int .i64 Y, .int .i64 W, .int .i64 H, .slice A' n' c'] := ((Bk.new' (by simp)).alloc _).ext hb1
  have hK1 : Bk w1 (w.heap.size + 1 + 1) 28 #[.string s, .float .f32 a0, .float .f32 a1, .float .f32 a2, .float .f32 a3, .float .f32 a4, .float .f32 a5, .float .f32 a6, .float .f32 a7, .float .f32 a8, .float .f32 a9, .int .i64 p, .int .i64 q] := (Bk.new' (by simp)).ext hb1
  have hd1 := (((hd.alloc _).alloc _).alloc _).ext hb1
  have hd1' := (((hd'.alloc _).alloc _).alloc _).ext hb1
  have hx1 : Ext w w1 := ((((Ext.refl w).alloc _).alloc _).alloc _).trans hb1
  have hlK := hK1.lt
  have hq0 : w.heap.size < w1.heap.size := by omega
  have hq1 : w.heap.size + 1 < w1.heap.size := by omega
  clear hd hd' hb1
  have b0 := hF1.cell 0
  have b1 := hF1.cell 1
  have b2 := hF1.cell 2
  have b3 := hF1.cell 3
  have b4 := hF1.cell 4
  have c0 := hW1.cell 0
  have c1 := hW1.cell 1
  have c2 := hW1.cell 2
  have c3 := hW1.cell 3
  have c4 := hW1.cell 4
  have d0 := hK1.cell 0
  have d1 := hK1.cell 1
  have d2 := hK1.cell 2
  have d3 := hK1.cell 3
  have d4 := hK1.cell 4
  have d5 := hK1.cell 5
  have d6 := hK1.cell 6
  have d7 := hK1.cell 7
  have d8 := hK1.cell 8
  have d9 := hK1.cell 9
  have d10 := hK1.cell 10
  have d11 := hK1.cell 11
  have d12 := hK1.cell 12
  go_wp2_with fail
  refine (Fitness_kind s a0 a1 a2 a3 a4 a5 a6 a7 a8 a9 p q X Y W H X Y W H A A' n c n' c' l l' _ hs hn hn' (hd1.ext (by repeat (first | exact Ext.refl _ | assumption | refine Ext.setCell ?_ (by first | (simp; done) | (simp; omega)) _ | refine Ext.drewN ?_ _ | refine Ext.alloc ?_ _ | refine Ext.drew ?_ | refine Ext.trans ?_ (by assumption)))) (hd1'.ext (by repeat (first | exact Ext.refl _ | assumption | refine Ext.setCell ?_ (by first | (simp; done) | (simp; omega)) _ | refine Ext.drewN ?_ _ | refine Ext.alloc ?_ _ | refine Ext.drew ?_ | refine Ext.trans ?_ (by assumption)))) hb hb' HT.out HK.out).mono ?_
  rintro e w2 ⟨rfl, hb2⟩
  have hw2 : Ext w1 w2 := (by repeat (first | exact Ext.refl _ | assumption | refine Ext.setCell ?_ (by first | (simp; done) | (simp; omega)) _ | refine Ext.drewN ?_ _ | refine Ext.alloc ?_ _ | refine Ext.drew ?_ | refine Ext.trans ?_ (by assumption)))
  have hP2 : Bk w2 w1.heap.size 32 #[.float .f32 g0, .float .f32 g1, .float .f32 g2] := Bk.ext (by first | exact Bk.new' rfl | simpa using (((Bk.new w1 32 #[.float .f32 0, .float .f32 0, .float .f32 0]).set 0 (.float .f32 g0)).set 1 (.float .f32 g1)).set 2 (.float .f32 g2)) hb2
  have hF2 := hF1.ext hw2
  have hW2 := hW1.ext hw2
  have hK2 := hK1.ext hw2
  have hd2 := hd1.ext hw2
  have hd2' := hd1'.ext hw2
  have hx2 := hx1.trans hw2
  have hlP := hP2.lt
  have hq2 : w.heap.size < w2.heap.size := by omega
  have hq3 : w.heap.size + 1 < w2.heap.size := by omega
  have hq4 : w.heap.size + 1 + 1 < w2.heap.size := by omega
  clear b0 b1 b2 b3 b4 c0 c1 c2 c3 c4 d0 d1 d2 d3 d4 d5 d6 d7 d8 d9 d10 d11 d12
  clear hF1 hW1 hK1 hd1 hd1' hx1 hb2
  have b0 := hF2.cell 0
  have b1 := hF2.cell 1
  have b2 := hF2.cell 2
  have b3 := hF2.cell 3
  have b4 := hF2.cell 4
  have c0 := hW2.cell 0
  have c1 := hW2.cell 1
  have c2 := hW2.cell 2
  have c3 := hW2.cell 3
  have c4 := hW2.cell 4
  go_wp2_with fail
  refine (groundsError_any X Y W H X Y W H A A' n c n' c' l l' _ hn hn' (hd2.ext (by repeat (first | exact Ext.refl _ | assumption | refine Ext.setCell ?_ (by first | (simp; done) | (simp; omega)) _ | refine Ext.drewN ?_ _ | refine Ext.alloc ?_ _ | refine Ext.drew ?_ | refine Ext.trans ?_ (by assumption)))) (hd2'.ext (by repeat (first | exact Ext.refl _ | assumption | refine Ext.setCell ?_ (by first | (simp; done) | (simp; omega)) _ | refine Ext.drewN ?_ _ | refine Ext.alloc ?_ _ | refine Ext.drew ?_ | refine Ext.trans ?_ (by assumption)))) hb hb').mono ?_
  rw [HT.out]
  rintro e w3 ⟨rfl, hb3⟩
  have hw3 : Ext w2 w3 := (by repeat (first | exact Ext.refl _ | assumption | refine Ext.setCell ?_ (by first | (simp; done) | (simp; omega)) _ | refine Ext.drewN ?_ _ | refine Ext.alloc ?_ _ | refine Ext.drew ?_ | refine Ext.trans ?_ (by assumption)))
  have hQ3 : Bk w3 w2.heap.size 47 #[.int .i64 0, .int .i64 0, .int .i64 0, .int .i64 0, .slice none 0 0] := Bk.ext (by first | exact Bk.new' rfl | simpa using (((((Bk.new w2 47 #[.int .i64 0, .int .i64 0, .int .i64 0, .int .i64 0, .slice none 0 0]).set 0 (.int .i64 0)).set 1 (.int .i64 0)).set 2 (.int .i64 0)).set 3 (.int .i64 0)).set 4 (.slice none 0 0)) hb3
  have hP3 := hP2.ext hw3
  have hF3 := hF2.ext hw3
  have hW3 := hW2.ext hw3
  have hK3 := hK2.ext hw3
  have hd3 := hd2.ext hw3
  have hd3' := hd2'.ext hw3
  have hx3 := hx2.trans hw3
  have hlQ := hQ3.lt
  clear b0 b1 b2 b3 b4 c0 c1 c2 c3 c4
  have hw3' : Ext w2 w3 := hw3
  clear hw2 hw3 hP2 hF2 hW2 hK2 hx2 hd2 hd2' hb3
  have s0 : ∀ w', Ext w3 w' → w'.cell? ⟨w.heap.size, 0, none⟩ = some (.int .i64 X) := fun w' h => (hF3.ext h).cell 0
  have s1 : ∀ w', Ext w3 w' → w'.cell? ⟨w.heap.size, 1, none⟩ = some (.int .i64 Y) := fun w' h => (hF3.ext h).cell 1
  have s2 : ∀ w', Ext w3 w' → w'.cell? ⟨w.heap.size, 2, none⟩ = some (.int .i64 W) := fun w' h => (hF3.ext h).cell 2
  have s3 : ∀ w', Ext w3 w' → w'.cell? ⟨w.heap.size, 3, none⟩ = some (.int .i64 H) := fun w' h => (hF3.ext h).cell 3
  have s4 : ∀ w', Ext w3 w' → w'.cell? ⟨w.heap.size, 4, none⟩ = some (.slice A n c) := fun w' h => (hF3.ext h).cell 4
  have u0 : ∀ w', Ext w3 w' → w'.cell? ⟨w.heap.size + 1, 0, none⟩ = some (.int .i64 X) := fun w' h => (hW3.ext h).cell 0
  have u1 : ∀ w', Ext w3 w' → w'.cell? ⟨w.heap.size + 1, 1, none⟩ = some (.int .i64 Y) := fun w' h => (hW3.ext h).cell 1
  have u2 : ∀ w', Ext w3 w' → w'.cell? ⟨w.heap.size + 1, 2, none⟩ = some (.int .i64 W) := fun w' h => (hW3.ext h).cell 2
  have u3 : ∀ w', Ext w3 w' → w'.cell? ⟨w.heap.size + 1, 3, none⟩ = some (.int .i64 H) := fun w' h => (hW3.ext h).cell 3
  have u4 : ∀ w', Ext w3 w' → w'.cell? ⟨w.heap.size + 1, 4, none⟩ = some (.slice A' n' c') := fun w' h => (hW3.ext h).cell 4
  have k0 : ∀ w', Ext w3 w' → w'.cell? ⟨w.heap.size + 1 + 1, 0, none⟩ = some (.string s) := fun w' h => (hK3.ext h).cell 0
  have k1 : ∀ w', Ext w3 w' → w'.cell? ⟨w.heap.size + 1 + 1, 1, none⟩ = some (.float .f32 a0) := fun w' h => (hK3.ext h).cell 1
  have k2 : ∀ w', Ext w3 w' → w'.cell? ⟨w.heap.size + 1 + 1, 2, none⟩ = some (.float .f32 a1) := fun w' h => (hK3.ext h).cell 2
  have k3 : ∀ w', Ext w3 w' → w'.cell? ⟨w.heap.size + 1 + 1, 3, none⟩ = some (.float .f32 a2) := fun w' h => (hK3.ext h).cell 3
  have k4 : ∀ w', Ext w3 w' → w'.cell? ⟨w.heap.size + 1 + 1, 4, none⟩ = some (.float .f32 a3) := fun w' h => (hK3.ext h).cell 4
  have k5 : ∀ w', Ext w3 w' → w'.cell? ⟨w.heap.size + 1 + 1, 5, none⟩ = some (.float .f32 a4) := fun w' h => (hK3.ext h).cell 5
  have k6 : ∀ w', Ext w3 w' → w'.cell? ⟨w.heap.size + 1 + 1, 6, none⟩ = some (.float .f32 a5) := fun w' h => (hK3.ext h).cell 6
  have k7 : ∀ w', Ext w3 w' → w'.cell? ⟨w.heap.size + 1 + 1, 7, none⟩ = some (.float .f32 a6) := fun w' h => (hK3.ext h).cell 7
  have k8 : ∀ w', Ext w3 w' → w'.cell? ⟨w.heap.size + 1 + 1, 8, none⟩ = some (.float .f32 a7) := fun w' h => (hK3.ext h).cell 8
  have k9 : ∀ w', Ext w3 w' → w'.cell? ⟨w.heap.size + 1 + 1, 9, none⟩ = some (.float .f32 a8) := fun w' h => (hK3.ext h).cell 9
  have k10 : ∀ w', Ext w3 w' → w'.cell? ⟨w.heap.size + 1 + 1, 10, none⟩ = some (.float .f32 a9) := fun w' h => (hK3.ext h).cell 10
  have k11 : ∀ w', Ext w3 w' → w'.cell? ⟨w.heap.size + 1 + 1, 11, none⟩ = some (.int .i64 p) := fun w' h => (hK3.ext h).cell 11
  have k12 : ∀ w', Ext w3 w' → w'.cell? ⟨w.heap.size + 1 + 1, 12, none⟩ = some (.int .i64 q) := fun w' h => (hK3.ext h).cell 12
  have p0 : ∀ w', Ext w3 w' → w'.cell? ⟨w1.heap.size, 0, none⟩ = some (.float .f32 g0) := fun w' h => (hP3.ext h).cell 0
  have p1 : ∀ w', Ext w3 w' → w'.cell? ⟨w1.heap.size, 1, none⟩ = some (.float .f32 g1) := fun w' h => (hP3.ext h).cell 1
  have p2 : ∀ w', Ext w3 w' → w'.cell? ⟨w1.heap.size, 2, none⟩ = some (.float .f32 g2) := fun w' h => (hP3.ext h).cell 2
  have t0 : ∀ w', Ext w3 w' → w'.cell? ⟨w2.heap.size, 0, none⟩ = some (.int .i64 0) := fun w' h => (hQ3.ext h).cell 0
  have t1 : ∀ w', Ext w3 w' → w'.cell? ⟨w2.heap.size, 1, none⟩ = some (.int .i64 0) := fun w' h => (hQ3.ext h).cell 1
  have t2 : ∀ w', Ext w3 w' → w'.cell? ⟨w2.heap.size, 2, none⟩ = some (.int .i64 0) := fun w' h => (hQ3.ext h).cell 2
  have t3 : ∀ w', Ext w3 w' → w'.cell? ⟨w2.heap.size, 3, none⟩ = some (.int .i64 0) := fun w' h => (hQ3.ext h).cell 3
  have t4 : ∀ w', Ext w3 w' → w'.cell? ⟨w2.heap.size, 4, none⟩ = some (.slice none 0 0) := fun w' h => (hQ3.ext h).cell 4
  have hD : ∀ w', Ext w3 w' → Rd w' A (flt l) := fun w' h => hd3.ext h
  have hD' : ∀ w', Ext w3 w' → Rd w' A' (flt l') := fun w' h => hd3'.ext h
  have hl3 : w2.heap.size < w3.heap.size := hlQ
  clear hF3 hW3 hK3 hP3 hQ3 hd3 hd3'
  go_wp2_with fail
  refine (grows_any _).mono ?_
  rintro e w4 ⟨rfl, hb4⟩
  obtain ⟨b6, hbv⟩ : ∃ b, hasB X Y W H x y = b := ⟨_, rfl⟩
  have HB := hidA hbv
  clear hbv
  have d0 : w4.cell? ⟨w.heap.size, 0, none⟩ = some (.int .i64 X) := s0 _ hb4
  have d1 : w4.cell? ⟨w.heap.size, 1, none⟩ = some (.int .i64 Y) := s1 _ hb4
  have d2 : w4.cell? ⟨w.heap.size, 2, none⟩ = some (.int .i64 W) := s2 _ hb4
  have d3 : w4.cell? ⟨w.heap.size, 3, none⟩ = some (.int .i64 H) := s3 _ hb4
  have d4 : w4.cell? ⟨w.heap.size, 4, none⟩ = some (.slice A n c) := s4 _ hb4
  go_upto_if 69 with (go_at_call 23; refine (hasAt X Y W H x y b6 _ HB.out).mono ?_; rintro e w5 ⟨rfl, hb5⟩)
  have hx5 : Ext w3 w5 := (by repeat (first | exact Ext.refl _ | assumption | refine Ext.setCell ?_ (by first | (simp; done) | (simp; omega)) _ | refine Ext.drewN ?_ _ | refine Ext.alloc ?_ _ | refine Ext.drew ?_ | refine Ext.trans ?_ (by assumption)))
  have hl5 := hx5.size
  clear d0 d1 d2 d3 d4
  go_cut [] from 16 to 103 (fun wx => Ext w3 wx)
  case first =>
    by_cases hi : InR X Y W H x y
    · have HI := hidA hi
      obtain rfl : b6 = true := by rw [← HB.out, hasB_ok HR.out]; exact decide_eq_true hi
      obtain ⟨kk, hkk, hkl, _⟩ := valAt_get (l := l) HR.out hi (by rw [hn]; exact HNW.out)
      have hpk : placeK X Y W kk = (x, y) := place_cell HR.out hi hkk
      have HGO := fun (w' : World) (h : Ext w3 w') => HGK w' kk (by omega) (hD w' h) (hD' w' h)
      rw [hpk] at HGO
      have HC : Hid (cellN X Y W x y = kk) := hkk
      clear hkk hkl hpk hi
      go_upto_region 9 with fail
      go_cut [16] from 77 to 84 (fun s16 wx => ∃ g : Nat, s16 = .pointer (some ⟨g, 0, none⟩) ∧ w5.heap.size ≤ g ∧ Bk wx g 32 #[.float .f32 (valAt X Y W l (x, y)), .float .f32 (slopeK X Y W H l x y 4), .float .f32 (wetR (valAt X Y W l' (x, y)))] ∧ Ext w5 wx)
      case first =>
        have s0' : ∀ w', Ext w5 w' → w'.cell? ⟨w.heap.size, 0, none⟩ = some (.int .i64 X) := fun w' h => s0 _ (hx5.trans h)
        have s1' : ∀ w', Ext w5 w' → w'.cell? ⟨w.heap.size, 1, none⟩ = some (.int .i64 Y) := fun w' h => s1 _ (hx5.trans h)
        have s2' : ∀ w', Ext w5 w' → w'.cell? ⟨w.heap.size, 2, none⟩ = some (.int .i64 W) := fun w' h => s2 _ (hx5.trans h)
        have s3' : ∀ w', Ext w5 w' → w'.cell? ⟨w.heap.size, 3, none⟩ = some (.int .i64 H) := fun w' h => s3 _ (hx5.trans h)
        have s4' : ∀ w', Ext w5 w' → w'.cell? ⟨w.heap.size, 4, none⟩ = some (.slice A n c) := fun w' h => s4 _ (hx5.trans h)
        have u0' : ∀ w', Ext w5 w' → w'.cell? ⟨w.heap.size + 1, 0, none⟩ = some (.int .i64 X) := fun w' h => u0 _ (hx5.trans h)
        have u1' : ∀ w', Ext w5 w' → w'.cell? ⟨w.heap.size + 1, 1, none⟩ = some (.int .i64 Y) := fun w' h => u1 _ (hx5.trans h)
        have u2' : ∀ w', Ext w5 w' → w'.cell? ⟨w.heap.size + 1, 2, none⟩ = some (.int .i64 W) := fun w' h => u2 _ (hx5.trans h)
        have u3' : ∀ w', Ext w5 w' → w'.cell? ⟨w.heap.size + 1, 3, none⟩ = some (.int .i64 H) := fun w' h => u3 _ (hx5.trans h)
        have u4' : ∀ w', Ext w5 w' → w'.cell? ⟨w.heap.size + 1, 4, none⟩ = some (.slice A' n' c') := fun w' h => u4 _ (hx5.trans h)
        clear s0 s1 s2 s3 s4 u0 u1 u2 u3 u4 k0 k1 k2 k3 k4 k5 k6 k7 k8 k9 k10 k11 k12 p0 p1 p2 t0 t1 t2 t3 t4
        refine wp_region_noPanic ?_
        refine wp_region_held_drew (S := fun w' => Ext w5 w') (by kernel_rfl) ?_ (fun hHeld => ?_)
        · (repeat (first | exact Ext.refl _ | assumption | refine Ext.setCell ?_ (by first | (simp; done) | (simp; omega)) _ | refine Ext.drewN ?_ _ | refine Ext.alloc ?_ _ | refine Ext.drew ?_ | refine Ext.trans ?_ (by assumption)))
        refine wpAnyH_take (i := 0) (oi := ?o2x0) (v := ?v2x0) ?hi2x0 (by kernel_rfl) ?hf2x0 ?hr2x0 (fun _ _ _ h => h) ?hy2x0 (by assumption) ?rest2x0
        case hi2x0 => (simp only [List.getElem?_toArray, List.getElem?_cons_zero]; exact rfl)
        case hf2x0 => kernel_rfl
        case hr2x0 => kernel_rfl
        case hy2x0 => (refine Or.inl ⟨by rfl, ?_⟩; intro w hSw; (try dsimp only at hSw); go_simp; try with_reducible rfl)
        simp only [put_mk, List.set_cons_succ, List.set_cons_zero]
        refine wpAnyH_take (i := 1) (oi := ?o3x1) (v := ?v3x1) ?hi3x1 (by kernel_rfl) ?hf3x1 ?hr3x1 (fun _ _ _ h => h) ?hy3x1 (by assumption) ?rest3x1
        case hi3x1 => (simp only [List.getElem?_toArray, List.getElem?_cons_succ, List.getElem?_cons_zero]; exact rfl)
        case hf3x1 => kernel_rfl
        case hr3x1 => kernel_rfl
        case hy3x1 => (refine Or.inl ⟨by rfl, ?_⟩; intro w hSw; (try dsimp only at hSw); go_simp; try with_reducible rfl)
        simp only [put_mk, List.set_cons_succ, List.set_cons_zero]
        refine wpAnyH_take (i := 2) (oi := ?o4x2) (v := ?v4x2) ?hi4x2 (by kernel_rfl) ?hf4x2 ?hr4x2 (fun _ _ _ h => h) ?hy4x2 (by assumption) ?rest4x2
        case hi4x2 => (simp only [List.getElem?_toArray, List.getElem?_cons_succ, List.getElem?_cons_zero]; exact rfl)
        case hf4x2 => kernel_rfl
        case hr4x2 => kernel_rfl
        case hy4x2 => (refine Or.inl ⟨by rfl, ?_⟩; intro w hSw; (try dsimp only at hSw); go_simp; try with_reducible rfl)
        simp only [put_mk, List.set_cons_succ, List.set_cons_zero]
        refine wpAnyH_take (i := 3) (oi := ?o5x3) (v := ?v5x3) ?hi5x3 (by kernel_rfl) ?hf5x3 ?hr5x3 (fun _ _ _ h => h) ?hy5x3 (by assumption) ?rest5x3
        case hi5x3 => (simp only [List.getElem?_toArray, List.getElem?_cons_succ, List.getElem?_cons_zero]; exact rfl)
        case hf5x3 => kernel_rfl
        case hr5x3 => kernel_rfl
        case hy5x3 => (refine Or.inl ⟨by rfl, ?_⟩; intro w hSw; (try dsimp only at hSw); go_simp; try with_reducible rfl)
        simp only [put_mk, List.set_cons_succ, List.set_cons_zero]
        refine wpAnyH_take (i := 4) (oi := ?o6x4) (v := ?v6x4) ?hi6x4 (by kernel_rfl) ?hf6x4 ?hr6x4 (fun _ _ _ h => h) ?hy6x4 (by assumption) ?rest6x4
        case hi6x4 => (simp only [List.getElem?_toArray, List.getElem?_cons_succ, List.getElem?_cons_zero]; exact rfl)
        case hf6x4 => kernel_rfl
        case hr6x4 => kernel_rfl
        case hy6x4 => (refine Or.inl ⟨by rfl, ?_⟩; intro w hSw; (try dsimp only at hSw); go_simp; try with_reducible rfl)
        simp only [put_mk, List.set_cons_succ, List.set_cons_zero]
        refine wpAnyH_take (i := 5) (oi := ?o7x5) (v := ?v7x5) ?hi7x5 (by kernel_rfl) ?hf7x5 ?hr7x5 (fun _ _ _ h => h) ?hy7x5 (by assumption) ?rest7x5
        case hi7x5 => (simp only [List.getElem?_toArray, List.getElem?_cons_succ, List.getElem?_cons_zero]; exact rfl)
        case hf7x5 => kernel_rfl
        case hr7x5 => kernel_rfl
        case hy7x5 => (refine Or.inl ⟨by rfl, ?_⟩; intro w hSw; (try dsimp only at hSw); go_simp; try with_reducible rfl)
        simp only [put_mk, List.set_cons_succ, List.set_cons_zero]
        refine wpAnyH_ready (rs := [6, 8]) (by kernel_rfl) (by simp) ?_
        refine (AllReadyH.cons (o := ?o8x6) ?hi8x6 (fun K hK => ?_) (AllReadyH.cons (o := ?o8x8) ?hi8x8 (fun K hK => ?_) AllReadyH.nil))
        case hi8x6 => (simp only [List.getElem?_toArray, List.getElem?_cons_succ, List.getElem?_cons_zero]; exact rfl)
        case hi8x8 => (simp only [List.getElem?_toArray, List.getElem?_cons_succ, List.getElem?_cons_zero]; exact rfl)
        · go_simp
          refine (cell_any X Y W H x y _ HR.out HI.out).mono ?_
          rw [HC.out]
          rintro e w6 ⟨rfl, hb6⟩
          have hl6 : w5.heap.size ≤ w6.heap.size := by have := hb6.size; (try simp at this); omega
          refine hK.out _ _ ?_ (fun hHeld => ?_)
          · (repeat (first | exact Ext.refl _ | assumption | refine Ext.setCell ?_ (by first | (simp; done) | (simp; omega)) _ | refine Ext.drewN ?_ _ | refine Ext.alloc ?_ _ | refine Ext.drew ?_ | refine Ext.trans ?_ (by assumption)))
          clear hK K
          refine wpAnyH_ready (rs := [7, 8]) (by kernel_rfl) (by simp) ?_
          refine (AllReadyH.cons (o := ?o9x7) ?hi9x7 (fun K hK => ?_) (AllReadyH.cons (o := ?o9x8) ?hi9x8 (fun K hK => ?_) AllReadyH.nil))
          case hi9x7 => (simp only [List.getElem?_toArray, List.getElem?_cons_succ, List.getElem?_cons_zero]; exact rfl)
          case hi9x8 => (simp only [List.getElem?_toArray, List.getElem?_cons_succ, List.getElem?_cons_zero]; exact rfl)
          · go_simp
            refine ((HGO _ ?_).out).mono ?_
            · (repeat (first | exact Ext.refl _ | assumption | refine Ext.setCell ?_ (by first | (simp; done) | (simp; omega)) _ | refine Ext.drewN ?_ _ | refine Ext.alloc ?_ _ | refine Ext.drew ?_ | refine Ext.trans ?_ (by assumption)))
            rintro e w7 ⟨rfl, hb7⟩
            refine hK.out _ _ ?_ (fun hHeld => ?_)
            · (repeat (first | exact Ext.refl _ | assumption | refine Ext.setCell ?_ (by first | (simp; done) | (simp; omega)) _ | refine Ext.drewN ?_ _ | refine Ext.alloc ?_ _ | refine Ext.drew ?_ | refine Ext.trans ?_ (by assumption)))
            clear hK K
            refine wpAnyH_ready (rs := [8]) (by kernel_rfl) (by simp) ?_
            refine AllReadyH.cons (o := ?o10x8) ?hi10x8 (fun K hK => ?_) AllReadyH.nil
            case hi10x8 => (simp only [List.getElem?_toArray, List.getElem?_cons_succ, List.getElem?_cons_zero]; exact rfl)
            go_simp
            refine hK.out _ _ ?_ (fun hHeld => ?_)
            · (repeat (first | exact Ext.refl _ | assumption | refine Ext.setCell ?_ (by first | (simp; done) | (simp; omega)) _ | refine Ext.drewN ?_ _ | refine Ext.alloc ?_ _ | refine Ext.drew ?_ | refine Ext.trans ?_ (by assumption)))
            clear hK K
            refine wpAnyH_ready (rs := [9]) (by kernel_rfl) (by simp) ?_
            refine AllReadyH.cons (o := ?o11x9) ?hi11x9 (fun K hK => ?_) AllReadyH.nil
            case hi11x9 => (simp only [List.getElem?_toArray, List.getElem?_cons_succ, List.getElem?_cons_zero]; exact rfl)
            go_simp
            refine hK.out _ _ ?_ (fun hHeld => ?_)
            · (repeat (first | exact Ext.refl _ | assumption | refine Ext.setCell ?_ (by first | (simp; done) | (simp; omega)) _ | refine Ext.drewN ?_ _ | refine Ext.alloc ?_ _ | refine Ext.drew ?_ | refine Ext.trans ?_ (by assumption)))
            clear hK K
            refine wpAnyH_done (by kernel_rfl) ?_ _
            refine NoPanic.normal ?_
            go_wp2_with fail
            go_meet
            case rel =>
              refine ⟨_, rfl, ?_, ?_, (by repeat (first | exact Ext.refl _ | assumption | refine Ext.setCell ?_ (by first | (simp; done) | (simp; omega)) _ | refine Ext.drewN ?_ _ | refine Ext.alloc ?_ _ | refine Ext.drew ?_ | refine Ext.trans ?_ (by assumption)))⟩
              · first | exact Nat.le_refl _ | exact hb7.size | (have := hb7.size; have := hb6.size; simp at *; omega)
              · first | exact Bk.new' rfl | exact (by simpa using ((hg.set 0 (.float .f32 (valAt X Y W l (x, y)))).set 1 (.float .f32 (slopeK X Y W H l x y 4))).set 2 (.float .f32 (wetR (valAt X Y W l' (x, y)))))
          · go_simp
            refine hK.out _ _ ?_ (fun hHeld => ?_)
            · (repeat (first | exact Ext.refl _ | assumption | refine Ext.setCell ?_ (by first | (simp; done) | (simp; omega)) _ | refine Ext.drewN ?_ _ | refine Ext.alloc ?_ _ | refine Ext.drew ?_ | refine Ext.trans ?_ (by assumption)))
            clear hK K
            refine wpAnyH_ready (rs := [7]) (by kernel_rfl) (by simp) ?_
            refine AllReadyH.cons (o := ?o12x7) ?hi12x7 (fun K hK => ?_) AllReadyH.nil
            case hi12x7 => (simp only [List.getElem?_toArray, List.getElem?_cons_succ, List.getElem?_cons_zero]; exact rfl)
            go_simp
            refine ((HGO _ ?_).out).mono ?_
            · (repeat (first | exact Ext.refl _ | assumption | refine Ext.setCell ?_ (by first | (simp; done) | (simp; omega)) _ | refine Ext.drewN ?_ _ | refine Ext.alloc ?_ _ | refine Ext.drew ?_ | refine Ext.trans ?_ (by assumption)))
            rintro e w7 ⟨rfl, hb7⟩
            have hg : Bk w7 w6.heap.size 32 #[.float .f32 0, .float .f32 0, .float .f32 0] := by first | exact (Bk.new _ _ _).ext hb7 | exact (Bk.new _ _ _).drew.ext hb7 | exact ((Bk.new _ _ _).ext hb6).ext hb7 | exact ((Bk.new _ _ _).drew.ext hb6).ext hb7 | exact ((Bk.new _ _ _).drew.ext hb6).drew.ext hb7
            have c0 := hg.cell 0
            have c1 := hg.cell 1
            have c2 := hg.cell 2
            have c3 := hg.frozen 0
            have c4 := hg.frozen 1
            have c5 := hg.frozen 2
            refine hK.out _ _ ?_ (fun hHeld => ?_)
            · (repeat (first | exact Ext.refl _ | assumption | refine Ext.setCell ?_ (by first | (simp; done) | (simp; omega)) _ | refine Ext.drewN ?_ _ | refine Ext.alloc ?_ _ | refine Ext.drew ?_ | refine Ext.trans ?_ (by assumption)))
            clear hK K
            refine wpAnyH_ready (rs := [9]) (by kernel_rfl) (by simp) ?_
            refine AllReadyH.cons (o := ?o13x9) ?hi13x9 (fun K hK => ?_) AllReadyH.nil
            case hi13x9 => (simp only [List.getElem?_toArray, List.getElem?_cons_succ, List.getElem?_cons_zero]; exact rfl)
            go_simp
            refine hK.out _ _ ?_ (fun hHeld => ?_)
            · (repeat (first | exact Ext.refl _ | assumption | refine Ext.setCell ?_ (by first | (simp; done) | (simp; omega)) _ | refine Ext.drewN ?_ _ | refine Ext.alloc ?_ _ | refine Ext.drew ?_ | refine Ext.trans ?_ (by assumption)))
            clear hK K
            refine wpAnyH_done (by kernel_rfl) ?_ _
            refine NoPanic.normal ?_
            go_wp2_with fail
            go_meet
            case rel =>
              refine ⟨_, rfl, ?_, ?_, (by repeat (first | exact Ext.refl _ | assumption | refine Ext.setCell ?_ (by first | (simp; done) | (simp; omega)) _ | refine Ext.drewN ?_ _ | refine Ext.alloc ?_ _ | refine Ext.drew ?_ | refine Ext.trans ?_ (by assumption)))⟩
              · first | exact Nat.le_refl _ | exact hb7.size | (have := hb7.size; have := hb6.size; simp at *; omega)
              · first | exact Bk.new' rfl | exact (by simpa using ((hg.set 0 (.float .f32 (valAt X Y W l (x, y)))).set 1 (.float .f32 (slopeK X Y W H l x y 4))).set 2 (.float .f32 (wetR (valAt X Y W l' (x, y)))))
        · go_simp
          refine hK.out _ _ ?_ (fun hHeld => ?_)
          · (repeat (first | exact Ext.refl _ | assumption | refine Ext.setCell ?_ (by first | (simp; done) | (simp; omega)) _ | refine Ext.drewN ?_ _ | refine Ext.alloc ?_ _ | refine Ext.drew ?_ | refine Ext.trans ?_ (by assumption)))
          clear hK K
          refine wpAnyH_ready (rs := [6]) (by kernel_rfl) (by simp) ?_
          refine AllReadyH.cons (o := ?o14x6) ?hi14x6 (fun K hK => ?_) AllReadyH.nil
          case hi14x6 => (simp only [List.getElem?_toArray, List.getElem?_cons_succ, List.getElem?_cons_zero]; exact rfl)
          go_simp
          refine (cell_any X Y W H x y _ HR.out HI.out).mono ?_
          rw [HC.out]
          rintro e w6 ⟨rfl, hb6⟩
          have hl6 : w5.heap.size ≤ w6.heap.size := by have := hb6.size; (try simp at this); omega
          refine hK.out _ _ ?_ (fun hHeld => ?_)
          · (repeat (first | exact Ext.refl _ | assumption | refine Ext.setCell ?_ (by first | (simp; done) | (simp; omega)) _ | refine Ext.drewN ?_ _ | refine Ext.alloc ?_ _ | refine Ext.drew ?_ | refine Ext.trans ?_ (by assumption)))
          clear hK K
          refine wpAnyH_ready (rs := [7]) (by kernel_rfl) (by simp) ?_
          refine AllReadyH.cons (o := ?o15x7) ?hi15x7 (fun K hK => ?_) AllReadyH.nil
          case hi15x7 => (simp only [List.getElem?_toArray, List.getElem?_cons_succ, List.getElem?_cons_zero]; exact rfl)
          go_simp
          refine ((HGO _ ?_).out).mono ?_
          · (repeat (first | exact Ext.refl _ | assumption | refine Ext.setCell ?_ (by first | (simp; done) | (simp; omega)) _ | refine Ext.drewN ?_ _ | refine Ext.alloc ?_ _ | refine Ext.drew ?_ | refine Ext.trans ?_ (by assumption)))
          rintro e w7 ⟨rfl, hb7⟩
          have hg : Bk w7 w5.heap.size 32 #[.float .f32 0, .float .f32 0, .float .f32 0] := by first | exact (Bk.new _ _ _).ext hb7 | exact (Bk.new _ _ _).drew.ext hb7 | exact ((Bk.new _ _ _).ext hb6).ext hb7 | exact ((Bk.new _ _ _).drew.ext hb6).ext hb7 | exact ((Bk.new _ _ _).drew.ext hb6).drew.ext hb7
          have c0 := hg.cell 0
          have c1 := hg.cell 1
          have c2 := hg.cell 2
          have c3 := hg.frozen 0
          have c4 := hg.frozen 1
          have c5 := hg.frozen 2
          refine hK.out _ _ ?_ (fun hHeld => ?_)
          · (repeat (first | exact Ext.refl _ | assumption | refine Ext.setCell ?_ (by first | (simp; done) | (simp; omega)) _ | refine Ext.drewN ?_ _ | refine Ext.alloc ?_ _ | refine Ext.drew ?_ | refine Ext.trans ?_ (by assumption)))
          clear hK K
          refine wpAnyH_ready (rs := [9]) (by kernel_rfl) (by simp) ?_
          refine AllReadyH.cons (o := ?o16x9) ?hi16x9 (fun K hK => ?_) AllReadyH.nil
          case hi16x9 => (simp only [List.getElem?_toArray, List.getElem?_cons_succ, List.getElem?_cons_zero]; exact rfl)
          go_simp
          refine hK.out _ _ ?_ (fun hHeld => ?_)
          · (repeat (first | exact Ext.refl _ | assumption | refine Ext.setCell ?_ (by first | (simp; done) | (simp; omega)) _ | refine Ext.drewN ?_ _ | refine Ext.alloc ?_ _ | refine Ext.drew ?_ | refine Ext.trans ?_ (by assumption)))
          clear hK K
          refine wpAnyH_done (by kernel_rfl) ?_ _
          refine NoPanic.normal ?_
          go_wp2_with fail
          go_meet
          case rel =>
            refine ⟨_, rfl, ?_, ?_, (by repeat (first | exact Ext.refl _ | assumption | refine Ext.setCell ?_ (by first | (simp; done) | (simp; omega)) _ | refine Ext.drewN ?_ _ | refine Ext.alloc ?_ _ | refine Ext.drew ?_ | refine Ext.trans ?_ (by assumption)))⟩
            · first | exact Nat.le_refl _ | exact hb7.size | (have := hb7.size; have := hb6.size; simp at *; omega)
            · first | exact Bk.new' rfl | exact (by simpa using ((hg.set 0 (.float .f32 (valAt X Y W l (x, y)))).set 1 (.float .f32 (slopeK X Y W H l x y 4))).set 2 (.float .f32 (wetR (valAt X Y W l' (x, y)))))
      case rest =>
        obtain ⟨g, rfl, hg0, hGB, hxc⟩ := hcut
        have hx6 := hx5.trans hxc
        have m0 := hGB.cell 0
        have m1 := hGB.cell 1
        have m2 := hGB.cell 2
        have hlg := hGB.lt
        have hq5 : w1.heap.size < wc.heap.size := by have := hx6.size; omega
        have HSL := slope_bd HV.out HI.out 4
        have hcs : (hgtB (slopeK X Y W H l x y 4) = false ∧ ge = 3 ∧ g0 = 0 ∧ g1 = 0 ∧ g2 = 0) ∨ (hgtB (slopeK X Y W H l x y 4) = true ∧ ge = 0 ∧ g0 = valAt X Y W l (x, y) ∧ g1 = slopeK X Y W H l x y 4 ∧ g2 = wetF (valAt X Y W l' (x, y))) := by
          rcases HCC.out with ⟨h, _⟩ | ⟨_, h⟩
          · exact absurd HI.out h
          · exact h
        rcases hcs with ⟨hz, rfl, rfl, rfl, rfl⟩ | ⟨hz, rfl, rfl, rfl, rfl⟩
        · have b9 : (numE [slopeK X Y W H l x y 4] != 0) = true := by
            have : numE [slopeK X Y W H l x y 4] ≠ 0 := fun h => by have := (numE_zero h).2 (slopeK X Y W H l x y 4) (by simp); rw [hz] at this; cases this
            simpa using this
          have r0 := p0 _ hx6
          have r1 := p1 _ hx6
          have r2 := p2 _ hx6
          clear HCC
          go_wp2_with fail
          refine (numberError_any _ 1 1 [slopeK X Y W H l x y 4] _ rfl (Rd.new (by first | rfl | simp) rfl) (by omega)).mono ?_
          rintro e w' ⟨rfl, rfl⟩
          go_wp2_with fail
          go_meet
          case rel => exact (by repeat (first | exact Ext.refl _ | assumption | refine Ext.setCell ?_ (by first | (simp; done) | (simp; omega)) _ | refine Ext.drewN ?_ _ | refine Ext.alloc ?_ _ | refine Ext.drew ?_ | refine Ext.trans ?_ (by assumption)))
        · have HN : Hid (numE [slopeK X Y W H l x y 4] = 0) := numE_ok (by simpa using bd_finB (hgt_bd hz) (by omega)) (by simpa using hz)
          have e0 : (FloatKind.f32.format.order (valAt X Y W l (x, y)) (valAt X Y W l (x, y)) == some .eq) = true := by rw [ord_def, ord_self (bd_fin (HV.out _ _ HI.out) (by omega))]; rfl
          have e1 : (FloatKind.f32.format.order (slopeK X Y W H l x y 4) (slopeK X Y W H l x y 4) == some .eq) = true := by rw [ord_def, ord_self (bd_fin HSL.1 (by omega))]; rfl
          have e2 : (FloatKind.f32.format.order (wetF (valAt X Y W l' (x, y))) (wetR (valAt X Y W l' (x, y))) == some .eq) = true := by rw [ord_def, wet_eq (HV'.out _ _ HI.out) (by omega)]; rfl
          have r0 := p0 _ hx6
          have r1 := p1 _ hx6
          have r2 := p2 _ hx6
          clear HCC
          go_wp2_with fail
          refine (numberError_any _ 1 1 [slopeK X Y W H l x y 4] _ rfl (Rd.new (by first | rfl | simp) rfl) (by omega)).mono ?_
          rw [HN.out]
          rintro e w' ⟨rfl, rfl⟩
          go_wp2_with fail
          go_meet
          case rel => exact (by repeat (first | exact Ext.refl _ | assumption | refine Ext.setCell ?_ (by first | (simp; done) | (simp; omega)) _ | refine Ext.drewN ?_ _ | refine Ext.alloc ?_ _ | refine Ext.drew ?_ | refine Ext.trans ?_ (by assumption)))
    · obtain rfl : b6 = false := by rw [← HB.out, hasB_ok HR.out]; exact decide_eq_false hi
      have hcs : ge = 5 ∧ g0 = 0 ∧ g1 = 0 ∧ g2 = 0 := by
        rcases HCC.out with ⟨_, h⟩ | ⟨h, _⟩
        · exact h
        · exact absurd h hi
      obtain ⟨rfl, rfl, rfl, rfl⟩ := hcs
      clear HCC hi
      have r0 := p0 _ hx5
      have r1 := p1 _ hx5
      have r2 := p2 _ hx5
      go_wp2_with fail
      go_meet
      case rel => exact (by repeat (first | exact Ext.refl _ | assumption | refine Ext.setCell ?_ (by first | (simp; done) | (simp; omega)) _ | refine Ext.drewN ?_ _ | refine Ext.alloc ?_ _ | refine Ext.drew ?_ | refine Ext.trans ?_ (by assumption)))
  case rest =>
    clear HCC p0 p1 p2
    have hxc : Ext w3 wc := hcut
    have d0 : wc.cell? ⟨w.heap.size + 1 + 1, 0, none⟩ = some (.string s) := k0 _ hxc
    have d1 : wc.cell? ⟨w.heap.size + 1 + 1, 1, none⟩ = some (.float .f32 a0) := k1 _ hxc
    have d2 : wc.cell? ⟨w.heap.size + 1 + 1, 2, none⟩ = some (.float .f32 a1) := k2 _ hxc
    have d3 : wc.cell? ⟨w.heap.size + 1 + 1, 3, none⟩ = some (.float .f32 a2) := k3 _ hxc
    have d4 : wc.cell? ⟨w.heap.size + 1 + 1, 4, none⟩ = some (.float .f32 a3) := k4 _ hxc
    have d5 : wc.cell? ⟨w.heap.size + 1 + 1, 5, none⟩ = some (.float .f32 a4) := k5 _ hxc
    have d6 : wc.cell? ⟨w.heap.size + 1 + 1, 6, none⟩ = some (.float .f32 a5) := k6 _ hxc
    have d7 : wc.cell? ⟨w.heap.size + 1 + 1, 7, none⟩ = some (.float .f32 a6) := k7 _ hxc
    have d8 : wc.cell? ⟨w.heap.size + 1 + 1, 8, none⟩ = some (.float .f32 a7) := k8 _ hxc
    have d9 : wc.cell? ⟨w.heap.size + 1 + 1, 9, none⟩ = some (.float .f32 a8) := k9 _ hxc
    have d10 : wc.cell? ⟨w.heap.size + 1 + 1, 10, none⟩ = some (.float .f32 a9) := k10 _ hxc
    have d11 : wc.cell? ⟨w.heap.size + 1 + 1, 11, none⟩ = some (.int .i64 p) := k11 _ hxc
    have d12 : wc.cell? ⟨w.heap.size + 1 + 1, 12, none⟩ = some (.int .i64 q) := k12 _ hxc
    go_wp2_with fail
    refine (kindError_any s a0 a1 a2 a3 a4 a5 a6 a7 a8 a9 p q _ hs).mono ?_
    rintro e w6 ⟨rfl, hb6⟩
    have hx6 : Ext w3 w6 := (by repeat (first | exact Ext.refl _ | assumption | refine Ext.setCell ?_ (by first | (simp; done) | (simp; omega)) _ | refine Ext.drewN ?_ _ | refine Ext.alloc ?_ _ | refine Ext.drew ?_ | refine Ext.trans ?_ (by assumption)))
    have b7 : (kindE s a0 a1 a2 a3 a4 a5 a6 a7 a8 a9 p q != 0) = true := by simpa using HK.out
    have r0 := t0 _ hx6
    have r1 := t1 _ hx6
    have r2 := t2 _ hx6
    have r3 := t3 _ hx6
    have r4 := t4 _ hx6
    clear d0 d1 d2 d3 d4 d5 d6 d7 d8 d9 d10 d11 d12
    go_wp2_with (go_at_call 22; refine (empty_zero _).mono ?_; rintro e w7 ⟨rfl, hb7⟩)
    go_ret
    exact ⟨ret_b (by simp), (by repeat (first | exact Ext.refl _ | assumption | refine Ext.setCell ?_ (by first | (simp; done) | (simp; omega)) _ | refine Ext.drewN ?_ _ | refine Ext.alloc ?_ _ | refine Ext.drew ?_ | refine Ext.trans ?_ (by assumption)))⟩
end Go.Proofs.YtjkalnboijkikaaDoor
