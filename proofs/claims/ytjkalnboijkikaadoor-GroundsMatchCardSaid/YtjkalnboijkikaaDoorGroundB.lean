/- Contract: plant.ground at a cell of right fields. -/
import Derived.Test.YtjkalnboijkikaaDoorGroundA
import Derived.Test.YtjkalnboijkikaaDoorFieldsQ
namespace Go.Proofs.YtjkalnboijkikaaDoor
open Go.RowKit
attribute [local go_sem ↓] Go.wp_at_zero Go.wp_at_succ
theorem run_store_float {P : Program} {a : Addr} {m : Mode} {w : World} (k : FloatKind) (b : Nat) : (store a (.float k b) m).run P w = stored P w a (.float k b) m := run_store P w a _ m rfl
attribute [local go_sem] run_store_float
theorem Rd.get {w : World} {ad : Addr} {xs : List Value} {j : Nat} {u : Value} (h : Rd w (some ad) xs) (hu : xs[j]? = some u) : w.cell? (ad.add j) = some u := by
  obtain ⟨ad', e, _, hc⟩ := h (by rintro rfl; simp at hu)
  injection e with e
  subst e
  exact hc j u hu

set_option maxRecDepth 100000 in
set_option maxHeartbeats 3200000 in
theorem ground_any (X Y W H x y : Int) (A A' : Option Addr) (n c n' c' : Nat) (l l' : List Nat) (w : World) (hn : l.length = n) (hn' : l'.length = n') (hd : Rd w A (flt l)) (hd' : Rd w A' (flt l')) (hr : RegOk X Y W H) (hnw : (n : Int) = W * H) (hnw' : (n' : Int) = W * H)
    (hia : InR X Y W H x y) (hh : ∀ b ∈ l, hgtB b = true) :
    Calls Tryd.prog 35 #[.agg #[.int .i64 X, .int .i64 Y, .int .i64 W, .int .i64 H, .slice A n c], .agg #[.int .i64 X, .int .i64 Y, .int .i64 W, .int .i64 H, .slice A' n' c'], .int .i64 x, .int .i64 y] w fun e w' =>
      e = .returned (.agg #[.float .f32 (valAt X Y W l (x, y)), .float .f32 (slopeK X Y W H l x y 4), .float .f32 (wetF (valAt X Y W l' (x, y)))]) ∧ Ext w w' := by
  obtain ⟨ka, hka, hkal, hkav⟩ := valAt_get (l := l) hr hia (by rw [hn]; exact hnw)
  obtain ⟨kb, hkb, hkbl, hkbv⟩ := valAt_get (l := l') hr hia (by rw [hn']; exact hnw')
  obtain rfl : kb = ka := by omega
  obtain ⟨ad, rfl, _, _⟩ := hd.at (k := kb) (by simpa using hkal)
  obtain ⟨ad', rfl, _, _⟩ := hd'.at (k := kb) (by simpa using hkbl)
  have hv : ∀ x y, InR X Y W H x y → Bd 20 (valAt X Y W l (x, y)) := fun x y h => by
    obtain ⟨k, _, hk, hv⟩ := valAt_get hr h (by rw [hn]; exact hnw)
    exact hgt_bd (hh _ (List.mem_of_getElem? hv))
  have Hv := hidA hv
  have Hr := hidA hr
  have Ha := hidA hia
  have Hka := hidA hka
  have Hn := hidA hn
  have Hnw := hidA hnw
  have i1 : (kb : Int) < n := by omega
  have i2 : (0 : Int) ≤ kb := by omega
  have i3 : (kb : Int) < n' := by omega
  have Hka2 : Hid ((flt l)[kb]? = some (.float .f32 (valAt X Y W l (x, y)))) := by show _ = _; simp [flt, hkav]
  have Hkb2 : Hid ((flt l')[kb]? = some (.float .f32 (valAt X Y W l' (x, y)))) := by show _ = _; simp [flt, hkbv]
  have bd : (-4194304 ≤ x ∧ x ≤ 4194304) ∧ (-4194304 ≤ y ∧ y ≤ 4194304) := by
    unfold RegOk at hr
    unfold InR at hia
    omega
  obtain ⟨⟨bx1, bx2⟩, by1, by2⟩ := bd
  clear hv hr hia hka hkb hkal hkbl hkav hkbv hn hn' hnw hnw' hh
  go_enter Tryd.func35, Tryd.ntmps35
  go_wp2_with fail
  refine (place_in X Y W H x y _ Hr.out Ha.out).mono ?_
  rw [Hka.out]
  rintro e w1 ⟨rfl, hb1⟩
  have hB0 : Bk w1 w.heap.size 47 #[.int .i64 X, .int .i64 Y, .int .i64 W, .int .i64 H, .slice (some ad) n c] := (((Bk.new' rfl).alloc _).alloc _).ext hb1
  have hB1 : Bk w1 (w.heap.size + 1) 47 #[.int .i64 X, .int .i64 Y, .int .i64 W, .int .i64 H, .slice (some ad') n' c'] := ((Bk.new' (by simp)).alloc _).ext hb1
  have hB2 : Bk w1 (w.heap.size + 1 + 1) 32 #[.float .f32 0, .float .f32 0, .float .f32 0] := (Bk.new' (by simp)).ext hb1
  have hx1 : Ext w w1 := ((((Ext.refl w).alloc _).alloc _).alloc _).trans hb1
  have hl2 := hB2.lt
  have hD : ∀ w', Ext w1 w' → Rd w' (some ad) (flt l) := fun w' h => (hd.ext hx1).ext h
  have hD' : ∀ w', Ext w1 w' → Rd w' (some ad') (flt l') := fun w' h => (hd'.ext hx1).ext h
  have s0 : ∀ w', Ext w1 w' → w'.cell? ⟨w.heap.size, 0, none⟩ = some (.int .i64 X) := fun w' h => (hB0.ext h).cell 0
  have s1 : ∀ w', Ext w1 w' → w'.cell? ⟨w.heap.size, 1, none⟩ = some (.int .i64 Y) := fun w' h => (hB0.ext h).cell 1
  have s2 : ∀ w', Ext w1 w' → w'.cell? ⟨w.heap.size, 2, none⟩ = some (.int .i64 W) := fun w' h => (hB0.ext h).cell 2
  have s3 : ∀ w', Ext w1 w' → w'.cell? ⟨w.heap.size, 3, none⟩ = some (.int .i64 H) := fun w' h => (hB0.ext h).cell 3
  have s4 : ∀ w', Ext w1 w' → w'.cell? ⟨w.heap.size, 4, none⟩ = some (.slice (some ad) n c) := fun w' h => (hB0.ext h).cell 4
  have s5 : ∀ w', Ext w1 w' → w'.cell? ⟨w.heap.size + 1, 4, none⟩ = some (.slice (some ad') n' c') := fun w' h => (hB1.ext h).cell 4
  have s6 : ∀ w', Ext w1 w' → w'.cell? (ad.add kb) = some (.float .f32 (valAt X Y W l (x, y))) := fun w' h => (hD w' h).get Hka2.out
  have s7 : ∀ w', Ext w1 w' → w'.cell? (ad'.add kb) = some (.float .f32 (valAt X Y W l' (x, y))) := fun w' h => (hD' w' h).get Hkb2.out
  have e4 := s4 _ (Ext.refl _)
  have e6 := s6 _ (Ext.refl _)
  clear hd hd' hb1
  go_wp2_with fail
  clear e4 e6
  go_loopw [12] (fun i wr => ∃ k : Nat, k ≤ 4 ∧ i = .int .i64 (2 * k) ∧ Bk wr w1.heap.size 32 #[.float .f32 (valAt X Y W l (x, y)), .float .f32 (slopeK X Y W H l x y k), .float .f32 0] ∧ Ext w1 wr) (fun i _ => 10 - (intOf i).toNat)
  case atStart => exact ⟨0, by omega, rfl, Bk.new _ _ _, (by repeat (first | exact Ext.refl _ | assumption | refine Ext.setCell ?_ (by first | (simp; done) | (simp; omega)) _ | refine Ext.drewN ?_ _ | refine Ext.alloc ?_ _ | refine Ext.drew ?_ | refine Ext.trans ?_ (by assumption)))⟩
  case round =>
    obtain ⟨k, hk, rfl, hG, hx⟩ := hrel
    by_cases hlt : k < 4
    · have hlG := hG.lt
      go_wp2_with fail
      refine (toward_any (2 * k) _ (by omega) (by omega)).mono ?_
      rintro e w5 ⟨rfl, hb5⟩
      obtain ⟨t1, t2, t3, t4⟩ := step_bd (2 * k)
      have hx5 := hx.trans hb5
      have hG5 := hG.ext hb5
      have d0 := s0 _ hx5
      have d1 := s1 _ hx5
      have d2 := s2 _ hx5
      have d3 := s3 _ hx5
      have hlw := hG5.lt
      have hq0 : w.heap.size < w5.heap.size := by omega
      have hq1 : w.heap.size + 1 < w5.heap.size := by omega
      have z1 : wrap64 (x + stepX (2 * k)) = x + stepX (2 * k) := by unfold wrap64; omega
      have z2 : wrap64 (y + stepY (2 * k)) = y + stepY (2 * k) := by unfold wrap64; omega
      clear hG hb5 hx
      by_cases hib : InR X Y W H (nbOf x y (2 * k)).1 (nbOf x y (2 * k)).2
      · have Hib := hidA hib
        obtain ⟨kc, hkc, hkcl, hkcv⟩ := valAt_get (l := l) Hr.out hib (by rw [Hn.out]; exact Hnw.out)
        have Hkc := hidA hkc
        have j1 : (kc : Int) < n := by have := Hn.out; omega
        have j2 : (0 : Int) ≤ kc := by omega
        have Hkc2 : Hid ((flt l)[kc]? = some (.float .f32 (valAt X Y W l (nbOf x y (2 * k))))) := by show _ = _; simp [flt]; exact hkcv
        have P1 := fsub_ok (Hv.out _ _ Ha.out) (Hv.out _ _ hib) (by omega)
        have Q1 := fun (w : World) => run_float_arith (P := Tryd.prog) w .sub 26 .f32 _ _ _ P1.1
        have Hbd := hidA P1.2
        clear hib hkc hkcl hkcv P1
        go_wp2_with fail
        refine (place_in X Y W H _ _ _ Hr.out Hib.out).mono ?_
        rw [show cellN X Y W (nbOf x y (2 * k)).1 (nbOf x y (2 * k)).2 = kc from Hkc.out]
        rintro e w6 ⟨rfl, hb6⟩
        have hx6 : Ext w1 w6 := (hx5.alloc _).trans hb6
        have hG6 : Bk w6 w1.heap.size 32 #[.float .f32 (valAt X Y W l (x, y)), .float .f32 (slopeK X Y W H l x y k), .float .f32 0] := (hG5.alloc _).ext hb6
        have u4 : ∀ w', Ext w6 w' → w'.cell? ⟨w.heap.size, 4, none⟩ = some (.slice (some ad) n c) := fun w' h => s4 _ (hx6.trans h)
        have u6 : ∀ w', Ext w6 w' → w'.cell? (ad.add kb) = some (.float .f32 (valAt X Y W l (x, y))) := fun w' h => s6 _ (hx6.trans h)
        have u7 : ∀ w', Ext w6 w' → w'.cell? (ad.add kc) = some (.float .f32 (valAt X Y W l (nbOf x y (2 * k)))) := fun w' h => (hD w' (hx6.trans h)).get Hkc2.out
        clear d0 d1 d2 d3 z1 z2 hb6 hx5 hG5
        go_wp2_with fail
        refine wp_region_noPanic ?_
        refine wp_region_held_drew (S := fun w' => Ext w6 w') (by kernel_rfl) ?_ (fun hHeld => ?_)
        · (repeat (first | exact Ext.refl _ | assumption | refine Ext.setCell ?_ (by first | (simp; done) | (simp; omega)) _ | refine Ext.drewN ?_ _ | refine Ext.alloc ?_ _ | refine Ext.drew ?_ | refine Ext.trans ?_ (by assumption)))
        refine wpAnyH_take (i := 0) (oi := ?o2x0) (v := ?v2x0) ?hi2x0 (by kernel_rfl) ?hf2x0 ?hr2x0 (fun _ _ _ h => h) ?hy2x0 (by assumption) ?rest2x0
        case hi2x0 => (simp only [List.getElem?_toArray, List.getElem?_cons_zero]; exact rfl)
        case hf2x0 => kernel_rfl
        case hr2x0 => kernel_rfl
        case hy2x0 => (refine Or.inl ⟨by rfl, ?_⟩; intro w hSw; (try dsimp only at hSw); go_simp; try with_reducible rfl)
        simp only [put_mk, List.set_cons_succ, List.set_cons_zero]
        refine wpAnyH_take (i := 1) (oi := ?o3x1) (v := ?v3x1) ?hi3x1 (by kernel_rfl) ?hf3x1 ?hr3x1 (fun _ _ _ h => h) ?hy3x1 (by assumption) ?rest3x1
        case hi3x1 => (simp only [List.getElem?_toArray, List.getElem?_cons_succ, List.getElem?_cons_zero]; exact rfl)
        case hf3x1 => kernel_rfl
        case hr3x1 => kernel_rfl
        case hy3x1 => (refine Or.inl ⟨by rfl, ?_⟩; intro w hSw; (try dsimp only at hSw); go_simp; try with_reducible rfl)
        simp only [put_mk, List.set_cons_succ, List.set_cons_zero]
        refine wpAnyH_take (i := 2) (oi := ?o4x2) (v := ?v4x2) ?hi4x2 (by kernel_rfl) ?hf4x2 ?hr4x2 (fun _ _ _ h => h) ?hy4x2 (by assumption) ?rest4x2
        case hi4x2 => (simp only [List.getElem?_toArray, List.getElem?_cons_succ, List.getElem?_cons_zero]; exact rfl)
        case hf4x2 => kernel_rfl
        case hr4x2 => kernel_rfl
        case hy4x2 => (refine Or.inl ⟨by rfl, ?_⟩; intro w hSw; (try dsimp only at hSw); go_simp; try with_reducible rfl)
        simp only [put_mk, List.set_cons_succ, List.set_cons_zero]
        refine wpAnyH_take (i := 3) (oi := ?o5x3) (v := ?v5x3) ?hi5x3 (by kernel_rfl) ?hf5x3 ?hr5x3 (fun _ _ _ h => h) ?hy5x3 (by assumption) ?rest5x3
        case hi5x3 => (simp only [List.getElem?_toArray, List.getElem?_cons_succ, List.getElem?_cons_zero]; exact rfl)
        case hf5x3 => kernel_rfl
        case hr5x3 => kernel_rfl
        case hy5x3 => (refine Or.inl ⟨by rfl, ?_⟩; intro w hSw; (try dsimp only at hSw); go_simp; try with_reducible rfl)
        simp only [put_mk, List.set_cons_succ, List.set_cons_zero]
        refine wpAnyH_take (i := 4) (oi := ?o6x4) (v := ?v6x4) ?hi6x4 (by kernel_rfl) ?hf6x4 ?hr6x4 (fun _ _ _ h => h) ?hy6x4 (by assumption) ?rest6x4
        case hi6x4 => (simp only [List.getElem?_toArray, List.getElem?_cons_succ, List.getElem?_cons_zero]; exact rfl)
        case hf6x4 => kernel_rfl
        case hr6x4 => kernel_rfl
        case hy6x4 => (refine Or.inl ⟨by rfl, ?_⟩; intro w hSw; (try dsimp only at hSw); go_simp; try with_reducible rfl)
        simp only [put_mk, List.set_cons_succ, List.set_cons_zero]
        refine wpAnyH_take (i := 5) (oi := ?o7x5) (v := ?v7x5) ?hi7x5 (by kernel_rfl) ?hf7x5 ?hr7x5 (fun _ _ _ h => h) ?hy7x5 (by assumption) ?rest7x5
        case hi7x5 => (simp only [List.getElem?_toArray, List.getElem?_cons_succ, List.getElem?_cons_zero]; exact rfl)
        case hf7x5 => kernel_rfl
        case hr7x5 => kernel_rfl
        case hy7x5 => (refine Or.inl ⟨by rfl, ?_⟩; intro w hSw; (try dsimp only at hSw); go_simp; try with_reducible rfl)
        simp only [put_mk, List.set_cons_succ, List.set_cons_zero]
        refine wpAnyH_take (i := 6) (oi := ?o8x6) (v := ?v8x6) ?hi8x6 (by kernel_rfl) ?hf8x6 ?hr8x6 (fun _ _ _ h => h) ?hy8x6 (by assumption) ?rest8x6
        case hi8x6 => (simp only [List.getElem?_toArray, List.getElem?_cons_succ, List.getElem?_cons_zero]; exact rfl)
        case hf8x6 => kernel_rfl
        case hr8x6 => kernel_rfl
        case hy8x6 => (refine Or.inl ⟨by rfl, ?_⟩; intro w hSw; (try dsimp only at hSw); go_simp; try with_reducible rfl)
        simp only [put_mk, List.set_cons_succ, List.set_cons_zero]
        refine wpAnyH_take (i := 7) (oi := ?o9x7) (v := ?v9x7) ?hi9x7 (by kernel_rfl) ?hf9x7 ?hr9x7 (fun _ _ _ h => h) ?hy9x7 (by assumption) ?rest9x7
        case hi9x7 => (simp only [List.getElem?_toArray, List.getElem?_cons_succ, List.getElem?_cons_zero]; exact rfl)
        case hf9x7 => kernel_rfl
        case hr9x7 => kernel_rfl
        case hy9x7 => (refine Or.inl ⟨by rfl, ?_⟩; intro w hSw; (try dsimp only at hSw); go_simp; try with_reducible rfl)
        simp only [put_mk, List.set_cons_succ, List.set_cons_zero]
        refine wpAnyH_take (i := 8) (oi := ?o10x8) (v := ?v10x8) ?hi10x8 (by kernel_rfl) ?hf10x8 ?hr10x8 (fun _ _ _ h => h) ?hy10x8 (by assumption) ?rest10x8
        case hi10x8 => (simp only [List.getElem?_toArray, List.getElem?_cons_succ, List.getElem?_cons_zero]; exact rfl)
        case hf10x8 => kernel_rfl
        case hr10x8 => kernel_rfl
        case hy10x8 => (refine Or.inl ⟨by rfl, ?_⟩; intro w hSw; (try dsimp only at hSw); go_simp; try with_reducible rfl)
        simp only [put_mk, List.set_cons_succ, List.set_cons_zero]
        refine wpAnyH_take (i := 9) (oi := ?o11x9) (v := ?v11x9) ?hi11x9 (by kernel_rfl) ?hf11x9 ?hr11x9 (fun _ _ _ h => h) ?hy11x9 (by assumption) ?rest11x9
        case hi11x9 => (simp only [List.getElem?_toArray, List.getElem?_cons_succ, List.getElem?_cons_zero]; exact rfl)
        case hf11x9 => kernel_rfl
        case hr11x9 => kernel_rfl
        case hy11x9 => (refine Or.inl ⟨by rfl, ?_⟩; intro w hSw; (try dsimp only at hSw); go_simp; try with_reducible rfl)
        simp only [put_mk, List.set_cons_succ, List.set_cons_zero]
        refine wpAnyH_take (i := 10) (oi := ?o12x10) (v := ?v12x10) ?hi12x10 (by kernel_rfl) ?hf12x10 ?hr12x10 (fun _ _ _ h => h) ?hy12x10 (by assumption) ?rest12x10
        case hi12x10 => (simp only [List.getElem?_toArray, List.getElem?_cons_succ, List.getElem?_cons_zero]; exact rfl)
        case hf12x10 => kernel_rfl
        case hr12x10 => kernel_rfl
        case hy12x10 => (refine Or.inl ⟨by rfl, ?_⟩; intro w hSw; (try dsimp only at hSw); go_simp; try with_reducible rfl)
        simp only [put_mk, List.set_cons_succ, List.set_cons_zero]
        refine wpAnyH_ready (rs := [11]) (by kernel_rfl) (by simp) ?_
        refine AllReadyH.cons (o := ?o13x11) ?hi13x11 (fun K hK => ?_) AllReadyH.nil
        case hi13x11 => (simp only [List.getElem?_toArray, List.getElem?_cons_succ, List.getElem?_cons_zero]; exact rfl)
        go_simp
        refine (magnitude_any _ _ Hbd.out (by omega)).mono ?_
        rintro e w7' ⟨rfl, hw7⟩
        rw [hw7]
        clear hw7 w7'
        refine hK.out _ _ ?_ (fun hHeld => ?_)
        · (repeat (first | exact Ext.refl _ | assumption | refine Ext.setCell ?_ (by first | (simp; done) | (simp; omega)) _ | refine Ext.drewN ?_ _ | refine Ext.alloc ?_ _ | refine Ext.drew ?_ | refine Ext.trans ?_ (by assumption)))
        clear hK K
        refine wpAnyH_take (i := 12) (oi := ?o14x12) (v := ?v14x12) ?hi14x12 (by kernel_rfl) ?hf14x12 ?hr14x12 (fun _ _ _ h => h) ?hy14x12 (by assumption) ?rest14x12
        case hi14x12 => (simp only [List.getElem?_toArray, List.getElem?_cons_succ, List.getElem?_cons_zero]; exact rfl)
        case hf14x12 => kernel_rfl
        case hr14x12 => kernel_rfl
        case hy14x12 => (refine Or.inl ⟨by rfl, ?_⟩; intro w hSw; (try dsimp only at hSw); go_simp; try with_reducible rfl)
        simp only [put_mk, List.set_cons_succ, List.set_cons_zero]
        refine wpAnyH_done (by kernel_rfl) ?_ _
        refine NoPanic.normal ?_
        have c0 := hG6.cell 1
        have c1 := hG6.frozen 1
        clear u4 u6 u7 Q1 j1 j2
        by_cases hgt : gt (riseTo X Y W l x y (2 * k)) (slopeK X Y W H l x y k) = true
        · have C0 : (FloatKind.f32.format.order (absB (fsub (valAt X Y W l (x, y)) (valAt X Y W l ((nbOf x y (2 * (k : Int))).1, (nbOf x y (2 * (k : Int))).2)))) (slopeK X Y W H l x y k) == some .gt) = true := hgt
          have HS : Hid (slopeK X Y W H l x y (k + 1) = riseTo X Y W l x y (2 * k)) := slope_in Hib.out hgt
          have hS := hG6.set 1 (.float .f32 (riseTo X Y W l x y (2 * k)))
          have hS' : Bk (w6.setCell ⟨w1.heap.size, 1, none⟩ (.float .f32 (riseTo X Y W l x y (2 * k)))) w1.heap.size 32 #[.float .f32 (valAt X Y W l (x, y)), .float .f32 (slopeK X Y W H l x y (k + 1)), .float .f32 0] := by rw [HS.out]; simpa using hS
          clear hgt hS
          go_wp2_with fail
          go_roundw
          case rel => exact ⟨k + 1, by omega, by go_num, hS', (by repeat (first | exact Ext.refl _ | assumption | refine Ext.setCell ?_ (by first | (simp; done) | (simp; omega)) _ | refine Ext.drewN ?_ _ | refine Ext.alloc ?_ _ | refine Ext.drew ?_ | refine Ext.trans ?_ (by assumption)))⟩
          case measure => simp [intOf]; omega
        · have C0 : (FloatKind.f32.format.order (absB (fsub (valAt X Y W l (x, y)) (valAt X Y W l ((nbOf x y (2 * (k : Int))).1, (nbOf x y (2 * (k : Int))).2)))) (slopeK X Y W H l x y k) == some .gt) = false := (Bool.not_eq_true _).mp hgt
          have HS : Hid (slopeK X Y W H l x y (k + 1) = slopeK X Y W H l x y k) := slope_less hgt
          have hS' : Bk w6 w1.heap.size 32 #[.float .f32 (valAt X Y W l (x, y)), .float .f32 (slopeK X Y W H l x y (k + 1)), .float .f32 0] := by rw [HS.out]; exact hG6
          clear hgt
          go_wp2_with fail
          go_roundw
          case rel => exact ⟨k + 1, by omega, by go_num, hS', (by repeat (first | exact Ext.refl _ | assumption | refine Ext.setCell ?_ (by first | (simp; done) | (simp; omega)) _ | refine Ext.drewN ?_ _ | refine Ext.alloc ?_ _ | refine Ext.drew ?_ | refine Ext.trans ?_ (by assumption)))⟩
          case measure => simp [intOf]; omega
      · have Hib := hidA hib
        have HS : Hid (slopeK X Y W H l x y (k + 1) = slopeK X Y W H l x y k) := slope_out hib
        clear hib
        go_wp2_with fail
        refine (place_out X Y W H _ _ _ Hr.out Hib.out).mono ?_
        rintro e w6 ⟨rfl, hb6⟩
        have hx6 : Ext w1 w6 := (hx5.alloc _).trans hb6
        have hG6 : Bk w6 w1.heap.size 32 #[.float .f32 (valAt X Y W l (x, y)), .float .f32 (slopeK X Y W H l x y (k + 1)), .float .f32 0] := by rw [HS.out]; exact (hG5.alloc _).ext hb6
        clear d0 d1 d2 d3 z1 z2 hb6 hx5 hG5
        go_wp2_with fail
        go_roundw
        case rel => exact ⟨k + 1, by omega, by go_num, hG6, hx6⟩
        case measure => simp [intOf]; omega
    · obtain rfl : k = 4 := by omega
      have e5 := s5 _ hx
      have e7 := s7 _ hx
      have g0 := hG.cell 0
      have g1 := hG.cell 1
      have g2 := hG.cell 2
      have g3 := hG.frozen 2
      have hB3 := hB2.ext hx
      have r0 := hB3.cell 0
      have r1 := hB3.cell 1
      have r2 := hB3.cell 2
      have r3 := hB3.frozen 0
      have r4 := hB3.frozen 1
      have r5 := hB3.frozen 2
      have hlG := hG.lt
      have hxw := hx1.trans hx
      clear s0 s1 s2 s3 s4 s5 s6 s7 hD hD'
      have Hsl : Hid (∃ s, slopeK X Y W H l x y 4 = s) := ⟨_, rfl⟩
      obtain ⟨sl, hsl⟩ := Hsl.out
      rw [hsl] at g1
      have Hs := hidA hsl
      clear hsl Hsl hG
      by_cases hgt : gt (valAt X Y W l' (x, y)) 0 = true
      · have C0 : (FloatKind.f32.format.order (valAt X Y W l' (x, y)) 0 == some .gt) = true := hgt
        have HW : Hid (wetF (valAt X Y W l' (x, y)) = valAt X Y W l' (x, y)) := if_pos hgt
        clear hgt
        go_wp2
        have hBf : Bk ((((wr.setCell ⟨w1.heap.size, 2, none⟩ (.float .f32 (valAt X Y W l' (x, y)))).setCell ⟨w.heap.size + 1 + 1, 0, none⟩ (.float .f32 (valAt X Y W l (x, y)))).setCell ⟨w.heap.size + 1 + 1, 1, none⟩ (.float .f32 sl)).setCell ⟨w.heap.size + 1 + 1, 2, none⟩ (.float .f32 (valAt X Y W l' (x, y)))) (w.heap.size + 1 + 1) 32 #[.float .f32 (valAt X Y W l (x, y)), .float .f32 sl, .float .f32 (valAt X Y W l' (x, y))] := by
          simpa using (((hB3.far (p := ⟨w1.heap.size, 2, none⟩) (by simp; omega) (.float .f32 (valAt X Y W l' (x, y)))).set 0 (.float .f32 (valAt X Y W l (x, y)))).set 1 (.float .f32 sl)).set 2 (.float .f32 (valAt X Y W l' (x, y)))
        have q0 := hBf.cell 0
        have q1 := hBf.cell 1
        have q2 := hBf.cell 2
        refine bodyPost_ret (v := .agg #[.float .f32 (valAt X Y W l (x, y)), .float .f32 sl, .float .f32 (valAt X Y W l' (x, y))]) (by simp [results, Tryd.results35, go_sem, q0, q1, q2]) rfl ⟨by rw [Hs.out, HW.out], ?_⟩
        (repeat (first | exact Ext.refl _ | assumption | refine Ext.setCell ?_ (by first | (simp; done) | (simp; omega)) _ | refine Ext.drewN ?_ _ | refine Ext.alloc ?_ _ | refine Ext.drew ?_ | refine Ext.trans ?_ (by assumption)))
      · have C0 : (FloatKind.f32.format.order (valAt X Y W l' (x, y)) 0 == some .gt) = false := (Bool.not_eq_true _).mp hgt
        have HW : Hid (wetF (valAt X Y W l' (x, y)) = 0) := if_neg hgt
        clear hgt
        go_wp2
        have hBf : Bk (((wr.setCell ⟨w.heap.size + 1 + 1, 0, none⟩ (.float .f32 (valAt X Y W l (x, y)))).setCell ⟨w.heap.size + 1 + 1, 1, none⟩ (.float .f32 sl)).setCell ⟨w.heap.size + 1 + 1, 2, none⟩ (.float .f32 0)) (w.heap.size + 1 + 1) 32 #[.float .f32 (valAt X Y W l (x, y)), .float .f32 sl, .float .f32 0] := by
          simpa using (((hB3).set 0 (.float .f32 (valAt X Y W l (x, y)))).set 1 (.float .f32 sl)).set 2 (.float .f32 0)
        have q0 := hBf.cell 0
        have q1 := hBf.cell 1
        have q2 := hBf.cell 2
        refine bodyPost_ret (v := .agg #[.float .f32 (valAt X Y W l (x, y)), .float .f32 sl, .float .f32 0]) (by simp [results, Tryd.results35, go_sem, q0, q1, q2]) rfl ⟨by rw [Hs.out, HW.out], ?_⟩
        (repeat (first | exact Ext.refl _ | assumption | refine Ext.setCell ?_ (by first | (simp; done) | (simp; omega)) _ | refine Ext.drewN ?_ _ | refine Ext.alloc ?_ _ | refine Ext.drew ?_ | refine Ext.trans ?_ (by assumption)))
end Go.Proofs.YtjkalnboijkikaaDoor
