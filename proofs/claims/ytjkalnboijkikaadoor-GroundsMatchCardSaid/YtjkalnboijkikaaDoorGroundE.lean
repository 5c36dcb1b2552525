/- Contract: tarnref2.Rise. -/
import Derived.Test.YtjkalnboijkikaaDoorGroundD
namespace Go.Proofs.YtjkalnboijkikaaDoor
open Go.RowKit
attribute [local go_sem ↓] Go.wp_at_zero Go.wp_at_succ

theorem sub_lt {x y r : Nat} (h : floatBits .sub .f32 x y = some r) : r < 4294967296 := by
  have h' : Ieee.single.sub x y = some r := h
  exact Ieee.Format.map_write_lt Ieee.single h'

set_option maxRecDepth 100000 in
set_option maxHeartbeats 3200000 in
theorem rise_any (X Y W H x y : Int) (A : Option Addr) (n c k : Nat) (l : List Nat) (w : World) (hn : l.length = n) (hd : Rd w A (flt l)) (hr : RegOk X Y W H) (hnw : (n : Int) = W * H) (hk : k < n) (hn6 : n ≤ 65536) (hxy : placeK X Y W k = (x, y)) (hh : ∀ b ∈ l, hgtB b = true) :
    Calls Tryd.prog 40 #[.agg #[.int .i64 X, .int .i64 Y, .int .i64 W, .int .i64 H, .slice A n c], .int .i64 k] w fun e w' => e = .returned (.float .f32 (slopeK X Y W H l x y 4)) ∧ Ext w w' := by
  have hia : InR X Y W H x y := by
    have := placeK_in hr hnw hk
    rw [hxy] at this
    exact this
  have hck : cellN X Y W x y = k := by
    have := cell_place (X := X) (Y := Y) (W := W) (by unfold RegOk at hr; omega) k
    rw [hxy] at this
    exact this
  obtain ⟨ka, hka, hkal, hkav⟩ := valAt_get (l := l) hr hia (by rw [hn]; exact hnw)
  obtain rfl : ka = k := by omega
  obtain ⟨ad, rfl, _, _⟩ := hd.at (k := ka) (by simpa using hkal)
  have hv : ∀ x y, InR X Y W H x y → Bd 20 (valAt X Y W l (x, y)) := fun x y h => by
    obtain ⟨k, _, hk, hv⟩ := valAt_get hr h (by rw [hn]; exact hnw)
    exact hgt_bd (hh _ (List.mem_of_getElem? hv))
  have HNB := fun (j : Nat) (hj : j < 4) (w : World) => hidA (neighbour_any X Y W H (2 * j) x y ka n w hxy hr hnw hk hn6 (by omega) (by omega))
  have Hv := hidA hv
  have Hr := hidA hr
  have Ha := hidA hia
  have Hn := hidA hn
  have Hnw := hidA hnw
  have i1 : (ka : Int) < n := by omega
  have i2 : (0 : Int) ≤ ka := by omega
  have Hka2 : Hid ((flt l)[ka]? = some (.float .f32 (valAt X Y W l (x, y)))) := by show _ = _; simp [flt, hkav]
  have hB0 : Bk (w.alloc (.cells #[.int .i64 X, .int .i64 Y, .int .i64 W, .int .i64 H, .slice (some ad) n c] 47)) w.heap.size 47 #[.int .i64 X, .int .i64 Y, .int .i64 W, .int .i64 H, .slice (some ad) n c] := Bk.new _ _ _
  clear hv hr hia hka hkal hkav hn hnw hh hck hxy
  go_enter Tryd.func40, Tryd.ntmps40
  go_wp2_with fail
  obtain ⟨w1, hw1⟩ : ∃ w1, w1 = w.alloc (.cells #[.int .i64 X, .int .i64 Y, .int .i64 W, .int .i64 H, .slice (some ad) n c] 47) := ⟨_, rfl⟩
  have hx1 : Ext w w1 := by rw [hw1]; exact (Ext.refl w).alloc _
  rw [← hw1] at hB0 ⊢
  clear hw1
  have hD : ∀ w', Ext w1 w' → Rd w' (some ad) (flt l) := fun w' h => (hd.ext hx1).ext h
  go_loopw [5, 6] (fun s i wr => ∃ j : Nat, j ≤ 4 ∧ s = .float .f32 (slopeK X Y W H l x y j) ∧ i = .int .i64 (2 * j) ∧ Ext w1 wr) (fun _ i _ => 10 - (intOf i).toNat)
  case atStart => exact ⟨0, by omega, rfl, rfl, Ext.refl _⟩
  case round =>
    obtain ⟨j, hj, rfl, rfl, hx⟩ := hrel
    by_cases hlt : j < 4
    · have hF := hB0.ext hx
      have d0 := hF.cell 0
      have d1 := hF.cell 1
      have d2 := hF.cell 2
      have d3 := hF.cell 3
      go_wp2_with fail
      refine ((HNB j hlt _).out).mono ?_
      by_cases hib : InR X Y W H (nbOf x y (2 * j)).1 (nbOf x y (2 * j)).2
      · obtain ⟨kc, hkc, hkcl, hkcv⟩ := valAt_get (l := l) Hr.out hib (by rw [Hn.out]; exact Hnw.out)
        have hnb : nbE X Y W H x y (2 * j) = kc := by unfold nbE; rw [if_pos hib]; exact hkc
        rw [hnb]
        rintro e w5 ⟨rfl, hb5⟩
        have Hib := hidA hib
        have j1 : (kc : Int) < n := by have := Hn.out; omega
        have j2 : (0 : Int) ≤ kc := by omega
        have j3 : decide ((0 : Int) ≤ (kc : Int)) = true := by simp
        have Hkc2 : Hid ((flt l)[kc]? = some (.float .f32 (valAt X Y W l (nbOf x y (2 * j))))) := by show _ = _; simp [flt]; exact hkcv
        have P1 := fsub_ok (Hv.out _ _ Ha.out) (Hv.out _ _ hib) (by omega)
        have Q1 := fun (w : World) => run_float_arith (P := Tryd.prog) w .sub 26 .f32 _ _ _ P1.1
        have Hlt := hidA (sub_lt P1.1)
        have hx5 := hx.trans hb5
        have u4 : ∀ w', Ext w5 w' → w'.cell? ⟨w.heap.size, 4, none⟩ = some (.slice (some ad) n c) := fun w' h => (hB0.ext (hx5.trans h)).cell 4
        have u6 : ∀ w', Ext w5 w' → w'.cell? (ad.add ka) = some (.float .f32 (valAt X Y W l (x, y))) := fun w' h => (hD w' (hx5.trans h)).get Hka2.out
        have u7 : ∀ w', Ext w5 w' → w'.cell? (ad.add kc) = some (.float .f32 (valAt X Y W l (nbOf x y (2 * j)))) := fun w' h => (hD w' (hx5.trans h)).get Hkc2.out
        clear hib hkc hkcl hkcv P1 hnb d0 d1 d2 d3 HNB hb5
        go_wp2_with fail
        by_cases hgt : gt (riseTo X Y W l x y (2 * j)) (slopeK X Y W H l x y j) = true
        · have C0 : (FloatKind.f32.format.order (absB (fsub (valAt X Y W l (x, y)) (valAt X Y W l ((nbOf x y (2 * (j : Int))).1, (nbOf x y (2 * (j : Int))).2)))) (slopeK X Y W H l x y j) == some .gt) = true := hgt
          have HS : Hid (slopeK X Y W H l x y (j + 1) = riseTo X Y W l x y (2 * j)) := slope_in Hib.out hgt
          clear hgt
          refine wp_region_noPanic ?_
          refine wp_region_held_drew (S := fun w' => Ext w5 w') (by kernel_rfl) ?_ (fun hHeld => ?_)
          · (repeat (first | exact Ext.refl _ | assumption | refine Ext.setCell ?_ (by first | (simp; done) | (simp; omega)) _ | refine Ext.drewN ?_ _ | refine Ext.alloc ?_ _ | refine Ext.drew ?_ | refine Ext.trans ?_ (by assumption)))
          refine wpAnyH_take (i := 0) (oi := ?o2x0) (v := ?v2x0) ?hi2x0 (by kernel_rfl) ?hf2x0 ?hr2x0 (fun _ _ _ h => h) ?hy2x0 (by assumption) ?rest2x0
          case hi2x0 => (simp only [List.getElem?_toArray, List.getElem?_cons_zero]; exact rfl)
          case hf2x0 => kernel_rfl
          case hr2x0 => kernel_rfl
          case hy2x0 => (refine Or.inl ⟨by rfl, ?_⟩; intro w hSw; (try dsimp only at hSw); go_simp; try with_reducible rfl)
          simp only [put_mk, List.set_cons_succ, List.set_cons_zero]
          refine wpAnyH_take (i := 1) (oi := ?o3x1) (v := ?v3x1) ?hi3x1 (by kernel_rfl) ?hf3x1 ?hr3x1 (fun _ _ _ h => h) ?hy3x1 (by assumption) ?rest3x1
          case hi3x1 => (simp only [List.getElem?_toArray, List.getElem?_cons_succ, List.getElem?_cons_zero]; exact rfl)
          case hf3x1 => kernel_rfl
          case hr3x1 => kernel_rfl
          case hy3x1 => (refine Or.inl ⟨by rfl, ?_⟩; intro w hSw; (try dsimp only at hSw); go_simp; try with_reducible rfl)
          simp only [put_mk, List.set_cons_succ, List.set_cons_zero]
          refine wpAnyH_take (i := 2) (oi := ?o4x2) (v := ?v4x2) ?hi4x2 (by kernel_rfl) ?hf4x2 ?hr4x2 (fun _ _ _ h => h) ?hy4x2 (by assumption) ?rest4x2
          case hi4x2 => (simp only [List.getElem?_toArray, List.getElem?_cons_succ, List.getElem?_cons_zero]; exact rfl)
          case hf4x2 => kernel_rfl
          case hr4x2 => kernel_rfl
          case hy4x2 => (refine Or.inl ⟨by rfl, ?_⟩; intro w hSw; (try dsimp only at hSw); go_simp; try with_reducible rfl)
          simp only [put_mk, List.set_cons_succ, List.set_cons_zero]
          refine wpAnyH_take (i := 3) (oi := ?o5x3) (v := ?v5x3) ?hi5x3 (by kernel_rfl) ?hf5x3 ?hr5x3 (fun _ _ _ h => h) ?hy5x3 (by assumption) ?rest5x3
          case hi5x3 => (simp only [List.getElem?_toArray, List.getElem?_cons_succ, List.getElem?_cons_zero]; exact rfl)
          case hf5x3 => kernel_rfl
          case hr5x3 => kernel_rfl
          case hy5x3 => (refine Or.inl ⟨by rfl, ?_⟩; intro w hSw; (try dsimp only at hSw); go_simp; try with_reducible rfl)
          simp only [put_mk, List.set_cons_succ, List.set_cons_zero]
          refine wpAnyH_take (i := 4) (oi := ?o6x4) (v := ?v6x4) ?hi6x4 (by kernel_rfl) ?hf6x4 ?hr6x4 (fun _ _ _ h => h) ?hy6x4 (by assumption) ?rest6x4
          case hi6x4 => (simp only [List.getElem?_toArray, List.getElem?_cons_succ, List.getElem?_cons_zero]; exact rfl)
          case hf6x4 => kernel_rfl
          case hr6x4 => kernel_rfl
          case hy6x4 => (refine Or.inl ⟨by rfl, ?_⟩; intro w hSw; (try dsimp only at hSw); go_simp; try with_reducible rfl)
          simp only [put_mk, List.set_cons_succ, List.set_cons_zero]
          refine wpAnyH_take (i := 5) (oi := ?o7x5) (v := ?v7x5) ?hi7x5 (by kernel_rfl) ?hf7x5 ?hr7x5 (fun _ _ _ h => h) ?hy7x5 (by assumption) ?rest7x5
          case hi7x5 => (simp only [List.getElem?_toArray, List.getElem?_cons_succ, List.getElem?_cons_zero]; exact rfl)
          case hf7x5 => kernel_rfl
          case hr7x5 => kernel_rfl
          case hy7x5 => (refine Or.inl ⟨by rfl, ?_⟩; intro w hSw; (try dsimp only at hSw); go_simp; try with_reducible rfl)
          simp only [put_mk, List.set_cons_succ, List.set_cons_zero]
          refine wpAnyH_take (i := 6) (oi := ?o8x6) (v := ?v8x6) ?hi8x6 (by kernel_rfl) ?hf8x6 ?hr8x6 (fun _ _ _ h => h) ?hy8x6 (by assumption) ?rest8x6
          case hi8x6 => (simp only [List.getElem?_toArray, List.getElem?_cons_succ, List.getElem?_cons_zero]; exact rfl)
          case hf8x6 => kernel_rfl
          case hr8x6 => kernel_rfl
          case hy8x6 => (refine Or.inl ⟨by rfl, ?_⟩; intro w hSw; (try dsimp only at hSw); go_simp; try with_reducible rfl)
          simp only [put_mk, List.set_cons_succ, List.set_cons_zero]
          refine wpAnyH_take (i := 7) (oi := ?o9x7) (v := ?v9x7) ?hi9x7 (by kernel_rfl) ?hf9x7 ?hr9x7 (fun _ _ _ h => h) ?hy9x7 (by assumption) ?rest9x7
          case hi9x7 => (simp only [List.getElem?_toArray, List.getElem?_cons_succ, List.getElem?_cons_zero]; exact rfl)
          case hf9x7 => kernel_rfl
          case hr9x7 => kernel_rfl
          case hy9x7 => (refine Or.inl ⟨by rfl, ?_⟩; intro w hSw; (try dsimp only at hSw); go_simp; try with_reducible rfl)
          simp only [put_mk, List.set_cons_succ, List.set_cons_zero]
          refine wpAnyH_take (i := 8) (oi := ?o10x8) (v := ?v10x8) ?hi10x8 (by kernel_rfl) ?hf10x8 ?hr10x8 (fun _ _ _ h => h) ?hy10x8 (by assumption) ?rest10x8
          case hi10x8 => (simp only [List.getElem?_toArray, List.getElem?_cons_succ, List.getElem?_cons_zero]; exact rfl)
          case hf10x8 => kernel_rfl
          case hr10x8 => kernel_rfl
          case hy10x8 => (refine Or.inl ⟨by rfl, ?_⟩; intro w hSw; (try dsimp only at hSw); go_simp; try with_reducible rfl)
          simp only [put_mk, List.set_cons_succ, List.set_cons_zero]
          refine wpAnyH_take (i := 9) (oi := ?o11x9) (v := ?v11x9) ?hi11x9 (by kernel_rfl) ?hf11x9 ?hr11x9 (fun _ _ _ h => h) ?hy11x9 (by assumption) ?rest11x9
          case hi11x9 => (simp only [List.getElem?_toArray, List.getElem?_cons_succ, List.getElem?_cons_zero]; exact rfl)
          case hf11x9 => kernel_rfl
          case hr11x9 => kernel_rfl
          case hy11x9 => (refine Or.inl ⟨by rfl, ?_⟩; intro w hSw; (try dsimp only at hSw); go_simp; try with_reducible rfl)
          simp only [put_mk, List.set_cons_succ, List.set_cons_zero]
          refine wpAnyH_take (i := 10) (oi := ?o12x10) (v := ?v12x10) ?hi12x10 (by kernel_rfl) ?hf12x10 ?hr12x10 (fun _ _ _ h => h) ?hy12x10 (by assumption) ?rest12x10
          case hi12x10 => (simp only [List.getElem?_toArray, List.getElem?_cons_succ, List.getElem?_cons_zero]; exact rfl)
          case hf12x10 => kernel_rfl
          case hr12x10 => kernel_rfl
          case hy12x10 => (refine Or.inl ⟨by rfl, ?_⟩; intro w hSw; (try dsimp only at hSw); go_simp; try with_reducible rfl)
          simp only [put_mk, List.set_cons_succ, List.set_cons_zero]
          refine wpAnyH_take (i := 11) (oi := ?o13x11) (v := ?v13x11) ?hi13x11 (by kernel_rfl) ?hf13x11 ?hr13x11 (fun _ _ _ h => h) ?hy13x11 (by assumption) ?rest13x11
          case hi13x11 => (simp only [List.getElem?_toArray, List.getElem?_cons_succ, List.getElem?_cons_zero]; exact rfl)
          case hf13x11 => kernel_rfl
          case hr13x11 => kernel_rfl
          case hy13x11 => (refine Or.inl ⟨by rfl, ?_⟩; intro w hSw; (try dsimp only at hSw); go_simp; try with_reducible rfl)
          simp only [put_mk, List.set_cons_succ, List.set_cons_zero]
          refine wpAnyH_take (i := 12) (oi := ?o14x12) (v := ?v14x12) ?hi14x12 (by kernel_rfl) ?hf14x12 ?hr14x12 (fun _ _ _ h => h) ?hy14x12 (by assumption) ?rest14x12
          case hi14x12 => (simp only [List.getElem?_toArray, List.getElem?_cons_succ, List.getElem?_cons_zero]; exact rfl)
          case hf14x12 => kernel_rfl
          case hr14x12 => kernel_rfl
          case hy14x12 => (refine Or.inl ⟨by rfl, ?_⟩; intro w hSw; (try dsimp only at hSw); go_simp; try with_reducible rfl)
          simp only [put_mk, List.set_cons_succ, List.set_cons_zero]
          refine wpAnyH_take (i := 13) (oi := ?o15x13) (v := ?v15x13) ?hi15x13 (by kernel_rfl) ?hf15x13 ?hr15x13 (fun _ _ _ h => h) ?hy15x13 (by assumption) ?rest15x13
          case hi15x13 => (simp only [List.getElem?_toArray, List.getElem?_cons_succ, List.getElem?_cons_zero]; exact rfl)
          case hf15x13 => kernel_rfl
          case hr15x13 => kernel_rfl
          case hy15x13 => (refine Or.inl ⟨by rfl, ?_⟩; intro w hSw; (try dsimp only at hSw); go_simp; try with_reducible rfl)
          simp only [put_mk, List.set_cons_succ, List.set_cons_zero]
          refine wpAnyH_take (i := 15) (oi := ?o16x15) (v := ?v16x15) ?hi16x15 (by kernel_rfl) ?hf16x15 ?hr16x15 (fun _ _ _ h => h) ?hy16x15 (by assumption) ?rest16x15
          case hi16x15 => (simp only [List.getElem?_toArray, List.getElem?_cons_succ, List.getElem?_cons_zero]; exact rfl)
          case hf16x15 => kernel_rfl
          case hr16x15 => kernel_rfl
          case hy16x15 => (refine Or.inl ⟨by rfl, ?_⟩; intro w hSw; (try dsimp only at hSw); go_simp; try with_reducible rfl)
          simp only [put_mk, List.set_cons_succ, List.set_cons_zero]
          refine wpAnyH_ready (rs := [14]) (by kernel_rfl) (by simp) ?_
          refine AllReadyH.cons (o := ?o17x14) ?hi17x14 (fun K hK => ?_) AllReadyH.nil
          case hi17x14 => (simp only [List.getElem?_toArray, List.getElem?_cons_succ, List.getElem?_cons_zero]; exact rfl)
          go_simp
          refine (refAbs_any _ _ Hlt.out).mono ?_
          rintro e w8 ⟨rfl, hw8⟩
          rw [hw8]
          clear hw8 w8
          refine hK.out _ _ ?_ (fun hHeld => ?_)
          · (repeat (first | exact Ext.refl _ | assumption | refine Ext.setCell ?_ (by first | (simp; done) | (simp; omega)) _ | refine Ext.drewN ?_ _ | refine Ext.alloc ?_ _ | refine Ext.drew ?_ | refine Ext.trans ?_ (by assumption)))
          clear hK K
          refine wpAnyH_take (i := 16) (oi := ?o18x16) (v := ?v18x16) ?hi18x16 (by kernel_rfl) ?hf18x16 ?hr18x16 (fun _ _ _ h => h) ?hy18x16 (by assumption) ?rest18x16
          case hi18x16 => (simp only [List.getElem?_toArray, List.getElem?_cons_succ, List.getElem?_cons_zero]; exact rfl)
          case hf18x16 => kernel_rfl
          case hr18x16 => kernel_rfl
          case hy18x16 => (refine Or.inl ⟨by rfl, ?_⟩; intro w hSw; (try dsimp only at hSw); go_simp; try with_reducible rfl)
          simp only [put_mk, List.set_cons_succ, List.set_cons_zero]
          refine wpAnyH_take (i := 17) (oi := ?o19x17) (v := ?v19x17) ?hi19x17 (by kernel_rfl) ?hf19x17 ?hr19x17 (fun _ _ _ h => h) ?hy19x17 (by assumption) ?rest19x17
          case hi19x17 => (simp only [List.getElem?_toArray, List.getElem?_cons_succ, List.getElem?_cons_zero]; exact rfl)
          case hf19x17 => kernel_rfl
          case hr19x17 => kernel_rfl
          case hy19x17 => (refine Or.inl ⟨by rfl, ?_⟩; intro w hSw; (try dsimp only at hSw); go_simp; try with_reducible rfl)
          simp only [put_mk, List.set_cons_succ, List.set_cons_zero]
          refine wpAnyH_done (by kernel_rfl) ?_ _
          refine NoPanic.normal ?_
          go_wp2_with fail
          refine wp_region_noPanic ?_
          refine wp_region_held_drew (S := fun w' => Ext w5 w') (by kernel_rfl) ?_ (fun hHeld => ?_)
          · (repeat (first | exact Ext.refl _ | assumption | refine Ext.setCell ?_ (by first | (simp; done) | (simp; omega)) _ | refine Ext.drewN ?_ _ | refine Ext.alloc ?_ _ | refine Ext.drew ?_ | refine Ext.trans ?_ (by assumption)))
          refine wpAnyH_take (i := 0) (oi := ?o21x0) (v := ?v21x0) ?hi21x0 (by kernel_rfl) ?hf21x0 ?hr21x0 (fun _ _ _ h => h) ?hy21x0 (by assumption) ?rest21x0
          case hi21x0 => (simp only [List.getElem?_toArray, List.getElem?_cons_zero]; exact rfl)
          case hf21x0 => kernel_rfl
          case hr21x0 => kernel_rfl
          case hy21x0 => (refine Or.inl ⟨by rfl, ?_⟩; intro w hSw; (try dsimp only at hSw); go_simp; try with_reducible rfl)
          simp only [put_mk, List.set_cons_succ, List.set_cons_zero]
          refine wpAnyH_take (i := 1) (oi := ?o22x1) (v := ?v22x1) ?hi22x1 (by kernel_rfl) ?hf22x1 ?hr22x1 (fun _ _ _ h => h) ?hy22x1 (by assumption) ?rest22x1
          case hi22x1 => (simp only [List.getElem?_toArray, List.getElem?_cons_succ, List.getElem?_cons_zero]; exact rfl)
          case hf22x1 => kernel_rfl
          case hr22x1 => kernel_rfl
          case hy22x1 => (refine Or.inl ⟨by rfl, ?_⟩; intro w hSw; (try dsimp only at hSw); go_simp; try with_reducible rfl)
          simp only [put_mk, List.set_cons_succ, List.set_cons_zero]
          refine wpAnyH_take (i := 2) (oi := ?o23x2) (v := ?v23x2) ?hi23x2 (by kernel_rfl) ?hf23x2 ?hr23x2 (fun _ _ _ h => h) ?hy23x2 (by assumption) ?rest23x2
          case hi23x2 => (simp only [List.getElem?_toArray, List.getElem?_cons_succ, List.getElem?_cons_zero]; exact rfl)
          case hf23x2 => kernel_rfl
          case hr23x2 => kernel_rfl
          case hy23x2 => (refine Or.inl ⟨by rfl, ?_⟩; intro w hSw; (try dsimp only at hSw); go_simp; try with_reducible rfl)
          simp only [put_mk, List.set_cons_succ, List.set_cons_zero]
          refine wpAnyH_take (i := 3) (oi := ?o24x3) (v := ?v24x3) ?hi24x3 (by kernel_rfl) ?hf24x3 ?hr24x3 (fun _ _ _ h => h) ?hy24x3 (by assumption) ?rest24x3
          case hi24x3 => (simp only [List.getElem?_toArray, List.getElem?_cons_succ, List.getElem?_cons_zero]; exact rfl)
          case hf24x3 => kernel_rfl
          case hr24x3 => kernel_rfl
          case hy24x3 => (refine Or.inl ⟨by rfl, ?_⟩; intro w hSw; (try dsimp only at hSw); go_simp; try with_reducible rfl)
          simp only [put_mk, List.set_cons_succ, List.set_cons_zero]
          refine wpAnyH_take (i := 4) (oi := ?o25x4) (v := ?v25x4) ?hi25x4 (by kernel_rfl) ?hf25x4 ?hr25x4 (fun _ _ _ h => h) ?hy25x4 (by assumption) ?rest25x4
          case hi25x4 => (simp only [List.getElem?_toArray, List.getElem?_cons_succ, List.getElem?_cons_zero]; exact rfl)
          case hf25x4 => kernel_rfl
          case hr25x4 => kernel_rfl
          case hy25x4 => (refine Or.inl ⟨by rfl, ?_⟩; intro w hSw; (try dsimp only at hSw); go_simp; try with_reducible rfl)
          simp only [put_mk, List.set_cons_succ, List.set_cons_zero]
          refine wpAnyH_take (i := 5) (oi := ?o26x5) (v := ?v26x5) ?hi26x5 (by kernel_rfl) ?hf26x5 ?hr26x5 (fun _ _ _ h => h) ?hy26x5 (by assumption) ?rest26x5
          case hi26x5 => (simp only [List.getElem?_toArray, List.getElem?_cons_succ, List.getElem?_cons_zero]; exact rfl)
          case hf26x5 => kernel_rfl
          case hr26x5 => kernel_rfl
          case hy26x5 => (refine Or.inl ⟨by rfl, ?_⟩; intro w hSw; (try dsimp only at hSw); go_simp; try with_reducible rfl)
          simp only [put_mk, List.set_cons_succ, List.set_cons_zero]
          refine wpAnyH_take (i := 6) (oi := ?o27x6) (v := ?v27x6) ?hi27x6 (by kernel_rfl) ?hf27x6 ?hr27x6 (fun _ _ _ h => h) ?hy27x6 (by assumption) ?rest27x6
          case hi27x6 => (simp only [List.getElem?_toArray, List.getElem?_cons_succ, List.getElem?_cons_zero]; exact rfl)
          case hf27x6 => kernel_rfl
          case hr27x6 => kernel_rfl
          case hy27x6 => (refine Or.inl ⟨by rfl, ?_⟩; intro w hSw; (try dsimp only at hSw); go_simp; try with_reducible rfl)
          simp only [put_mk, List.set_cons_succ, List.set_cons_zero]
          refine wpAnyH_take (i := 7) (oi := ?o28x7) (v := ?v28x7) ?hi28x7 (by kernel_rfl) ?hf28x7 ?hr28x7 (fun _ _ _ h => h) ?hy28x7 (by assumption) ?rest28x7
          case hi28x7 => (simp only [List.getElem?_toArray, List.getElem?_cons_succ, List.getElem?_cons_zero]; exact rfl)
          case hf28x7 => kernel_rfl
          case hr28x7 => kernel_rfl
          case hy28x7 => (refine Or.inl ⟨by rfl, ?_⟩; intro w hSw; (try dsimp only at hSw); go_simp; try with_reducible rfl)
          simp only [put_mk, List.set_cons_succ, List.set_cons_zero]
          refine wpAnyH_take (i := 8) (oi := ?o29x8) (v := ?v29x8) ?hi29x8 (by kernel_rfl) ?hf29x8 ?hr29x8 (fun _ _ _ h => h) ?hy29x8 (by assumption) ?rest29x8
          case hi29x8 => (simp only [List.getElem?_toArray, List.getElem?_cons_succ, List.getElem?_cons_zero]; exact rfl)
          case hf29x8 => kernel_rfl
          case hr29x8 => kernel_rfl
          case hy29x8 => (refine Or.inl ⟨by rfl, ?_⟩; intro w hSw; (try dsimp only at hSw); go_simp; try with_reducible rfl)
          simp only [put_mk, List.set_cons_succ, List.set_cons_zero]
          refine wpAnyH_take (i := 9) (oi := ?o30x9) (v := ?v30x9) ?hi30x9 (by kernel_rfl) ?hf30x9 ?hr30x9 (fun _ _ _ h => h) ?hy30x9 (by assumption) ?rest30x9
          case hi30x9 => (simp only [List.getElem?_toArray, List.getElem?_cons_succ, List.getElem?_cons_zero]; exact rfl)
          case hf30x9 => kernel_rfl
          case hr30x9 => kernel_rfl
          case hy30x9 => (refine Or.inl ⟨by rfl, ?_⟩; intro w hSw; (try dsimp only at hSw); go_simp; try with_reducible rfl)
          simp only [put_mk, List.set_cons_succ, List.set_cons_zero]
          refine wpAnyH_take (i := 10) (oi := ?o31x10) (v := ?v31x10) ?hi31x10 (by kernel_rfl) ?hf31x10 ?hr31x10 (fun _ _ _ h => h) ?hy31x10 (by assumption) ?rest31x10
          case hi31x10 => (simp only [List.getElem?_toArray, List.getElem?_cons_succ, List.getElem?_cons_zero]; exact rfl)
          case hf31x10 => kernel_rfl
          case hr31x10 => kernel_rfl
          case hy31x10 => (refine Or.inl ⟨by rfl, ?_⟩; intro w hSw; (try dsimp only at hSw); go_simp; try with_reducible rfl)
          simp only [put_mk, List.set_cons_succ, List.set_cons_zero]
          refine wpAnyH_ready (rs := [11]) (by kernel_rfl) (by simp) ?_
          refine AllReadyH.cons (o := ?o32x11) ?hi32x11 (fun K hK => ?_) AllReadyH.nil
          case hi32x11 => (simp only [List.getElem?_toArray, List.getElem?_cons_succ, List.getElem?_cons_zero]; exact rfl)
          go_simp
          refine (refAbs_any _ _ Hlt.out).mono ?_
          rintro e w8 ⟨rfl, hw8⟩
          rw [hw8]
          clear hw8 w8
          refine hK.out _ _ ?_ (fun hHeld => ?_)
          · (repeat (first | exact Ext.refl _ | assumption | refine Ext.setCell ?_ (by first | (simp; done) | (simp; omega)) _ | refine Ext.drewN ?_ _ | refine Ext.alloc ?_ _ | refine Ext.drew ?_ | refine Ext.trans ?_ (by assumption)))
          clear hK K
          refine wpAnyH_take (i := 12) (oi := ?o33x12) (v := ?v33x12) ?hi33x12 (by kernel_rfl) ?hf33x12 ?hr33x12 (fun _ _ _ h => h) ?hy33x12 (by assumption) ?rest33x12
          case hi33x12 => (simp only [List.getElem?_toArray, List.getElem?_cons_succ, List.getElem?_cons_zero]; exact rfl)
          case hf33x12 => kernel_rfl
          case hr33x12 => kernel_rfl
          case hy33x12 => (refine Or.inl ⟨by rfl, ?_⟩; intro w hSw; (try dsimp only at hSw); go_simp; try with_reducible rfl)
          simp only [put_mk, List.set_cons_succ, List.set_cons_zero]
          refine wpAnyH_done (by kernel_rfl) ?_ _
          refine NoPanic.normal ?_
          go_wp2_with fail
          go_roundw
          case rel => exact ⟨j + 1, by omega, by rw [HS.out]; rfl, by go_num, (by repeat (first | exact Ext.refl _ | assumption | refine Ext.setCell ?_ (by first | (simp; done) | (simp; omega)) _ | refine Ext.drewN ?_ _ | refine Ext.alloc ?_ _ | refine Ext.drew ?_ | refine Ext.trans ?_ (by assumption)))⟩
          case measure => simp [intOf]; omega
        · have C0 : (FloatKind.f32.format.order (absB (fsub (valAt X Y W l (x, y)) (valAt X Y W l ((nbOf x y (2 * (j : Int))).1, (nbOf x y (2 * (j : Int))).2)))) (slopeK X Y W H l x y j) == some .gt) = false := (Bool.not_eq_true _).mp hgt
          have HS : Hid (slopeK X Y W H l x y (j + 1) = slopeK X Y W H l x y j) := slope_less hgt
          clear hgt
          refine wp_region_noPanic ?_
          refine wp_region_held_drew (S := fun w' => Ext w5 w') (by kernel_rfl) ?_ (fun hHeld => ?_)
          · (repeat (first | exact Ext.refl _ | assumption | refine Ext.setCell ?_ (by first | (simp; done) | (simp; omega)) _ | refine Ext.drewN ?_ _ | refine Ext.alloc ?_ _ | refine Ext.drew ?_ | refine Ext.trans ?_ (by assumption)))
          refine wpAnyH_take (i := 0) (oi := ?o35x0) (v := ?v35x0) ?hi35x0 (by kernel_rfl) ?hf35x0 ?hr35x0 (fun _ _ _ h => h) ?hy35x0 (by assumption) ?rest35x0
          case hi35x0 => (simp only [List.getElem?_toArray, List.getElem?_cons_zero]; exact rfl)
          case hf35x0 => kernel_rfl
          case hr35x0 => kernel_rfl
          case hy35x0 => (refine Or.inl ⟨by rfl, ?_⟩; intro w hSw; (try dsimp only at hSw); go_simp; try with_reducible rfl)
          simp only [put_mk, List.set_cons_succ, List.set_cons_zero]
          refine wpAnyH_take (i := 1) (oi := ?o36x1) (v := ?v36x1) ?hi36x1 (by kernel_rfl) ?hf36x1 ?hr36x1 (fun _ _ _ h => h) ?hy36x1 (by assumption) ?rest36x1
          case hi36x1 => (simp only [List.getElem?_toArray, List.getElem?_cons_succ, List.getElem?_cons_zero]; exact rfl)
          case hf36x1 => kernel_rfl
          case hr36x1 => kernel_rfl
          case hy36x1 => (refine Or.inl ⟨by rfl, ?_⟩; intro w hSw; (try dsimp only at hSw); go_simp; try with_reducible rfl)
          simp only [put_mk, List.set_cons_succ, List.set_cons_zero]
          refine wpAnyH_take (i := 2) (oi := ?o37x2) (v := ?v37x2) ?hi37x2 (by kernel_rfl) ?hf37x2 ?hr37x2 (fun _ _ _ h => h) ?hy37x2 (by assumption) ?rest37x2
          case hi37x2 => (simp only [List.getElem?_toArray, List.getElem?_cons_succ, List.getElem?_cons_zero]; exact rfl)
          case hf37x2 => kernel_rfl
          case hr37x2 => kernel_rfl
          case hy37x2 => (refine Or.inl ⟨by rfl, ?_⟩; intro w hSw; (try dsimp only at hSw); go_simp; try with_reducible rfl)
          simp only [put_mk, List.set_cons_succ, List.set_cons_zero]
          refine wpAnyH_take (i := 3) (oi := ?o38x3) (v := ?v38x3) ?hi38x3 (by kernel_rfl) ?hf38x3 ?hr38x3 (fun _ _ _ h => h) ?hy38x3 (by assumption) ?rest38x3
          case hi38x3 => (simp only [List.getElem?_toArray, List.getElem?_cons_succ, List.getElem?_cons_zero]; exact rfl)
          case hf38x3 => kernel_rfl
          case hr38x3 => kernel_rfl
          case hy38x3 => (refine Or.inl ⟨by rfl, ?_⟩; intro w hSw; (try dsimp only at hSw); go_simp; try with_reducible rfl)
          simp only [put_mk, List.set_cons_succ, List.set_cons_zero]
          refine wpAnyH_take (i := 4) (oi := ?o39x4) (v := ?v39x4) ?hi39x4 (by kernel_rfl) ?hf39x4 ?hr39x4 (fun _ _ _ h => h) ?hy39x4 (by assumption) ?rest39x4
          case hi39x4 => (simp only [List.getElem?_toArray, List.getElem?_cons_succ, List.getElem?_cons_zero]; exact rfl)
          case hf39x4 => kernel_rfl
          case hr39x4 => kernel_rfl
          case hy39x4 => (refine Or.inl ⟨by rfl, ?_⟩; intro w hSw; (try dsimp only at hSw); go_simp; try with_reducible rfl)
          simp only [put_mk, List.set_cons_succ, List.set_cons_zero]
          refine wpAnyH_take (i := 5) (oi := ?o40x5) (v := ?v40x5) ?hi40x5 (by kernel_rfl) ?hf40x5 ?hr40x5 (fun _ _ _ h => h) ?hy40x5 (by assumption) ?rest40x5
          case hi40x5 => (simp only [List.getElem?_toArray, List.getElem?_cons_succ, List.getElem?_cons_zero]; exact rfl)
          case hf40x5 => kernel_rfl
          case hr40x5 => kernel_rfl
          case hy40x5 => (refine Or.inl ⟨by rfl, ?_⟩; intro w hSw; (try dsimp only at hSw); go_simp; try with_reducible rfl)
          simp only [put_mk, List.set_cons_succ, List.set_cons_zero]
          refine wpAnyH_take (i := 6) (oi := ?o41x6) (v := ?v41x6) ?hi41x6 (by kernel_rfl) ?hf41x6 ?hr41x6 (fun _ _ _ h => h) ?hy41x6 (by assumption) ?rest41x6
          case hi41x6 => (simp only [List.getElem?_toArray, List.getElem?_cons_succ, List.getElem?_cons_zero]; exact rfl)
          case hf41x6 => kernel_rfl
          case hr41x6 => kernel_rfl
          case hy41x6 => (refine Or.inl ⟨by rfl, ?_⟩; intro w hSw; (try dsimp only at hSw); go_simp; try with_reducible rfl)
          simp only [put_mk, List.set_cons_succ, List.set_cons_zero]
          refine wpAnyH_take (i := 7) (oi := ?o42x7) (v := ?v42x7) ?hi42x7 (by kernel_rfl) ?hf42x7 ?hr42x7 (fun _ _ _ h => h) ?hy42x7 (by assumption) ?rest42x7
          case hi42x7 => (simp only [List.getElem?_toArray, List.getElem?_cons_succ, List.getElem?_cons_zero]; exact rfl)
          case hf42x7 => kernel_rfl
          case hr42x7 => kernel_rfl
          case hy42x7 => (refine Or.inl ⟨by rfl, ?_⟩; intro w hSw; (try dsimp only at hSw); go_simp; try with_reducible rfl)
          simp only [put_mk, List.set_cons_succ, List.set_cons_zero]
          refine wpAnyH_take (i := 8) (oi := ?o43x8) (v := ?v43x8) ?hi43x8 (by kernel_rfl) ?hf43x8 ?hr43x8 (fun _ _ _ h => h) ?hy43x8 (by assumption) ?rest43x8
          case hi43x8 => (simp only [List.getElem?_toArray, List.getElem?_cons_succ, List.getElem?_cons_zero]; exact rfl)
          case hf43x8 => kernel_rfl
          case hr43x8 => kernel_rfl
          case hy43x8 => (refine Or.inl ⟨by rfl, ?_⟩; intro w hSw; (try dsimp only at hSw); go_simp; try with_reducible rfl)
          simp only [put_mk, List.set_cons_succ, List.set_cons_zero]
          refine wpAnyH_take (i := 9) (oi := ?o44x9) (v := ?v44x9) ?hi44x9 (by kernel_rfl) ?hf44x9 ?hr44x9 (fun _ _ _ h => h) ?hy44x9 (by assumption) ?rest44x9
          case hi44x9 => (simp only [List.getElem?_toArray, List.getElem?_cons_succ, List.getElem?_cons_zero]; exact rfl)
          case hf44x9 => kernel_rfl
          case hr44x9 => kernel_rfl
          case hy44x9 => (refine Or.inl ⟨by rfl, ?_⟩; intro w hSw; (try dsimp only at hSw); go_simp; try with_reducible rfl)
          simp only [put_mk, List.set_cons_succ, List.set_cons_zero]
          refine wpAnyH_take (i := 10) (oi := ?o45x10) (v := ?v45x10) ?hi45x10 (by kernel_rfl) ?hf45x10 ?hr45x10 (fun _ _ _ h => h) ?hy45x10 (by assumption) ?rest45x10
          case hi45x10 => (simp only [List.getElem?_toArray, List.getElem?_cons_succ, List.getElem?_cons_zero]; exact rfl)
          case hf45x10 => kernel_rfl
          case hr45x10 => kernel_rfl
          case hy45x10 => (refine Or.inl ⟨by rfl, ?_⟩; intro w hSw; (try dsimp only at hSw); go_simp; try with_reducible rfl)
          simp only [put_mk, List.set_cons_succ, List.set_cons_zero]
          refine wpAnyH_take (i := 11) (oi := ?o46x11) (v := ?v46x11) ?hi46x11 (by kernel_rfl) ?hf46x11 ?hr46x11 (fun _ _ _ h => h) ?hy46x11 (by assumption) ?rest46x11
          case hi46x11 => (simp only [List.getElem?_toArray, List.getElem?_cons_succ, List.getElem?_cons_zero]; exact rfl)
          case hf46x11 => kernel_rfl
          case hr46x11 => kernel_rfl
          case hy46x11 => (refine Or.inl ⟨by rfl, ?_⟩; intro w hSw; (try dsimp only at hSw); go_simp; try with_reducible rfl)
          simp only [put_mk, List.set_cons_succ, List.set_cons_zero]
          refine wpAnyH_take (i := 12) (oi := ?o47x12) (v := ?v47x12) ?hi47x12 (by kernel_rfl) ?hf47x12 ?hr47x12 (fun _ _ _ h => h) ?hy47x12 (by assumption) ?rest47x12
          case hi47x12 => (simp only [List.getElem?_toArray, List.getElem?_cons_succ, List.getElem?_cons_zero]; exact rfl)
          case hf47x12 => kernel_rfl
          case hr47x12 => kernel_rfl
          case hy47x12 => (refine Or.inl ⟨by rfl, ?_⟩; intro w hSw; (try dsimp only at hSw); go_simp; try with_reducible rfl)
          simp only [put_mk, List.set_cons_succ, List.set_cons_zero]
          refine wpAnyH_take (i := 13) (oi := ?o48x13) (v := ?v48x13) ?hi48x13 (by kernel_rfl) ?hf48x13 ?hr48x13 (fun _ _ _ h => h) ?hy48x13 (by assumption) ?rest48x13
          case hi48x13 => (simp only [List.getElem?_toArray, List.getElem?_cons_succ, List.getElem?_cons_zero]; exact rfl)
          case hf48x13 => kernel_rfl
          case hr48x13 => kernel_rfl
          case hy48x13 => (refine Or.inl ⟨by rfl, ?_⟩; intro w hSw; (try dsimp only at hSw); go_simp; try with_reducible rfl)
          simp only [put_mk, List.set_cons_succ, List.set_cons_zero]
          refine wpAnyH_take (i := 15) (oi := ?o49x15) (v := ?v49x15) ?hi49x15 (by kernel_rfl) ?hf49x15 ?hr49x15 (fun _ _ _ h => h) ?hy49x15 (by assumption) ?rest49x15
          case hi49x15 => (simp only [List.getElem?_toArray, List.getElem?_cons_succ, List.getElem?_cons_zero]; exact rfl)
          case hf49x15 => kernel_rfl
          case hr49x15 => kernel_rfl
          case hy49x15 => (refine Or.inl ⟨by rfl, ?_⟩; intro w hSw; (try dsimp only at hSw); go_simp; try with_reducible rfl)
          simp only [put_mk, List.set_cons_succ, List.set_cons_zero]
          refine wpAnyH_ready (rs := [14]) (by kernel_rfl) (by simp) ?_
          refine AllReadyH.cons (o := ?o50x14) ?hi50x14 (fun K hK => ?_) AllReadyH.nil
          case hi50x14 => (simp only [List.getElem?_toArray, List.getElem?_cons_succ, List.getElem?_cons_zero]; exact rfl)
          go_simp
          refine (refAbs_any _ _ Hlt.out).mono ?_
          rintro e w8 ⟨rfl, hw8⟩
          rw [hw8]
          clear hw8 w8
          refine hK.out _ _ ?_ (fun hHeld => ?_)
          · (repeat (first | exact Ext.refl _ | assumption | refine Ext.setCell ?_ (by first | (simp; done) | (simp; omega)) _ | refine Ext.drewN ?_ _ | refine Ext.alloc ?_ _ | refine Ext.drew ?_ | refine Ext.trans ?_ (by assumption)))
          clear hK K
          refine wpAnyH_take (i := 16) (oi := ?o51x16) (v := ?v51x16) ?hi51x16 (by kernel_rfl) ?hf51x16 ?hr51x16 (fun _ _ _ h => h) ?hy51x16 (by assumption) ?rest51x16
          case hi51x16 => (simp only [List.getElem?_toArray, List.getElem?_cons_succ, List.getElem?_cons_zero]; exact rfl)
          case hf51x16 => kernel_rfl
          case hr51x16 => kernel_rfl
          case hy51x16 => (refine Or.inl ⟨by rfl, ?_⟩; intro w hSw; (try dsimp only at hSw); go_simp; try with_reducible rfl)
          simp only [put_mk, List.set_cons_succ, List.set_cons_zero]
          refine wpAnyH_take (i := 17) (oi := ?o52x17) (v := ?v52x17) ?hi52x17 (by kernel_rfl) ?hf52x17 ?hr52x17 (fun _ _ _ h => h) ?hy52x17 (by assumption) ?rest52x17
          case hi52x17 => (simp only [List.getElem?_toArray, List.getElem?_cons_succ, List.getElem?_cons_zero]; exact rfl)
          case hf52x17 => kernel_rfl
          case hr52x17 => kernel_rfl
          case hy52x17 => (refine Or.inl ⟨by rfl, ?_⟩; intro w hSw; (try dsimp only at hSw); go_simp; try with_reducible rfl)
          simp only [put_mk, List.set_cons_succ, List.set_cons_zero]
          refine wpAnyH_done (by kernel_rfl) ?_ _
          refine NoPanic.normal ?_
          go_wp2_with fail
          go_roundw
          case rel => exact ⟨j + 1, by omega, by rw [HS.out], by go_num, (by repeat (first | exact Ext.refl _ | assumption | refine Ext.setCell ?_ (by first | (simp; done) | (simp; omega)) _ | refine Ext.drewN ?_ _ | refine Ext.alloc ?_ _ | refine Ext.drew ?_ | refine Ext.trans ?_ (by assumption)))⟩
          case measure => simp [intOf]; omega
      · have hnb : nbE X Y W H x y (2 * j) = -1 := if_neg hib
        have HS : Hid (slopeK X Y W H l x y (j + 1) = slopeK X Y W H l x y j) := slope_out hib
        rw [hnb]
        rintro e w5 ⟨rfl, hb5⟩
        have hx5 := hx.trans hb5
        clear hib hnb d0 d1 d2 d3 HNB hb5
        go_wp2_with fail
        refine wp_region_noPanic ?_
        refine wp_region_held_drew (S := fun w' => Ext w5 w') (by kernel_rfl) ?_ (fun hHeld => ?_)
        · (repeat (first | exact Ext.refl _ | assumption | refine Ext.setCell ?_ (by first | (simp; done) | (simp; omega)) _ | refine Ext.drewN ?_ _ | refine Ext.alloc ?_ _ | refine Ext.drew ?_ | refine Ext.trans ?_ (by assumption)))
        refine wpAnyH_take (i := 0) (oi := ?o54x0) (v := ?v54x0) ?hi54x0 (by kernel_rfl) ?hf54x0 ?hr54x0 (fun _ _ _ h => h) ?hy54x0 (by assumption) ?rest54x0
        case hi54x0 => (simp only [List.getElem?_toArray, List.getElem?_cons_zero]; exact rfl)
        case hf54x0 => kernel_rfl
        case hr54x0 => kernel_rfl
        case hy54x0 => (refine Or.inl ⟨by rfl, ?_⟩; intro w hSw; (try dsimp only at hSw); go_simp; try with_reducible rfl)
        simp only [put_mk, List.set_cons_succ, List.set_cons_zero]
        refine wpAnyH_take (i := 1) (oi := ?o55x1) (v := ?v55x1) ?hi55x1 (by kernel_rfl) ?hf55x1 ?hr55x1 (fun _ _ _ h => h) ?hy55x1 (by assumption) ?rest55x1
        case hi55x1 => (simp only [List.getElem?_toArray, List.getElem?_cons_succ, List.getElem?_cons_zero]; exact rfl)
        case hf55x1 => kernel_rfl
        case hr55x1 => kernel_rfl
        case hy55x1 => (refine Or.inl ⟨by rfl, ?_⟩; intro w hSw; (try dsimp only at hSw); go_simp; try with_reducible rfl)
        simp only [put_mk, List.set_cons_succ, List.set_cons_zero]
        refine wpAnyH_take (i := 2) (oi := ?o56x2) (v := ?v56x2) ?hi56x2 (by kernel_rfl) ?hf56x2 ?hr56x2 (fun _ _ _ h => h) ?hy56x2 (by assumption) ?rest56x2
        case hi56x2 => (simp only [List.getElem?_toArray, List.getElem?_cons_succ, List.getElem?_cons_zero]; exact rfl)
        case hf56x2 => kernel_rfl
        case hr56x2 => kernel_rfl
        case hy56x2 => (refine Or.inl ⟨by rfl, ?_⟩; intro w hSw; (try dsimp only at hSw); go_simp; try with_reducible rfl)
        simp only [put_mk, List.set_cons_succ, List.set_cons_zero]
        refine wpAnyH_take (i := 3) (oi := ?o57x3) (v := undef) ?hi57x3 (by kernel_rfl) ?hf57x3 ?hr57x3 (fun _ _ _ h => h) ?hy57x3 (by assumption) ?rest57x3
        case hi57x3 => (simp only [List.getElem?_toArray, List.getElem?_cons_succ, List.getElem?_cons_zero]; exact rfl)
        case hf57x3 => kernel_rfl
        case hr57x3 => kernel_rfl
        case hy57x3 => exact Or.inr ⟨by rfl, rfl⟩
        simp only [put_mk, List.set_cons_succ, List.set_cons_zero]
        refine wpAnyH_take (i := 4) (oi := ?o58x4) (v := undef) ?hi58x4 (by kernel_rfl) ?hf58x4 ?hr58x4 (fun _ _ _ h => h) ?hy58x4 (by assumption) ?rest58x4
        case hi58x4 => (simp only [List.getElem?_toArray, List.getElem?_cons_succ, List.getElem?_cons_zero]; exact rfl)
        case hf58x4 => kernel_rfl
        case hr58x4 => kernel_rfl
        case hy58x4 => exact Or.inr ⟨by rfl, rfl⟩
        simp only [put_mk, List.set_cons_succ, List.set_cons_zero]
        refine wpAnyH_take (i := 5) (oi := ?o59x5) (v := undef) ?hi59x5 (by kernel_rfl) ?hf59x5 ?hr59x5 (fun _ _ _ h => h) ?hy59x5 (by assumption) ?rest59x5
        case hi59x5 => (simp only [List.getElem?_toArray, List.getElem?_cons_succ, List.getElem?_cons_zero]; exact rfl)
        case hf59x5 => kernel_rfl
        case hr59x5 => kernel_rfl
        case hy59x5 => exact Or.inr ⟨by rfl, rfl⟩
        simp only [put_mk, List.set_cons_succ, List.set_cons_zero]
        refine wpAnyH_take (i := 6) (oi := ?o60x6) (v := undef) ?hi60x6 (by kernel_rfl) ?hf60x6 ?hr60x6 (fun _ _ _ h => h) ?hy60x6 (by assumption) ?rest60x6
        case hi60x6 => (simp only [List.getElem?_toArray, List.getElem?_cons_succ, List.getElem?_cons_zero]; exact rfl)
        case hf60x6 => kernel_rfl
        case hr60x6 => kernel_rfl
        case hy60x6 => exact Or.inr ⟨by rfl, rfl⟩
        simp only [put_mk, List.set_cons_succ, List.set_cons_zero]
        refine wpAnyH_take (i := 7) (oi := ?o61x7) (v := undef) ?hi61x7 (by kernel_rfl) ?hf61x7 ?hr61x7 (fun _ _ _ h => h) ?hy61x7 (by assumption) ?rest61x7
        case hi61x7 => (simp only [List.getElem?_toArray, List.getElem?_cons_succ, List.getElem?_cons_zero]; exact rfl)
        case hf61x7 => kernel_rfl
        case hr61x7 => kernel_rfl
        case hy61x7 => exact Or.inr ⟨by rfl, rfl⟩
        simp only [put_mk, List.set_cons_succ, List.set_cons_zero]
        refine wpAnyH_take (i := 8) (oi := ?o62x8) (v := undef) ?hi62x8 (by kernel_rfl) ?hf62x8 ?hr62x8 (fun _ _ _ h => h) ?hy62x8 (by assumption) ?rest62x8
        case hi62x8 => (simp only [List.getElem?_toArray, List.getElem?_cons_succ, List.getElem?_cons_zero]; exact rfl)
        case hf62x8 => kernel_rfl
        case hr62x8 => kernel_rfl
        case hy62x8 => exact Or.inr ⟨by rfl, rfl⟩
        simp only [put_mk, List.set_cons_succ, List.set_cons_zero]
        refine wpAnyH_take (i := 9) (oi := ?o63x9) (v := undef) ?hi63x9 (by kernel_rfl) ?hf63x9 ?hr63x9 (fun _ _ _ h => h) ?hy63x9 (by assumption) ?rest63x9
        case hi63x9 => (simp only [List.getElem?_toArray, List.getElem?_cons_succ, List.getElem?_cons_zero]; exact rfl)
        case hf63x9 => kernel_rfl
        case hr63x9 => kernel_rfl
        case hy63x9 => exact Or.inr ⟨by rfl, rfl⟩
        simp only [put_mk, List.set_cons_succ, List.set_cons_zero]
        refine wpAnyH_take (i := 10) (oi := ?o64x10) (v := undef) ?hi64x10 (by kernel_rfl) ?hf64x10 ?hr64x10 (fun _ _ _ h => h) ?hy64x10 (by assumption) ?rest64x10
        case hi64x10 => (simp only [List.getElem?_toArray, List.getElem?_cons_succ, List.getElem?_cons_zero]; exact rfl)
        case hf64x10 => kernel_rfl
        case hr64x10 => kernel_rfl
        case hy64x10 => exact Or.inr ⟨by rfl, rfl⟩
        simp only [put_mk, List.set_cons_succ, List.set_cons_zero]
        refine wpAnyH_take (i := 11) (oi := ?o65x11) (v := undef) ?hi65x11 (by kernel_rfl) ?hf65x11 ?hr65x11 (fun _ _ _ h => h) ?hy65x11 (by assumption) ?rest65x11
        case hi65x11 => (simp only [List.getElem?_toArray, List.getElem?_cons_succ, List.getElem?_cons_zero]; exact rfl)
        case hf65x11 => kernel_rfl
        case hr65x11 => kernel_rfl
        case hy65x11 => exact Or.inr ⟨by rfl, rfl⟩
        simp only [put_mk, List.set_cons_succ, List.set_cons_zero]
        refine wpAnyH_take (i := 12) (oi := ?o66x12) (v := undef) ?hi66x12 (by kernel_rfl) ?hf66x12 ?hr66x12 (fun _ _ _ h => h) ?hy66x12 (by assumption) ?rest66x12
        case hi66x12 => (simp only [List.getElem?_toArray, List.getElem?_cons_succ, List.getElem?_cons_zero]; exact rfl)
        case hf66x12 => kernel_rfl
        case hr66x12 => kernel_rfl
        case hy66x12 => exact Or.inr ⟨by rfl, rfl⟩
        simp only [put_mk, List.set_cons_succ, List.set_cons_zero]
        refine wpAnyH_take (i := 13) (oi := ?o67x13) (v := undef) ?hi67x13 (by kernel_rfl) ?hf67x13 ?hr67x13 (fun _ _ _ h => h) ?hy67x13 (by assumption) ?rest67x13
        case hi67x13 => (simp only [List.getElem?_toArray, List.getElem?_cons_succ, List.getElem?_cons_zero]; exact rfl)
        case hf67x13 => kernel_rfl
        case hr67x13 => kernel_rfl
        case hy67x13 => exact Or.inr ⟨by rfl, rfl⟩
        simp only [put_mk, List.set_cons_succ, List.set_cons_zero]
        refine wpAnyH_take (i := 14) (oi := ?o68x14) (v := undef) ?hi68x14 (by kernel_rfl) ?hf68x14 ?hr68x14 (fun _ _ _ h => h) ?hy68x14 (by assumption) ?rest68x14
        case hi68x14 => (simp only [List.getElem?_toArray, List.getElem?_cons_succ, List.getElem?_cons_zero]; exact rfl)
        case hf68x14 => kernel_rfl
        case hr68x14 => kernel_rfl
        case hy68x14 => exact Or.inr ⟨by rfl, rfl⟩
        simp only [put_mk, List.set_cons_succ, List.set_cons_zero]
        refine wpAnyH_take (i := 15) (oi := ?o69x15) (v := undef) ?hi69x15 (by kernel_rfl) ?hf69x15 ?hr69x15 (fun _ _ _ h => h) ?hy69x15 (by assumption) ?rest69x15
        case hi69x15 => (simp only [List.getElem?_toArray, List.getElem?_cons_succ, List.getElem?_cons_zero]; exact rfl)
        case hf69x15 => kernel_rfl
        case hr69x15 => kernel_rfl
        case hy69x15 => exact Or.inr ⟨by rfl, rfl⟩
        simp only [put_mk, List.set_cons_succ, List.set_cons_zero]
        refine wpAnyH_take (i := 16) (oi := ?o70x16) (v := undef) ?hi70x16 (by kernel_rfl) ?hf70x16 ?hr70x16 (fun _ _ _ h => h) ?hy70x16 (by assumption) ?rest70x16
        case hi70x16 => (simp only [List.getElem?_toArray, List.getElem?_cons_succ, List.getElem?_cons_zero]; exact rfl)
        case hf70x16 => kernel_rfl
        case hr70x16 => kernel_rfl
        case hy70x16 => exact Or.inr ⟨by rfl, rfl⟩
        simp only [put_mk, List.set_cons_succ, List.set_cons_zero]
        refine wpAnyH_take (i := 17) (oi := ?o71x17) (v := ?v71x17) ?hi71x17 (by kernel_rfl) ?hf71x17 ?hr71x17 (fun _ _ _ h => h) ?hy71x17 (by assumption) ?rest71x17
        case hi71x17 => (simp only [List.getElem?_toArray, List.getElem?_cons_succ, List.getElem?_cons_zero]; exact rfl)
        case hf71x17 => kernel_rfl
        case hr71x17 => kernel_rfl
        case hy71x17 => (refine Or.inl ⟨by rfl, ?_⟩; intro w hSw; (try dsimp only at hSw); go_simp; try with_reducible rfl)
        simp only [put_mk, List.set_cons_succ, List.set_cons_zero]
        refine wpAnyH_done (by kernel_rfl) ?_ _
        refine NoPanic.normal ?_
        go_wp2_with fail
        go_roundw
        case rel => exact ⟨j + 1, by omega, by rw [HS.out], by go_num, (by repeat (first | exact Ext.refl _ | assumption | refine Ext.setCell ?_ (by first | (simp; done) | (simp; omega)) _ | refine Ext.drewN ?_ _ | refine Ext.alloc ?_ _ | refine Ext.drew ?_ | refine Ext.trans ?_ (by assumption)))⟩
        case measure => simp [intOf]; omega
    · obtain rfl : j = 4 := by omega
      go_wp2
      go_ret
      exact ⟨rfl, hx1.trans hx⟩
end Go.Proofs.YtjkalnboijkikaaDoor
