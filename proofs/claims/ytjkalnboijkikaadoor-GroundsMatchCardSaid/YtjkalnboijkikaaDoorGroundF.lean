/- Contract: tarnref2.GroundOf. -/
import Derived.Test.YtjkalnboijkikaaDoorGroundE
import Derived.Deep.DeepCutAuto
namespace Go.Proofs.YtjkalnboijkikaaDoor
open Go.RowKit
attribute [local go_sem ↓] Go.wp_at_zero Go.wp_at_succ
attribute [local go_sem] run_store_float

def wetR (u : Nat) : Nat := if lt u 0 = true then 0 else u
set_option maxRecDepth 100000 in
set_option maxHeartbeats 3200000 in
theorem groundOf_any (X Y W H x y : Int) (A A' : Option Addr) (n c n' c' k : Nat) (l l' : List Nat) (w : World) (hn : l.length = n) (hn' : l'.length = n') (hd : Rd w A (flt l)) (hd' : Rd w A' (flt l')) (hr : RegOk X Y W H) (hnw : (n : Int) = W * H) (hnw' : (n' : Int) = W * H) (hk : k < n) (hn6 : n ≤ 65536) (hxy : placeK X Y W k = (x, y)) (hh : ∀ b ∈ l, hgtB b = true) :
    Calls Tryd.prog 24 #[.agg #[.int .i64 X, .int .i64 Y, .int .i64 W, .int .i64 H, .slice A n c], .agg #[.int .i64 X, .int .i64 Y, .int .i64 W, .int .i64 H, .slice A' n' c'], .int .i64 k] w fun e w' =>
      e = .returned (.agg #[.float .f32 (valAt X Y W l (x, y)), .float .f32 (slopeK X Y W H l x y 4), .float .f32 (wetR (valAt X Y W l' (x, y)))]) ∧ Ext w w' := by
  have hia : InR X Y W H x y := by
    have := placeK_in hr hnw hk
    rw [hxy] at this
    exact this
  have hck : cellN X Y W x y = k := by
    have := cell_place (X := X) (Y := Y) (W := W) (by unfold RegOk at hr; omega) k
    rw [hxy] at this
    exact this
  obtain ⟨ka, hka, hkal, hkav⟩ := valAt_get (l := l) hr hia (by rw [hn]; exact hnw)
  obtain ⟨kb, hkb, hkbl, hkbv⟩ := valAt_get (l := l') hr hia (by rw [hn']; exact hnw')
  obtain rfl : ka = k := by omega
  obtain rfl : kb = ka := by omega
  obtain ⟨ad, rfl, _, _⟩ := hd.at (k := kb) (by simpa using hkal)
  obtain ⟨ad', rfl, _, _⟩ := hd'.at (k := kb) (by simpa using hkbl)
  have HR0 := fun (w' : World) (h : Rd w' (some ad) (flt l)) => hidA (rise_any X Y W H x y (some ad) n c kb l w' hn h hr hnw hk hn6 hxy hh)
  have i1 : (kb : Int) < n := by omega
  have i2 : (0 : Int) ≤ kb := by omega
  have i3 : (kb : Int) < n' := by omega
  have Hka2 : Hid ((flt l)[kb]? = some (.float .f32 (valAt X Y W l (x, y)))) := by show _ = _; simp [flt, hkav]
  have Hkb2 : Hid ((flt l')[kb]? = some (.float .f32 (valAt X Y W l' (x, y)))) := by show _ = _; simp [flt, hkbv]
  clear hr hia hka hkb hkal hkbl hkav hkbv hn hn' hnw hnw' hh hck hxy
  go_enter Tryd.func24, Tryd.ntmps24
  go_upto_region 1 with fail
  have hB0 : Bk (((w.alloc (.cells #[.int .i64 X, .int .i64 Y, .int .i64 W, .int .i64 H, .slice (some ad) n c] 47)).alloc (.cells #[.int .i64 X, .int .i64 Y, .int .i64 W, .int .i64 H, .slice (some ad') n' c'] 47)).alloc (.cells #[.float .f32 0, .float .f32 0, .float .f32 0] 32)) w.heap.size 47 #[.int .i64 X, .int .i64 Y, .int .i64 W, .int .i64 H, .slice (some ad) n c] := ((Bk.new' rfl).alloc _).alloc _
  have hB1 : Bk (((w.alloc (.cells #[.int .i64 X, .int .i64 Y, .int .i64 W, .int .i64 H, .slice (some ad) n c] 47)).alloc (.cells #[.int .i64 X, .int .i64 Y, .int .i64 W, .int .i64 H, .slice (some ad') n' c'] 47)).alloc (.cells #[.float .f32 0, .float .f32 0, .float .f32 0] 32)) (w.heap.size + 1) 47 #[.int .i64 X, .int .i64 Y, .int .i64 W, .int .i64 H, .slice (some ad') n' c'] := (Bk.new' (by simp)).alloc _
  have hB2 : Bk (((w.alloc (.cells #[.int .i64 X, .int .i64 Y, .int .i64 W, .int .i64 H, .slice (some ad) n c] 47)).alloc (.cells #[.int .i64 X, .int .i64 Y, .int .i64 W, .int .i64 H, .slice (some ad') n' c'] 47)).alloc (.cells #[.float .f32 0, .float .f32 0, .float .f32 0] 32)) (w.heap.size + 1 + 1) 32 #[.float .f32 0, .float .f32 0, .float .f32 0] := Bk.new' (by simp)
  have hx1 : Ext w (((w.alloc (.cells #[.int .i64 X, .int .i64 Y, .int .i64 W, .int .i64 H, .slice (some ad) n c] 47)).alloc (.cells #[.int .i64 X, .int .i64 Y, .int .i64 W, .int .i64 H, .slice (some ad') n' c'] 47)).alloc (.cells #[.float .f32 0, .float .f32 0, .float .f32 0] 32)) := (((Ext.refl w).alloc _).alloc _).alloc _
  generalize ((w.alloc (.cells #[.int .i64 X, .int .i64 Y, .int .i64 W, .int .i64 H, .slice (some ad) n c] 47)).alloc (.cells #[.int .i64 X, .int .i64 Y, .int .i64 W, .int .i64 H, .slice (some ad') n' c'] 47)).alloc (.cells #[.float .f32 0, .float .f32 0, .float .f32 0] 32) = w1 at *
  have hD : ∀ w', Ext w1 w' → Rd w' (some ad) (flt l) := fun w' h => (hd.ext hx1).ext h
  have HRI := fun (w' : World) (h : Ext w1 w') => HR0 w' (hD w' h)
  have s0 : ∀ w', Ext w1 w' → w'.cell? ⟨w.heap.size, 0, none⟩ = some (.int .i64 X) := fun w' h => (hB0.ext h).cell 0
  have s1 : ∀ w', Ext w1 w' → w'.cell? ⟨w.heap.size, 1, none⟩ = some (.int .i64 Y) := fun w' h => (hB0.ext h).cell 1
  have s2 : ∀ w', Ext w1 w' → w'.cell? ⟨w.heap.size, 2, none⟩ = some (.int .i64 W) := fun w' h => (hB0.ext h).cell 2
  have s3 : ∀ w', Ext w1 w' → w'.cell? ⟨w.heap.size, 3, none⟩ = some (.int .i64 H) := fun w' h => (hB0.ext h).cell 3
  have s4 : ∀ w', Ext w1 w' → w'.cell? ⟨w.heap.size, 4, none⟩ = some (.slice (some ad) n c) := fun w' h => (hB0.ext h).cell 4
  have s5 : ∀ w', Ext w1 w' → w'.cell? ⟨w.heap.size + 1, 4, none⟩ = some (.slice (some ad') n' c') := fun w' h => (hB1.ext h).cell 4
  have s6 : ∀ w', Ext w1 w' → w'.cell? (ad.add kb) = some (.float .f32 (valAt X Y W l (x, y))) := fun w' h => (hD w' h).get Hka2.out
  have s7 : ∀ w', Ext w1 w' → w'.cell? (ad'.add kb) = some (.float .f32 (valAt X Y W l' (x, y))) := fun w' h => ((hd'.ext hx1).ext h).get Hkb2.out
  obtain ⟨sl, hsl⟩ : ∃ s, slopeK X Y W H l x y 4 = s := ⟨_, rfl⟩
  rw [hsl] at HRI
  have Hs := hidA hsl
  have hl2 := hB2.lt
  clear hsl HR0
  go_cut [7] from 8 to 21 (fun s7 wx => ∃ g : Nat, s7 = .pointer (some ⟨g, 0, none⟩) ∧ w1.heap.size ≤ g ∧ Bk wx g 32 #[.float .f32 (valAt X Y W l (x, y)), .float .f32 sl, .float .f32 (valAt X Y W l' (x, y))] ∧ Ext w1 wx)
  case first =>
    refine wp_region_noPanic ?_
    refine wp_region_held_drew (S := fun w' => Ext w1 w') (by kernel_rfl) ?_ (fun hHeld => ?_)
    · (repeat (first | exact Ext.refl _ | assumption | refine Ext.setCell ?_ (by first | (simp; done) | (simp; omega)) _ | refine Ext.drewN ?_ _ | refine Ext.alloc ?_ _ | refine Ext.drew ?_ | refine Ext.trans ?_ (by assumption)))
    refine wpAnyH_take (i := 0) (oi := ?o2x0) (v := ?v2x0) ?hi2x0 (by kernel_rfl) ?hf2x0 ?hr2x0 (fun _ _ _ h => h) ?hy2x0 (by assumption) ?rest2x0
    case hi2x0 => (simp only [List.getElem?_toArray, List.getElem?_cons_zero]; exact rfl)
    case hf2x0 => kernel_rfl
    case hr2x0 => kernel_rfl
    case hy2x0 => (refine Or.inl ⟨by rfl, ?_⟩; intro w hSw; (try dsimp only at hSw); go_simp; try with_reducible rfl)
    simp only [put_mk, List.set_cons_succ, List.set_cons_zero]
    refine wpAnyH_take (i := 1) (oi := ?o3x1) (v := ?v3x1) ?hi3x1 (by kernel_rfl) ?hf3x1 ?hr3x1 (fun _ _ _ h => h) ?hy3x1 (by assumption) ?rest3x1
    case hi3x1 => (simp only [List.getElem?_toArray, List.getElem?_cons_succ, List.getElem?_cons_zero]; exact rfl)
    case hf3x1 => kernel_rfl
    case hr3x1 => kernel_rfl
    case hy3x1 => (refine Or.inl ⟨by rfl, ?_⟩; intro w hSw; (try dsimp only at hSw); go_simp; try with_reducible rfl)
    simp only [put_mk, List.set_cons_succ, List.set_cons_zero]
    refine wpAnyH_take (i := 2) (oi := ?o4x2) (v := ?v4x2) ?hi4x2 (by kernel_rfl) ?hf4x2 ?hr4x2 (fun _ _ _ h => h) ?hy4x2 (by assumption) ?rest4x2
    case hi4x2 => (simp only [List.getElem?_toArray, List.getElem?_cons_succ, List.getElem?_cons_zero]; exact rfl)
    case hf4x2 => kernel_rfl
    case hr4x2 => kernel_rfl
    case hy4x2 => (refine Or.inl ⟨by rfl, ?_⟩; intro w hSw; (try dsimp only at hSw); go_simp; try with_reducible rfl)
    simp only [put_mk, List.set_cons_succ, List.set_cons_zero]
    refine wpAnyH_take (i := 3) (oi := ?o5x3) (v := ?v5x3) ?hi5x3 (by kernel_rfl) ?hf5x3 ?hr5x3 (fun _ _ _ h => h) ?hy5x3 (by assumption) ?rest5x3
    case hi5x3 => (simp only [List.getElem?_toArray, List.getElem?_cons_succ, List.getElem?_cons_zero]; exact rfl)
    case hf5x3 => kernel_rfl
    case hr5x3 => kernel_rfl
    case hy5x3 => (refine Or.inl ⟨by rfl, ?_⟩; intro w hSw; (try dsimp only at hSw); go_simp; try with_reducible rfl)
    simp only [put_mk, List.set_cons_succ, List.set_cons_zero]
    refine wpAnyH_take (i := 4) (oi := ?o6x4) (v := ?v6x4) ?hi6x4 (by kernel_rfl) ?hf6x4 ?hr6x4 (fun _ _ _ h => h) ?hy6x4 (by assumption) ?rest6x4
    case hi6x4 => (simp only [List.getElem?_toArray, List.getElem?_cons_succ, List.getElem?_cons_zero]; exact rfl)
    case hf6x4 => kernel_rfl
    case hr6x4 => kernel_rfl
    case hy6x4 => (refine Or.inl ⟨by rfl, ?_⟩; intro w hSw; (try dsimp only at hSw); go_simp; try with_reducible rfl)
    simp only [put_mk, List.set_cons_succ, List.set_cons_zero]
    refine wpAnyH_take (i := 5) (oi := ?o7x5) (v := ?v7x5) ?hi7x5 (by kernel_rfl) ?hf7x5 ?hr7x5 (fun _ _ _ h => h) ?hy7x5 (by assumption) ?rest7x5
    case hi7x5 => (simp only [List.getElem?_toArray, List.getElem?_cons_succ, List.getElem?_cons_zero]; exact rfl)
    case hf7x5 => kernel_rfl
    case hr7x5 => kernel_rfl
    case hy7x5 => (refine Or.inl ⟨by rfl, ?_⟩; intro w hSw; (try dsimp only at hSw); go_simp; try with_reducible rfl)
    simp only [put_mk, List.set_cons_succ, List.set_cons_zero]
    refine wpAnyH_take (i := 6) (oi := ?o8x6) (v := ?v8x6) ?hi8x6 (by kernel_rfl) ?hf8x6 ?hr8x6 (fun _ _ _ h => h) ?hy8x6 (by assumption) ?rest8x6
    case hi8x6 => (simp only [List.getElem?_toArray, List.getElem?_cons_succ, List.getElem?_cons_zero]; exact rfl)
    case hf8x6 => kernel_rfl
    case hr8x6 => kernel_rfl
    case hy8x6 => (refine Or.inl ⟨by rfl, ?_⟩; intro w hSw; (try dsimp only at hSw); go_simp; try with_reducible rfl)
    simp only [put_mk, List.set_cons_succ, List.set_cons_zero]
    refine wpAnyH_take (i := 8) (oi := ?o9x8) (v := ?v9x8) ?hi9x8 (by kernel_rfl) ?hf9x8 ?hr9x8 (fun _ _ _ h => h) ?hy9x8 (by assumption) ?rest9x8
    case hi9x8 => (simp only [List.getElem?_toArray, List.getElem?_cons_succ, List.getElem?_cons_zero]; exact rfl)
    case hf9x8 => kernel_rfl
    case hr9x8 => kernel_rfl
    case hy9x8 => (refine Or.inl ⟨by rfl, ?_⟩; intro w hSw; (try dsimp only at hSw); go_simp; try with_reducible rfl)
    simp only [put_mk, List.set_cons_succ, List.set_cons_zero]
    refine wpAnyH_take (i := 9) (oi := ?o10x9) (v := ?v10x9) ?hi10x9 (by kernel_rfl) ?hf10x9 ?hr10x9 (fun _ _ _ h => h) ?hy10x9 (by assumption) ?rest10x9
    case hi10x9 => (simp only [List.getElem?_toArray, List.getElem?_cons_succ, List.getElem?_cons_zero]; exact rfl)
    case hf10x9 => kernel_rfl
    case hr10x9 => kernel_rfl
    case hy10x9 => (refine Or.inl ⟨by rfl, ?_⟩; intro w hSw; (try dsimp only at hSw); go_simp; try with_reducible rfl)
    simp only [put_mk, List.set_cons_succ, List.set_cons_zero]
    refine wpAnyH_take (i := 10) (oi := ?o11x10) (v := ?v11x10) ?hi11x10 (by kernel_rfl) ?hf11x10 ?hr11x10 (fun _ _ _ h => h) ?hy11x10 (by assumption) ?rest11x10
    case hi11x10 => (simp only [List.getElem?_toArray, List.getElem?_cons_succ, List.getElem?_cons_zero]; exact rfl)
    case hf11x10 => kernel_rfl
    case hr11x10 => kernel_rfl
    case hy11x10 => (refine Or.inl ⟨by rfl, ?_⟩; intro w hSw; (try dsimp only at hSw); go_simp; try with_reducible rfl)
    simp only [put_mk, List.set_cons_succ, List.set_cons_zero]
    refine wpAnyH_take (i := 11) (oi := ?o12x11) (v := ?v12x11) ?hi12x11 (by kernel_rfl) ?hf12x11 ?hr12x11 (fun _ _ _ h => h) ?hy12x11 (by assumption) ?rest12x11
    case hi12x11 => (simp only [List.getElem?_toArray, List.getElem?_cons_succ, List.getElem?_cons_zero]; exact rfl)
    case hf12x11 => kernel_rfl
    case hr12x11 => kernel_rfl
    case hy12x11 => (refine Or.inl ⟨by rfl, ?_⟩; intro w hSw; (try dsimp only at hSw); go_simp; try with_reducible rfl)
    simp only [put_mk, List.set_cons_succ, List.set_cons_zero]
    refine wpAnyH_take (i := 12) (oi := ?o13x12) (v := ?v13x12) ?hi13x12 (by kernel_rfl) ?hf13x12 ?hr13x12 (fun _ _ _ h => h) ?hy13x12 (by assumption) ?rest13x12
    case hi13x12 => (simp only [List.getElem?_toArray, List.getElem?_cons_succ, List.getElem?_cons_zero]; exact rfl)
    case hf13x12 => kernel_rfl
    case hr13x12 => kernel_rfl
    case hy13x12 => (refine Or.inl ⟨by rfl, ?_⟩; intro w hSw; (try dsimp only at hSw); go_simp; try with_reducible rfl)
    simp only [put_mk, List.set_cons_succ, List.set_cons_zero]
    refine wpAnyH_ready (rs := [7, 14]) (by kernel_rfl) (by simp) ?_
    refine (AllReadyH.cons (o := ?o14x7) ?hi14x7 (fun K hK => ?_) (AllReadyH.cons (o := ?o14x14) ?hi14x14 (fun K hK => ?_) AllReadyH.nil))
    case hi14x7 => (simp only [List.getElem?_toArray, List.getElem?_cons_succ, List.getElem?_cons_zero]; exact rfl)
    case hi14x14 => (simp only [List.getElem?_toArray, List.getElem?_cons_succ, List.getElem?_cons_zero]; exact rfl)
    · go_simp
      refine ((HRI _ ?_).out).mono ?_
      · (repeat (first | exact Ext.refl _ | assumption | refine Ext.setCell ?_ (by first | (simp; done) | (simp; omega)) _ | refine Ext.drewN ?_ _ | refine Ext.alloc ?_ _ | refine Ext.drew ?_ | refine Ext.trans ?_ (by assumption)))
      rintro e w2 ⟨rfl, hb2⟩
      refine hK.out _ _ ?_ (fun hHeld => ?_)
      · (repeat (first | exact Ext.refl _ | assumption | refine Ext.setCell ?_ (by first | (simp; done) | (simp; omega)) _ | refine Ext.drewN ?_ _ | refine Ext.alloc ?_ _ | refine Ext.drew ?_ | refine Ext.trans ?_ (by assumption)))
      clear hK K
      refine wpAnyH_take (i := 13) (oi := ?o15x13) (v := ?v15x13) ?hi15x13 (by kernel_rfl) ?hf15x13 ?hr15x13 (fun _ _ _ h => h) ?hy15x13 (by assumption) ?rest15x13
      case hi15x13 => (simp only [List.getElem?_toArray, List.getElem?_cons_succ, List.getElem?_cons_zero]; exact rfl)
      case hf15x13 => kernel_rfl
      case hr15x13 => kernel_rfl
      case hy15x13 => (refine Or.inl ⟨by rfl, ?_⟩; intro w hSw; (try dsimp only at hSw); go_simp; try with_reducible rfl)
      simp only [put_mk, List.set_cons_succ, List.set_cons_zero]
      refine wpAnyH_ready (rs := [14]) (by kernel_rfl) (by simp) ?_
      refine AllReadyH.cons (o := ?o16x14) ?hi16x14 (fun K hK => ?_) AllReadyH.nil
      case hi16x14 => (simp only [List.getElem?_toArray, List.getElem?_cons_succ, List.getElem?_cons_zero]; exact rfl)
      go_simp
      refine hK.out _ _ ?_ (fun hHeld => ?_)
      · (repeat (first | exact Ext.refl _ | assumption | refine Ext.setCell ?_ (by first | (simp; done) | (simp; omega)) _ | refine Ext.drewN ?_ _ | refine Ext.alloc ?_ _ | refine Ext.drew ?_ | refine Ext.trans ?_ (by assumption)))
      clear hK K
      refine wpAnyH_ready (rs := [15]) (by kernel_rfl) (by simp) ?_
      refine AllReadyH.cons (o := ?o17x15) ?hi17x15 (fun K hK => ?_) AllReadyH.nil
      case hi17x15 => (simp only [List.getElem?_toArray, List.getElem?_cons_succ, List.getElem?_cons_zero]; exact rfl)
      go_simp
      refine hK.out _ _ ?_ (fun hHeld => ?_)
      · (repeat (first | exact Ext.refl _ | assumption | refine Ext.setCell ?_ (by first | (simp; done) | (simp; omega)) _ | refine Ext.drewN ?_ _ | refine Ext.alloc ?_ _ | refine Ext.drew ?_ | refine Ext.trans ?_ (by assumption)))
      clear hK K
      refine wpAnyH_done (by kernel_rfl) ?_ _
      refine NoPanic.normal ?_
      go_wp2_with fail
      go_meet
      case rel =>
        refine ⟨_, rfl, ?_, ?_, (by repeat (first | exact Ext.refl _ | assumption | refine Ext.setCell ?_ (by first | (simp; done) | (simp; omega)) _ | refine Ext.drewN ?_ _ | refine Ext.alloc ?_ _ | refine Ext.drew ?_ | refine Ext.trans ?_ (by assumption)))⟩
        · first | exact Nat.le_refl _ | exact hb2.size
        · first | exact Bk.new' rfl | exact (by simpa using ((hg.set 0 (.float .f32 (valAt X Y W l (x, y)))).set 1 (.float .f32 sl)).set 2 (.float .f32 (valAt X Y W l' (x, y))))
    · go_simp
      refine hK.out _ _ ?_ (fun hHeld => ?_)
      · (repeat (first | exact Ext.refl _ | assumption | refine Ext.setCell ?_ (by first | (simp; done) | (simp; omega)) _ | refine Ext.drewN ?_ _ | refine Ext.alloc ?_ _ | refine Ext.drew ?_ | refine Ext.trans ?_ (by assumption)))
      clear hK K
      refine wpAnyH_ready (rs := [7]) (by kernel_rfl) (by simp) ?_
      refine AllReadyH.cons (o := ?o18x7) ?hi18x7 (fun K hK => ?_) AllReadyH.nil
      case hi18x7 => (simp only [List.getElem?_toArray, List.getElem?_cons_succ, List.getElem?_cons_zero]; exact rfl)
      go_simp
      refine ((HRI _ ?_).out).mono ?_
      · (repeat (first | exact Ext.refl _ | assumption | refine Ext.setCell ?_ (by first | (simp; done) | (simp; omega)) _ | refine Ext.drewN ?_ _ | refine Ext.alloc ?_ _ | refine Ext.drew ?_ | refine Ext.trans ?_ (by assumption)))
      rintro e w2 ⟨rfl, hb2⟩
      have hg : Bk w2 w1.heap.size 32 #[.float .f32 0, .float .f32 0, .float .f32 0] := by first | exact (Bk.new _ _ _).ext hb2 | exact (Bk.new _ _ _).drew.ext hb2
      have c0 := hg.cell 0
      have c1 := hg.cell 1
      have c2 := hg.cell 2
      have c3 := hg.frozen 0
      have c4 := hg.frozen 1
      have c5 := hg.frozen 2
      refine hK.out _ _ ?_ (fun hHeld => ?_)
      · (repeat (first | exact Ext.refl _ | assumption | refine Ext.setCell ?_ (by first | (simp; done) | (simp; omega)) _ | refine Ext.drewN ?_ _ | refine Ext.alloc ?_ _ | refine Ext.drew ?_ | refine Ext.trans ?_ (by assumption)))
      clear hK K
      refine wpAnyH_take (i := 13) (oi := ?o19x13) (v := ?v19x13) ?hi19x13 (by kernel_rfl) ?hf19x13 ?hr19x13 (fun _ _ _ h => h) ?hy19x13 (by assumption) ?rest19x13
      case hi19x13 => (simp only [List.getElem?_toArray, List.getElem?_cons_succ, List.getElem?_cons_zero]; exact rfl)
      case hf19x13 => kernel_rfl
      case hr19x13 => kernel_rfl
      case hy19x13 => (refine Or.inl ⟨by rfl, ?_⟩; intro w hSw; (try dsimp only at hSw); go_simp; try with_reducible rfl)
      simp only [put_mk, List.set_cons_succ, List.set_cons_zero]
      refine wpAnyH_ready (rs := [15]) (by kernel_rfl) (by simp) ?_
      refine AllReadyH.cons (o := ?o20x15) ?hi20x15 (fun K hK => ?_) AllReadyH.nil
      case hi20x15 => (simp only [List.getElem?_toArray, List.getElem?_cons_succ, List.getElem?_cons_zero]; exact rfl)
      go_simp
      refine hK.out _ _ ?_ (fun hHeld => ?_)
      · (repeat (first | exact Ext.refl _ | assumption | refine Ext.setCell ?_ (by first | (simp; done) | (simp; omega)) _ | refine Ext.drewN ?_ _ | refine Ext.alloc ?_ _ | refine Ext.drew ?_ | refine Ext.trans ?_ (by assumption)))
      clear hK K
      refine wpAnyH_done (by kernel_rfl) ?_ _
      refine NoPanic.normal ?_
      go_wp2_with fail
      go_meet
      case rel =>
        refine ⟨_, rfl, ?_, ?_, (by repeat (first | exact Ext.refl _ | assumption | refine Ext.setCell ?_ (by first | (simp; done) | (simp; omega)) _ | refine Ext.drewN ?_ _ | refine Ext.alloc ?_ _ | refine Ext.drew ?_ | refine Ext.trans ?_ (by assumption)))⟩
        · first | exact Nat.le_refl _ | exact hb2.size
        · first | exact Bk.new' rfl | exact (by simpa using ((hg.set 0 (.float .f32 (valAt X Y W l (x, y)))).set 1 (.float .f32 sl)).set 2 (.float .f32 (valAt X Y W l' (x, y))))
  case rest =>
    obtain ⟨g, rfl, hg0, hG, hx2⟩ := hcut
    have g0 := hG.cell 0
    have g1 := hG.cell 1
    have g2 := hG.cell 2
    have g3 := hG.frozen 2
    have hlG := hG.lt
    have hB3 := hB2.ext hx2
    have r0 := hB3.cell 0
    have r1 := hB3.cell 1
    have r2 := hB3.cell 2
    have r3 := hB3.frozen 0
    have r4 := hB3.frozen 1
    have r5 := hB3.frozen 2
    have hxw := hx1.trans hx2
    clear s0 s1 s2 s3 s4 s5 s6 s7 hD HRI hG
    by_cases hlt0 : lt (valAt X Y W l' (x, y)) 0 = true
    · have C0 : (FloatKind.f32.format.order (valAt X Y W l' (x, y)) 0 == some .lt) = true := hlt0
      have HW : Hid (wetR (valAt X Y W l' (x, y)) = 0) := if_pos hlt0
      clear hlt0
      go_wp2
      have hBf : Bk ((((wc.setCell ⟨g, 2, none⟩ (.float .f32 0)).setCell ⟨w.heap.size + 1 + 1, 0, none⟩ (.float .f32 (valAt X Y W l (x, y)))).setCell ⟨w.heap.size + 1 + 1, 1, none⟩ (.float .f32 sl)).setCell ⟨w.heap.size + 1 + 1, 2, none⟩ (.float .f32 0)) (w.heap.size + 1 + 1) 32 #[.float .f32 (valAt X Y W l (x, y)), .float .f32 sl, .float .f32 0] := by
        simpa using (((hB3.far (p := ⟨g, 2, none⟩) (by simp; omega) (.float .f32 0)).set 0 (.float .f32 (valAt X Y W l (x, y)))).set 1 (.float .f32 sl)).set 2 (.float .f32 0)
      have q0 := hBf.cell 0
      have q1 := hBf.cell 1
      have q2 := hBf.cell 2
      refine bodyPost_ret (v := .agg #[.float .f32 (valAt X Y W l (x, y)), .float .f32 sl, .float .f32 0]) (by simp [results, Tryd.results24, go_sem, q0, q1, q2]) rfl ⟨by rw [Hs.out, HW.out], ?_⟩
      (repeat (first | exact Ext.refl _ | assumption | refine Ext.setCell ?_ (by first | (simp; done) | (simp; omega)) _ | refine Ext.drewN ?_ _ | refine Ext.alloc ?_ _ | refine Ext.drew ?_ | refine Ext.trans ?_ (by assumption)))
    · have C0 : (FloatKind.f32.format.order (valAt X Y W l' (x, y)) 0 == some .lt) = false := (Bool.not_eq_true _).mp hlt0
      have HW : Hid (wetR (valAt X Y W l' (x, y)) = valAt X Y W l' (x, y)) := if_neg hlt0
      clear hlt0
      go_wp2
      have hBf : Bk (((wc.setCell ⟨w.heap.size + 1 + 1, 0, none⟩ (.float .f32 (valAt X Y W l (x, y)))).setCell ⟨w.heap.size + 1 + 1, 1, none⟩ (.float .f32 sl)).setCell ⟨w.heap.size + 1 + 1, 2, none⟩ (.float .f32 (valAt X Y W l' (x, y)))) (w.heap.size + 1 + 1) 32 #[.float .f32 (valAt X Y W l (x, y)), .float .f32 sl, .float .f32 (valAt X Y W l' (x, y))] := by
        simpa using (((hB3).set 0 (.float .f32 (valAt X Y W l (x, y)))).set 1 (.float .f32 sl)).set 2 (.float .f32 (valAt X Y W l' (x, y)))
      have q0 := hBf.cell 0
      have q1 := hBf.cell 1
      have q2 := hBf.cell 2
      refine bodyPost_ret (v := .agg #[.float .f32 (valAt X Y W l (x, y)), .float .f32 sl, .float .f32 (valAt X Y W l' (x, y))]) (by simp [results, Tryd.results24, go_sem, q0, q1, q2]) rfl ⟨by rw [Hs.out, HW.out], ?_⟩
      (repeat (first | exact Ext.refl _ | assumption | refine Ext.setCell ?_ (by first | (simp; done) | (simp; omega)) _ | refine Ext.drewN ?_ _ | refine Ext.alloc ?_ _ | refine Ext.drew ?_ | refine Ext.trans ?_ (by assumption)))
end Go.Proofs.YtjkalnboijkikaaDoor
