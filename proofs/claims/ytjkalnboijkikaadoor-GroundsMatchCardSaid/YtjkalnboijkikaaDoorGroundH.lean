/- Contract: plant.Fitness: how well each cell of a field suits a kind. -/
import Derived.Test.YtjkalnboijkikaaDoorGroundG
namespace Go.Proofs.YtjkalnboijkikaaDoor
open Go.RowKit
attribute [local go_sem ↓] Go.wp_at_zero Go.wp_at_succ
attribute [local go_sem] run_store_float

set_option maxRecDepth 100000 in
set_option maxHeartbeats 3200000 in
theorem fit_one (s : ByteArray) (a0 a1 a2 a3 a4 a5 a6 a7 a8 a9 : Nat) (p q X Y W H x y : Int) (A A' : Option Addr) (n c n' c' kb fb wb : Nat) (l l' : List Nat) (w : World) (hn : l.length = n) (hn' : l'.length = n') (hd : Rd w A (flt l)) (hd' : Rd w A' (flt l'))
    (ht : twoE X Y W H l X Y W H l' = 0) (hs0 : Bd 20 a0) (hs1 : Bd 20 a1) (hs2 : Bd 20 a2) (hs3 : Bd 20 a3) (hs4 : Bd 20 a4) (hs5 : Bd 20 a5) (hi : InR X Y W H x y)
    (hK : Bk w kb 28 #[.string s, .float .f32 a0, .float .f32 a1, .float .f32 a2, .float .f32 a3, .float .f32 a4, .float .f32 a5, .float .f32 a6, .float .f32 a7, .float .f32 a8, .float .f32 a9, .int .i64 p, .int .i64 q]) (hF : Bk w fb 47 #[.int .i64 X, .int .i64 Y, .int .i64 W, .int .i64 H, .slice A n c]) (hF' : Bk w wb 47 #[.int .i64 X, .int .i64 Y, .int .i64 W, .int .i64 H, .slice A' n' c']) :
    Calls Tryd.prog 38 #[.int .i64 x, .int .i64 y, .pointer (some ⟨kb, 0, none⟩), .pointer (some ⟨fb, 0, none⟩), .pointer (some ⟨wb, 0, none⟩)] w fun e w' =>
      e = .returned (.float .f32 (fitAt X Y W H l l' a0 a1 a2 a3 a4 a5 (x, y))) ∧ Ext w w' := by
  obtain ⟨f1, f2⟩ := two_zero ht
  have hr := RegOk.of_zero (fieldE_parts f1).1
  have hv := val_bd f1
  have hv' := val_bd f2
  have HG := fun (w' : World) (h : Ext w w') => hidA (ground_any X Y W H x y A A' n c n' c' l l' w' hn hn' (hd.ext h) (hd'.ext h) hr (by rw [← hn]; exact (fieldE_parts f1).2.1) (by rw [← hn']; exact (fieldE_parts f2).2.1) hi (numE_zero (fieldE_parts f1).2.2).2)
  have HS := fun (w' : World) => hidA (suit_any s a0 a1 a2 a3 a4 a5 a6 a7 a8 a9 (valAt X Y W l (x, y)) (slopeK X Y W H l x y 4) (wetF (valAt X Y W l' (x, y))) p q w' (hv _ _ hi) (slope_bd hv hi 4).1 (wet_bd (hv' _ _ hi)) (slope_nonneg hv hi 4) hs0 hs1 hs2 hs3 hs4 hs5)
  have k0 : ∀ w', Ext w w' → w'.cell? ⟨kb, 0, none⟩ = some (.string s) := fun w' h => (hK.ext h).cell 0
  have k1 : ∀ w', Ext w w' → w'.cell? ⟨kb, 1, none⟩ = some (.float .f32 a0) := fun w' h => (hK.ext h).cell 1
  have k2 : ∀ w', Ext w w' → w'.cell? ⟨kb, 2, none⟩ = some (.float .f32 a1) := fun w' h => (hK.ext h).cell 2
  have k3 : ∀ w', Ext w w' → w'.cell? ⟨kb, 3, none⟩ = some (.float .f32 a2) := fun w' h => (hK.ext h).cell 3
  have k4 : ∀ w', Ext w w' → w'.cell? ⟨kb, 4, none⟩ = some (.float .f32 a3) := fun w' h => (hK.ext h).cell 4
  have k5 : ∀ w', Ext w w' → w'.cell? ⟨kb, 5, none⟩ = some (.float .f32 a4) := fun w' h => (hK.ext h).cell 5
  have k6 : ∀ w', Ext w w' → w'.cell? ⟨kb, 6, none⟩ = some (.float .f32 a5) := fun w' h => (hK.ext h).cell 6
  have k7 : ∀ w', Ext w w' → w'.cell? ⟨kb, 7, none⟩ = some (.float .f32 a6) := fun w' h => (hK.ext h).cell 7
  have k8 : ∀ w', Ext w w' → w'.cell? ⟨kb, 8, none⟩ = some (.float .f32 a7) := fun w' h => (hK.ext h).cell 8
  have k9 : ∀ w', Ext w w' → w'.cell? ⟨kb, 9, none⟩ = some (.float .f32 a8) := fun w' h => (hK.ext h).cell 9
  have k10 : ∀ w', Ext w w' → w'.cell? ⟨kb, 10, none⟩ = some (.float .f32 a9) := fun w' h => (hK.ext h).cell 10
  have k11 : ∀ w', Ext w w' → w'.cell? ⟨kb, 11, none⟩ = some (.int .i64 p) := fun w' h => (hK.ext h).cell 11
  have k12 : ∀ w', Ext w w' → w'.cell? ⟨kb, 12, none⟩ = some (.int .i64 q) := fun w' h => (hK.ext h).cell 12
  have f3 : ∀ w', Ext w w' → w'.cell? ⟨fb, 0, none⟩ = some (.int .i64 X) := fun w' h => (hF.ext h).cell 0
  have f4 : ∀ w', Ext w w' → w'.cell? ⟨fb, 1, none⟩ = some (.int .i64 Y) := fun w' h => (hF.ext h).cell 1
  have f5 : ∀ w', Ext w w' → w'.cell? ⟨fb, 2, none⟩ = some (.int .i64 W) := fun w' h => (hF.ext h).cell 2
  have f6 : ∀ w', Ext w w' → w'.cell? ⟨fb, 3, none⟩ = some (.int .i64 H) := fun w' h => (hF.ext h).cell 3
  have f7 : ∀ w', Ext w w' → w'.cell? ⟨fb, 4, none⟩ = some (.slice A n c) := fun w' h => (hF.ext h).cell 4
  have g3 : ∀ w', Ext w w' → w'.cell? ⟨wb, 0, none⟩ = some (.int .i64 X) := fun w' h => (hF'.ext h).cell 0
  have g4 : ∀ w', Ext w w' → w'.cell? ⟨wb, 1, none⟩ = some (.int .i64 Y) := fun w' h => (hF'.ext h).cell 1
  have g5 : ∀ w', Ext w w' → w'.cell? ⟨wb, 2, none⟩ = some (.int .i64 W) := fun w' h => (hF'.ext h).cell 2
  have g6 : ∀ w', Ext w w' → w'.cell? ⟨wb, 3, none⟩ = some (.int .i64 H) := fun w' h => (hF'.ext h).cell 3
  have g7 : ∀ w', Ext w w' → w'.cell? ⟨wb, 4, none⟩ = some (.slice A' n' c') := fun w' h => (hF'.ext h).cell 4
  clear hn hn' hd hd' ht hs0 hs1 hs2 hs3 hs4 hs5 hi f1 f2 hr hv hv' hK hF hF'
  go_enter Tryd.func38, Tryd.ntmps38
  go_wp2_with fail
  refine wp_region_noPanic ?_
  refine wp_region_held_drew (S := fun w' => Ext w w') (by kernel_rfl) ?_ (fun hHeld => ?_)
  · (repeat (first | exact Ext.refl _ | assumption | refine Ext.setCell ?_ (by first | (simp; done) | (simp; omega)) _ | refine Ext.drewN ?_ _ | refine Ext.alloc ?_ _ | refine Ext.drew ?_ | refine Ext.trans ?_ (by assumption)))
  refine wpAnyH_take (i := 0) (oi := ?o2x0) (v := ?v2x0) ?hi2x0 (by kernel_rfl) ?hf2x0 ?hr2x0 (fun _ _ _ h => h) ?hy2x0 (by assumption) ?rest2x0
  case hi2x0 => (simp only [List.getElem?_toArray, List.getElem?_cons_zero]; exact rfl)
  case hf2x0 => kernel_rfl
  case hr2x0 => kernel_rfl
  case hy2x0 => (refine Or.inl ⟨by rfl, ?_⟩; intro w hSw; (try dsimp only at hSw); go_simp; try with_reducible rfl)
  simp only [put_mk, List.set_cons_succ, List.set_cons_zero]
  refine wpAnyH_take (i := 1) (oi := ?o3x1) (v := ?v3x1) ?hi3x1 (by kernel_rfl) ?hf3x1 ?hr3x1 (fun _ _ _ h => h) ?hy3x1 (by assumption) ?rest3x1
  case hi3x1 => (simp only [List.getElem?_toArray, List.getElem?_cons_succ, List.getElem?_cons_zero]; exact rfl)
  case hf3x1 => kernel_rfl
  case hr3x1 => kernel_rfl
  case hy3x1 => (refine Or.inl ⟨by rfl, ?_⟩; intro w hSw; (try dsimp only at hSw); go_simp; try with_reducible rfl)
  simp only [put_mk, List.set_cons_succ, List.set_cons_zero]
  refine wpAnyH_take (i := 2) (oi := ?o4x2) (v := ?v4x2) ?hi4x2 (by kernel_rfl) ?hf4x2 ?hr4x2 (fun _ _ _ h => h) ?hy4x2 (by assumption) ?rest4x2
  case hi4x2 => (simp only [List.getElem?_toArray, List.getElem?_cons_succ, List.getElem?_cons_zero]; exact rfl)
  case hf4x2 => kernel_rfl
  case hr4x2 => kernel_rfl
  case hy4x2 => (refine Or.inl ⟨by rfl, ?_⟩; intro w hSw; (try dsimp only at hSw); go_simp; try with_reducible rfl)
  simp only [put_mk, List.set_cons_succ, List.set_cons_zero]
  refine wpAnyH_take (i := 3) (oi := ?o5x3) (v := ?v5x3) ?hi5x3 (by kernel_rfl) ?hf5x3 ?hr5x3 (fun _ _ _ h => h) ?hy5x3 (by assumption) ?rest5x3
  case hi5x3 => (simp only [List.getElem?_toArray, List.getElem?_cons_succ, List.getElem?_cons_zero]; exact rfl)
  case hf5x3 => kernel_rfl
  case hr5x3 => kernel_rfl
  case hy5x3 => (refine Or.inl ⟨by rfl, ?_⟩; intro w hSw; (try dsimp only at hSw); go_simp; try with_reducible rfl)
  simp only [put_mk, List.set_cons_succ, List.set_cons_zero]
  refine wpAnyH_take (i := 4) (oi := ?o6x4) (v := ?v6x4) ?hi6x4 (by kernel_rfl) ?hf6x4 ?hr6x4 (fun _ _ _ h => h) ?hy6x4 (by assumption) ?rest6x4
  case hi6x4 => (simp only [List.getElem?_toArray, List.getElem?_cons_succ, List.getElem?_cons_zero]; exact rfl)
  case hf6x4 => kernel_rfl
  case hr6x4 => kernel_rfl
  case hy6x4 => (refine Or.inl ⟨by rfl, ?_⟩; intro w hSw; (try dsimp only at hSw); go_simp; try with_reducible rfl)
  simp only [put_mk, List.set_cons_succ, List.set_cons_zero]
  refine wpAnyH_ready (rs := [5]) (by kernel_rfl) (by simp) ?_
  refine AllReadyH.cons (o := ?o7x5) ?hi7x5 (fun K hK => ?_) AllReadyH.nil
  case hi7x5 => (simp only [List.getElem?_toArray, List.getElem?_cons_succ, List.getElem?_cons_zero]; exact rfl)
  go_simp
  refine ((HG _ (by assumption)).out).mono ?_
  rintro e w7 ⟨rfl, hb7⟩
  refine hK.out _ _ ?_ (fun hHeld => ?_)
  · (repeat (first | exact Ext.refl _ | assumption | refine Ext.setCell ?_ (by first | (simp; done) | (simp; omega)) _ | refine Ext.drewN ?_ _ | refine Ext.alloc ?_ _ | refine Ext.drew ?_ | refine Ext.trans ?_ (by assumption)))
  clear hK K
  refine wpAnyH_ready (rs := [6]) (by kernel_rfl) (by simp) ?_
  refine AllReadyH.cons (o := ?o8x6) ?hi8x6 (fun K hK => ?_) AllReadyH.nil
  case hi8x6 => (simp only [List.getElem?_toArray, List.getElem?_cons_succ, List.getElem?_cons_zero]; exact rfl)
  go_simp
  refine ((HS _).out).mono ?_
  rintro e w8 ⟨rfl, hb8⟩
  refine hK.out _ _ ?_ (fun hHeld => ?_)
  · (repeat (first | exact Ext.refl _ | assumption | refine Ext.setCell ?_ (by first | (simp; done) | (simp; omega)) _ | refine Ext.drewN ?_ _ | refine Ext.alloc ?_ _ | refine Ext.drew ?_ | refine Ext.trans ?_ (by assumption)))
  clear hK K
  refine wpAnyH_take (i := 7) (oi := ?o9x7) (v := ?v9x7) ?hi9x7 (by kernel_rfl) ?hf9x7 ?hr9x7 (fun _ _ _ h => h) ?hy9x7 (by assumption) ?rest9x7
  case hi9x7 => (simp only [List.getElem?_toArray, List.getElem?_cons_succ, List.getElem?_cons_zero]; exact rfl)
  case hf9x7 => kernel_rfl
  case hr9x7 => kernel_rfl
  case hy9x7 => (refine Or.inl ⟨by rfl, ?_⟩; intro w hSw; (try dsimp only at hSw); go_simp; try with_reducible rfl)
  simp only [put_mk, List.set_cons_succ, List.set_cons_zero]
  refine wpAnyH_done (by kernel_rfl) ?_ _
  refine NoPanic.normal ?_
  go_wp2_with fail
  go_ret
  exact ⟨rfl, (by repeat (first | exact Ext.refl _ | assumption | refine Ext.setCell ?_ (by first | (simp; done) | (simp; omega)) _ | refine Ext.drewN ?_ _ | refine Ext.alloc ?_ _ | refine Ext.drew ?_ | refine Ext.trans ?_ (by assumption)))⟩

set_option maxRecDepth 100000 in
set_option maxHeartbeats 3200000 in
theorem Fitness_bad (s : ByteArray) (a0 a1 a2 a3 a4 a5 a6 a7 a8 a9 : Nat) (p q X Y W H X' Y' W' H' : Int) (A A' : Option Addr) (n c n' c' : Nat) (l l' : List Nat) (w : World) (hn : l.length = n) (hn' : l'.length = n') (hd : Rd w A (flt l)) (hd' : Rd w A' (flt l')) (hb : n ≤ 140737488351232) (hb' : n' ≤ 140737488351232)
    (ht : twoE X Y W H l X' Y' W' H' l' ≠ 0) :
    Calls Tryd.prog 20 #[.agg #[.int .i64 X, .int .i64 Y, .int .i64 W, .int .i64 H, .slice A n c], .agg #[.int .i64 X', .int .i64 Y', .int .i64 W', .int .i64 H', .slice A' n' c'], .agg #[.string s, .float .f32 a0, .float .f32 a1, .float .f32 a2, .float .f32 a3, .float .f32 a4, .float .f32 a5, .float .f32 a6, .float .f32 a7, .float .f32 a8, .float .f32 a9, .int .i64 p, .int .i64 q]] w fun e w' => e = .returned (.tuple #[.agg #[.int .i64 0, .int .i64 0, .int .i64 0, .int .i64 0, .slice none 0 0], .int .i64 (twoE X Y W H l X' Y' W' H' l')]) ∧ Ext w w' := by
  have b0 : (twoE X Y W H l X' Y' W' H' l' != 0) = true := by simpa using ht
  clear ht
  go_enter Tryd.func20, Tryd.ntmps20
  go_wp2_with fail
  refine (checkFields_any X Y W H X' Y' W' H' A A' n c n' c' l l' _ hn hn' ((((hd.alloc _).alloc _).alloc _).alloc _) ((((hd'.alloc _).alloc _).alloc _).alloc _) hb hb').mono ?_
  rintro e w1 ⟨rfl, hb1⟩
  have hR : Bk w1 (w.heap.size + 1 + 1 + 1) 47 #[.int .i64 0, .int .i64 0, .int .i64 0, .int .i64 0, .slice none 0 0] := (Bk.new' (by simp)).ext hb1
  have r0 := hR.cell 0
  have r1 := hR.cell 1
  have r2 := hR.cell 2
  have r3 := hR.cell 3
  have r4 := hR.cell 4
  have r5 := hR.frozen 0
  have r6 := hR.frozen 1
  have r7 := hR.frozen 2
  have r8 := hR.frozen 3
  have r9 := hR.frozen 4
  clear hn hn' hd hd' hb hb'
  go_wp2
  have hBf : Bk (((((w1.setCell ⟨w.heap.size + 1 + 1 + 1, 0, none⟩ (.int .i64 0)).setCell ⟨w.heap.size + 1 + 1 + 1, 1, none⟩ (.int .i64 0)).setCell ⟨w.heap.size + 1 + 1 + 1, 2, none⟩ (.int .i64 0)).setCell ⟨w.heap.size + 1 + 1 + 1, 3, none⟩ (.int .i64 0)).setCell ⟨w.heap.size + 1 + 1 + 1, 4, none⟩ (.slice none 0 0)) (w.heap.size + 1 + 1 + 1) 47 #[.int .i64 0, .int .i64 0, .int .i64 0, .int .i64 0, .slice none 0 0] := by
    simpa using (((((hR.set 0 (.int .i64 0)).set 1 (.int .i64 0)).set 2 (.int .i64 0)).set 3 (.int .i64 0)).set 4 (.slice none 0 0))
  have q0 := hBf.cell 0
  have q1 := hBf.cell 1
  have q2 := hBf.cell 2
  have q3 := hBf.cell 3
  have q4 := hBf.cell 4
  refine bodyPost_ret (v := .tuple #[.agg #[.int .i64 0, .int .i64 0, .int .i64 0, .int .i64 0, .slice none 0 0], .int .i64 (twoE X Y W H l X' Y' W' H' l')]) (by simp [results, Tryd.results20, go_sem, q0, q1, q2, q3, q4]) rfl ⟨rfl, ?_⟩
  (repeat (first | exact Ext.refl _ | assumption | refine Ext.setCell ?_ (by first | (simp; done) | (simp; omega)) _ | refine Ext.drewN ?_ _ | refine Ext.alloc ?_ _ | refine Ext.drew ?_ | refine Ext.trans ?_ (by assumption)))

set_option maxRecDepth 100000 in
set_option maxHeartbeats 3200000 in
theorem Fitness_kind (s : ByteArray) (a0 a1 a2 a3 a4 a5 a6 a7 a8 a9 : Nat) (p q X Y W H X' Y' W' H' : Int) (A A' : Option Addr) (n c n' c' : Nat) (l l' : List Nat) (w : World) (hs : s.size ≤ 9223372036854775807) (hn : l.length = n) (hn' : l'.length = n') (hd : Rd w A (flt l)) (hd' : Rd w A' (flt l')) (hb : n ≤ 140737488351232) (hb' : n' ≤ 140737488351232)
    (ht : twoE X Y W H l X' Y' W' H' l' = 0) (hk : kindE s a0 a1 a2 a3 a4 a5 a6 a7 a8 a9 p q ≠ 0) :
    Calls Tryd.prog 20 #[.agg #[.int .i64 X, .int .i64 Y, .int .i64 W, .int .i64 H, .slice A n c], .agg #[.int .i64 X', .int .i64 Y', .int .i64 W', .int .i64 H', .slice A' n' c'], .agg #[.string s, .float .f32 a0, .float .f32 a1, .float .f32 a2, .float .f32 a3, .float .f32 a4, .float .f32 a5, .float .f32 a6, .float .f32 a7, .float .f32 a8, .float .f32 a9, .int .i64 p, .int .i64 q]] w fun e w' => e = .returned (.tuple #[.agg #[.int .i64 0, .int .i64 0, .int .i64 0, .int .i64 0, .slice none 0 0], .int .i64 (kindE s a0 a1 a2 a3 a4 a5 a6 a7 a8 a9 p q)]) ∧ Ext w w' := by
  have Ht := hidA ht
  have b1 : (kindE s a0 a1 a2 a3 a4 a5 a6 a7 a8 a9 p q != 0) = true := by simpa using hk
  clear ht hk
  go_enter Tryd.func20, Tryd.ntmps20
  go_wp2_with fail
  refine (checkFields_any X Y W H X' Y' W' H' A A' n c n' c' l l' _ hn hn' ((((hd.alloc _).alloc _).alloc _).alloc _) ((((hd'.alloc _).alloc _).alloc _).alloc _) hb hb').mono ?_
  rw [Ht.out]
  rintro e w1 ⟨rfl, hb1⟩
  have hR1 : Bk w1 (w.heap.size + 1 + 1 + 1) 47 #[.int .i64 0, .int .i64 0, .int .i64 0, .int .i64 0, .slice none 0 0] := (Bk.new' (by simp)).ext hb1
  have hK1 : Bk w1 (w.heap.size + 1 + 1) 28 #[.string s, .float .f32 a0, .float .f32 a1, .float .f32 a2, .float .f32 a3, .float .f32 a4, .float .f32 a5, .float .f32 a6, .float .f32 a7, .float .f32 a8, .float .f32 a9, .int .i64 p, .int .i64 q] := ((Bk.new' (by simp)).alloc _).ext hb1
  have k0 := hK1.cell 0
  have k1 := hK1.cell 1
  have k2 := hK1.cell 2
  have k3 := hK1.cell 3
  have k4 := hK1.cell 4
  have k5 := hK1.cell 5
  have k6 := hK1.cell 6
  have k7 := hK1.cell 7
  have k8 := hK1.cell 8
  have k9 := hK1.cell 9
  have k10 := hK1.cell 10
  have k11 := hK1.cell 11
  have k12 := hK1.cell 12
  clear hn hn' hd hd' hb hb'
  go_wp2_with fail
  refine (checkKind_any s a0 a1 a2 a3 a4 a5 a6 a7 a8 a9 p q _ hs).mono ?_
  rintro e w2 ⟨rfl, hb2⟩
  clear k0 k1 k2 k3 k4 k5 k6 k7 k8 k9 k10 k11 k12
  have hR := hR1.ext hb2
  have r0 := hR.cell 0
  have r1 := hR.cell 1
  have r2 := hR.cell 2
  have r3 := hR.cell 3
  have r4 := hR.cell 4
  have r5 := hR.frozen 0
  have r6 := hR.frozen 1
  have r7 := hR.frozen 2
  have r8 := hR.frozen 3
  have r9 := hR.frozen 4
  go_wp2
  have hBf : Bk (((((w2.setCell ⟨w.heap.size + 1 + 1 + 1, 0, none⟩ (.int .i64 0)).setCell ⟨w.heap.size + 1 + 1 + 1, 1, none⟩ (.int .i64 0)).setCell ⟨w.heap.size + 1 + 1 + 1, 2, none⟩ (.int .i64 0)).setCell ⟨w.heap.size + 1 + 1 + 1, 3, none⟩ (.int .i64 0)).setCell ⟨w.heap.size + 1 + 1 + 1, 4, none⟩ (.slice none 0 0)) (w.heap.size + 1 + 1 + 1) 47 #[.int .i64 0, .int .i64 0, .int .i64 0, .int .i64 0, .slice none 0 0] := by
    simpa using (((((hR.set 0 (.int .i64 0)).set 1 (.int .i64 0)).set 2 (.int .i64 0)).set 3 (.int .i64 0)).set 4 (.slice none 0 0))
  have q0 := hBf.cell 0
  have q1 := hBf.cell 1
  have q2 := hBf.cell 2
  have q3 := hBf.cell 3
  have q4 := hBf.cell 4
  refine bodyPost_ret (v := .tuple #[.agg #[.int .i64 0, .int .i64 0, .int .i64 0, .int .i64 0, .slice none 0 0], .int .i64 (kindE s a0 a1 a2 a3 a4 a5 a6 a7 a8 a9 p q)]) (by simp [results, Tryd.results20, go_sem, q0, q1, q2, q3, q4]) rfl ⟨rfl, ?_⟩
  (repeat (first | exact Ext.refl _ | assumption | refine Ext.setCell ?_ (by first | (simp; done) | (simp; omega)) _ | refine Ext.drewN ?_ _ | refine Ext.alloc ?_ _ | refine Ext.drew ?_ | refine Ext.trans ?_ (by assumption)))

set_option maxRecDepth 100000 in
set_option maxHeartbeats 3200000 in
theorem Fitness_ok (s : ByteArray) (a0 a1 a2 a3 a4 a5 a6 a7 a8 a9 : Nat) (p q X Y W H : Int) (A A' : Option Addr) (n c n' c' : Nat) (l l' : List Nat) (w : World) (hs : s.size ≤ 9223372036854775807) (hn : l.length = n) (hn' : l'.length = n') (hd : Rd w A (flt l)) (hd' : Rd w A' (flt l')) (hb : n ≤ 140737488351232) (hb' : n' ≤ 140737488351232)
    (ht : twoE X Y W H l X Y W H l' = 0) (hk : kindE s a0 a1 a2 a3 a4 a5 a6 a7 a8 a9 p q = 0) :
    Calls Tryd.prog 20 #[.agg #[.int .i64 X, .int .i64 Y, .int .i64 W, .int .i64 H, .slice A n c], .agg #[.int .i64 X, .int .i64 Y, .int .i64 W, .int .i64 H, .slice A' n' c'], .agg #[.string s, .float .f32 a0, .float .f32 a1, .float .f32 a2, .float .f32 a3, .float .f32 a4, .float .f32 a5, .float .f32 a6, .float .f32 a7, .float .f32 a8, .float .f32 a9, .int .i64 p, .int .i64 q]] w fun e w' =>
      ∃ B d, e = .returned (.tuple #[.agg #[.int .i64 X, .int .i64 Y, .int .i64 W, .int .i64 H, .slice B n d], .int .i64 0]) ∧ Rd w' B (flt ((List.range n).map (fitK X Y W H l l' a0 a1 a2 a3 a4 a5))) ∧ Ext w w' := by
  have Ht := hidA ht
  have Hk := hidA hk
  obtain ⟨k0, k1, k2, k3, k4, k5⟩ := kindE_zero hk
  have hr := RegOk.of_zero (fieldE_parts (two_zero ht).1).1
  have hnw : (n : Int) = W * H := by rw [← hn]; exact (fieldE_parts (two_zero ht).1).2.1
  have hr' := hr
  unfold RegOk at hr'
  obtain ⟨r1, r2, r3, r4, r5, r6, r7, r8⟩ := hr'
  obtain ⟨Wn, rfl⟩ := Int.eq_ofNat_of_zero_le (show 0 ≤ W by omega)
  obtain ⟨Hn, rfl⟩ := Int.eq_ofNat_of_zero_le (show 0 ≤ H by omega)
  have hnh : n = Hn * Wn := by
    have : ((n : Nat) : Int) = ((Hn * Wn : Nat) : Int) := by rw [hnw, Int.natCast_mul, Int.mul_comm]
    omega
  subst hnh
  have hFit := fun (w' : World) (x y : Int) (hi : InR X Y Wn Hn x y) (h1 : Rd w' A (flt l)) (h2 : Rd w' A' (flt l')) (h3 : Bk w' (w.heap.size + 1 + 1) 28 #[.string s, .float .f32 a0, .float .f32 a1, .float .f32 a2, .float .f32 a3, .float .f32 a4, .float .f32 a5, .float .f32 a6, .float .f32 a7, .float .f32 a8, .float .f32 a9, .int .i64 p, .int .i64 q]) (h4 : Bk w' w.heap.size 47 #[.int .i64 X, .int .i64 Y, .int .i64 Wn, .int .i64 Hn, .slice A (Hn * Wn) c]) (h5 : Bk w' (w.heap.size + 1) 47 #[.int .i64 X, .int .i64 Y, .int .i64 Wn, .int .i64 Hn, .slice A' n' c']) =>
    fit_one s a0 a1 a2 a3 a4 a5 a6 a7 a8 a9 p q X Y Wn Hn x y A A' (Hn * Wn) c n' c' (w.heap.size + 1 + 1) w.heap.size (w.heap.size + 1) l l' w' hn hn' h1 h2 ht k0 k1 k2 k3 k4 k5 hi h3 h4 h5
  have HM := fun (w' : World) (hx : Ext w w') (h3 : Bk w' (w.heap.size + 1 + 1) 28 #[.string s, .float .f32 a0, .float .f32 a1, .float .f32 a2, .float .f32 a3, .float .f32 a4, .float .f32 a5, .float .f32 a6, .float .f32 a7, .float .f32 a8, .float .f32 a9, .int .i64 p, .int .i64 q]) (h4 : Bk w' w.heap.size 47 #[.int .i64 X, .int .i64 Y, .int .i64 Wn, .int .i64 Hn, .slice A (Hn * Wn) c]) (h5 : Bk w' (w.heap.size + 1) 47 #[.int .i64 X, .int .i64 Y, .int .i64 Wn, .int .i64 Hn, .slice A' n' c']) =>
    hidA (make_any X Y Wn Hn (by omega) (by omega) (by omega) (by omega) ⟨by omega, by omega⟩ ⟨by omega, by omega⟩ 38 (fun _ _ => by kernel_rfl) #[.pointer (some ⟨w.heap.size + 1 + 1, 0, none⟩), .pointer (some ⟨w.heap.size, 0, none⟩), .pointer (some ⟨w.heap.size + 1, 0, none⟩)]
      (fitK X Y Wn Hn l l' a0 a1 a2 a3 a4 a5) w' (w.heap.size + 1 + 1) h3.lt (fun _ o => o = some (.cells #[.string s, .float .f32 a0, .float .f32 a1, .float .f32 a2, .float .f32 a3, .float .f32 a4, .float .f32 a5, .float .f32 a6, .float .f32 a7, .float .f32 a8, .float .f32 a9, .int .i64 p, .int .i64 q] 28 (0, 0))) h3
      (fun j i w2 hj hi hg hI => by
        have hxy : InR X Y Wn Hn (X + i) (Y + j) := by unfold InR; omega
        have e : fitK X Y Wn Hn l l' a0 a1 a2 a3 a4 a5 (j * Wn + i) = fitAt X Y Wn Hn l l' a0 a1 a2 a3 a4 a5 (X + i, Y + j) := by unfold fitK; rw [placeK_at hi]
        have hx2 : Ext w w2 := hx.grown hg (fun k e => by injection e with e; omega)
        refine (hFit w2 (X + i) (Y + j) hxy (hd.ext hx2) (hd'.ext hx2) hI (h4.grown hg (by simp; omega)) (h5.grown hg (by simp))).mono ?_
        rintro e' w3 ⟨rfl, hb3⟩
        exact ⟨by rw [e], grown_ext hb3 _, by rw [hb3.block _ (Bk.lt hI)]; exact hI⟩))
  have hnn := hidA hn
  clear ht hk k0 k1 k2 k3 k4 k5 hr r1 r2 r3 r4 r5 r6 r7 r8 hnw hFit
  go_enter Tryd.func20, Tryd.ntmps20
  go_wp2_with fail
  refine (checkFields_any X Y Wn Hn X Y Wn Hn A A' (Hn * Wn) c n' c' l l' _ hn hn' ((((hd.alloc _).alloc _).alloc _).alloc _) ((((hd'.alloc _).alloc _).alloc _).alloc _) hb hb').mono ?_
  rw [Ht.out]
  rintro e w1 ⟨rfl, hb1⟩
  have hR1 : Bk w1 (w.heap.size + 1 + 1 + 1) 47 #[.int .i64 0, .int .i64 0, .int .i64 0, .int .i64 0, .slice none 0 0] := (Bk.new' (by simp)).ext hb1
  have hK1 : Bk w1 (w.heap.size + 1 + 1) 28 #[.string s, .float .f32 a0, .float .f32 a1, .float .f32 a2, .float .f32 a3, .float .f32 a4, .float .f32 a5, .float .f32 a6, .float .f32 a7, .float .f32 a8, .float .f32 a9, .int .i64 p, .int .i64 q] := ((Bk.new' (by simp)).alloc _).ext hb1
  have hF1 : Bk w1 w.heap.size 47 #[.int .i64 X, .int .i64 Y, .int .i64 Wn, .int .i64 Hn, .slice A (Hn * Wn) c] := ((((Bk.new' rfl).alloc _).alloc _).alloc _).ext hb1
  have hF1' : Bk w1 (w.heap.size + 1) 47 #[.int .i64 X, .int .i64 Y, .int .i64 Wn, .int .i64 Hn, .slice A' n' c'] := (((Bk.new' (by simp)).alloc _).alloc _).ext hb1
  have k0 := hK1.cell 0
  have k1 := hK1.cell 1
  have k2 := hK1.cell 2
  have k3 := hK1.cell 3
  have k4 := hK1.cell 4
  have k5 := hK1.cell 5
  have k6 := hK1.cell 6
  have k7 := hK1.cell 7
  have k8 := hK1.cell 8
  have k9 := hK1.cell 9
  have k10 := hK1.cell 10
  have k11 := hK1.cell 11
  have k12 := hK1.cell 12
  clear hn hn' hd hd' hb hb'
  go_wp2_with fail
  refine (checkKind_any s a0 a1 a2 a3 a4 a5 a6 a7 a8 a9 p q _ hs).mono ?_
  rw [Hk.out]
  rintro e w2 ⟨rfl, hb2⟩
  clear k0 k1 k2 k3 k4 k5 k6 k7 k8 k9 k10 k11 k12
  have hR2 := hR1.ext hb2
  have hK2 := hK1.ext hb2
  have hF2 := hF1.ext hb2
  have hF2' := hF1'.ext hb2
  have hx2 : Ext w w2 := (by repeat (first | exact Ext.refl _ | assumption | refine Ext.setCell ?_ (by first | (simp; done) | (simp; omega)) _ | refine Ext.drewN ?_ _ | refine Ext.alloc ?_ _ | refine Ext.drew ?_ | refine Ext.trans ?_ (by assumption)))
  have f0 := hF2.cell 0
  have f1 := hF2.cell 1
  have f2 := hF2.cell 2
  have f3 := hF2.cell 3
  go_wp2_with fail
  refine ((HM _ hx2 hK2 hF2 hF2').out).mono ?_
  rintro e w3 ⟨B, d, rfl, hown, hg, -⟩
  have hR : Bk w3 (w.heap.size + 1 + 1 + 1) 47 #[.int .i64 0, .int .i64 0, .int .i64 0, .int .i64 0, .slice none 0 0] := hR2.grown hg (by simp)
  have hx3 : Ext w w3 := hx2.grown hg (fun k e => by injection e with e; omega)
  clear f0 f1 f2 f3 hx2 hK2 hF2 hF2' HM
  have r0 := hR.cell 0
  have r1 := hR.cell 1
  have r2 := hR.cell 2
  have r3 := hR.cell 3
  have r4 := hR.cell 4
  have r5 := hR.frozen 0
  have r6 := hR.frozen 1
  have r7 := hR.frozen 2
  have r8 := hR.frozen 3
  have r9 := hR.frozen 4
  go_wp2
  have hBf : Bk (((((w3.setCell ⟨w.heap.size + 1 + 1 + 1, 0, none⟩ (.int .i64 X)).setCell ⟨w.heap.size + 1 + 1 + 1, 1, none⟩ (.int .i64 Y)).setCell ⟨w.heap.size + 1 + 1 + 1, 2, none⟩ (.int .i64 Wn)).setCell ⟨w.heap.size + 1 + 1 + 1, 3, none⟩ (.int .i64 Hn)).setCell ⟨w.heap.size + 1 + 1 + 1, 4, none⟩ (.slice B (Hn * Wn) d)) (w.heap.size + 1 + 1 + 1) 47 #[.int .i64 X, .int .i64 Y, .int .i64 Wn, .int .i64 Hn, .slice B (Hn * Wn) d] := by
    simpa using (((((hR.set 0 (.int .i64 X)).set 1 (.int .i64 Y)).set 2 (.int .i64 Wn)).set 3 (.int .i64 Hn)).set 4 (.slice B (Hn * Wn) d))
  have q0 := hBf.cell 0
  have q1 := hBf.cell 1
  have q2 := hBf.cell 2
  have q3 := hBf.cell 3
  have q4 := hBf.cell 4
  refine bodyPost_ret (v := .tuple #[.agg #[.int .i64 X, .int .i64 Y, .int .i64 Wn, .int .i64 Hn, .slice B (Hn * Wn) d], .int .i64 0]) (by simp [results, Tryd.results20, go_sem, q0, q1, q2, q3, q4]) rfl ⟨B, d, rfl, ?_, ?_⟩
  · have ho := own_ne hown hR (by decide)
    exact Rd.of_own (mk_end (mk_end (mk_end (mk_end (mk_end hown ho) ho) ho) ho) ho)
  · have hl := hR2.lt
    (repeat (first | exact Ext.refl _ | assumption | refine Ext.setCell ?_ (by first | (simp; done) | (simp; omega)) _ | refine Ext.drewN ?_ _ | refine Ext.alloc ?_ _ | refine Ext.drew ?_ | refine Ext.trans ?_ (by assumption)))
end Go.Proofs.YtjkalnboijkikaaDoor
