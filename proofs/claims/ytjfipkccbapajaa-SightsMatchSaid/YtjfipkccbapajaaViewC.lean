/- Contract: level.View of a right question. -/
import Derived.Test.YtjfipkccbapajaaViewB
namespace Go.Proofs.Ytjfipkccbapajaa
open Go.RowKit
attribute [local go_sem ↓] Go.wp_at_zero Go.wp_at_succ

set_option maxRecDepth 100000 in
set_option maxHeartbeats 3200000 in
theorem View_ok (X Y W H ax ay far : Int) (A : Option Addr) (n c eye : Nat) (l : List Nat) (w : World) (hn : l.length = n) (hd : Rd w A (flt l)) (hs : sightE X Y W H l eye [(ax, ay)] = 0) (hf0 : 0 ≤ far) (hf1 : far ≤ 512) :
    Calls Try.prog 63 #[.agg #[.int .i64 X, .int .i64 Y, .int .i64 W, .int .i64 H, .slice A n c], .agg #[.int .i64 ax, .int .i64 ay], .float .f32 eye, .int .i64 far] w fun e w' =>
      ∃ C, e = .returned (.tuple #[.slice C n n, .int .i64 0]) ∧ Rd w' C (boo (viewL X Y W l ax ay far eye n)) ∧ Ext w w' := by
  obtain ⟨f1, f2, f3, f4⟩ := sight_zero hs
  obtain ⟨g1, g2, g3⟩ := fieldE_parts f1
  have hr := RegOk.of_zero g1
  have hia : InR X Y W H ax ay := ins_zero f4 (ax, ay) (by simp)
  have hhl := (numE_zero g3).2
  have hhe := (numE_zero f2).2 eye (by simp)
  have hb : n ≤ 65536 := by
    have := (regE_zero g1).2.2.2.2.1
    omega
  have hn0 : 0 < n := by
    have h1 := hr
    unfold RegOk at h1
    have h2 : 0 < W * H := Int.mul_pos (by omega) (by omega)
    omega
  have hnw : (n : Int) = W * H := by rw [← hn]; exact g2
  have HS := fun (k : Nat) (hk : k < n) (w' : World) (h : Rd w' A (flt l)) => hidA (seesV_any X Y W H ax ay (placeK X Y W k).1 (placeK X Y W k).2 A n c eye l w' hn hnw h hr hia (placeK_in hr hnw hk) hhl hhe)
  have HP := fun (k : Nat) (hk : k < n) => hidA (placeK_in hr hnw hk)
  have Hr := hidA hr
  have bd : (-4194304 ≤ ax ∧ ax ≤ 4194304) ∧ (-4194304 ≤ ay ∧ ay ≤ 4194304) := by
    unfold RegOk at hr
    unfold InR at hia
    omega
  obtain ⟨bd1, bd2⟩ := bd
  have hW : 1 ≤ W ∧ W ≤ 512 := by unfold RegOk at hr; omega
  have hXb : -4194304 ≤ X ∧ X ≤ 4194304 ∧ -4194304 ≤ Y ∧ Y ≤ 4194304 := by unfold RegOk at hr; omega
  obtain ⟨hX1, hX2, hY1, hY2⟩ := hXb
  obtain ⟨hW1, hW2⟩ := hW
  have b0 := hidA hs
  have Hn := hidA hn
  clear hs f1 f2 f3 f4 g1 g2 g3 hr hia hhl hhe hnw hn
  obtain ⟨Wn, rfl⟩ := Int.eq_ofNat_of_zero_le (show 0 ≤ W by omega)
  have hmk := mk_bool n (by omega)
  go_enter Try.func63, Try.ntmps63
  go_wp2_with fail
  refine (checkSight_any X Y Wn H A _ n c 1 1 eye l [(ax, ay)] _ Hn.out (((hd.alloc _).alloc _).alloc _) (by omega) rfl (Rd.new (by simp) rfl) (by omega)).mono ?_
  rw [b0.out]
  rintro e w1 ⟨rfl, hb1⟩
  have hB0 : Bk w1 w.heap.size 48 #[.int .i64 X, .int .i64 Y, .int .i64 Wn, .int .i64 H, .slice A n c] := (((Bk.new' rfl).alloc _).alloc _).ext hb1
  have hB1 : Bk w1 (w.heap.size + 1) 31 #[.int .i64 ax, .int .i64 ay] := ((Bk.new' (by simp)).alloc _).ext hb1
  have hd1 := (((hd.alloc _).alloc _).alloc _).ext hb1
  have hx1 : Ext w w1 := ((((Ext.refl w).alloc _).alloc _).alloc _).trans hb1
  have d4 := hB0.cell 4
  clear hd hb1
  go_wp2_with fail
  clear d4 hmk
  go_loopw [34] (fun i wr => ∃ k : Nat, k ≤ n ∧ i = .int .i64 k ∧ Ext w1 wr ∧ Bk wr w1.heap.size 4 (viewC (viewB X Y Wn l ax ay far eye) n k)) (fun i _ => n - (intOf i).toNat)
  case atStart => exact ⟨0, by omega, rfl, (by repeat (first | exact Ext.refl _ | assumption | refine Ext.setCell ?_ (by first | (simp; done) | (simp; omega)) _ | refine Ext.drewN ?_ _ | refine Ext.alloc ?_ _ | refine Ext.drew ?_ | refine Ext.trans ?_ (by assumption))), by rw [← made_view, Nat.mul_one]; exact Bk.new _ _ _⟩
  case round =>
    obtain ⟨k, hk, rfl, hx, hG⟩ := hrel
    by_cases hlt : k < n
    · have hF0 := hB0.ext hx
      have hF1 := hB1.ext hx
      have hlw := hF1.lt
      have s0 : ∀ w', Ext wr w' → w'.cell? ⟨w.heap.size, 0, none⟩ = some (.int .i64 X) := fun w' h => (hF0.ext h).cell 0
      have s1 : ∀ w', Ext wr w' → w'.cell? ⟨w.heap.size, 1, none⟩ = some (.int .i64 Y) := fun w' h => (hF0.ext h).cell 1
      have s2 : ∀ w', Ext wr w' → w'.cell? ⟨w.heap.size, 2, none⟩ = some (.int .i64 Wn) := fun w' h => (hF0.ext h).cell 2
      have HS := HS k hlt
      have HPk := HP k hlt
      have hpx : (placeK X Y Wn k).1 = X + (k : Int) % (Wn : Int) := by simp [placeK]
      have hpy : (placeK X Y Wn k).2 = Y + (k : Int) / (Wn : Int) := by simp [placeK]
      have HV : Hid (viewB X Y Wn l ax ay far eye k = (decide (stepsZ ax ay (X + (k : Int) % (Wn : Int)) (Y + (k : Int) / (Wn : Int)) ≤ far) && seesV X Y Wn l ax ay (X + (k : Int) % (Wn : Int)) (Y + (k : Int) / (Wn : Int)) eye)) := by
        show _ = _
        unfold viewB
        rw [hpx, hpy]
      rw [hpx, hpy] at HS HPk
      obtain ⟨y1, y2, z6, hbx, hby⟩ := place_facts (k := k) (Wn := Wn) (X := X) (Y := Y) (by omega) (by omega) (by omega) hX1 hX2 hY1 hY2
      clear hpx hpy HP
      have z0 : ¬ (Wn = 0) := by omega
      go_wp2_with fail
      refine wp_region_noPanic ?_
      refine wp_region_held_drew (S := fun w' => Ext wr w') (by kernel_rfl) ?_ (fun hHeld => ?_)
      · (repeat (first | exact Ext.refl _ | assumption | refine Ext.setCell ?_ (by first | (simp; done) | (simp; omega)) _ | refine Ext.drewN ?_ _ | refine Ext.alloc ?_ _ | refine Ext.drew ?_ | refine Ext.trans ?_ (by assumption)))
      refine wpAnyH_take (i := 0) (oi := ?o1x0) (v := ?v1x0) ?hi1x0 (by kernel_rfl) ?hf1x0 ?hr1x0 (fun _ _ _ h => h) ?hy1x0 (by assumption) ?rest1x0
      case hi1x0 => (simp only [List.getElem?_toArray, List.getElem?_cons_zero]; exact rfl)
      case hf1x0 => kernel_rfl
      case hr1x0 => kernel_rfl
      case hy1x0 => (refine Or.inl ⟨by rfl, ?_⟩; intro w hSw; (try dsimp only at hSw); go_simp; try with_reducible rfl)
      simp only [put_mk, List.set_cons_succ, List.set_cons_zero]
      refine wpAnyH_take (i := 1) (oi := ?o1x1) (v := ?v1x1) ?hi1x1 (by kernel_rfl) ?hf1x1 ?hr1x1 (fun _ _ _ h => h) ?hy1x1 (by assumption) ?rest1x1
      case hi1x1 => (simp only [List.getElem?_toArray, List.getElem?_cons_succ, List.getElem?_cons_zero]; exact rfl)
      case hf1x1 => kernel_rfl
      case hr1x1 => kernel_rfl
      case hy1x1 => (refine Or.inl ⟨by rfl, ?_⟩; intro w hSw; (try dsimp only at hSw); go_simp; try with_reducible rfl)
      simp only [put_mk, List.set_cons_succ, List.set_cons_zero]
      refine wpAnyH_take (i := 2) (oi := ?o1x2) (v := ?v1x2) ?hi1x2 (by kernel_rfl) ?hf1x2 ?hr1x2 (fun _ _ _ h => h) ?hy1x2 (by assumption) ?rest1x2
      case hi1x2 => (simp only [List.getElem?_toArray, List.getElem?_cons_succ, List.getElem?_cons_zero]; exact rfl)
      case hf1x2 => kernel_rfl
      case hr1x2 => kernel_rfl
      case hy1x2 => (refine Or.inl ⟨by rfl, ?_⟩; intro w hSw; (try dsimp only at hSw); go_simp; try with_reducible rfl)
      simp only [put_mk, List.set_cons_succ, List.set_cons_zero]
      refine wpAnyH_take (i := 3) (oi := ?o1x3) (v := ?v1x3) ?hi1x3 (by kernel_rfl) ?hf1x3 ?hr1x3 (fun _ _ _ h => h) ?hy1x3 (by assumption) ?rest1x3
      case hi1x3 => (simp only [List.getElem?_toArray, List.getElem?_cons_succ, List.getElem?_cons_zero]; exact rfl)
      case hf1x3 => kernel_rfl
      case hr1x3 => kernel_rfl
      case hy1x3 => (refine Or.inl ⟨by rfl, ?_⟩; intro w hSw; (try dsimp only at hSw); go_simp; try with_reducible rfl)
      simp only [put_mk, List.set_cons_succ, List.set_cons_zero]
      refine wpAnyH_take (i := 4) (oi := ?o1x4) (v := ?v1x4) ?hi1x4 (by kernel_rfl) ?hf1x4 ?hr1x4 (fun _ _ _ h => h) ?hy1x4 (by assumption) ?rest1x4
      case hi1x4 => (simp only [List.getElem?_toArray, List.getElem?_cons_succ, List.getElem?_cons_zero]; exact rfl)
      case hf1x4 => kernel_rfl
      case hr1x4 => kernel_rfl
      case hy1x4 => (refine Or.inl ⟨by rfl, ?_⟩; intro w hSw; (try dsimp only at hSw); go_simp; try with_reducible rfl)
      simp only [put_mk, List.set_cons_succ, List.set_cons_zero]
      refine wpAnyH_take (i := 5) (oi := ?o1x5) (v := ?v1x5) ?hi1x5 (by kernel_rfl) ?hf1x5 ?hr1x5 (fun _ _ _ h => h) ?hy1x5 (by assumption) ?rest1x5
      case hi1x5 => (simp only [List.getElem?_toArray, List.getElem?_cons_succ, List.getElem?_cons_zero]; exact rfl)
      case hf1x5 => kernel_rfl
      case hr1x5 => kernel_rfl
      case hy1x5 => (refine Or.inl ⟨by rfl, ?_⟩; intro w hSw; (try dsimp only at hSw); go_simp; try with_reducible rfl)
      simp only [put_mk, List.set_cons_succ, List.set_cons_zero]
      refine wpAnyH_take (i := 6) (oi := ?o1x6) (v := ?v1x6) ?hi1x6 (by kernel_rfl) ?hf1x6 ?hr1x6 (fun _ _ _ h => h) ?hy1x6 (by assumption) ?rest1x6
      case hi1x6 => (simp only [List.getElem?_toArray, List.getElem?_cons_succ, List.getElem?_cons_zero]; exact rfl)
      case hf1x6 => kernel_rfl
      case hr1x6 => kernel_rfl
      case hy1x6 => (refine Or.inl ⟨by rfl, ?_⟩; intro w hSw; (try dsimp only at hSw); go_simp; try with_reducible rfl)
      simp only [put_mk, List.set_cons_succ, List.set_cons_zero]
      refine wpAnyH_take (i := 7) (oi := ?o1x7) (v := ?v1x7) ?hi1x7 (by kernel_rfl) ?hf1x7 ?hr1x7 (fun _ _ _ h => h) ?hy1x7 (by assumption) ?rest1x7
      case hi1x7 => (simp only [List.getElem?_toArray, List.getElem?_cons_succ, List.getElem?_cons_zero]; exact rfl)
      case hf1x7 => kernel_rfl
      case hr1x7 => kernel_rfl
      case hy1x7 => (refine Or.inl ⟨by rfl, ?_⟩; intro w hSw; (try dsimp only at hSw); go_simp; try with_reducible rfl)
      simp only [put_mk, List.set_cons_succ, List.set_cons_zero]
      refine wpAnyH_take (i := 8) (oi := ?o1x8) (v := ?v1x8) ?hi1x8 (by kernel_rfl) ?hf1x8 ?hr1x8 (fun _ _ _ h => h) ?hy1x8 (by assumption) ?rest1x8
      case hi1x8 => (simp only [List.getElem?_toArray, List.getElem?_cons_succ, List.getElem?_cons_zero]; exact rfl)
      case hf1x8 => kernel_rfl
      case hr1x8 => kernel_rfl
      case hy1x8 => (refine Or.inl ⟨by rfl, ?_⟩; intro w hSw; (try dsimp only at hSw); go_simp; try with_reducible rfl)
      simp only [put_mk, List.set_cons_succ, List.set_cons_zero]
      refine wpAnyH_take (i := 9) (oi := ?o1x9) (v := ?v1x9) ?hi1x9 (by kernel_rfl) ?hf1x9 ?hr1x9 (fun _ _ _ h => h) ?hy1x9 (by assumption) ?rest1x9
      case hi1x9 => (simp only [List.getElem?_toArray, List.getElem?_cons_succ, List.getElem?_cons_zero]; exact rfl)
      case hf1x9 => kernel_rfl
      case hr1x9 => kernel_rfl
      case hy1x9 => (refine Or.inl ⟨by rfl, ?_⟩; intro w hSw; (try dsimp only at hSw); go_simp; try with_reducible rfl)
      simp only [put_mk, List.set_cons_succ, List.set_cons_zero]
      refine wpAnyH_take (i := 10) (oi := ?o1x10) (v := ?v1x10) ?hi1x10 (by kernel_rfl) ?hf1x10 ?hr1x10 (fun _ _ _ h => h) ?hy1x10 (by assumption) ?rest1x10
      case hi1x10 => (simp only [List.getElem?_toArray, List.getElem?_cons_succ, List.getElem?_cons_zero]; exact rfl)
      case hf1x10 => kernel_rfl
      case hr1x10 => kernel_rfl
      case hy1x10 => (refine Or.inl ⟨by rfl, ?_⟩; intro w hSw; (try dsimp only at hSw); go_simp; try with_reducible rfl)
      simp only [put_mk, List.set_cons_succ, List.set_cons_zero]
      refine wpAnyH_take (i := 11) (oi := ?o1x11) (v := ?v1x11) ?hi1x11 (by kernel_rfl) ?hf1x11 ?hr1x11 (fun _ _ _ h => h) ?hy1x11 (by assumption) ?rest1x11
      case hi1x11 => (simp only [List.getElem?_toArray, List.getElem?_cons_succ, List.getElem?_cons_zero]; exact rfl)
      case hf1x11 => kernel_rfl
      case hr1x11 => kernel_rfl
      case hy1x11 => (refine Or.inl ⟨by rfl, ?_⟩; intro w hSw; (try dsimp only at hSw); go_simp; try with_reducible rfl)
      simp only [put_mk, List.set_cons_succ, List.set_cons_zero]
      refine wpAnyH_take (i := 12) (oi := ?o1x12) (v := ?v1x12) ?hi1x12 (by kernel_rfl) ?hf1x12 ?hr1x12 (fun _ _ _ h => h) ?hy1x12 (by assumption) ?rest1x12
      case hi1x12 => (simp only [List.getElem?_toArray, List.getElem?_cons_succ, List.getElem?_cons_zero]; exact rfl)
      case hf1x12 => kernel_rfl
      case hr1x12 => kernel_rfl
      case hy1x12 => (refine Or.inl ⟨by rfl, ?_⟩; intro w hSw; (try dsimp only at hSw); go_simp; try with_reducible rfl)
      simp only [put_mk, List.set_cons_succ, List.set_cons_zero]
      refine wpAnyH_take (i := 13) (oi := ?o1x13) (v := ?v1x13) ?hi1x13 (by kernel_rfl) ?hf1x13 ?hr1x13 (fun _ _ _ h => h) ?hy1x13 (by assumption) ?rest1x13
      case hi1x13 => (simp only [List.getElem?_toArray, List.getElem?_cons_succ, List.getElem?_cons_zero]; exact rfl)
      case hf1x13 => kernel_rfl
      case hr1x13 => kernel_rfl
      case hy1x13 => (refine Or.inl ⟨by rfl, ?_⟩; intro w hSw; (try dsimp only at hSw); go_simp; try with_reducible rfl)
      simp only [put_mk, List.set_cons_succ, List.set_cons_zero]
      refine wpAnyH_take (i := 14) (oi := ?o1x14) (v := ?v1x14) ?hi1x14 (by kernel_rfl) ?hf1x14 ?hr1x14 (fun _ _ _ h => h) ?hy1x14 (by assumption) ?rest1x14
      case hi1x14 => (simp only [List.getElem?_toArray, List.getElem?_cons_succ, List.getElem?_cons_zero]; exact rfl)
      case hf1x14 => kernel_rfl
      case hr1x14 => kernel_rfl
      case hy1x14 => (refine Or.inl ⟨by rfl, ?_⟩; intro w hSw; (try dsimp only at hSw); go_simp; try with_reducible rfl)
      simp only [put_mk, List.set_cons_succ, List.set_cons_zero]
      refine wpAnyH_take (i := 15) (oi := ?o1x15) (v := ?v1x15) ?hi1x15 (by kernel_rfl) ?hf1x15 ?hr1x15 (fun _ _ _ h => h) ?hy1x15 (by assumption) ?rest1x15
      case hi1x15 => (simp only [List.getElem?_toArray, List.getElem?_cons_succ, List.getElem?_cons_zero]; exact rfl)
      case hf1x15 => kernel_rfl
      case hr1x15 => kernel_rfl
      case hy1x15 => (refine Or.inl ⟨by rfl, ?_⟩; intro w hSw; (try dsimp only at hSw); go_simp; try with_reducible rfl)
      simp only [put_mk, List.set_cons_succ, List.set_cons_zero]
      refine wpAnyH_take (i := 16) (oi := ?o1x16) (v := ?v1x16) ?hi1x16 (by kernel_rfl) ?hf1x16 ?hr1x16 (fun _ _ _ h => h) ?hy1x16 (by assumption) ?rest1x16
      case hi1x16 => (simp only [List.getElem?_toArray, List.getElem?_cons_succ, List.getElem?_cons_zero]; exact rfl)
      case hf1x16 => kernel_rfl
      case hr1x16 => kernel_rfl
      case hy1x16 => (refine Or.inl ⟨by rfl, ?_⟩; intro w hSw; (try dsimp only at hSw); go_simp; try with_reducible rfl)
      simp only [put_mk, List.set_cons_succ, List.set_cons_zero]
      refine wpAnyH_take (i := 17) (oi := ?o1x17) (v := ?v1x17) ?hi1x17 (by kernel_rfl) ?hf1x17 ?hr1x17 (fun _ _ _ h => h) ?hy1x17 (by assumption) ?rest1x17
      case hi1x17 => (simp only [List.getElem?_toArray, List.getElem?_cons_succ, List.getElem?_cons_zero]; exact rfl)
      case hf1x17 => kernel_rfl
      case hr1x17 => kernel_rfl
      case hy1x17 => (refine Or.inl ⟨by rfl, ?_⟩; intro w hSw; (try dsimp only at hSw); go_simp; try with_reducible rfl)
      simp only [put_mk, List.set_cons_succ, List.set_cons_zero]
      refine wpAnyH_take (i := 18) (oi := ?o1x18) (v := ?v1x18) ?hi1x18 (by kernel_rfl) ?hf1x18 ?hr1x18 (fun _ _ _ h => h) ?hy1x18 (by assumption) ?rest1x18
      case hi1x18 => (simp only [List.getElem?_toArray, List.getElem?_cons_succ, List.getElem?_cons_zero]; exact rfl)
      case hf1x18 => kernel_rfl
      case hr1x18 => kernel_rfl
      case hy1x18 => (refine Or.inl ⟨by rfl, ?_⟩; intro w hSw; (try dsimp only at hSw); go_simp; try with_reducible rfl)
      simp only [put_mk, List.set_cons_succ, List.set_cons_zero]
      refine wpAnyH_ready (rs := [19]) (by kernel_rfl) (by simp) ?_
      refine AllReadyH.cons (o := ?o1x19) ?hi1x19 (fun K hK => ?_) AllReadyH.nil
      case hi1x19 => (simp only [List.getElem?_toArray, List.getElem?_cons_succ, List.getElem?_cons_zero]; exact rfl)
      go_simp
      refine hK.out _ _ ?_ (fun hHeld => ?_)
      · (repeat (first | exact Ext.refl _ | assumption | refine Ext.setCell ?_ (by first | (simp; done) | (simp; omega)) _ | refine Ext.drewN ?_ _ | refine Ext.alloc ?_ _ | refine Ext.drew ?_ | refine Ext.trans ?_ (by assumption)))
      clear hK K
      refine wpAnyH_ready (rs := [20]) (by kernel_rfl) (by simp) ?_
      refine AllReadyH.cons (o := ?o1x20) ?hi1x20 (fun K hK => ?_) AllReadyH.nil
      case hi1x20 => (simp only [List.getElem?_toArray, List.getElem?_cons_succ, List.getElem?_cons_zero]; exact rfl)
      go_simp
      refine hK.out _ _ ?_ (fun hHeld => ?_)
      · (repeat (first | exact Ext.refl _ | assumption | refine Ext.setCell ?_ (by first | (simp; done) | (simp; omega)) _ | refine Ext.drewN ?_ _ | refine Ext.alloc ?_ _ | refine Ext.drew ?_ | refine Ext.trans ?_ (by assumption)))
      clear hK K
      refine wpAnyH_done (by kernel_rfl) ?_ _
      refine NoPanic.normal ?_
      have e0 := hF1.cell 0
      have e1 := hF1.cell 1
      clear z0 s0 s1 s2 y1 y2 z6
      go_wp2_with fail
      refine (steps_any _ _ _ _ _ (by omega) (by omega) hbx hby).mono ?_
      rintro e w5 ⟨rfl, hb5⟩
      generalize hpxe : X + (k : Int) % (Wn : Int) = px at *
      generalize hpye : Y + (k : Int) / (Wn : Int) = py at *
      clear hpxe hpye
      have hP5 : Bk w5 wr.heap.size 31 #[.int .i64 px, .int .i64 py] := ((Bk.new wr 31 #[.int .i64 px, .int .i64 py]).drew).ext hb5
      have hx5 : Ext wr w5 := (((Ext.refl wr).alloc _).drew).trans hb5
      have hF5 := hF0.ext hx5
      have hE5 := hF1.ext hx5
      have hG5 := hG.ext hx5
      have hr5 := (hd1.ext hx).ext hx5
      have k0 : (0 : Int) ≤ k := by omega
      have k1 : (k : Int) < n := by omega
      clear e0 e1 hF0 hF1 hG hb5
      by_cases hst : stepsZ ax ay px py ≤ far
      · have HV2 : Hid (viewB X Y Wn l ax ay far eye k = seesV X Y Wn l ax ay px py eye) := by show _ = _; rw [HV.out]; simp [hst]
        have t0 : decide (stepsZ ax ay px py ≤ far) = true := by simpa using hst
        have d0 := hF5.cell 0
        have d1 := hF5.cell 1
        have d2 := hF5.cell 2
        have d3 := hF5.cell 3
        have d4 := hF5.cell 4
        have d5 := hE5.cell 0
        have d6 := hE5.cell 1
        have d7 := hP5.cell 0
        have d8 := hP5.cell 1
        go_wp2_with fail
        refine ((HS _ hr5).out).mono ?_
        rintro e w6 ⟨rfl, hb6⟩
        have hG6 := hG5.ext hb6
        have c0 : w6.cell? ⟨w1.heap.size, k, none⟩ = _ := (hG6.cell k).trans (viewC_get _ n k k hlt)
        have c1 := hG6.frozen k
        clear d0 d1 d2 d3 d4 d5 d6 d7 d8
        go_wp2_with fail
        exact ⟨⟨k + 1, by omega, by go_num, (hx.trans (hx5.trans hb6)).setCell (by simp) _, by rw [← viewC_set, HV2.out]; exact hG6.set k _⟩, by simp [intOf]; omega⟩
      · have HV2 : Hid (viewB X Y Wn l ax ay far eye k = false) := by show _ = _; rw [HV.out]; simp [hst]
        have t0 : decide (stepsZ ax ay px py ≤ far) = false := by simpa using hst
        have c0 : w5.cell? ⟨w1.heap.size, k, none⟩ = _ := (hG5.cell k).trans (viewC_get _ n k k hlt)
        have c1 := hG5.frozen k
        go_wp2_with fail
        exact ⟨⟨k + 1, by omega, by go_num, (hx.trans hx5).setCell (by simp) _, by rw [← viewC_set, HV2.out]; exact hG5.set k _⟩, by simp [intOf]; omega⟩
    · obtain rfl : k = n := by omega
      clear HS HP
      go_wp2
      go_ret2
      refine ⟨_, rfl, ?_, hx1.trans hx⟩
      have h := viewC_all (viewB X Y Wn l ax ay far eye) k
      intro _
      refine ⟨_, rfl, hG.lt, fun j u hu => ?_⟩
      rw [lit_add, hG.cell j]
      unfold viewL at hu
      rw [← h] at hu
      simpa using hu
end Go.Proofs.Ytjfipkccbapajaa
