/- The walk of the law SightsMatch, case B. -/
import Derived.Test.YtjfipkccbapajaaSightsC
import Derived.Deep.DeepCutAuto
import Derived.BigRegion
import Derived.BigQuiet
namespace Go.Proofs.Ytjfipkccbapajaa
open Go.RowKit
attribute [local go_sem ↓] Go.wp_at_zero Go.wp_at_succ
attribute [local go_sem] run_max4

set_option maxRecDepth 100000 in
set_option maxHeartbeats 6400000 in
theorem sights_B (X Y W H ax ay bx by' far dir : Int) (A : Option Addr) (n c eye : Nat) (l : List Nat) (w : World) (hn : l.length = n) (hd : Rd w A (flt l)) (hb : n ≤ 140737488351232) (hE : askE X Y W H l eye ax ay = 0) :
    Calls Try.prog 9 #[.agg #[.int .i64 X, .int .i64 Y, .int .i64 W, .int .i64 H, .slice A n c], .agg #[.int .i64 ax, .int .i64 ay], .agg #[.int .i64 bx, .int .i64 by'], .float .f32 eye, .int .i64 far, .int .i64 dir] w fun e w' => e = .returned (.bool true) ∧ Ext w w' := by
  have Hn := hidA hn
  have HE := hidA hE
  obtain ⟨f1, f2, f3, f4⟩ := sight_zero hE
  obtain ⟨g1, g2, g3⟩ := fieldE_parts f1
  have hr := RegOk.of_zero g1
  have hia : InR X Y W H ax ay := ins_zero f4 (ax, ay) (by simp)
  have Hh := hidA (numE_zero g3).2
  have Hy := hidA ((numE_zero f2).2 eye (by simp))
  have hnb : n ≤ 65536 := by
    have := (regE_zero g1).2.2.2.2.1
    omega
  have hnw : (n : Int) = W * H := by rw [← hn]; exact g2
  have Hnw := hidA hnw
  have Hr := hidA hr
  have Ha := hidA hia
  have bd : (-4194304 ≤ ax ∧ ax ≤ 4194304) ∧ (-4194304 ≤ ay ∧ ay ≤ 4194304) := by
    unfold RegOk at hr
    unfold InR at hia
    omega
  obtain ⟨bd1, bd2⟩ := bd
  have HAd : Hid (∃ ad, A = some ad) := by
    obtain ⟨ka, hka, hkal, hkav⟩ := valAt_get (l := l) hr hia (by rw [hn]; exact hnw)
    obtain ⟨ad, rfl, _, _⟩ := hd.at (k := ka) (by simpa using hkal)
    exact ⟨ad, rfl⟩
  clear hn hE f1 f2 f3 f4 g1 g2 g3 hr hia hnw
  go_enter Try.func9, Try.ntmps9
  go_wp2_with fail
  refine (Sees_0 X Y W H ax ay bx by' A n c eye l _ Hn.out (((hd.alloc _).alloc _).alloc _) hb HE.out).mono ?_
  rintro e w1 ⟨r1, v1, rfl, hb1, hs1, hs2⟩
  have Hs1 := hidA hs1
  have Hs2 := hidA hs2
  clear hs1 hs2
  have hF1 : Bk w1 w.heap.size 48 #[.int .i64 X, .int .i64 Y, .int .i64 W, .int .i64 H, .slice A n c] := (((Bk.new' rfl).alloc _).alloc _).ext hb1
  have hA1 : Bk w1 (w.heap.size + 1) 31 #[.int .i64 ax, .int .i64 ay] := ((Bk.new' (by simp)).alloc _).ext hb1
  have hB1 : Bk w1 (w.heap.size + 1 + 1) 31 #[.int .i64 bx, .int .i64 by'] := (Bk.new' (by simp)).ext hb1
  have hd1 := (((hd.alloc _).alloc _).alloc _).ext hb1
  have hx1 : Ext w w1 := ((((Ext.refl w).alloc _).alloc _).alloc _).trans hb1
  clear hd hb1
  have d0 := hF1.cell 0
  have d1 := hF1.cell 1
  have d2 := hF1.cell 2
  have d3 := hF1.cell 3
  have d4 := hF1.cell 4
  have d5 := hA1.cell 0
  have d6 := hA1.cell 1
  go_wp2_with fail
  refine (View_0 X Y W H ax ay far A n c eye l _ Hn.out hd1 hb HE.out).mono ?_
  rintro e w2 ⟨r2, v2, rfl, hb2, hs1, hs2⟩
  have Hv1 := hidA hs1
  have Hv2 := hidA hs2
  clear hs1 hs2
  clear d0 d1 d2 d3 d4 d5 d6
  have hF2 := hF1.ext hb2
  have hA2 := hA1.ext hb2
  have d0 := hF2.cell 0
  have d1 := hF2.cell 1
  have d2 := hF2.cell 2
  have d3 := hF2.cell 3
  have d4 := hF2.cell 4
  have d5 := hA2.cell 0
  have d6 := hA2.cell 1
  go_wp2_with fail
  refine (Horizon_0 X Y W H ax ay dir A n c eye l _ Hn.out (hd1.ext hb2) hb HE.out).mono ?_
  rintro e w3 ⟨r3, i3, v3, rfl, hb3, hs1, hs2⟩
  have Hh1 := hidA hs1
  have Hh2 := hidA hs2
  have Hb3 := hidA hb3
  clear hs1 hs2
  clear d0 d1 d2 d3 d4 d5 d6
  have hF3 := hF2.ext hb3
  have hA3 := hA2.ext hb3
  have hB3 := (hB1.ext hb2).ext hb3
  have hd3 := (hd1.ext hb2).ext hb3
  have hx3 := (hx1.trans hb2).trans hb3
  have s0 : ∀ w', Ext w3 w' → w'.cell? ⟨w.heap.size, 0, none⟩ = some (.int .i64 X) := fun w' h => (hF3.ext h).cell 0
  have s1 : ∀ w', Ext w3 w' → w'.cell? ⟨w.heap.size, 1, none⟩ = some (.int .i64 Y) := fun w' h => (hF3.ext h).cell 1
  have s2 : ∀ w', Ext w3 w' → w'.cell? ⟨w.heap.size, 2, none⟩ = some (.int .i64 W) := fun w' h => (hF3.ext h).cell 2
  have s3 : ∀ w', Ext w3 w' → w'.cell? ⟨w.heap.size, 3, none⟩ = some (.int .i64 H) := fun w' h => (hF3.ext h).cell 3
  have s4 : ∀ w', Ext w3 w' → w'.cell? ⟨w.heap.size, 4, none⟩ = some (.slice A n c) := fun w' h => (hF3.ext h).cell 4
  have s5 : ∀ w', Ext w3 w' → w'.cell? ⟨w.heap.size + 1, 0, none⟩ = some (.int .i64 ax) := fun w' h => (hA3.ext h).cell 0
  have s6 : ∀ w', Ext w3 w' → w'.cell? ⟨w.heap.size + 1, 1, none⟩ = some (.int .i64 ay) := fun w' h => (hA3.ext h).cell 1
  have s7 : ∀ w', Ext w3 w' → w'.cell? ⟨w.heap.size + 1 + 1, 0, none⟩ = some (.int .i64 bx) := fun w' h => (hB3.ext h).cell 0
  have s8 : ∀ w', Ext w3 w' → w'.cell? ⟨w.heap.size + 1 + 1, 1, none⟩ = some (.int .i64 by') := fun w' h => (hB3.ext h).cell 1
  have hD : ∀ w', Ext w3 w' → Rd w' A (flt l) := fun w' h => hd3.ext h
  have HFE := fun (w' : World) (h : Ext w3 w') => hidA (fieldError_any X Y W H A n c l w' Hn.out (hD w' h) hb)
  clear hF1 hA1 hB1 hF2 hA2 hd1 hd3 hF3 hA3 hB3 hx1 hb2 hb3
  go_upto_region 4 with fail
  go_cut [20] from 58 to 76 (fun s20 wx => s20 = .int .i64 0 ∧ Ext w3 wx)
  case first =>
    refine wp_region_noPanic ?_
    refine wp_region_held_drew (S := fun w' => Ext w3 w') (by kernel_rfl) ?_ (fun hHeld => ?_)
    · (repeat (first | exact Ext.refl _ | assumption | refine Ext.setCell ?_ (by first | (simp; done) | (simp; omega)) _ | refine Ext.drewN ?_ _ | refine Ext.alloc ?_ _ | refine Ext.drew ?_ | refine Ext.trans ?_ (by assumption)))
    refine wpAnyH_take (i := 0) (oi := ?o34x0) (v := ?v34x0) ?hi34x0 (by kernel_rfl) ?hf34x0 ?hr34x0 (fun _ _ _ h => h) ?hy34x0 (by assumption) ?rest34x0
    case hi34x0 => (simp only [List.getElem?_toArray, List.getElem?_cons_zero]; exact rfl)
    case hf34x0 => kernel_rfl
    case hr34x0 => kernel_rfl
    case hy34x0 => (refine Or.inl ⟨by rfl, ?_⟩; intro w hSw; (try dsimp only at hSw); go_simp; try with_reducible rfl)
    simp only [put_mk, List.set_cons_succ, List.set_cons_zero]
    refine wpAnyH_take (i := 2) (oi := ?o35x2) (v := ?v35x2) ?hi35x2 (by kernel_rfl) ?hf35x2 ?hr35x2 (fun _ _ _ h => h) ?hy35x2 (by assumption) ?rest35x2
    case hi35x2 => (simp only [List.getElem?_toArray, List.getElem?_cons_succ, List.getElem?_cons_zero]; exact rfl)
    case hf35x2 => kernel_rfl
    case hr35x2 => kernel_rfl
    case hy35x2 => (refine Or.inl ⟨by rfl, ?_⟩; intro w hSw; (try dsimp only at hSw); go_simp; try with_reducible rfl)
    simp only [put_mk, List.set_cons_succ, List.set_cons_zero]
    refine wpAnyH_take (i := 5) (oi := ?o36x5) (v := ?v36x5) ?hi36x5 (by kernel_rfl) ?hf36x5 ?hr36x5 (fun _ _ _ h => h) ?hy36x5 (by assumption) ?rest36x5
    case hi36x5 => (simp only [List.getElem?_toArray, List.getElem?_cons_succ, List.getElem?_cons_zero]; exact rfl)
    case hf36x5 => kernel_rfl
    case hr36x5 => kernel_rfl
    case hy36x5 => (refine Or.inl ⟨by rfl, ?_⟩; intro w hSw; (try dsimp only at hSw); go_simp; try with_reducible rfl)
    simp only [put_mk, List.set_cons_succ, List.set_cons_zero]
    refine wpAnyH_take (i := 6) (oi := ?o37x6) (v := ?v37x6) ?hi37x6 (by kernel_rfl) ?hf37x6 ?hr37x6 (fun _ _ _ h => h) ?hy37x6 (by assumption) ?rest37x6
    case hi37x6 => (simp only [List.getElem?_toArray, List.getElem?_cons_succ, List.getElem?_cons_zero]; exact rfl)
    case hf37x6 => kernel_rfl
    case hr37x6 => kernel_rfl
    case hy37x6 => (refine Or.inl ⟨by rfl, ?_⟩; intro w hSw; (try dsimp only at hSw); go_simp; try with_reducible rfl)
    simp only [put_mk, List.set_cons_succ, List.set_cons_zero]
    refine wpAnyH_take (i := 8) (oi := ?o38x8) (v := ?v38x8) ?hi38x8 (by kernel_rfl) ?hf38x8 ?hr38x8 (fun _ _ _ h => h) ?hy38x8 (by assumption) ?rest38x8
    case hi38x8 => (simp only [List.getElem?_toArray, List.getElem?_cons_succ, List.getElem?_cons_zero]; exact rfl)
    case hf38x8 => kernel_rfl
    case hr38x8 => kernel_rfl
    case hy38x8 => (refine Or.inl ⟨by rfl, ?_⟩; intro w hSw; (try dsimp only at hSw); go_simp; try with_reducible rfl)
    simp only [put_mk, List.set_cons_succ, List.set_cons_zero]
    refine wpAnyH_take (i := 9) (oi := ?o39x9) (v := ?v39x9) ?hi39x9 (by kernel_rfl) ?hf39x9 ?hr39x9 (fun _ _ _ h => h) ?hy39x9 (by assumption) ?rest39x9
    case hi39x9 => (simp only [List.getElem?_toArray, List.getElem?_cons_succ, List.getElem?_cons_zero]; exact rfl)
    case hf39x9 => kernel_rfl
    case hr39x9 => kernel_rfl
    case hy39x9 => (refine Or.inl ⟨by rfl, ?_⟩; intro w hSw; (try dsimp only at hSw); go_simp; try with_reducible rfl)
    simp only [put_mk, List.set_cons_succ, List.set_cons_zero]
    refine wpAnyH_take (i := 10) (oi := ?o40x10) (v := ?v40x10) ?hi40x10 (by kernel_rfl) ?hf40x10 ?hr40x10 (fun _ _ _ h => h) ?hy40x10 (by assumption) ?rest40x10
    case hi40x10 => (simp only [List.getElem?_toArray, List.getElem?_cons_succ, List.getElem?_cons_zero]; exact rfl)
    case hf40x10 => kernel_rfl
    case hr40x10 => kernel_rfl
    case hy40x10 => (refine Or.inl ⟨by rfl, ?_⟩; intro w hSw; (try dsimp only at hSw); go_simp; try with_reducible rfl)
    simp only [put_mk, List.set_cons_succ, List.set_cons_zero]
    refine wpAnyH_take (i := 11) (oi := ?o41x11) (v := ?v41x11) ?hi41x11 (by kernel_rfl) ?hf41x11 ?hr41x11 (fun _ _ _ h => h) ?hy41x11 (by assumption) ?rest41x11
    case hi41x11 => (simp only [List.getElem?_toArray, List.getElem?_cons_succ, List.getElem?_cons_zero]; exact rfl)
    case hf41x11 => kernel_rfl
    case hr41x11 => kernel_rfl
    case hy41x11 => (refine Or.inl ⟨by rfl, ?_⟩; intro w hSw; (try dsimp only at hSw); go_simp; try with_reducible rfl)
    simp only [put_mk, List.set_cons_succ, List.set_cons_zero]
    refine wpAnyH_take (i := 12) (oi := ?o42x12) (v := ?v42x12) ?hi42x12 (by kernel_rfl) ?hf42x12 ?hr42x12 (fun _ _ _ h => h) ?hy42x12 (by assumption) ?rest42x12
    case hi42x12 => (simp only [List.getElem?_toArray, List.getElem?_cons_succ, List.getElem?_cons_zero]; exact rfl)
    case hf42x12 => kernel_rfl
    case hr42x12 => kernel_rfl
    case hy42x12 => (refine Or.inl ⟨by rfl, ?_⟩; intro w hSw; (try dsimp only at hSw); go_simp; try with_reducible rfl)
    simp only [put_mk, List.set_cons_succ, List.set_cons_zero]
    refine wpAnyH_take (i := 13) (oi := ?o43x13) (v := ?v43x13) ?hi43x13 (by kernel_rfl) ?hf43x13 ?hr43x13 (fun _ _ _ h => h) ?hy43x13 (by assumption) ?rest43x13
    case hi43x13 => (simp only [List.getElem?_toArray, List.getElem?_cons_succ, List.getElem?_cons_zero]; exact rfl)
    case hf43x13 => kernel_rfl
    case hr43x13 => kernel_rfl
    case hy43x13 => (refine Or.inl ⟨by rfl, ?_⟩; intro w hSw; (try dsimp only at hSw); go_simp; try with_reducible rfl)
    simp only [put_mk, List.set_cons_succ, List.set_cons_zero]
    refine wpAnyH_ready (rs := [1, 3]) (by kernel_rfl) (by simp) ?_
    refine (AllReadyH.cons (o := ?o44x1) ?hi44x1 (fun K hK => ?_) (AllReadyH.cons (o := ?o44x3) ?hi44x3 (fun K hK => ?_) AllReadyH.nil))
    case hi44x1 => (simp only [List.getElem?_toArray, List.getElem?_cons_succ, List.getElem?_cons_zero]; exact rfl)
    case hi44x3 => (simp only [List.getElem?_toArray, List.getElem?_cons_succ, List.getElem?_cons_zero]; exact rfl)
    · go_simp
      refine ((HFE _ ?_).out).mono ?_
      · (repeat (first | exact Ext.refl _ | assumption | refine Ext.setCell ?_ (by first | (simp; done) | (simp; omega)) _ | refine Ext.drewN ?_ _ | refine Ext.alloc ?_ _ | refine Ext.drew ?_ | refine Ext.trans ?_ (by assumption)))
      rintro e w5 ⟨rfl, hb5⟩
      refine hK.out _ _ ?_ (fun hHeld => ?_)
      · (repeat (first | exact Ext.refl _ | assumption | refine Ext.setCell ?_ (by first | (simp; done) | (simp; omega)) _ | refine Ext.drewN ?_ _ | refine Ext.alloc ?_ _ | refine Ext.drew ?_ | refine Ext.trans ?_ (by assumption)))
      clear hK K
      refine wpAnyH_ready (rs := [3]) (by kernel_rfl) (by simp) ?_
      refine AllReadyH.cons (o := ?o45x3) ?hi45x3 (fun K hK => ?_) AllReadyH.nil
      case hi45x3 => (simp only [List.getElem?_toArray, List.getElem?_cons_succ, List.getElem?_cons_zero]; exact rfl)
      go_simp
      refine hK.out _ _ ?_ (fun hHeld => ?_)
      · (repeat (first | exact Ext.refl _ | assumption | refine Ext.setCell ?_ (by first | (simp; done) | (simp; omega)) _ | refine Ext.drewN ?_ _ | refine Ext.alloc ?_ _ | refine Ext.drew ?_ | refine Ext.trans ?_ (by assumption)))
      clear hK K
      refine wpAnyH_ready (rs := [4]) (by kernel_rfl) (by simp) ?_
      refine AllReadyH.cons (o := ?o46x4) ?hi46x4 (fun K hK => ?_) AllReadyH.nil
      case hi46x4 => (simp only [List.getElem?_toArray, List.getElem?_cons_succ, List.getElem?_cons_zero]; exact rfl)
      go_simp
      refine (numberError_any _ 1 1 [eye] _ rfl ?_ (by omega)).mono ?_
      · first | exact Rd.new (by first | rfl | simp) rfl | exact (Rd.new (by first | rfl | simp) rfl).ext hb5 | exact ((Rd.new (by first | rfl | simp) rfl).ext ((Ext.refl _).drew)).ext hb5
      rintro e w' ⟨rfl, rfl⟩
      refine hK.out _ _ ?_ (fun hHeld => ?_)
      · (repeat (first | exact Ext.refl _ | assumption | refine Ext.setCell ?_ (by first | (simp; done) | (simp; omega)) _ | refine Ext.drewN ?_ _ | refine Ext.alloc ?_ _ | refine Ext.drew ?_ | refine Ext.trans ?_ (by assumption)))
      clear hK K
      refine wpAnyH_ready (rs := [7]) (by kernel_rfl) (by simp) ?_
      refine AllReadyH.cons (o := ?o47x7) ?hi47x7 (fun K hK => ?_) AllReadyH.nil
      case hi47x7 => (simp only [List.getElem?_toArray, List.getElem?_cons_succ, List.getElem?_cons_zero]; exact rfl)
      go_simp
      refine (when_neg eye _).mono ?_
      rintro e w' ⟨rfl, rfl⟩
      refine hK.out _ _ ?_ (fun hHeld => ?_)
      · (repeat (first | exact Ext.refl _ | assumption | refine Ext.setCell ?_ (by first | (simp; done) | (simp; omega)) _ | refine Ext.drewN ?_ _ | refine Ext.alloc ?_ _ | refine Ext.drew ?_ | refine Ext.trans ?_ (by assumption)))
      clear hK K
      refine wpAnyH_ready (rs := [14]) (by kernel_rfl) (by simp) ?_
      refine AllReadyH.cons (o := ?o48x14) ?hi48x14 (fun K hK => ?_) AllReadyH.nil
      case hi48x14 => (simp only [List.getElem?_toArray, List.getElem?_cons_succ, List.getElem?_cons_zero]; exact rfl)
      go_simp
      refine (has_any X Y W H ax ay _).mono ?_
      rintro e w6 ⟨rfl, hb6⟩
      refine hK.out _ _ ?_ (fun hHeld => ?_)
      · (repeat (first | exact Ext.refl _ | assumption | refine Ext.setCell ?_ (by first | (simp; done) | (simp; omega)) _ | refine Ext.drewN ?_ _ | refine Ext.alloc ?_ _ | refine Ext.drew ?_ | refine Ext.trans ?_ (by assumption)))
      clear hK K
      refine wpAnyH_take (i := 15) (oi := ?o49x15) (v := ?v49x15) ?hi49x15 (by kernel_rfl) ?hf49x15 ?hr49x15 (fun _ _ _ h => h) ?hy49x15 (by assumption) ?rest49x15
      case hi49x15 => (simp only [List.getElem?_toArray, List.getElem?_cons_succ, List.getElem?_cons_zero]; exact rfl)
      case hf49x15 => kernel_rfl
      case hr49x15 => kernel_rfl
      case hy49x15 => (refine Or.inl ⟨by rfl, ?_⟩; intro w hSw; (try dsimp only at hSw); go_simp; try with_reducible rfl)
      simp only [put_mk, List.set_cons_succ, List.set_cons_zero]
      refine wpAnyH_ready (rs := [16]) (by kernel_rfl) (by simp) ?_
      refine AllReadyH.cons (o := ?o50x16) ?hi50x16 (fun K hK => ?_) AllReadyH.nil
      case hi50x16 => (simp only [List.getElem?_toArray, List.getElem?_cons_succ, List.getElem?_cons_zero]; exact rfl)
      go_simp
      refine (when_has X Y W H ax ay _).mono ?_
      rintro e w' ⟨rfl, rfl⟩
      refine hK.out _ _ ?_ (fun hHeld => ?_)
      · (repeat (first | exact Ext.refl _ | assumption | refine Ext.setCell ?_ (by first | (simp; done) | (simp; omega)) _ | refine Ext.drewN ?_ _ | refine Ext.alloc ?_ _ | refine Ext.drew ?_ | refine Ext.trans ?_ (by assumption)))
      clear hK K
      refine wpAnyH_ready (rs := [17]) (by kernel_rfl) (by simp) ?_
      refine AllReadyH.cons (o := ?o51x17) ?hi51x17 (fun K hK => ?_) AllReadyH.nil
      case hi51x17 => (simp only [List.getElem?_toArray, List.getElem?_cons_succ, List.getElem?_cons_zero]; exact rfl)
      go_simp
      refine hK.out _ _ ?_ (fun hHeld => ?_)
      · (repeat (first | exact Ext.refl _ | assumption | refine Ext.setCell ?_ (by first | (simp; done) | (simp; omega)) _ | refine Ext.drewN ?_ _ | refine Ext.alloc ?_ _ | refine Ext.drew ?_ | refine Ext.trans ?_ (by assumption)))
      clear hK K
      refine wpAnyH_ready (rs := [18]) (by kernel_rfl) (by simp) ?_
      refine AllReadyH.cons (o := ?o52x18) ?hi52x18 (fun K hK => ?_) AllReadyH.nil
      case hi52x18 => (simp only [List.getElem?_toArray, List.getElem?_cons_succ, List.getElem?_cons_zero]; exact rfl)
      go_simp
      refine (first_any _ 4 4 [fieldE X Y W H l, numE [eye], negE eye, noE X Y W H ax ay] _ rfl (Rd.new (by first | rfl | simp) rfl) (by omega)).mono ?_
      rw [ask_first]
      rintro e w' ⟨rfl, rfl⟩
      refine hK.out _ _ ?_ (fun hHeld => ?_)
      · (repeat (first | exact Ext.refl _ | assumption | refine Ext.setCell ?_ (by first | (simp; done) | (simp; omega)) _ | refine Ext.drewN ?_ _ | refine Ext.alloc ?_ _ | refine Ext.drew ?_ | refine Ext.trans ?_ (by assumption)))
      clear hK K
      refine wpAnyH_take (i := 19) (oi := ?o53x19) (v := ?v53x19) ?hi53x19 (by kernel_rfl) ?hf53x19 ?hr53x19 (fun _ _ _ h => h) ?hy53x19 (by assumption) ?rest53x19
      case hi53x19 => (simp only [List.getElem?_toArray, List.getElem?_cons_succ, List.getElem?_cons_zero]; exact rfl)
      case hf53x19 => kernel_rfl
      case hr53x19 => kernel_rfl
      case hy53x19 => (refine Or.inl ⟨by rfl, ?_⟩; intro w hSw; (try dsimp only at hSw); go_simp; try with_reducible rfl)
      simp only [put_mk, List.set_cons_succ, List.set_cons_zero]
      refine wpAnyH_done (by kernel_rfl) ?_ _
      refine NoPanic.normal ?_
      go_wp2_with fail
      go_meet
      case rel => exact ⟨by rw [HE.out], (by repeat (first | exact Ext.refl _ | assumption | refine Ext.setCell ?_ (by first | (simp; done) | (simp; omega)) _ | refine Ext.drewN ?_ _ | refine Ext.alloc ?_ _ | refine Ext.drew ?_ | refine Ext.trans ?_ (by assumption)))⟩
    · go_simp
      refine hK.out _ _ ?_ (fun hHeld => ?_)
      · (repeat (first | exact Ext.refl _ | assumption | refine Ext.setCell ?_ (by first | (simp; done) | (simp; omega)) _ | refine Ext.drewN ?_ _ | refine Ext.alloc ?_ _ | refine Ext.drew ?_ | refine Ext.trans ?_ (by assumption)))
      clear hK K
      refine wpAnyH_ready (rs := [1]) (by kernel_rfl) (by simp) ?_
      refine AllReadyH.cons (o := ?o54x1) ?hi54x1 (fun K hK => ?_) AllReadyH.nil
      case hi54x1 => (simp only [List.getElem?_toArray, List.getElem?_cons_succ, List.getElem?_cons_zero]; exact rfl)
      go_simp
      refine ((HFE _ ?_).out).mono ?_
      · (repeat (first | exact Ext.refl _ | assumption | refine Ext.setCell ?_ (by first | (simp; done) | (simp; omega)) _ | refine Ext.drewN ?_ _ | refine Ext.alloc ?_ _ | refine Ext.drew ?_ | refine Ext.trans ?_ (by assumption)))
      rintro e w5 ⟨rfl, hb5⟩
      refine hK.out _ _ ?_ (fun hHeld => ?_)
      · (repeat (first | exact Ext.refl _ | assumption | refine Ext.setCell ?_ (by first | (simp; done) | (simp; omega)) _ | refine Ext.drewN ?_ _ | refine Ext.alloc ?_ _ | refine Ext.drew ?_ | refine Ext.trans ?_ (by assumption)))
      clear hK K
      refine wpAnyH_ready (rs := [4]) (by kernel_rfl) (by simp) ?_
      refine AllReadyH.cons (o := ?o55x4) ?hi55x4 (fun K hK => ?_) AllReadyH.nil
      case hi55x4 => (simp only [List.getElem?_toArray, List.getElem?_cons_succ, List.getElem?_cons_zero]; exact rfl)
      go_simp
      refine (numberError_any _ 1 1 [eye] _ rfl ?_ (by omega)).mono ?_
      · first | exact Rd.new (by first | rfl | simp) rfl | exact (Rd.new (by first | rfl | simp) rfl).ext hb5 | exact ((Rd.new (by first | rfl | simp) rfl).ext ((Ext.refl _).drew)).ext hb5
      rintro e w' ⟨rfl, rfl⟩
      refine hK.out _ _ ?_ (fun hHeld => ?_)
      · (repeat (first | exact Ext.refl _ | assumption | refine Ext.setCell ?_ (by first | (simp; done) | (simp; omega)) _ | refine Ext.drewN ?_ _ | refine Ext.alloc ?_ _ | refine Ext.drew ?_ | refine Ext.trans ?_ (by assumption)))
      clear hK K
      refine wpAnyH_ready (rs := [7]) (by kernel_rfl) (by simp) ?_
      refine AllReadyH.cons (o := ?o56x7) ?hi56x7 (fun K hK => ?_) AllReadyH.nil
      case hi56x7 => (simp only [List.getElem?_toArray, List.getElem?_cons_succ, List.getElem?_cons_zero]; exact rfl)
      go_simp
      refine (when_neg eye _).mono ?_
      rintro e w' ⟨rfl, rfl⟩
      refine hK.out _ _ ?_ (fun hHeld => ?_)
      · (repeat (first | exact Ext.refl _ | assumption | refine Ext.setCell ?_ (by first | (simp; done) | (simp; omega)) _ | refine Ext.drewN ?_ _ | refine Ext.alloc ?_ _ | refine Ext.drew ?_ | refine Ext.trans ?_ (by assumption)))
      clear hK K
      refine wpAnyH_ready (rs := [14]) (by kernel_rfl) (by simp) ?_
      refine AllReadyH.cons (o := ?o57x14) ?hi57x14 (fun K hK => ?_) AllReadyH.nil
      case hi57x14 => (simp only [List.getElem?_toArray, List.getElem?_cons_succ, List.getElem?_cons_zero]; exact rfl)
      go_simp
      refine (has_any X Y W H ax ay _).mono ?_
      rintro e w6 ⟨rfl, hb6⟩
      refine hK.out _ _ ?_ (fun hHeld => ?_)
      · (repeat (first | exact Ext.refl _ | assumption | refine Ext.setCell ?_ (by first | (simp; done) | (simp; omega)) _ | refine Ext.drewN ?_ _ | refine Ext.alloc ?_ _ | refine Ext.drew ?_ | refine Ext.trans ?_ (by assumption)))
      clear hK K
      refine wpAnyH_take (i := 15) (oi := ?o58x15) (v := ?v58x15) ?hi58x15 (by kernel_rfl) ?hf58x15 ?hr58x15 (fun _ _ _ h => h) ?hy58x15 (by assumption) ?rest58x15
      case hi58x15 => (simp only [List.getElem?_toArray, List.getElem?_cons_succ, List.getElem?_cons_zero]; exact rfl)
      case hf58x15 => kernel_rfl
      case hr58x15 => kernel_rfl
      case hy58x15 => (refine Or.inl ⟨by rfl, ?_⟩; intro w hSw; (try dsimp only at hSw); go_simp; try with_reducible rfl)
      simp only [put_mk, List.set_cons_succ, List.set_cons_zero]
      refine wpAnyH_ready (rs := [16]) (by kernel_rfl) (by simp) ?_
      refine AllReadyH.cons (o := ?o59x16) ?hi59x16 (fun K hK => ?_) AllReadyH.nil
      case hi59x16 => (simp only [List.getElem?_toArray, List.getElem?_cons_succ, List.getElem?_cons_zero]; exact rfl)
      go_simp
      refine (when_has X Y W H ax ay _).mono ?_
      rintro e w' ⟨rfl, rfl⟩
      refine hK.out _ _ ?_ (fun hHeld => ?_)
      · (repeat (first | exact Ext.refl _ | assumption | refine Ext.setCell ?_ (by first | (simp; done) | (simp; omega)) _ | refine Ext.drewN ?_ _ | refine Ext.alloc ?_ _ | refine Ext.drew ?_ | refine Ext.trans ?_ (by assumption)))
      clear hK K
      refine wpAnyH_ready (rs := [17]) (by kernel_rfl) (by simp) ?_
      refine AllReadyH.cons (o := ?o60x17) ?hi60x17 (fun K hK => ?_) AllReadyH.nil
      case hi60x17 => (simp only [List.getElem?_toArray, List.getElem?_cons_succ, List.getElem?_cons_zero]; exact rfl)
      go_simp
      refine hK.out _ _ ?_ (fun hHeld => ?_)
      · (repeat (first | exact Ext.refl _ | assumption | refine Ext.setCell ?_ (by first | (simp; done) | (simp; omega)) _ | refine Ext.drewN ?_ _ | refine Ext.alloc ?_ _ | refine Ext.drew ?_ | refine Ext.trans ?_ (by assumption)))
      clear hK K
      refine wpAnyH_ready (rs := [18]) (by kernel_rfl) (by simp) ?_
      refine AllReadyH.cons (o := ?o61x18) ?hi61x18 (fun K hK => ?_) AllReadyH.nil
      case hi61x18 => (simp only [List.getElem?_toArray, List.getElem?_cons_succ, List.getElem?_cons_zero]; exact rfl)
      go_simp
      refine (first_any _ 4 4 [fieldE X Y W H l, numE [eye], negE eye, noE X Y W H ax ay] _ rfl (Rd.new (by first | rfl | simp) rfl) (by omega)).mono ?_
      rw [ask_first]
      rintro e w' ⟨rfl, rfl⟩
      refine hK.out _ _ ?_ (fun hHeld => ?_)
      · (repeat (first | exact Ext.refl _ | assumption | refine Ext.setCell ?_ (by first | (simp; done) | (simp; omega)) _ | refine Ext.drewN ?_ _ | refine Ext.alloc ?_ _ | refine Ext.drew ?_ | refine Ext.trans ?_ (by assumption)))
      clear hK K
      refine wpAnyH_take (i := 19) (oi := ?o62x19) (v := ?v62x19) ?hi62x19 (by kernel_rfl) ?hf62x19 ?hr62x19 (fun _ _ _ h => h) ?hy62x19 (by assumption) ?rest62x19
      case hi62x19 => (simp only [List.getElem?_toArray, List.getElem?_cons_succ, List.getElem?_cons_zero]; exact rfl)
      case hf62x19 => kernel_rfl
      case hr62x19 => kernel_rfl
      case hy62x19 => (refine Or.inl ⟨by rfl, ?_⟩; intro w hSw; (try dsimp only at hSw); go_simp; try with_reducible rfl)
      simp only [put_mk, List.set_cons_succ, List.set_cons_zero]
      refine wpAnyH_done (by kernel_rfl) ?_ _
      refine NoPanic.normal ?_
      go_wp2_with fail
      go_meet
      case rel => exact ⟨by rw [HE.out], (by repeat (first | exact Ext.refl _ | assumption | refine Ext.setCell ?_ (by first | (simp; done) | (simp; omega)) _ | refine Ext.drewN ?_ _ | refine Ext.alloc ?_ _ | refine Ext.drew ?_ | refine Ext.trans ?_ (by assumption)))⟩
  case rest =>
    obtain ⟨rfl, hx4⟩ := hcut
    obtain ⟨w4, hw4⟩ : ∃ w4, w4 = wc := ⟨_, rfl⟩
    subst hw4
    clear HFE
    go_upto_if 123 with (first
      | (go_at_call 15; refine (levels_any _).mono ?_; rintro e w5 ⟨rfl, hb5⟩; have hx5 := hx4.trans hb5; have e0 : w5.cell? ⟨w.heap.size, 0, none⟩ = some (.int .i64 X) := s0 _ hx5; have e1 : w5.cell? ⟨w.heap.size, 1, none⟩ = some (.int .i64 Y) := s1 _ hx5; have e2 : w5.cell? ⟨w.heap.size, 2, none⟩ = some (.int .i64 W) := s2 _ hx5; have e3 : w5.cell? ⟨w.heap.size, 3, none⟩ = some (.int .i64 H) := s3 _ hx5; have e4 : w5.cell? ⟨w.heap.size, 4, none⟩ = some (.slice A n c) := s4 _ hx5; have e5 : w5.cell? ⟨w.heap.size + 1, 0, none⟩ = some (.int .i64 ax) := s5 _ hx5; have e6 : w5.cell? ⟨w.heap.size + 1, 1, none⟩ = some (.int .i64 ay) := s6 _ hx5; have e7 : w5.cell? ⟨w.heap.size + 1 + 1, 0, none⟩ = some (.int .i64 bx) := s7 _ hx5; have e8 : w5.cell? ⟨w.heap.size + 1 + 1, 1, none⟩ = some (.int .i64 by') := s8 _ hx5)
      | (go_at_call 27; refine (has_any X Y W H bx by' _).mono ?_; rintro e w6 ⟨rfl, hb6⟩))
    have hx6 := hx5.trans hb6
    clear e0 e1 e2 e3 e4 e5 e6 e7 e8
    go_cut [] from 77 to 139 (fun wx => Ext w6 wx)
    case first =>
      have e0 : w6.cell? ⟨w.heap.size, 0, none⟩ = some (.int .i64 X) := s0 _ hx6
      have e1 : w6.cell? ⟨w.heap.size, 1, none⟩ = some (.int .i64 Y) := s1 _ hx6
      have e2 : w6.cell? ⟨w.heap.size, 2, none⟩ = some (.int .i64 W) := s2 _ hx6
      have e3 : w6.cell? ⟨w.heap.size, 3, none⟩ = some (.int .i64 H) := s3 _ hx6
      have e4 : w6.cell? ⟨w.heap.size, 4, none⟩ = some (.slice A n c) := s4 _ hx6
      have e5 : w6.cell? ⟨w.heap.size + 1, 0, none⟩ = some (.int .i64 ax) := s5 _ hx6
      have e6 : w6.cell? ⟨w.heap.size + 1, 1, none⟩ = some (.int .i64 ay) := s6 _ hx6
      have e7 : w6.cell? ⟨w.heap.size + 1 + 1, 0, none⟩ = some (.int .i64 bx) := s7 _ hx6
      have e8 : w6.cell? ⟨w.heap.size + 1 + 1, 1, none⟩ = some (.int .i64 by') := s8 _ hx6
      by_cases hib : InR X Y W H bx by'
      · obtain ⟨rfl, rfl⟩ := Hs1.out hib
        have h9 : (!hasB X Y W H bx by') = false := by rw [hasB_ok Hr.out]; simpa using hib
        rw [h9]
        have Hib := hidA hib
        clear hib Hs1 Hs2
        go_wp2_with (go_at_call 65; refine (seesOfV_any X Y W H ax ay bx by' A n c eye l _ Hn.out Hnw.out (hD _ ?_) Hr.out Ha.out Hib.out Hh.out Hy.out).mono ?_; (exact (by repeat (first | exact Ext.refl _ | assumption | refine Ext.setCell ?_ (by first | (simp; done) | (simp; omega)) _ | refine Ext.drewN ?_ _ | refine Ext.alloc ?_ _ | refine Ext.drew ?_ | refine Ext.trans ?_ (by assumption)))); rintro e w7 ⟨rfl, hb7⟩)
        go_meet
        case rel => exact (by repeat (first | exact Ext.refl _ | assumption | refine Ext.setCell ?_ (by first | (simp; done) | (simp; omega)) _ | refine Ext.drewN ?_ _ | refine Ext.alloc ?_ _ | refine Ext.drew ?_ | refine Ext.trans ?_ (by assumption)))
      · obtain ⟨rfl, rfl⟩ := Hs2.out hib
        have h9 : (!hasB X Y W H bx by') = true := by rw [hasB_ok Hr.out]; simpa using hib
        rw [h9]
        clear hib Hs1 Hs2
        go_wp2_with fail
        go_meet
        case rel => exact (by repeat (first | exact Ext.refl _ | assumption | refine Ext.setCell ?_ (by first | (simp; done) | (simp; omega)) _ | refine Ext.drewN ?_ _ | refine Ext.alloc ?_ _ | refine Ext.drew ?_ | refine Ext.trans ?_ (by assumption)))
    case rest =>
      have hx7 := hx6.trans hcut
      obtain ⟨w7, hw7⟩ : ∃ w7, w7 = wc := ⟨_, rfl⟩
      subst hw7
      clear hcut hb6 hb5 hx4 hx5 hx6 Hs1 Hs2
      go_upto_if 142 with (first
        | (go_at_call 19; refine (withinB_any far 0 512 _).mono ?_; rintro e w' ⟨rfl, rfl⟩))
      go_cut [] from 140 to 203 (fun wx => Ext w7 wx)
      case first =>
        by_cases hf : 0 ≤ far ∧ far ≤ 512
        · obtain ⟨C, rfl, rfl, hC⟩ := Hv1.out hf
          have h9 : (!withinB far 0 512) = false := withinB_yes hf
          rw [h9]
          have hfar := hf
          obtain ⟨hf0, hf1⟩ := hf
          clear Hv1 Hv2
          have e4 := s4 _ hx7
          obtain ⟨i0, hi0, hz0, hz1, hz2⟩ := info_parts Try.infoBool
          go_wp2_with fail
          clear e4
          go_loopw [21, 153] (fun v i wr => ∃ (k : Nat) (D : Option Addr) (q : Nat), k ≤ n ∧ i = .int .i64 k ∧ v = .slice D k q ∧ wr.ownsRow w7.heap.size 4 1 (.slice D k q) k (boo ((List.range k).map (viewB X Y W l ax ay far eye))) ∧ Ext w7 wr) (fun _ i _ => n - (intOf i).toNat)
          case atStart => exact ⟨0, none, 0, by omega, rfl, rfl, by simpa [boo] using World.ownsRow_nil _ _ _ _, Ext.refl _⟩
          case round =>
            obtain ⟨k, D, q, hk, rfl, rfl, hown, hx⟩ := hrel
            have hx9 := hx7.trans hx
            have hsz := hx.size
            by_cases hlt : k < n
            · have hp := placeK_in Hr.out Hnw.out hlt
              have Hp := hidA hp
              have hpb : -4194304 ≤ (placeK X Y W k).1 ∧ (placeK X Y W k).1 ≤ 4194304 ∧ -4194304 ≤ (placeK X Y W k).2 ∧ (placeK X Y W k).2 ≤ 4194304 := by
                have h1 := Hr.out
                unfold RegOk at h1
                unfold InR at hp
                omega
              have HV : Hid (viewB X Y W l ax ay far eye k = (decide (stepsZ ax ay (placeK X Y W k).1 (placeK X Y W k).2 ≤ far) && seesV X Y W l ax ay (placeK X Y W k).1 (placeK X Y W k).2 eye)) := rfl
              clear hp
              have e0 : wr.cell? ⟨w.heap.size, 0, none⟩ = some (.int .i64 X) := s0 _ hx9
              have e1 : wr.cell? ⟨w.heap.size, 1, none⟩ = some (.int .i64 Y) := s1 _ hx9
              have e2 : wr.cell? ⟨w.heap.size, 2, none⟩ = some (.int .i64 W) := s2 _ hx9
              have e3 : wr.cell? ⟨w.heap.size, 3, none⟩ = some (.int .i64 H) := s3 _ hx9
              go_wp2_with fail
              refine (Place_any X Y W H k _ Hr.out (by omega)).mono ?_
              rintro e w9 ⟨rfl, hb9⟩
              generalize (placeK X Y W k).1 = px at *
              generalize (placeK X Y W k).2 = py at *
              obtain ⟨hp1, hp2, hp3, hp4⟩ := hpb
              have hmx : max4 (px - ax) (ax - px) (py - ay) (ay - py) = stepsZ ax ay px py := by unfold stepsZ max4; omega
              clear e0 e1 e2 e3
              go_upto_region 21 with fail
              have hP : Bk (w9.alloc (.cells #[.int .i64 px, .int .i64 py] 31)) w9.heap.size 31 #[.int .i64 px, .int .i64 py] := Bk.new _ _ _
              have hxp : Ext wr (w9.alloc (.cells #[.int .i64 px, .int .i64 py] 31)) := hb9.alloc _
              generalize w9.alloc (.cells #[.int .i64 px, .int .i64 py] 31) = w10 at *
              have hx10 := hx9.trans hxp
              have d7 := hP.cell 0
              have d8 := hP.cell 1
              have u1 : k + 1 ≤ maxLen := by unfold maxLen; omega
              have u2 : (k + 1) * 1 ≤ 140737488355328 := by omega
              have f0 : w10.cell? ⟨w.heap.size, 0, none⟩ = some (.int .i64 X) := s0 _ hx10
              have f1 : w10.cell? ⟨w.heap.size, 1, none⟩ = some (.int .i64 Y) := s1 _ hx10
              have f2 : w10.cell? ⟨w.heap.size, 2, none⟩ = some (.int .i64 W) := s2 _ hx10
              have f3 : w10.cell? ⟨w.heap.size, 3, none⟩ = some (.int .i64 H) := s3 _ hx10
              have f4 : w10.cell? ⟨w.heap.size, 4, none⟩ = some (.slice A n c) := s4 _ hx10
              have f5 : w10.cell? ⟨w.heap.size + 1, 0, none⟩ = some (.int .i64 ax) := s5 _ hx10
              have f6 : w10.cell? ⟨w.heap.size + 1, 1, none⟩ = some (.int .i64 ay) := s6 _ hx10
              by_cases hst : stepsZ ax ay px py ≤ far
              · have t0 : decide (stepsZ ax ay px py ≤ far) = true := by simpa using hst
                have HV2 : Hid (viewB X Y W l ax ay far eye k = seesV X Y W l ax ay px py eye) := by show _ = _; rw [HV.out]; simp [hst]
                go_wp2_with fail
                refine (seesOfV_any X Y W H ax ay px py A n c eye l _ Hn.out Hnw.out (hD _ hx10) Hr.out Ha.out Hp.out Hh.out Hy.out).mono ?_
                rintro e w11 ⟨rfl, hb11⟩
                have hown5 := own_ext hown (hxp.trans hb11)
                have hl5 := (hxp.trans hb11).size
                clear f0 f1 f2 f3 f4 f5 f6 d7 d8
                go_wp2_with (at_builtin; refine wpList_append_lies _ (by rfl) _ _ _ (by rfl) w7.heap.size 4 i0 _ 1 1 Try.underlying114 hi0 hz0 hz1 hz2 rfl (by decide) _ _ _ (by rfl) (hown5.alloc _) ⟨w11.heap.size, 0, none⟩ 1 1 [.bool (seesV X Y W l ax ay px py eye)] (by rfl) (by rfl) (World.news_of_block (cs := #[.bool (seesV X Y W l ax ay px py eye)]) (t := 4) (fr := (0, 0)) (heap_alloc_new w11 _)) (by simp [Value.oneCell']) (by decide) u1 u2 (by rw [World.size_alloc]; omega) (w11.heap.size + 1) (by simp) ?_; intro gg cap w6' hown6 hgrow hat hltg)
                exact ⟨⟨k + 1, some ⟨gg, 0, none⟩, cap, by omega, by go_num, rfl, by rw [List.range_succ, List.map_append, List.map_singleton, HV2.out, boo_snoc]; exact hown6, ((hx.trans (hxp.trans hb11)).alloc _).own (hown5.alloc _) (Nat.le_refl _) hgrow⟩, by simp [intOf]; omega⟩
              · have t0 : decide (stepsZ ax ay px py ≤ far) = false := by simpa using hst
                have HV2 : Hid (viewB X Y W l ax ay far eye k = false) := by show _ = _; rw [HV.out]; simp [hst]
                have hown5 := own_ext hown hxp
                have hl5 := hxp.size
                go_wp2_with (at_builtin; refine wpList_append_lies _ (by rfl) _ _ _ (by rfl) w7.heap.size 4 i0 _ 1 1 Try.underlying114 hi0 hz0 hz1 hz2 rfl (by decide) _ _ _ (by rfl) (hown5.alloc _) ⟨w10.heap.size, 0, none⟩ 1 1 [.bool false] (by rfl) (by rfl) (World.news_of_block (cs := #[.bool false]) (t := 4) (fr := (0, 0)) (heap_alloc_new w10 _)) (by simp [Value.oneCell']) (by decide) u1 u2 (by rw [World.size_alloc]; omega) (w10.heap.size + 1) (by simp) ?_; intro gg cap w6' hown6 hgrow hat hltg)
                exact ⟨⟨k + 1, some ⟨gg, 0, none⟩, cap, by omega, by go_num, rfl, by rw [List.range_succ, List.map_append, List.map_singleton, HV2.out, boo_snoc]; exact hown6, ((hx.trans hxp).alloc _).own (hown5.alloc _) (Nat.le_refl _) hgrow⟩, by simp [intOf]; omega⟩
            · obtain rfl : k = n := by omega
              have hC9 : Rd wr C (boo (viewL X Y W l ax ay far eye k)) := (hC.ext Hb3.out).ext hx9
              have hD9 : Rd wr D (boo (viewL X Y W l ax ay far eye k)) := Rd.of_own hown
              go_wp2_with fail
              refine (eqBools_same C D k k q (viewL X Y W l ax ay far eye k) _ (by simp [viewL]) hC9 hD9 (by omega)).mono ?_
              rintro e w11 ⟨rfl, hb11⟩
              go_wp2_with fail
              go_meet
              case rel => exact (by repeat (first | exact Ext.refl _ | assumption | refine Ext.setCell ?_ (by first | (simp; done) | (simp; omega)) _ | refine Ext.drewN ?_ _ | refine Ext.alloc ?_ _ | refine Ext.drew ?_ | refine Ext.trans ?_ (by assumption)))
        · obtain ⟨rfl, rfl⟩ := Hv2.out hf
          have h9 : (!withinB far 0 512) = true := withinB_no hf
          rw [h9]
          clear hf Hv1 Hv2
          go_wp2_with fail
          go_meet
          case rel => exact (by repeat (first | exact Ext.refl _ | assumption | refine Ext.setCell ?_ (by first | (simp; done) | (simp; omega)) _ | refine Ext.drewN ?_ _ | refine Ext.alloc ?_ _ | refine Ext.drew ?_ | refine Ext.trans ?_ (by assumption)))
      case rest =>
        have hx8 := hx7.trans hcut
        obtain ⟨w8, hw8⟩ : ∃ w8, w8 = wc := ⟨_, rfl⟩
        subst hw8
        clear hcut Hv1 Hv2
        by_cases hf : 0 ≤ dir ∧ dir ≤ 7
        · obtain ⟨K, hK, rfl, rfl, rfl⟩ := Hh1.out hf
          obtain ⟨hK1, hK2, hK3⟩ := hK
          obtain ⟨ad, rfl⟩ := HAd.out
          have h9 : (!withinB dir 0 7) = false := withinB_yes hf
          obtain ⟨hf0, hf7⟩ := hf
          have hv : ∀ x y, InR X Y W H x y → Bd 20 (valAt X Y W l (x, y)) := fun x y h => by
            obtain ⟨k, _, hk, hv⟩ := valAt_get Hr.out h (by rw [Hn.out]; exact Hnw.out)
            exact hgt_bd (Hh.out _ (List.mem_of_getElem? hv))
          have P1 := fadd_ok (hv _ _ Ha.out) (hgt_bd Hy.out) (by omega)
          have Q1 := fun (w : World) => run_float_arith (P := Try.prog) w .add 71 .f32 _ _ _ P1.1
          have HR := fun (j : Nat) (hj0 : 0 < j) (hjK : j ≤ K) => hidA (rise_ok (X := X) (Y := Y) (W := W) (l := l) (ax := ax) (ay := ay) (d := dir) (p := fadd (valAt X Y W l (ax, ay)) eye) (n := j) hj0 (by omega) (hv _ _ (hK2 j hj0 hjK)) P1.2)
          have HC := fun (j : Nat) (hj0 : 0 < j) (hjK : j ≤ K) => hidA (hK2 j hj0 hjK)
          have HO := hidA hK3
          have sb := step_bd dir
          have HB : Hid ((FloatKind.f32.format.order (horF X Y W l ax ay dir (fadd (valAt X Y W l (ax, ay)) eye) K) (horF X Y W l ax ay dir (fadd (valAt X Y W l (ax, ay)) eye) K) == some .eq) = true) := by
            show _ = _
            exact ord_same (bd_fin (hor_bd (fun j h1 h2 => (HR j h1 h2).out.2.2)) (by omega))
          obtain ⟨ka, hka, hkal, hkav⟩ := valAt_get Hr.out Ha.out (l := l) (by rw [Hn.out]; exact Hnw.out)
          have Hka := hidA hka
          have i1 : (ka : Int) < n := by have := Hn.out; omega
          have i2 : (0 : Int) ≤ ka := by omega
          have Hka2 : Hid ((flt l)[ka]? = some (.float .f32 (valAt X Y W l (ax, ay)))) := by show _ = _; simp [flt, hkav]
          clear hka hkal hkav hv P1 hK2 hK3 Hh1 Hh2
          generalize hpe : fadd (valAt X Y W l (ax, ay)) eye = p at *
          clear hpe
          go_wp2_with (first
            | (go_at_call 19; refine (withinB_any dir 0 7 _).mono ?_; rintro e w' ⟨rfl, rfl⟩)
            | (go_at_call 68; refine (step_any dir _ hf0 (by omega)).mono ?_; rintro e w9 ⟨rfl, hb9⟩))
          have hx9 := hx8.trans hb9
          have u0 : ∀ w', Ext w9 w' → w'.cell? ⟨w.heap.size, 0, none⟩ = some (.int .i64 X) := fun w' h => s0 _ (hx9.trans h)
          have u1 : ∀ w', Ext w9 w' → w'.cell? ⟨w.heap.size, 1, none⟩ = some (.int .i64 Y) := fun w' h => s1 _ (hx9.trans h)
          have u2 : ∀ w', Ext w9 w' → w'.cell? ⟨w.heap.size, 2, none⟩ = some (.int .i64 W) := fun w' h => s2 _ (hx9.trans h)
          have u3 : ∀ w', Ext w9 w' → w'.cell? ⟨w.heap.size, 3, none⟩ = some (.int .i64 H) := fun w' h => s3 _ (hx9.trans h)
          have u4 : ∀ w', Ext w9 w' → w'.cell? ⟨w.heap.size, 4, none⟩ = some (.slice (some ad) n c) := fun w' h => s4 _ (hx9.trans h)
          have u5 : ∀ w', Ext w9 w' → w'.cell? ⟨w.heap.size + 1, 0, none⟩ = some (.int .i64 ax) := fun w' h => s5 _ (hx9.trans h)
          have u6 : ∀ w', Ext w9 w' → w'.cell? ⟨w.heap.size + 1, 1, none⟩ = some (.int .i64 ay) := fun w' h => s6 _ (hx9.trans h)
          have u9 : ∀ w', Ext w9 w' → w'.cell? (ad.add ka) = some (.float .f32 (valAt X Y W l (ax, ay))) := fun w' h => (hD w' (hx9.trans h)).get Hka2.out
          refine wp_region_noPanic ?_
          refine wp_region_held_drew (S := fun w' => Ext w9 w') (by kernel_rfl) ?_ (fun hHeld => ?_)
          · (repeat (first | exact Ext.refl _ | assumption | refine Ext.setCell ?_ (by first | (simp; done) | (simp; omega)) _ | refine Ext.drewN ?_ _ | refine Ext.alloc ?_ _ | refine Ext.drew ?_ | refine Ext.trans ?_ (by assumption)))
          refine wpAnyH_take (i := 0) (oi := ?o31x0) (v := ?v31x0) ?hi31x0 (by kernel_rfl) ?hf31x0 ?hr31x0 (fun _ _ _ h => h) ?hy31x0 (by assumption) ?rest31x0
          case hi31x0 => (simp only [List.getElem?_toArray, List.getElem?_cons_zero]; exact rfl)
          case hf31x0 => kernel_rfl
          case hr31x0 => kernel_rfl
          case hy31x0 => (refine Or.inl ⟨by rfl, ?_⟩; intro w hSw; (try dsimp only at hSw); go_simp; try with_reducible rfl)
          simp only [put_mk, List.set_cons_succ, List.set_cons_zero]
          refine wpAnyH_take (i := 1) (oi := ?o31x1) (v := ?v31x1) ?hi31x1 (by kernel_rfl) ?hf31x1 ?hr31x1 (fun _ _ _ h => h) ?hy31x1 (by assumption) ?rest31x1
          case hi31x1 => (simp only [List.getElem?_toArray, List.getElem?_cons_succ, List.getElem?_cons_zero]; exact rfl)
          case hf31x1 => kernel_rfl
          case hr31x1 => kernel_rfl
          case hy31x1 => (refine Or.inl ⟨by rfl, ?_⟩; intro w hSw; (try dsimp only at hSw); go_simp; try with_reducible rfl)
          simp only [put_mk, List.set_cons_succ, List.set_cons_zero]
          refine wpAnyH_take (i := 2) (oi := ?o31x2) (v := ?v31x2) ?hi31x2 (by kernel_rfl) ?hf31x2 ?hr31x2 (fun _ _ _ h => h) ?hy31x2 (by assumption) ?rest31x2
          case hi31x2 => (simp only [List.getElem?_toArray, List.getElem?_cons_succ, List.getElem?_cons_zero]; exact rfl)
          case hf31x2 => kernel_rfl
          case hr31x2 => kernel_rfl
          case hy31x2 => (refine Or.inl ⟨by rfl, ?_⟩; intro w hSw; (try dsimp only at hSw); go_simp; try with_reducible rfl)
          simp only [put_mk, List.set_cons_succ, List.set_cons_zero]
          refine wpAnyH_take (i := 3) (oi := ?o31x3) (v := ?v31x3) ?hi31x3 (by kernel_rfl) ?hf31x3 ?hr31x3 (fun _ _ _ h => h) ?hy31x3 (by assumption) ?rest31x3
          case hi31x3 => (simp only [List.getElem?_toArray, List.getElem?_cons_succ, List.getElem?_cons_zero]; exact rfl)
          case hf31x3 => kernel_rfl
          case hr31x3 => kernel_rfl
          case hy31x3 => (refine Or.inl ⟨by rfl, ?_⟩; intro w hSw; (try dsimp only at hSw); go_simp; try with_reducible rfl)
          simp only [put_mk, List.set_cons_succ, List.set_cons_zero]
          refine wpAnyH_take (i := 4) (oi := ?o31x4) (v := ?v31x4) ?hi31x4 (by kernel_rfl) ?hf31x4 ?hr31x4 (fun _ _ _ h => h) ?hy31x4 (by assumption) ?rest31x4
          case hi31x4 => (simp only [List.getElem?_toArray, List.getElem?_cons_succ, List.getElem?_cons_zero]; exact rfl)
          case hf31x4 => kernel_rfl
          case hr31x4 => kernel_rfl
          case hy31x4 => (refine Or.inl ⟨by rfl, ?_⟩; intro w hSw; (try dsimp only at hSw); go_simp; try with_reducible rfl)
          simp only [put_mk, List.set_cons_succ, List.set_cons_zero]
          refine wpAnyH_take (i := 5) (oi := ?o31x5) (v := ?v31x5) ?hi31x5 (by kernel_rfl) ?hf31x5 ?hr31x5 (fun _ _ _ h => h) ?hy31x5 (by assumption) ?rest31x5
          case hi31x5 => (simp only [List.getElem?_toArray, List.getElem?_cons_succ, List.getElem?_cons_zero]; exact rfl)
          case hf31x5 => kernel_rfl
          case hr31x5 => kernel_rfl
          case hy31x5 => (refine Or.inl ⟨by rfl, ?_⟩; intro w hSw; (try dsimp only at hSw); go_simp; try with_reducible rfl)
          simp only [put_mk, List.set_cons_succ, List.set_cons_zero]
          refine wpAnyH_take (i := 6) (oi := ?o31x6) (v := ?v31x6) ?hi31x6 (by kernel_rfl) ?hf31x6 ?hr31x6 (fun _ _ _ h => h) ?hy31x6 (by assumption) ?rest31x6
          case hi31x6 => (simp only [List.getElem?_toArray, List.getElem?_cons_succ, List.getElem?_cons_zero]; exact rfl)
          case hf31x6 => kernel_rfl
          case hr31x6 => kernel_rfl
          case hy31x6 => (refine Or.inl ⟨by rfl, ?_⟩; intro w hSw; (try dsimp only at hSw); go_simp; try with_reducible rfl)
          simp only [put_mk, List.set_cons_succ, List.set_cons_zero]
          refine wpAnyH_take (i := 7) (oi := ?o31x7) (v := ?v31x7) ?hi31x7 (by kernel_rfl) ?hf31x7 ?hr31x7 (fun _ _ _ h => h) ?hy31x7 (by assumption) ?rest31x7
          case hi31x7 => (simp only [List.getElem?_toArray, List.getElem?_cons_succ, List.getElem?_cons_zero]; exact rfl)
          case hf31x7 => kernel_rfl
          case hr31x7 => kernel_rfl
          case hy31x7 => (refine Or.inl ⟨by rfl, ?_⟩; intro w hSw; (try dsimp only at hSw); go_simp; try with_reducible rfl)
          simp only [put_mk, List.set_cons_succ, List.set_cons_zero]
          refine wpAnyH_take (i := 11) (oi := ?o31x11) (v := ?v31x11) ?hi31x11 (by kernel_rfl) ?hf31x11 ?hr31x11 (fun _ _ _ h => h) ?hy31x11 (by assumption) ?rest31x11
          case hi31x11 => (simp only [List.getElem?_toArray, List.getElem?_cons_succ, List.getElem?_cons_zero]; exact rfl)
          case hf31x11 => kernel_rfl
          case hr31x11 => kernel_rfl
          case hy31x11 => (refine Or.inl ⟨by rfl, ?_⟩; intro w hSw; (try dsimp only at hSw); go_simp; try with_reducible rfl)
          simp only [put_mk, List.set_cons_succ, List.set_cons_zero]
          refine wpAnyH_ready (rs := [8]) (by kernel_rfl) (by simp) ?_
          refine AllReadyH.cons (o := ?o31x8) ?hi31x8 (fun K hK => ?_) AllReadyH.nil
          case hi31x8 => (simp only [List.getElem?_toArray, List.getElem?_cons_succ, List.getElem?_cons_zero]; exact rfl)
          go_simp
          refine (cell_any _ _ _ _ _ _ _ Hr.out Ha.out).mono ?_
          rw [Hka.out]
          rintro e w10 ⟨rfl, hb10⟩
          refine hK.out _ _ ?_ (fun hHeld => ?_)
          · (repeat (first | exact Ext.refl _ | assumption | refine Ext.setCell ?_ (by first | (simp; done) | (simp; omega)) _ | refine Ext.drewN ?_ _ | refine Ext.alloc ?_ _ | refine Ext.drew ?_ | refine Ext.trans ?_ (by assumption)))
          clear hK K
          refine wpAnyH_take (i := 9) (oi := ?o31x9) (v := ?v31x9) ?hi31x9 (by kernel_rfl) ?hf31x9 ?hr31x9 (fun _ _ _ h => h) ?hy31x9 (by assumption) ?rest31x9
          case hi31x9 => (simp only [List.getElem?_toArray, List.getElem?_cons_succ, List.getElem?_cons_zero]; exact rfl)
          case hf31x9 => kernel_rfl
          case hr31x9 => kernel_rfl
          case hy31x9 => (refine Or.inl ⟨by rfl, ?_⟩; intro w hSw; (try dsimp only at hSw); go_simp; try with_reducible rfl)
          simp only [put_mk, List.set_cons_succ, List.set_cons_zero]
          refine wpAnyH_take (i := 10) (oi := ?o31x10) (v := ?v31x10) ?hi31x10 (by kernel_rfl) ?hf31x10 ?hr31x10 (fun _ _ _ h => h) ?hy31x10 (by assumption) ?rest31x10
          case hi31x10 => (simp only [List.getElem?_toArray, List.getElem?_cons_succ, List.getElem?_cons_zero]; exact rfl)
          case hf31x10 => kernel_rfl
          case hr31x10 => kernel_rfl
          case hy31x10 => (refine Or.inl ⟨by rfl, ?_⟩; intro w hSw; (try dsimp only at hSw); go_simp; try with_reducible rfl)
          simp only [put_mk, List.set_cons_succ, List.set_cons_zero]
          refine wpAnyH_take (i := 12) (oi := ?o31x12) (v := ?v31x12) ?hi31x12 (by kernel_rfl) ?hf31x12 ?hr31x12 (fun _ _ _ h => h) ?hy31x12 (by assumption) ?rest31x12
          case hi31x12 => (simp only [List.getElem?_toArray, List.getElem?_cons_succ, List.getElem?_cons_zero]; exact rfl)
          case hf31x12 => kernel_rfl
          case hr31x12 => kernel_rfl
          case hy31x12 => (refine Or.inl ⟨by rfl, ?_⟩; intro w hSw; (try dsimp only at hSw); go_simp; try with_reducible rfl)
          simp only [put_mk, List.set_cons_succ, List.set_cons_zero]
          refine wpAnyH_take (i := 13) (oi := ?o31x13) (v := ?v31x13) ?hi31x13 (by kernel_rfl) ?hf31x13 ?hr31x13 (fun _ _ _ h => h) ?hy31x13 (by assumption) ?rest31x13
          case hi31x13 => (simp only [List.getElem?_toArray, List.getElem?_cons_succ, List.getElem?_cons_zero]; exact rfl)
          case hf31x13 => kernel_rfl
          case hr31x13 => kernel_rfl
          case hy31x13 => (refine Or.inl ⟨by rfl, ?_⟩; intro w hSw; (try dsimp only at hSw); go_simp; try with_reducible rfl)
          simp only [put_mk, List.set_cons_succ, List.set_cons_zero]
          refine wpAnyH_done (by kernel_rfl) ?_ _
          refine NoPanic.normal ?_
          clear u0 u1 u2 u3 u4 u5 u6 u9 i1 i2 Q1 h9
          have hx10 : Ext w3 w10 := (by repeat (first | exact Ext.refl _ | assumption | refine Ext.setCell ?_ (by first | (simp; done) | (simp; omega)) _ | refine Ext.drewN ?_ _ | refine Ext.alloc ?_ _ | refine Ext.drew ?_ | refine Ext.trans ?_ (by assumption)))
          go_wp2_with fail
          go_loopw [26, 27, 31] (fun s26 s27 s31 wr => ∃ k j : Nat, j = k + 1 ∧ k ≤ K ∧ s26 = .float .f32 (horF X Y W l ax ay dir p k) ∧ s27 = .bool (decide (0 < k)) ∧ s31 = .int .i64 j ∧ Ext w10 wr) (fun _ _ s31 _ => 600 - (intOf s31).toNat)
          case atStart => exact ⟨0, 1, rfl, by omega, rfl, rfl, rfl, Ext.refl _⟩
          case round =>
            obtain ⟨k, j, hj, hk, rfl, rfl, rfl, hx⟩ := hrel
            have hx11 := hx10.trans hx
            obtain ⟨sb1, sb2, sb3, sb4⟩ := sb
            have m1 : -600 ≤ (j : Int) * stepX dir ∧ (j : Int) * stepX dir ≤ 600 := by
              rcases one_of ⟨sb1, sb2⟩ with e | e | e <;> rw [e] <;> omega
            have m2 : -600 ≤ (j : Int) * stepY dir ∧ (j : Int) * stepY dir ≤ 600 := by
              rcases one_of ⟨sb3, sb4⟩ with e | e | e <;> rw [e] <;> omega
            obtain ⟨z1, z3, y1, y3⟩ := mul_facts m1 bd1
            obtain ⟨z2, z4, y2, y4⟩ := mul_facts m2 bd2
            have Hj := hidA hj
            have hj0 : 0 < j := by omega
            have hjK : j ≤ K + 1 := by omega
            clear m1 m2 hj
            have e0 : wr.cell? ⟨w.heap.size, 0, none⟩ = some (.int .i64 X) := s0 _ hx11
            have e1 : wr.cell? ⟨w.heap.size, 1, none⟩ = some (.int .i64 Y) := s1 _ hx11
            have e2 : wr.cell? ⟨w.heap.size, 2, none⟩ = some (.int .i64 W) := s2 _ hx11
            have e3 : wr.cell? ⟨w.heap.size, 3, none⟩ = some (.int .i64 H) := s3 _ hx11
            have e4 : wr.cell? ⟨w.heap.size, 4, none⟩ = some (.slice (some ad) n c) := s4 _ hx11
            have e5 : wr.cell? ⟨w.heap.size + 1, 0, none⟩ = some (.int .i64 ax) := s5 _ hx11
            have e6 : wr.cell? ⟨w.heap.size + 1, 1, none⟩ = some (.int .i64 ay) := s6 _ hx11
            by_cases hlt : k < K
            · have hp := (HC j hj0 (by have := Hj.out; omega)).out
              have Hp := hidA hp
              have Hb : Hid (hasB X Y W H (cellAt ax ay dir j).1 (cellAt ax ay dir j).2 = true) := by show _ = _; rw [hasB_ok Hr.out]; simpa using hp
              obtain ⟨kc, hkc, hkcl, hkcv⟩ := valAt_get Hr.out hp (l := l) (by rw [Hn.out]; exact Hnw.out)
              have Hkc := hidA hkc
              have i5 : (kc : Int) < n := by have := Hn.out; omega
              have i6 : (0 : Int) ≤ kc := by omega
              have Hkc2 : Hid ((flt l)[kc]? = some (.float .f32 (valAt X Y W l (cellAt ax ay dir j)))) := by show _ = _; simp [flt]; exact hkcv
              have hRj := (HR j hj0 (by have := Hj.out; omega)).out
              have QS := fun (w : World) => run_float_arith (P := Try.prog) w .sub 71 .f32 _ _ _ hRj.1
              have QD := fun (w : World) => run_float_arith (P := Try.prog) w .quo 71 .f32 _ _ _ hRj.2.1
              clear hp hkc hkcl hkcv hRj HR HC HB
              go_wp2_with fail
              refine (has_eq X Y W H _ _ true _ Hb.out).mono ?_
              rintro e w12 ⟨rfl, hb12⟩
              clear e0 e1 e2 e3 e5 e6
              have hx12 := hx11.trans hb12
              have v0 : ∀ w', Ext w12 w' → w'.cell? ⟨w.heap.size, 0, none⟩ = some (.int .i64 X) := fun w' h => s0 _ (hx12.trans h)
              have v1 : ∀ w', Ext w12 w' → w'.cell? ⟨w.heap.size, 1, none⟩ = some (.int .i64 Y) := fun w' h => s1 _ (hx12.trans h)
              have v2 : ∀ w', Ext w12 w' → w'.cell? ⟨w.heap.size, 2, none⟩ = some (.int .i64 W) := fun w' h => s2 _ (hx12.trans h)
              have v3 : ∀ w', Ext w12 w' → w'.cell? ⟨w.heap.size, 3, none⟩ = some (.int .i64 H) := fun w' h => s3 _ (hx12.trans h)
              have v4 : ∀ w', Ext w12 w' → w'.cell? ⟨w.heap.size, 4, none⟩ = some (.slice (some ad) n c) := fun w' h => s4 _ (hx12.trans h)
              have v5 : ∀ w', Ext w12 w' → w'.cell? ⟨w.heap.size + 1, 0, none⟩ = some (.int .i64 ax) := fun w' h => s5 _ (hx12.trans h)
              have v6 : ∀ w', Ext w12 w' → w'.cell? ⟨w.heap.size + 1, 1, none⟩ = some (.int .i64 ay) := fun w' h => s6 _ (hx12.trans h)
              have v9 : ∀ w', Ext w12 w' → w'.cell? (ad.add kc) = some (.float .f32 (valAt X Y W l (cellAt ax ay dir j))) := fun w' h => (hD w' (hx12.trans h)).get Hkc2.out
              clear s0 s1 s2 s3 s4 s5 s6 s7 s8
              go_wp2_with fail
              refine wp_region_noPanic ?_
              refine wp_region_held_drew (S := fun w' => Ext w12 w') (by kernel_rfl) ?_ (fun hHeld => ?_)
              · (repeat (first | exact Ext.refl _ | assumption | refine Ext.setCell ?_ (by first | (simp; done) | (simp; omega)) _ | refine Ext.drewN ?_ _ | refine Ext.alloc ?_ _ | refine Ext.drew ?_ | refine Ext.trans ?_ (by assumption)))
              refine wpAnyH_take (i := 0) (oi := ?o32x0) (v := ?v32x0) ?hi32x0 (by kernel_rfl) ?hf32x0 ?hr32x0 (fun _ _ _ h => h) ?hy32x0 (by assumption) ?rest32x0
              case hi32x0 => (simp only [List.getElem?_toArray, List.getElem?_cons_zero]; exact rfl)
              case hf32x0 => kernel_rfl
              case hr32x0 => kernel_rfl
              case hy32x0 => (refine Or.inl ⟨by rfl, ?_⟩; intro w hSw; (try dsimp only at hSw); go_simp; try with_reducible rfl)
              simp only [put_mk, List.set_cons_succ, List.set_cons_zero]
              refine wpAnyH_take (i := 1) (oi := ?o32x1) (v := ?v32x1) ?hi32x1 (by kernel_rfl) ?hf32x1 ?hr32x1 (fun _ _ _ h => h) ?hy32x1 (by assumption) ?rest32x1
              case hi32x1 => (simp only [List.getElem?_toArray, List.getElem?_cons_succ, List.getElem?_cons_zero]; exact rfl)
              case hf32x1 => kernel_rfl
              case hr32x1 => kernel_rfl
              case hy32x1 => (refine Or.inl ⟨by rfl, ?_⟩; intro w hSw; (try dsimp only at hSw); go_simp; try with_reducible rfl)
              simp only [put_mk, List.set_cons_succ, List.set_cons_zero]
              refine wpAnyH_take (i := 2) (oi := ?o32x2) (v := ?v32x2) ?hi32x2 (by kernel_rfl) ?hf32x2 ?hr32x2 (fun _ _ _ h => h) ?hy32x2 (by assumption) ?rest32x2
              case hi32x2 => (simp only [List.getElem?_toArray, List.getElem?_cons_succ, List.getElem?_cons_zero]; exact rfl)
              case hf32x2 => kernel_rfl
              case hr32x2 => kernel_rfl
              case hy32x2 => (refine Or.inl ⟨by rfl, ?_⟩; intro w hSw; (try dsimp only at hSw); go_simp; try with_reducible rfl)
              simp only [put_mk, List.set_cons_succ, List.set_cons_zero]
              refine wpAnyH_take (i := 3) (oi := ?o32x3) (v := ?v32x3) ?hi32x3 (by kernel_rfl) ?hf32x3 ?hr32x3 (fun _ _ _ h => h) ?hy32x3 (by assumption) ?rest32x3
              case hi32x3 => (simp only [List.getElem?_toArray, List.getElem?_cons_succ, List.getElem?_cons_zero]; exact rfl)
              case hf32x3 => kernel_rfl
              case hr32x3 => kernel_rfl
              case hy32x3 => (refine Or.inl ⟨by rfl, ?_⟩; intro w hSw; (try dsimp only at hSw); go_simp; try with_reducible rfl)
              simp only [put_mk, List.set_cons_succ, List.set_cons_zero]
              refine wpAnyH_take (i := 4) (oi := ?o32x4) (v := ?v32x4) ?hi32x4 (by kernel_rfl) ?hf32x4 ?hr32x4 (fun _ _ _ h => h) ?hy32x4 (by assumption) ?rest32x4
              case hi32x4 => (simp only [List.getElem?_toArray, List.getElem?_cons_succ, List.getElem?_cons_zero]; exact rfl)
              case hf32x4 => kernel_rfl
              case hr32x4 => kernel_rfl
              case hy32x4 => (refine Or.inl ⟨by rfl, ?_⟩; intro w hSw; (try dsimp only at hSw); go_simp; try with_reducible rfl)
              simp only [put_mk, List.set_cons_succ, List.set_cons_zero]
              refine wpAnyH_take (i := 5) (oi := ?o32x5) (v := ?v32x5) ?hi32x5 (by kernel_rfl) ?hf32x5 ?hr32x5 (fun _ _ _ h => h) ?hy32x5 (by assumption) ?rest32x5
              case hi32x5 => (simp only [List.getElem?_toArray, List.getElem?_cons_succ, List.getElem?_cons_zero]; exact rfl)
              case hf32x5 => kernel_rfl
              case hr32x5 => kernel_rfl
              case hy32x5 => (refine Or.inl ⟨by rfl, ?_⟩; intro w hSw; (try dsimp only at hSw); go_simp; try with_reducible rfl)
              simp only [put_mk, List.set_cons_succ, List.set_cons_zero]
              refine wpAnyH_take (i := 6) (oi := ?o32x6) (v := ?v32x6) ?hi32x6 (by kernel_rfl) ?hf32x6 ?hr32x6 (fun _ _ _ h => h) ?hy32x6 (by assumption) ?rest32x6
              case hi32x6 => (simp only [List.getElem?_toArray, List.getElem?_cons_succ, List.getElem?_cons_zero]; exact rfl)
              case hf32x6 => kernel_rfl
              case hr32x6 => kernel_rfl
              case hy32x6 => (refine Or.inl ⟨by rfl, ?_⟩; intro w hSw; (try dsimp only at hSw); go_simp; try with_reducible rfl)
              simp only [put_mk, List.set_cons_succ, List.set_cons_zero]
              refine wpAnyH_take (i := 7) (oi := ?o32x7) (v := ?v32x7) ?hi32x7 (by kernel_rfl) ?hf32x7 ?hr32x7 (fun _ _ _ h => h) ?hy32x7 (by assumption) ?rest32x7
              case hi32x7 => (simp only [List.getElem?_toArray, List.getElem?_cons_succ, List.getElem?_cons_zero]; exact rfl)
              case hf32x7 => kernel_rfl
              case hr32x7 => kernel_rfl
              case hy32x7 => (refine Or.inl ⟨by rfl, ?_⟩; intro w hSw; (try dsimp only at hSw); go_simp; try with_reducible rfl)
              simp only [put_mk, List.set_cons_succ, List.set_cons_zero]
              refine wpAnyH_take (i := 8) (oi := ?o32x8) (v := ?v32x8) ?hi32x8 (by kernel_rfl) ?hf32x8 ?hr32x8 (fun _ _ _ h => h) ?hy32x8 (by assumption) ?rest32x8
              case hi32x8 => (simp only [List.getElem?_toArray, List.getElem?_cons_succ, List.getElem?_cons_zero]; exact rfl)
              case hf32x8 => kernel_rfl
              case hr32x8 => kernel_rfl
              case hy32x8 => (refine Or.inl ⟨by rfl, ?_⟩; intro w hSw; (try dsimp only at hSw); go_simp; try with_reducible rfl)
              simp only [put_mk, List.set_cons_succ, List.set_cons_zero]
              refine wpAnyH_take (i := 9) (oi := ?o32x9) (v := ?v32x9) ?hi32x9 (by kernel_rfl) ?hf32x9 ?hr32x9 (fun _ _ _ h => h) ?hy32x9 (by assumption) ?rest32x9
              case hi32x9 => (simp only [List.getElem?_toArray, List.getElem?_cons_succ, List.getElem?_cons_zero]; exact rfl)
              case hf32x9 => kernel_rfl
              case hr32x9 => kernel_rfl
              case hy32x9 => (refine Or.inl ⟨by rfl, ?_⟩; intro w hSw; (try dsimp only at hSw); go_simp; try with_reducible rfl)
              simp only [put_mk, List.set_cons_succ, List.set_cons_zero]
              refine wpAnyH_take (i := 10) (oi := ?o32x10) (v := ?v32x10) ?hi32x10 (by kernel_rfl) ?hf32x10 ?hr32x10 (fun _ _ _ h => h) ?hy32x10 (by assumption) ?rest32x10
              case hi32x10 => (simp only [List.getElem?_toArray, List.getElem?_cons_succ, List.getElem?_cons_zero]; exact rfl)
              case hf32x10 => kernel_rfl
              case hr32x10 => kernel_rfl
              case hy32x10 => (refine Or.inl ⟨by rfl, ?_⟩; intro w hSw; (try dsimp only at hSw); go_simp; try with_reducible rfl)
              simp only [put_mk, List.set_cons_succ, List.set_cons_zero]
              refine wpAnyH_take (i := 11) (oi := ?o32x11) (v := ?v32x11) ?hi32x11 (by kernel_rfl) ?hf32x11 ?hr32x11 (fun _ _ _ h => h) ?hy32x11 (by assumption) ?rest32x11
              case hi32x11 => (simp only [List.getElem?_toArray, List.getElem?_cons_succ, List.getElem?_cons_zero]; exact rfl)
              case hf32x11 => kernel_rfl
              case hr32x11 => kernel_rfl
              case hy32x11 => (refine Or.inl ⟨by rfl, ?_⟩; intro w hSw; (try dsimp only at hSw); go_simp; try with_reducible rfl)
              simp only [put_mk, List.set_cons_succ, List.set_cons_zero]
              refine wpAnyH_take (i := 12) (oi := ?o32x12) (v := ?v32x12) ?hi32x12 (by kernel_rfl) ?hf32x12 ?hr32x12 (fun _ _ _ h => h) ?hy32x12 (by assumption) ?rest32x12
              case hi32x12 => (simp only [List.getElem?_toArray, List.getElem?_cons_succ, List.getElem?_cons_zero]; exact rfl)
              case hf32x12 => kernel_rfl
              case hr32x12 => kernel_rfl
              case hy32x12 => (refine Or.inl ⟨by rfl, ?_⟩; intro w hSw; (try dsimp only at hSw); go_simp; try with_reducible rfl)
              simp only [put_mk, List.set_cons_succ, List.set_cons_zero]
              refine wpAnyH_take (i := 13) (oi := ?o32x13) (v := ?v32x13) ?hi32x13 (by kernel_rfl) ?hf32x13 ?hr32x13 (fun _ _ _ h => h) ?hy32x13 (by assumption) ?rest32x13
              case hi32x13 => (simp only [List.getElem?_toArray, List.getElem?_cons_succ, List.getElem?_cons_zero]; exact rfl)
              case hf32x13 => kernel_rfl
              case hr32x13 => kernel_rfl
              case hy32x13 => (refine Or.inl ⟨by rfl, ?_⟩; intro w hSw; (try dsimp only at hSw); go_simp; try with_reducible rfl)
              simp only [put_mk, List.set_cons_succ, List.set_cons_zero]
              refine wpAnyH_take (i := 14) (oi := ?o32x14) (v := ?v32x14) ?hi32x14 (by kernel_rfl) ?hf32x14 ?hr32x14 (fun _ _ _ h => h) ?hy32x14 (by assumption) ?rest32x14
              case hi32x14 => (simp only [List.getElem?_toArray, List.getElem?_cons_succ, List.getElem?_cons_zero]; exact rfl)
              case hf32x14 => kernel_rfl
              case hr32x14 => kernel_rfl
              case hy32x14 => (refine Or.inl ⟨by rfl, ?_⟩; intro w hSw; (try dsimp only at hSw); go_simp; try with_reducible rfl)
              simp only [put_mk, List.set_cons_succ, List.set_cons_zero]
              refine wpAnyH_take (i := 15) (oi := ?o32x15) (v := ?v32x15) ?hi32x15 (by kernel_rfl) ?hf32x15 ?hr32x15 (fun _ _ _ h => h) ?hy32x15 (by assumption) ?rest32x15
              case hi32x15 => (simp only [List.getElem?_toArray, List.getElem?_cons_succ, List.getElem?_cons_zero]; exact rfl)
              case hf32x15 => kernel_rfl
              case hr32x15 => kernel_rfl
              case hy32x15 => (refine Or.inl ⟨by rfl, ?_⟩; intro w hSw; (try dsimp only at hSw); go_simp; try with_reducible rfl)
              simp only [put_mk, List.set_cons_succ, List.set_cons_zero]
              refine wpAnyH_take (i := 19) (oi := ?o32x19) (v := ?v32x19) ?hi32x19 (by kernel_rfl) ?hf32x19 ?hr32x19 (fun _ _ _ h => h) ?hy32x19 (by assumption) ?rest32x19
              case hi32x19 => (simp only [List.getElem?_toArray, List.getElem?_cons_succ, List.getElem?_cons_zero]; exact rfl)
              case hf32x19 => kernel_rfl
              case hr32x19 => kernel_rfl
              case hy32x19 => (refine Or.inl ⟨by rfl, ?_⟩; intro w hSw; (try dsimp only at hSw); go_simp; try with_reducible rfl)
              simp only [put_mk, List.set_cons_succ, List.set_cons_zero]
              refine wpAnyH_take (i := 21) (oi := ?o32x21) (v := ?v32x21) ?hi32x21 (by kernel_rfl) ?hf32x21 ?hr32x21 (fun _ _ _ h => h) ?hy32x21 (by assumption) ?rest32x21
              case hi32x21 => (simp only [List.getElem?_toArray, List.getElem?_cons_succ, List.getElem?_cons_zero]; exact rfl)
              case hf32x21 => kernel_rfl
              case hr32x21 => kernel_rfl
              case hy32x21 => (refine Or.inl ⟨by rfl, ?_⟩; intro w hSw; (try dsimp only at hSw); go_simp; try with_reducible rfl)
              simp only [put_mk, List.set_cons_succ, List.set_cons_zero]
              refine wpAnyH_take (i := 22) (oi := ?o32x22) (v := ?v32x22) ?hi32x22 (by kernel_rfl) ?hf32x22 ?hr32x22 (fun _ _ _ h => h) ?hy32x22 (by assumption) ?rest32x22
              case hi32x22 => (simp only [List.getElem?_toArray, List.getElem?_cons_succ, List.getElem?_cons_zero]; exact rfl)
              case hf32x22 => kernel_rfl
              case hr32x22 => kernel_rfl
              case hy32x22 => (refine Or.inl ⟨by rfl, ?_⟩; intro w hSw; (try dsimp only at hSw); go_simp; try with_reducible rfl)
              simp only [put_mk, List.set_cons_succ, List.set_cons_zero]
              refine wpAnyH_ready (rs := [16]) (by kernel_rfl) (by simp) ?_
              refine AllReadyH.cons (o := ?o32x16) ?hi32x16 (fun K hK => ?_) AllReadyH.nil
              case hi32x16 => (simp only [List.getElem?_toArray, List.getElem?_cons_succ, List.getElem?_cons_zero]; exact rfl)
              go_simp
              refine (cell_any _ _ _ _ _ _ _ Hr.out Hp.out).mono ?_
              rw [show cellN X Y W (cellAt ax ay dir j).1 (cellAt ax ay dir j).2 = kc from Hkc.out]
              rintro e w13 ⟨rfl, hb13⟩
              refine hK.out _ _ ?_ (fun hHeld => ?_)
              · (repeat (first | exact Ext.refl _ | assumption | refine Ext.setCell ?_ (by first | (simp; done) | (simp; omega)) _ | refine Ext.drewN ?_ _ | refine Ext.alloc ?_ _ | refine Ext.drew ?_ | refine Ext.trans ?_ (by assumption)))
              clear hK K
              refine wpAnyH_take (i := 17) (oi := ?o32x17) (v := ?v32x17) ?hi32x17 (by kernel_rfl) ?hf32x17 ?hr32x17 (fun _ _ _ h => h) ?hy32x17 (by assumption) ?rest32x17
              case hi32x17 => (simp only [List.getElem?_toArray, List.getElem?_cons_succ, List.getElem?_cons_zero]; exact rfl)
              case hf32x17 => kernel_rfl
              case hr32x17 => kernel_rfl
              case hy32x17 => (refine Or.inl ⟨by rfl, ?_⟩; intro w hSw; (try dsimp only at hSw); go_simp; try with_reducible rfl)
              simp only [put_mk, List.set_cons_succ, List.set_cons_zero]
              refine wpAnyH_take (i := 18) (oi := ?o32x18) (v := ?v32x18) ?hi32x18 (by kernel_rfl) ?hf32x18 ?hr32x18 (fun _ _ _ h => h) ?hy32x18 (by assumption) ?rest32x18
              case hi32x18 => (simp only [List.getElem?_toArray, List.getElem?_cons_succ, List.getElem?_cons_zero]; exact rfl)
              case hf32x18 => kernel_rfl
              case hr32x18 => kernel_rfl
              case hy32x18 => (refine Or.inl ⟨by rfl, ?_⟩; intro w hSw; (try dsimp only at hSw); go_simp; try with_reducible rfl)
              simp only [put_mk, List.set_cons_succ, List.set_cons_zero]
              refine wpAnyH_take (i := 20) (oi := ?o32x20) (v := ?v32x20) ?hi32x20 (by kernel_rfl) ?hf32x20 ?hr32x20 (fun _ _ _ h => h) ?hy32x20 (by assumption) ?rest32x20
              case hi32x20 => (simp only [List.getElem?_toArray, List.getElem?_cons_succ, List.getElem?_cons_zero]; exact rfl)
              case hf32x20 => kernel_rfl
              case hr32x20 => kernel_rfl
              case hy32x20 => (refine Or.inl ⟨by rfl, ?_⟩; intro w hSw; (try dsimp only at hSw); go_simp; try with_reducible rfl)
              simp only [put_mk, List.set_cons_succ, List.set_cons_zero]
              refine wpAnyH_ready (rs := [23]) (by kernel_rfl) (by simp) ?_
              refine AllReadyH.cons (o := ?o32x23) ?hi32x23 (fun K hK => ?_) AllReadyH.nil
              case hi32x23 => (simp only [List.getElem?_toArray, List.getElem?_cons_succ, List.getElem?_cons_zero]; exact rfl)
              go_simp
              refine (reach_any dir j _ hf0 (by omega) hj0 (by omega)).mono ?_
              rintro e w14 ⟨rfl, hw14⟩
              rw [hw14]
              clear hw14 w14
              refine hK.out _ _ ?_ (fun hHeld => ?_)
              · (repeat (first | exact Ext.refl _ | assumption | refine Ext.setCell ?_ (by first | (simp; done) | (simp; omega)) _ | refine Ext.drewN ?_ _ | refine Ext.alloc ?_ _ | refine Ext.drew ?_ | refine Ext.trans ?_ (by assumption)))
              clear hK K
              refine wpAnyH_take (i := 24) (oi := ?o32x24) (v := ?v32x24) ?hi32x24 (by kernel_rfl) ?hf32x24 ?hr32x24 (fun _ _ _ h => h) ?hy32x24 (by assumption) ?rest32x24
              case hi32x24 => (simp only [List.getElem?_toArray, List.getElem?_cons_succ, List.getElem?_cons_zero]; exact rfl)
              case hf32x24 => kernel_rfl
              case hr32x24 => kernel_rfl
              case hy32x24 => (refine Or.inl ⟨by rfl, ?_⟩; intro w hSw; (try dsimp only at hSw); go_simp; try with_reducible rfl)
              simp only [put_mk, List.set_cons_succ, List.set_cons_zero]
              refine wpAnyH_take (i := 25) (oi := ?o32x25) (v := ?v32x25) ?hi32x25 (by kernel_rfl) ?hf32x25 ?hr32x25 (fun _ _ _ h => h) ?hy32x25 (by assumption) ?rest32x25
              case hi32x25 => (simp only [List.getElem?_toArray, List.getElem?_cons_succ, List.getElem?_cons_zero]; exact rfl)
              case hf32x25 => kernel_rfl
              case hr32x25 => kernel_rfl
              case hy32x25 => (refine Or.inl ⟨by rfl, ?_⟩; intro w hSw; (try dsimp only at hSw); go_simp; try with_reducible rfl)
              simp only [put_mk, List.set_cons_succ, List.set_cons_zero]
              refine wpAnyH_done (by kernel_rfl) ?_ _
              refine NoPanic.normal ?_
              have hx13 : Ext w10 w13 := by first | exact ((hx.trans hb12).drew).trans hb13 | exact (hx.trans hb12).trans hb13
              clear v0 v1 v2 v3 v4 v5 v6 v9 QS QD hb12 hb13 hx i5 i6 z1 z2 z3 z4 y1 y2 y3 y4
              by_cases hk0 : k = 0
              · subst hk0
                have c0 : decide (0 < 0) = false := rfl
                have HF := hidA (hor_first (X := X) (Y := Y) (W := W) (l := l) (ax := ax) (ay := ay) (d := dir) (p := p) Hj.out)
                go_wp2_with fail
                exact ⟨⟨0 + 1, j + 1, by have := Hj.out; omega, by omega, by rw [HF.out], by rfl, by go_num, (by repeat (first | exact Ext.refl _ | assumption | refine Ext.setCell ?_ (by first | (simp; done) | (simp; omega)) _ | refine Ext.drewN ?_ _ | refine Ext.alloc ?_ _ | refine Ext.drew ?_ | refine Ext.trans ?_ (by assumption)))⟩, by simp [intOf]; omega⟩
              · have c0 : decide (0 < k) = true := by simp; omega
                by_cases hgt : (ord (riseF X Y W l ax ay dir p j) (horF X Y W l ax ay dir p k) == some .gt) = true
                · have C0 : (FloatKind.f32.format.order (riseF X Y W l ax ay dir p j) (horF X Y W l ax ay dir p k) == some .gt) = true := hgt
                  have HF := hidA (hor_more Hj.out hk0 hgt)
                  clear hgt
                  go_wp2_with fail
                  exact ⟨⟨k + 1, j + 1, by have := Hj.out; omega, by omega, by rw [HF.out], by simp, by go_num, (by repeat (first | exact Ext.refl _ | assumption | refine Ext.setCell ?_ (by first | (simp; done) | (simp; omega)) _ | refine Ext.drewN ?_ _ | refine Ext.alloc ?_ _ | refine Ext.drew ?_ | refine Ext.trans ?_ (by assumption)))⟩, by simp [intOf]; omega⟩
                · have C0 : (FloatKind.f32.format.order (riseF X Y W l ax ay dir p j) (horF X Y W l ax ay dir p k) == some .gt) = false := (Bool.not_eq_true _).mp hgt
                  have HF := hidA (hor_less Hj.out hk0 hgt)
                  clear hgt
                  go_wp2_with fail
                  exact ⟨⟨k + 1, j + 1, by have := Hj.out; omega, by omega, by rw [HF.out], by simp [c0], by go_num, (by repeat (first | exact Ext.refl _ | assumption | refine Ext.setCell ?_ (by first | (simp; done) | (simp; omega)) _ | refine Ext.drewN ?_ _ | refine Ext.alloc ?_ _ | refine Ext.drew ?_ | refine Ext.trans ?_ (by assumption)))⟩, by simp [intOf]; omega⟩
            · obtain rfl : k = K := by omega
              have Hb : Hid (hasB X Y W H (cellAt ax ay dir j).1 (cellAt ax ay dir j).2 = false) := by
                show _ = _
                rw [hasB_ok Hr.out, Hj.out]
                simpa using HO.out
              have zf := HB.out
              clear HR HC HO HB
              go_wp2_with fail
              refine (has_eq X Y W H _ _ false _ Hb.out).mono ?_
              rintro e w12 ⟨rfl, hb12⟩
              clear e0 e1 e2 e3 e5 e6 s0 s1 s2 s3 s4 s5 s6 s7 s8
              go_wp2
              go_ret
              exact ⟨ret_b (by simp), (by repeat (first | exact Ext.refl _ | assumption | refine Ext.setCell ?_ (by first | (simp; done) | (simp; omega)) _ | refine Ext.drewN ?_ _ | refine Ext.alloc ?_ _ | refine Ext.drew ?_ | refine Ext.trans ?_ (by assumption)))⟩
        · obtain ⟨rfl, rfl, rfl⟩ := Hh2.out hf
          have h9 : (!withinB dir 0 7) = true := withinB_no hf
          have z0 : (FloatKind.f32.format.order 0 0 == some .eq) = true := by decide +kernel
          clear hf Hh1 Hh2
          go_wp2_with (go_at_call 19; refine (withinB_any dir 0 7 _).mono ?_; rintro e w' ⟨rfl, rfl⟩)
          go_ret
          exact ⟨ret_b (by simp), hx3.trans hx8⟩
end Go.Proofs.Ytjfipkccbapajaa
