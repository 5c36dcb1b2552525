/- The walk of the law LinesMatch, case C. -/
import Derived.Test.YtjfipkccbapajaaLinesB
namespace Go.Proofs.Ytjfipkccbapajaa
open Go.RowKit
attribute [local go_sem ↓] Go.wp_at_zero Go.wp_at_succ
attribute [local go_sem] run_max4

set_option maxRecDepth 100000 in
set_option maxHeartbeats 6400000 in
theorem lines_C (X Y W H ax ay bx by' : Int) (A : Option Addr) (n c : Nat) (l : List Nat) (w : World) (hn : l.length = n) (hd : Rd w A (flt l)) (hb : n ≤ 140737488351232) (hw : wantK ax ay bx by' 2 = 0) (hs : stepsZ ax ay bx by' < 65536) :
    Calls Try.prog 4 #[.agg #[.int .i64 X, .int .i64 Y, .int .i64 W, .int .i64 H, .slice A n c], .agg #[.int .i64 ax, .int .i64 ay], .agg #[.int .i64 bx, .int .i64 by']] w fun e w' => e = .returned (.bool true) ∧ Ext w w' := by
  have Hw := hidA hw
  clear hw
  go_enter Try.func4, Try.ntmps4
  go_wp2_with fail
  refine (Line_any ax ay bx by' _).mono ?_
  rintro e w1 ⟨v1, rfl, hb1, hv1, hv2⟩
  have Hv1 := hidA hv1
  have Hv2 := hidA hv2
  clear hv1 hv2
  have hc1 := hb1.cell
  have hd1 := (((hd.alloc _).alloc _).alloc _).ext hb1
  clear hd
  go_wp2_with fail
  refine (profile_any X Y W H ax ay bx by' A n c l _ hn hd1 hb).mono ?_
  rintro e w2 ⟨v2, rfl, hb2, hp1, hp2⟩
  have Hp1 := hidA hp1
  have Hp2 := hidA hp2
  clear hp1 hp2 hc1
  have hx2 : Ext w w2 := ((((Ext.refl w).alloc _).alloc _).alloc _).trans (hb1.trans hb2)
  have hF : Bk w2 w.heap.size 48 #[.int .i64 X, .int .i64 Y, .int .i64 W, .int .i64 H, .slice A n c] := (((Bk.new' rfl).alloc _).alloc _).ext (hb1.trans hb2)
  have hA' : Bk w2 (w.heap.size + 1) 31 #[.int .i64 ax, .int .i64 ay] := ((Bk.new' (by simp)).alloc _).ext (hb1.trans hb2)
  have hB' : Bk w2 (w.heap.size + 1 + 1) 31 #[.int .i64 bx, .int .i64 by'] := (Bk.new' (by simp)).ext (hb1.trans hb2)
  have f0 : w2.cell? ⟨w.heap.size + 1, 0, none⟩ = some (.int .i64 ax) := hA'.cell 0
  have f1 : w2.cell? ⟨w.heap.size + 1, 1, none⟩ = some (.int .i64 ay) := hA'.cell 1
  have f2 : w2.cell? ⟨w.heap.size + 1 + 1, 0, none⟩ = some (.int .i64 bx) := hB'.cell 0
  have f3 : w2.cell? ⟨w.heap.size + 1 + 1, 1, none⟩ = some (.int .i64 by') := hB'.cell 1
  go_wp2_with fail
  go_loopw [11, 31] (fun s i wr => ∃ k : Nat, k ≤ 2 ∧ i = .int .i64 k ∧ s = .int .i64 (wantK ax ay bx by' k) ∧ Ext w2 wr ∧ Bk wr w.heap.size 48 #[.int .i64 X, .int .i64 Y, .int .i64 W, .int .i64 H, .slice A n c] ∧
      Bk wr (w.heap.size + 1) 31 #[.int .i64 ax, .int .i64 ay] ∧ Bk wr (w.heap.size + 1 + 1) 31 #[.int .i64 bx, .int .i64 by'] ∧ Bk wr w2.heap.size 31 #[.int .i64 ax, .int .i64 ay, .int .i64 bx, .int .i64 by']) (fun _ i _ => 2 - (intOf i).toNat)
  case atStart => exact ⟨0, by omega, rfl, rfl, (by repeat (first | exact Ext.refl _ | assumption | refine Ext.setCell ?_ (by first | (simp; done) | (simp; omega)) _ | refine Ext.drewN ?_ _ | refine Ext.alloc ?_ _ | refine Ext.drew ?_ | refine Ext.trans ?_ (by assumption))), hF.alloc _, hA'.alloc _, hB'.alloc _, Bk.new _ _ _⟩
  case round =>
    obtain ⟨k, hk, rfl, rfl, hx, hB0, hB1, hB2, hB3⟩ := hrel
    have d0 : wr.cell? ⟨w2.heap.size, 0, none⟩ = some (.int .i64 ax) := hB3.cell 0
    have d1 : wr.cell? ⟨w2.heap.size, 1, none⟩ = some (.int .i64 ay) := hB3.cell 1
    have d2 : wr.cell? ⟨w2.heap.size, 2, none⟩ = some (.int .i64 bx) := hB3.cell 2
    have d3 : wr.cell? ⟨w2.heap.size, 3, none⟩ = some (.int .i64 by') := hB3.cell 3
    have hl := hB3.lt
    clear f0 f1 f2 f3
    rcases (by omega : k = 0 ∨ k = 1 ∨ k = 2) with rfl | rfl | rfl
    · by_cases hx' : -4194304 ≤ ax ∧ ax ≤ 4194304
      · by_cases hy' : -4194304 ≤ ay ∧ ay ≤ 4194304
        · have HW : Hid (wantK ax ay bx by' 1 = firstE [wantK ax ay bx by' 0, 0]) := want_ok0 ⟨hx'.1, hx'.2, hy'.1, hy'.2⟩
          go_wp2_with (first
            | (go_at_call_of 19 (Value.int IntKind.i64 ax); refine (within_yes _ _ _ _ hx').mono ?_; rintro e w' ⟨rfl, rfl⟩)
            | (go_at_call 19; refine (within_yes _ _ _ _ hy').mono ?_; rintro e w' ⟨rfl, rfl⟩)
            | (go_at_call 14; refine (when_no _ _).mono ?_; rintro e w' ⟨rfl, rfl⟩)
            | (go_at_call 13; refine (first_any _ 2 2 [wantK ax ay bx by' 0, 0] _ rfl (Rd.new (by simp) rfl) (by omega)).mono ?_; rw [← HW.out]; rintro e w' ⟨rfl, rfl⟩))
          go_roundw
          case rel => exact ⟨1, by omega, rfl, rfl, (by repeat (first | exact Ext.refl _ | assumption | refine Ext.setCell ?_ (by first | (simp; done) | (simp; omega)) _ | refine Ext.drewN ?_ _ | refine Ext.alloc ?_ _ | refine Ext.drew ?_ | refine Ext.trans ?_ (by assumption))), (hB0.alloc _).alloc _, (hB1.alloc _).alloc _, (hB2.alloc _).alloc _, (hB3.alloc _).alloc _⟩
          case measure => decide
        · have HW : Hid (wantK ax ay bx by' 1 = firstE [wantK ax ay bx by' 0, 5]) := want_no0 (fun h => hy' ⟨h.2.2.1, h.2.2.2⟩)
          go_wp2_with (first
            | (go_at_call_of 19 (Value.int IntKind.i64 ax); refine (within_yes _ _ _ _ hx').mono ?_; rintro e w' ⟨rfl, rfl⟩)
            | (go_at_call 19; refine (within_no _ _ _ _ hy').mono ?_; rintro e w' ⟨rfl, rfl⟩)
            | (go_at_call 14; refine (when_yes _ _).mono ?_; rintro e w' ⟨rfl, rfl⟩)
            | (go_at_call 13; refine (first_any _ 2 2 [wantK ax ay bx by' 0, 5] _ rfl (Rd.new (by simp) rfl) (by omega)).mono ?_; rw [← HW.out]; rintro e w' ⟨rfl, rfl⟩))
          go_roundw
          case rel => exact ⟨1, by omega, rfl, rfl, (by repeat (first | exact Ext.refl _ | assumption | refine Ext.setCell ?_ (by first | (simp; done) | (simp; omega)) _ | refine Ext.drewN ?_ _ | refine Ext.alloc ?_ _ | refine Ext.drew ?_ | refine Ext.trans ?_ (by assumption))), (hB0.alloc _).alloc _, (hB1.alloc _).alloc _, (hB2.alloc _).alloc _, (hB3.alloc _).alloc _⟩
          case measure => decide
      · have HW : Hid (wantK ax ay bx by' 1 = firstE [wantK ax ay bx by' 0, 5]) := want_no0 (fun h => hx' ⟨h.1, h.2.1⟩)
        go_wp2_with (first
          | (go_at_call 19; refine (within_no _ _ _ _ hx').mono ?_; rintro e w' ⟨rfl, rfl⟩)
          | (go_at_call 14; refine (when_yes _ _).mono ?_; rintro e w' ⟨rfl, rfl⟩)
          | (go_at_call 13; refine (first_any _ 2 2 [wantK ax ay bx by' 0, 5] _ rfl (Rd.new (by simp) rfl) (by omega)).mono ?_; rw [← HW.out]; rintro e w' ⟨rfl, rfl⟩))
        go_roundw
        case rel => exact ⟨1, by omega, rfl, rfl, (by repeat (first | exact Ext.refl _ | assumption | refine Ext.setCell ?_ (by first | (simp; done) | (simp; omega)) _ | refine Ext.drewN ?_ _ | refine Ext.alloc ?_ _ | refine Ext.drew ?_ | refine Ext.trans ?_ (by assumption))), (hB0.alloc _).alloc _, (hB1.alloc _).alloc _, (hB2.alloc _).alloc _, (hB3.alloc _).alloc _⟩
        case measure => decide
    · by_cases hx' : -4194304 ≤ bx ∧ bx ≤ 4194304
      · by_cases hy' : -4194304 ≤ by' ∧ by' ≤ 4194304
        · have HW : Hid (wantK ax ay bx by' 2 = firstE [wantK ax ay bx by' 1, 0]) := want_ok1 ⟨hx'.1, hx'.2, hy'.1, hy'.2⟩
          go_wp2_with (first
            | (go_at_call_of 19 (Value.int IntKind.i64 bx); refine (within_yes _ _ _ _ hx').mono ?_; rintro e w' ⟨rfl, rfl⟩)
            | (go_at_call 19; refine (within_yes _ _ _ _ hy').mono ?_; rintro e w' ⟨rfl, rfl⟩)
            | (go_at_call 14; refine (when_no _ _).mono ?_; rintro e w' ⟨rfl, rfl⟩)
            | (go_at_call 13; refine (first_any _ 2 2 [wantK ax ay bx by' 1, 0] _ rfl (Rd.new (by simp) rfl) (by omega)).mono ?_; rw [← HW.out]; rintro e w' ⟨rfl, rfl⟩))
          go_roundw
          case rel => exact ⟨2, by omega, rfl, rfl, (by repeat (first | exact Ext.refl _ | assumption | refine Ext.setCell ?_ (by first | (simp; done) | (simp; omega)) _ | refine Ext.drewN ?_ _ | refine Ext.alloc ?_ _ | refine Ext.drew ?_ | refine Ext.trans ?_ (by assumption))), (hB0.alloc _).alloc _, (hB1.alloc _).alloc _, (hB2.alloc _).alloc _, (hB3.alloc _).alloc _⟩
          case measure => decide
        · have HW : Hid (wantK ax ay bx by' 2 = firstE [wantK ax ay bx by' 1, 5]) := want_no1 (fun h => hy' ⟨h.2.2.1, h.2.2.2⟩)
          go_wp2_with (first
            | (go_at_call_of 19 (Value.int IntKind.i64 bx); refine (within_yes _ _ _ _ hx').mono ?_; rintro e w' ⟨rfl, rfl⟩)
            | (go_at_call 19; refine (within_no _ _ _ _ hy').mono ?_; rintro e w' ⟨rfl, rfl⟩)
            | (go_at_call 14; refine (when_yes _ _).mono ?_; rintro e w' ⟨rfl, rfl⟩)
            | (go_at_call 13; refine (first_any _ 2 2 [wantK ax ay bx by' 1, 5] _ rfl (Rd.new (by simp) rfl) (by omega)).mono ?_; rw [← HW.out]; rintro e w' ⟨rfl, rfl⟩))
          go_roundw
          case rel => exact ⟨2, by omega, rfl, rfl, (by repeat (first | exact Ext.refl _ | assumption | refine Ext.setCell ?_ (by first | (simp; done) | (simp; omega)) _ | refine Ext.drewN ?_ _ | refine Ext.alloc ?_ _ | refine Ext.drew ?_ | refine Ext.trans ?_ (by assumption))), (hB0.alloc _).alloc _, (hB1.alloc _).alloc _, (hB2.alloc _).alloc _, (hB3.alloc _).alloc _⟩
          case measure => decide
      · have HW : Hid (wantK ax ay bx by' 2 = firstE [wantK ax ay bx by' 1, 5]) := want_no1 (fun h => hx' ⟨h.1, h.2.1⟩)
        go_wp2_with (first
          | (go_at_call 19; refine (within_no _ _ _ _ hx').mono ?_; rintro e w' ⟨rfl, rfl⟩)
          | (go_at_call 14; refine (when_yes _ _).mono ?_; rintro e w' ⟨rfl, rfl⟩)
          | (go_at_call 13; refine (first_any _ 2 2 [wantK ax ay bx by' 1, 5] _ rfl (Rd.new (by simp) rfl) (by omega)).mono ?_; rw [← HW.out]; rintro e w' ⟨rfl, rfl⟩))
        go_roundw
        case rel => exact ⟨2, by omega, rfl, rfl, (by repeat (first | exact Ext.refl _ | assumption | refine Ext.setCell ?_ (by first | (simp; done) | (simp; omega)) _ | refine Ext.drewN ?_ _ | refine Ext.alloc ?_ _ | refine Ext.drew ?_ | refine Ext.trans ?_ (by assumption))), (hB0.alloc _).alloc _, (hB1.alloc _).alloc _, (hB2.alloc _).alloc _, (hB3.alloc _).alloc _⟩
        case measure => decide
    · clear d0 d1 d2 d3
      have hw := Hw.out
      obtain ⟨wa, wb⟩ := want_good hw
      obtain ⟨p1, p2, p3, p4⟩ := placeE_bd wa
      obtain ⟨p5, p6, p7, p8⟩ := placeE_bd wb
      have HE : Hid (lineErr ax ay bx by' = 0) := by show _ = _; unfold lineErr; rw [if_neg (by simp [wa]), if_neg (by simp [wb]), if_neg (by omega)]
      obtain ⟨m, A1, c1, hm1, hm2, rfl, hr1⟩ := Hv2.out HE.out
      have Hm1 := hidA hm1
      have t1 : (wantK ax ay bx by' 2 == 0) = true := by simpa using hw
      have t2 : (wantK ax ay bx by' 2 != 0) = false := by simpa using hw
      have t3 : (lineErr ax ay bx by' != 0) = false := by rw [HE.out]; rfl
      have hmx : max4 (bx - ax) (ax - bx) (by' - ay) (ay - by') = stepsZ ax ay bx by' := by unfold stepsZ max4; omega
      have hs0 : 0 ≤ stepsZ ax ay bx by' := by unfold stepsZ max4; omega
      have Hlen1 : Hid ((linePts ax ay bx by' m (m + 1)).length = m + 1) := by show _ = _; simp [linePts]
      have hA1 : ∀ w', Ext wr w' → Rd w' A1 (ptv (linePts ax ay bx by' m (m + 1))) := fun w' h => hr1.rd.ext (hb2.trans (hx.trans h))
      have e0 : wr.cell? ⟨w.heap.size + 1, 0, none⟩ = some (.int .i64 ax) := hB1.cell 0
      have e1 : wr.cell? ⟨w.heap.size + 1, 1, none⟩ = some (.int .i64 ay) := hB1.cell 1
      have e2 : wr.cell? ⟨w.heap.size + 1 + 1, 0, none⟩ = some (.int .i64 bx) := hB2.cell 0
      have e3 : wr.cell? ⟨w.heap.size + 1 + 1, 1, none⟩ = some (.int .i64 by') := hB2.cell 1
      clear hw wa wb hm1 hr1
      go_wp2_with fail
      refine (levels_any _).mono ?_
      rintro e w3 ⟨rfl, hx3⟩
      have f0 : w3.cell? ⟨w.heap.size + 1, 0, none⟩ = some (.int .i64 ax) := (hB1.ext hx3).cell 0
      have f1 : w3.cell? ⟨w.heap.size + 1, 1, none⟩ = some (.int .i64 ay) := (hB1.ext hx3).cell 1
      have f2 : w3.cell? ⟨w.heap.size + 1 + 1, 0, none⟩ = some (.int .i64 bx) := (hB2.ext hx3).cell 0
      have f3 : w3.cell? ⟨w.heap.size + 1 + 1, 1, none⟩ = some (.int .i64 by') := (hB2.ext hx3).cell 1
      go_wp2_with fail
      refine (lineOf_any ax ay bx by' m _ ⟨p1, p2⟩ ⟨p3, p4⟩ ⟨p5, p6⟩ ⟨p7, p8⟩ Hm1.out hm2).mono ?_
      rintro e w5 ⟨A2, c2, rfl, hr2, hb5⟩
      go_wp2_with fail
      refine (eqPts_same A1 A2 (m + 1) c1 c2 _ _ Hlen1.out (hA1 _ (hx3.trans hb5)) hr2.rd (by omega)).mono ?_
      rintro e w4 ⟨rfl, hb6⟩
      have hx4 : Ext wr w4 := (hx3.trans hb5).trans hb6
      clear f0 f1 f2 f3 e0 e1 e2 e3 hx3 hb5 hb6 hr2
      go_wp2_with fail

      have hB4 := hB0.ext hx4
      have hB5 := hB1.ext hx4
      have hB6 := hB2.ext hx4
      have s0 : ∀ w', Ext w4 w' → w'.cell? ⟨w.heap.size, 0, none⟩ = some (.int .i64 X) := fun w' h => (hB4.ext h).cell 0
      have s1 : ∀ w', Ext w4 w' → w'.cell? ⟨w.heap.size, 1, none⟩ = some (.int .i64 Y) := fun w' h => (hB4.ext h).cell 1
      have s2 : ∀ w', Ext w4 w' → w'.cell? ⟨w.heap.size, 2, none⟩ = some (.int .i64 W) := fun w' h => (hB4.ext h).cell 2
      have s3 : ∀ w', Ext w4 w' → w'.cell? ⟨w.heap.size, 3, none⟩ = some (.int .i64 H) := fun w' h => (hB4.ext h).cell 3
      have s4 : ∀ w', Ext w4 w' → w'.cell? ⟨w.heap.size, 4, none⟩ = some (.slice A n c) := fun w' h => (hB4.ext h).cell 4
      have s5 : ∀ w', Ext w4 w' → w'.cell? ⟨w.heap.size + 1, 0, none⟩ = some (.int .i64 ax) := fun w' h => (hB5.ext h).cell 0
      have s6 : ∀ w', Ext w4 w' → w'.cell? ⟨w.heap.size + 1, 1, none⟩ = some (.int .i64 ay) := fun w' h => (hB5.ext h).cell 1
      have s7 : ∀ w', Ext w4 w' → w'.cell? ⟨w.heap.size + 1 + 1, 0, none⟩ = some (.int .i64 bx) := fun w' h => (hB6.ext h).cell 0
      have s8 : ∀ w', Ext w4 w' → w'.cell? ⟨w.heap.size + 1 + 1, 1, none⟩ = some (.int .i64 by') := fun w' h => (hB6.ext h).cell 1
      have hD : ∀ w', Ext w4 w' → Rd w' A (flt l) := fun w' h => ((hd1.ext hb2).ext hx).ext (hx4.trans h)
      have hxw := hx2.trans (hx.trans hx4)
      clear hl
      have HFE := fun (w' : World) (h : Ext w4 w') => hidA (fieldError_any X Y W H A n c l w' hn (hD w' h) hb)
      by_cases hha : hasB X Y W H ax ay = true
      · by_cases hhb : hasB X Y W H bx by' = true
        · have HP : Hid (profE X Y W H ax ay bx by' l = firstE [fieldE X Y W H l, 0]) := by show _ = _; unfold profE hasW; rw [if_pos ⟨hha, hhb⟩]
          have Ha := hidA hha
          have Hb := hidA hhb
          clear hha hhb
          refine wp_region_noPanic ?_
          refine wp_region_held_drew (S := fun w' => Ext w4 w') (by kernel_rfl) ?_ (fun hHeld => ?_)
          · (repeat (first | exact Ext.refl _ | assumption | refine Ext.setCell ?_ (by first | (simp; done) | (simp; omega)) _ | refine Ext.drewN ?_ _ | refine Ext.alloc ?_ _ | refine Ext.drew ?_ | refine Ext.trans ?_ (by assumption)))
          refine wpAnyH_take (i := 0) (oi := ?o10x0) (v := ?v10x0) ?hi10x0 (by kernel_rfl) ?hf10x0 ?hr10x0 (fun _ _ _ h => h) ?hy10x0 (by assumption) ?rest10x0
          case hi10x0 => (simp only [List.getElem?_toArray, List.getElem?_cons_zero]; exact rfl)
          case hf10x0 => kernel_rfl
          case hr10x0 => kernel_rfl
          case hy10x0 => (refine Or.inl ⟨by rfl, ?_⟩; intro w hSw; (try dsimp only at hSw); go_simp; try with_reducible rfl)
          simp only [put_mk, List.set_cons_succ, List.set_cons_zero]
          refine wpAnyH_take (i := 2) (oi := ?o10x2) (v := ?v10x2) ?hi10x2 (by kernel_rfl) ?hf10x2 ?hr10x2 (fun _ _ _ h => h) ?hy10x2 (by assumption) ?rest10x2
          case hi10x2 => (simp only [List.getElem?_toArray, List.getElem?_cons_succ, List.getElem?_cons_zero]; exact rfl)
          case hf10x2 => kernel_rfl
          case hr10x2 => kernel_rfl
          case hy10x2 => (refine Or.inl ⟨by rfl, ?_⟩; intro w hSw; (try dsimp only at hSw); go_simp; try with_reducible rfl)
          simp only [put_mk, List.set_cons_succ, List.set_cons_zero]
          refine wpAnyH_take (i := 3) (oi := ?o10x3) (v := ?v10x3) ?hi10x3 (by kernel_rfl) ?hf10x3 ?hr10x3 (fun _ _ _ h => h) ?hy10x3 (by assumption) ?rest10x3
          case hi10x3 => (simp only [List.getElem?_toArray, List.getElem?_cons_succ, List.getElem?_cons_zero]; exact rfl)
          case hf10x3 => kernel_rfl
          case hr10x3 => kernel_rfl
          case hy10x3 => (refine Or.inl ⟨by rfl, ?_⟩; intro w hSw; (try dsimp only at hSw); go_simp; try with_reducible rfl)
          simp only [put_mk, List.set_cons_succ, List.set_cons_zero]
          refine wpAnyH_take (i := 4) (oi := ?o10x4) (v := ?v10x4) ?hi10x4 (by kernel_rfl) ?hf10x4 ?hr10x4 (fun _ _ _ h => h) ?hy10x4 (by assumption) ?rest10x4
          case hi10x4 => (simp only [List.getElem?_toArray, List.getElem?_cons_succ, List.getElem?_cons_zero]; exact rfl)
          case hf10x4 => kernel_rfl
          case hr10x4 => kernel_rfl
          case hy10x4 => (refine Or.inl ⟨by rfl, ?_⟩; intro w hSw; (try dsimp only at hSw); go_simp; try with_reducible rfl)
          simp only [put_mk, List.set_cons_succ, List.set_cons_zero]
          refine wpAnyH_take (i := 5) (oi := ?o10x5) (v := ?v10x5) ?hi10x5 (by kernel_rfl) ?hf10x5 ?hr10x5 (fun _ _ _ h => h) ?hy10x5 (by assumption) ?rest10x5
          case hi10x5 => (simp only [List.getElem?_toArray, List.getElem?_cons_succ, List.getElem?_cons_zero]; exact rfl)
          case hf10x5 => kernel_rfl
          case hr10x5 => kernel_rfl
          case hy10x5 => (refine Or.inl ⟨by rfl, ?_⟩; intro w hSw; (try dsimp only at hSw); go_simp; try with_reducible rfl)
          simp only [put_mk, List.set_cons_succ, List.set_cons_zero]
          refine wpAnyH_take (i := 6) (oi := ?o10x6) (v := ?v10x6) ?hi10x6 (by kernel_rfl) ?hf10x6 ?hr10x6 (fun _ _ _ h => h) ?hy10x6 (by assumption) ?rest10x6
          case hi10x6 => (simp only [List.getElem?_toArray, List.getElem?_cons_succ, List.getElem?_cons_zero]; exact rfl)
          case hf10x6 => kernel_rfl
          case hr10x6 => kernel_rfl
          case hy10x6 => (refine Or.inl ⟨by rfl, ?_⟩; intro w hSw; (try dsimp only at hSw); go_simp; try with_reducible rfl)
          simp only [put_mk, List.set_cons_succ, List.set_cons_zero]
          refine wpAnyH_take (i := 7) (oi := ?o10x7) (v := ?v10x7) ?hi10x7 (by kernel_rfl) ?hf10x7 ?hr10x7 (fun _ _ _ h => h) ?hy10x7 (by assumption) ?rest10x7
          case hi10x7 => (simp only [List.getElem?_toArray, List.getElem?_cons_succ, List.getElem?_cons_zero]; exact rfl)
          case hf10x7 => kernel_rfl
          case hr10x7 => kernel_rfl
          case hy10x7 => (refine Or.inl ⟨by rfl, ?_⟩; intro w hSw; (try dsimp only at hSw); go_simp; try with_reducible rfl)
          simp only [put_mk, List.set_cons_succ, List.set_cons_zero]
          refine wpAnyH_ready (rs := [1]) (by kernel_rfl) (by simp) ?_
          refine AllReadyH.cons (o := ?o10x1) ?hi10x1 (fun K hK => ?_) AllReadyH.nil
          case hi10x1 => (simp only [List.getElem?_toArray, List.getElem?_cons_succ, List.getElem?_cons_zero]; exact rfl)
          go_simp
          refine ((HFE _ ?_).out).mono ?_
          · (repeat (first | exact Ext.refl _ | assumption | refine Ext.setCell ?_ (by first | (simp; done) | (simp; omega)) _ | refine Ext.drewN ?_ _ | refine Ext.alloc ?_ _ | refine Ext.drew ?_ | refine Ext.trans ?_ (by assumption)))
          rintro e w5 ⟨rfl, hb5⟩
          refine hK.out _ _ ?_ (fun hHeld => ?_)
          · (repeat (first | exact Ext.refl _ | assumption | refine Ext.setCell ?_ (by first | (simp; done) | (simp; omega)) _ | refine Ext.drewN ?_ _ | refine Ext.alloc ?_ _ | refine Ext.drew ?_ | refine Ext.trans ?_ (by assumption)))
          clear hK K
          refine wpAnyH_ready (rs := [8]) (by kernel_rfl) (by simp) ?_
          refine AllReadyH.cons (o := ?o10x8) ?hi10x8 (fun K hK => ?_) AllReadyH.nil
          case hi10x8 => (simp only [List.getElem?_toArray, List.getElem?_cons_succ, List.getElem?_cons_zero]; exact rfl)
          go_simp
          refine (has_eq _ _ _ _ _ _ _ _ Ha.out).mono ?_
          rintro e w6 ⟨rfl, hb6⟩
          refine hK.out _ _ ?_ (fun hHeld => ?_)
          · (repeat (first | exact Ext.refl _ | assumption | refine Ext.setCell ?_ (by first | (simp; done) | (simp; omega)) _ | refine Ext.drewN ?_ _ | refine Ext.alloc ?_ _ | refine Ext.drew ?_ | refine Ext.trans ?_ (by assumption)))
          clear hK K
          refine wpAnyH_take (i := 9) (oi := ?o10x9) (v := ?v10x9) ?hi10x9 (by kernel_rfl) ?hf10x9 ?hr10x9 (fun _ _ _ h => h) ?hy10x9 (by assumption) ?rest10x9
          case hi10x9 => (simp only [List.getElem?_toArray, List.getElem?_cons_succ, List.getElem?_cons_zero]; exact rfl)
          case hf10x9 => kernel_rfl
          case hr10x9 => kernel_rfl
          case hy10x9 => (refine Or.inl ⟨by rfl, ?_⟩; intro w hSw; (try dsimp only at hSw); go_simp; try with_reducible rfl)
          simp only [put_mk, List.set_cons_succ, List.set_cons_zero]
          refine wpAnyH_take (i := 10) (oi := ?o10x10) (v := ?v10x10) ?hi10x10 (by kernel_rfl) ?hf10x10 ?hr10x10 (fun _ _ _ h => h) ?hy10x10 (by assumption) ?rest10x10
          case hi10x10 => (simp only [List.getElem?_toArray, List.getElem?_cons_succ, List.getElem?_cons_zero]; exact rfl)
          case hf10x10 => kernel_rfl
          case hr10x10 => kernel_rfl
          case hy10x10 => (refine Or.inl ⟨by rfl, ?_⟩; intro w hSw; (try dsimp only at hSw); go_simp; try with_reducible rfl)
          simp only [put_mk, List.set_cons_succ, List.set_cons_zero]
          refine wpAnyH_take (i := 11) (oi := ?o10x11) (v := ?v10x11) ?hi10x11 (by kernel_rfl) ?hf10x11 ?hr10x11 (fun _ _ _ h => h) ?hy10x11 (by assumption) ?rest10x11
          case hi10x11 => (simp only [List.getElem?_toArray, List.getElem?_cons_succ, List.getElem?_cons_zero]; exact rfl)
          case hf10x11 => kernel_rfl
          case hr10x11 => kernel_rfl
          case hy10x11 => (refine Or.inl ⟨by rfl, ?_⟩; intro w hSw; (try dsimp only at hSw); go_simp; try with_reducible rfl)
          simp only [put_mk, List.set_cons_succ, List.set_cons_zero]
          refine wpAnyH_take (i := 12) (oi := ?o10x12) (v := ?v10x12) ?hi10x12 (by kernel_rfl) ?hf10x12 ?hr10x12 (fun _ _ _ h => h) ?hy10x12 (by assumption) ?rest10x12
          case hi10x12 => (simp only [List.getElem?_toArray, List.getElem?_cons_succ, List.getElem?_cons_zero]; exact rfl)
          case hf10x12 => kernel_rfl
          case hr10x12 => kernel_rfl
          case hy10x12 => (refine Or.inl ⟨by rfl, ?_⟩; intro w hSw; (try dsimp only at hSw); go_simp; try with_reducible rfl)
          simp only [put_mk, List.set_cons_succ, List.set_cons_zero]
          refine wpAnyH_take (i := 13) (oi := ?o10x13) (v := ?v10x13) ?hi10x13 (by kernel_rfl) ?hf10x13 ?hr10x13 (fun _ _ _ h => h) ?hy10x13 (by assumption) ?rest10x13
          case hi10x13 => (simp only [List.getElem?_toArray, List.getElem?_cons_succ, List.getElem?_cons_zero]; exact rfl)
          case hf10x13 => kernel_rfl
          case hr10x13 => kernel_rfl
          case hy10x13 => (refine Or.inl ⟨by rfl, ?_⟩; intro w hSw; (try dsimp only at hSw); go_simp; try with_reducible rfl)
          simp only [put_mk, List.set_cons_succ, List.set_cons_zero]
          refine wpAnyH_take (i := 14) (oi := ?o10x14) (v := ?v10x14) ?hi10x14 (by kernel_rfl) ?hf10x14 ?hr10x14 (fun _ _ _ h => h) ?hy10x14 (by assumption) ?rest10x14
          case hi10x14 => (simp only [List.getElem?_toArray, List.getElem?_cons_succ, List.getElem?_cons_zero]; exact rfl)
          case hf10x14 => kernel_rfl
          case hr10x14 => kernel_rfl
          case hy10x14 => (refine Or.inl ⟨by rfl, ?_⟩; intro w hSw; (try dsimp only at hSw); go_simp; try with_reducible rfl)
          simp only [put_mk, List.set_cons_succ, List.set_cons_zero]
          refine wpAnyH_take (i := 15) (oi := ?o10x15) (v := ?v10x15) ?hi10x15 (by kernel_rfl) ?hf10x15 ?hr10x15 (fun _ _ _ h => h) ?hy10x15 (by assumption) ?rest10x15
          case hi10x15 => (simp only [List.getElem?_toArray, List.getElem?_cons_succ, List.getElem?_cons_zero]; exact rfl)
          case hf10x15 => kernel_rfl
          case hr10x15 => kernel_rfl
          case hy10x15 => (refine Or.inl ⟨by rfl, ?_⟩; intro w hSw; (try dsimp only at hSw); go_simp; try with_reducible rfl)
          simp only [put_mk, List.set_cons_succ, List.set_cons_zero]
          refine wpAnyH_take (i := 16) (oi := ?o10x16) (v := ?v10x16) ?hi10x16 (by kernel_rfl) ?hf10x16 ?hr10x16 (fun _ _ _ h => h) ?hy10x16 (by assumption) ?rest10x16
          case hi10x16 => (simp only [List.getElem?_toArray, List.getElem?_cons_succ, List.getElem?_cons_zero]; exact rfl)
          case hf10x16 => kernel_rfl
          case hr10x16 => kernel_rfl
          case hy10x16 => (refine Or.inl ⟨by rfl, ?_⟩; intro w hSw; (try dsimp only at hSw); go_simp; try with_reducible rfl)
          simp only [put_mk, List.set_cons_succ, List.set_cons_zero]
          refine wpAnyH_ready (rs := [17]) (by kernel_rfl) (by simp) ?_
          refine AllReadyH.cons (o := ?o10x17) ?hi10x17 (fun K hK => ?_) AllReadyH.nil
          case hi10x17 => (simp only [List.getElem?_toArray, List.getElem?_cons_succ, List.getElem?_cons_zero]; exact rfl)
          go_simp
          refine (has_eq _ _ _ _ _ _ _ _ Hb.out).mono ?_
          rintro e w7 ⟨rfl, hb7⟩
          refine hK.out _ _ ?_ (fun hHeld => ?_)
          · (repeat (first | exact Ext.refl _ | assumption | refine Ext.setCell ?_ (by first | (simp; done) | (simp; omega)) _ | refine Ext.drewN ?_ _ | refine Ext.alloc ?_ _ | refine Ext.drew ?_ | refine Ext.trans ?_ (by assumption)))
          clear hK K
          refine wpAnyH_take (i := 18) (oi := ?o10x18) (v := ?v10x18) ?hi10x18 (by kernel_rfl) ?hf10x18 ?hr10x18 (fun _ _ _ h => h) ?hy10x18 (by assumption) ?rest10x18
          case hi10x18 => (simp only [List.getElem?_toArray, List.getElem?_cons_succ, List.getElem?_cons_zero]; exact rfl)
          case hf10x18 => kernel_rfl
          case hr10x18 => kernel_rfl
          case hy10x18 => (refine Or.inl ⟨by rfl, ?_⟩; intro w hSw; (try dsimp only at hSw); go_simp; try with_reducible rfl)
          simp only [put_mk, List.set_cons_succ, List.set_cons_zero]
          refine wpAnyH_take (i := 19) (oi := ?o10x19) (v := ?v10x19) ?hi10x19 (by kernel_rfl) ?hf10x19 ?hr10x19 (fun _ _ _ h => h) ?hy10x19 (by assumption) ?rest10x19
          case hi10x19 => (simp only [List.getElem?_toArray, List.getElem?_cons_succ, List.getElem?_cons_zero]; exact rfl)
          case hf10x19 => kernel_rfl
          case hr10x19 => kernel_rfl
          case hy10x19 => (refine Or.inl ⟨by rfl, ?_⟩; intro w hSw; (try dsimp only at hSw); go_simp; try with_reducible rfl)
          simp only [put_mk, List.set_cons_succ, List.set_cons_zero]
          refine wpAnyH_ready (rs := [20]) (by kernel_rfl) (by simp) ?_
          refine AllReadyH.cons (o := ?o10x20) ?hi10x20 (fun K hK => ?_) AllReadyH.nil
          case hi10x20 => (simp only [List.getElem?_toArray, List.getElem?_cons_succ, List.getElem?_cons_zero]; exact rfl)
          go_simp
          refine (when_no _ _).mono ?_
          rintro e w' ⟨rfl, rfl⟩
          refine hK.out _ _ ?_ (fun hHeld => ?_)
          · (repeat (first | exact Ext.refl _ | assumption | refine Ext.setCell ?_ (by first | (simp; done) | (simp; omega)) _ | refine Ext.drewN ?_ _ | refine Ext.alloc ?_ _ | refine Ext.drew ?_ | refine Ext.trans ?_ (by assumption)))
          clear hK K
          refine wpAnyH_ready (rs := [21]) (by kernel_rfl) (by simp) ?_
          refine AllReadyH.cons (o := ?o10x21) ?hi10x21 (fun K hK => ?_) AllReadyH.nil
          case hi10x21 => (simp only [List.getElem?_toArray, List.getElem?_cons_succ, List.getElem?_cons_zero]; exact rfl)
          go_simp
          refine hK.out _ _ ?_ (fun hHeld => ?_)
          · (repeat (first | exact Ext.refl _ | assumption | refine Ext.setCell ?_ (by first | (simp; done) | (simp; omega)) _ | refine Ext.drewN ?_ _ | refine Ext.alloc ?_ _ | refine Ext.drew ?_ | refine Ext.trans ?_ (by assumption)))
          clear hK K
          refine wpAnyH_ready (rs := [22]) (by kernel_rfl) (by simp) ?_
          refine AllReadyH.cons (o := ?o10x22) ?hi10x22 (fun K hK => ?_) AllReadyH.nil
          case hi10x22 => (simp only [List.getElem?_toArray, List.getElem?_cons_succ, List.getElem?_cons_zero]; exact rfl)
          go_simp
          refine (first_any _ 2 2 [fieldE X Y W H l, 0] _ rfl (Rd.new (by simp) rfl) (by omega)).mono ?_
          rw [← HP.out]
          rintro e w' ⟨rfl, rfl⟩
          refine hK.out _ _ ?_ (fun hHeld => ?_)
          · (repeat (first | exact Ext.refl _ | assumption | refine Ext.setCell ?_ (by first | (simp; done) | (simp; omega)) _ | refine Ext.drewN ?_ _ | refine Ext.alloc ?_ _ | refine Ext.drew ?_ | refine Ext.trans ?_ (by assumption)))
          clear hK K
          refine wpAnyH_take (i := 23) (oi := ?o10x23) (v := ?v10x23) ?hi10x23 (by kernel_rfl) ?hf10x23 ?hr10x23 (fun _ _ _ h => h) ?hy10x23 (by assumption) ?rest10x23
          case hi10x23 => (simp only [List.getElem?_toArray, List.getElem?_cons_succ, List.getElem?_cons_zero]; exact rfl)
          case hf10x23 => kernel_rfl
          case hr10x23 => kernel_rfl
          case hy10x23 => (refine Or.inl ⟨by rfl, ?_⟩; intro w hSw; (try dsimp only at hSw); go_simp; try with_reducible rfl)
          simp only [put_mk, List.set_cons_succ, List.set_cons_zero]
          refine wpAnyH_done (by kernel_rfl) ?_ _
          refine NoPanic.normal ?_
          by_cases hpe : profE X Y W H ax ay bx by' l = 0
          · obtain ⟨s, C, q, g1, g2, rfl, g4, g5, g6, g7⟩ := Hp2.out hpe
            clear Hp1 Hp2
            have G1 := hidA g1
            have HPe := hidA hpe
            have P0 : (profE X Y W H ax ay bx by' l == 0) = true := by simpa using hpe
            have P1 : (profE X Y W H ax ay bx by' l != 0) = false := by simpa using hpe
            have Hreg := hidA (RegOk.of_zero (fieldE_parts g5).1)
            have Hfw := hidA (fieldE_parts g5).2.1
            have Hpl := hidA (show ∀ p ∈ linePts ax ay bx by' s (s + 1), InR X Y W H p.1 p.2 from fun p hp => by
              obtain ⟨k, hk, rfl⟩ := List.mem_map.1 hp
              exact line_in g6 g7 (by have := List.mem_range.1 hk; omega))
            have bd : (-4194304 ≤ ax ∧ ax ≤ 4194304) ∧ (-4194304 ≤ ay ∧ ay ≤ 4194304) ∧ (-4194304 ≤ bx ∧ bx ≤ 4194304) ∧ (-4194304 ≤ by' ∧ by' ≤ 4194304) := by
              have hreg := Hreg.out
              unfold RegOk at hreg
              unfold InR at g6 g7
              omega
            obtain ⟨bd1, bd2, bd3, bd4⟩ := bd
            have hCr : ∀ w', Ext w4 w' → Rd w' C (flt ((linePts ax ay bx by' s (s + 1)).map (valAt X Y W l))) := fun w' h => g4.rd.ext (hx.trans (hx4.trans h))
            have hnw : (n : Int) = W * H := by rw [← hn]; exact Hfw.out
            have Hnw := hidA hnw
            have Hlen : Hid ((linePts ax ay bx by' s (s + 1)).length = s + 1) := by show _ = _; simp [linePts]
            have Hlen2 : Hid (((linePts ax ay bx by' s (s + 1)).map (valAt X Y W l)).length = s + 1) := by show _ = _; rw [List.length_map]; exact Hlen.out
            clear g1 hpe g4 g5 g6 g7 hnw
            go_wp2_with fail
            refine wp_region_noPanic ?_
            refine wp_region_held_drew (S := fun w' => Ext w4 w') (by kernel_rfl) ?_ (fun hHeld => ?_)
            · (repeat (first | exact Ext.refl _ | assumption | refine Ext.setCell ?_ (by first | (simp; done) | (simp; omega)) _ | refine Ext.drewN ?_ _ | refine Ext.alloc ?_ _ | refine Ext.drew ?_ | refine Ext.trans ?_ (by assumption)))
            refine wpAnyH_take (i := 0) (oi := ?o12x0) (v := ?v12x0) ?hi12x0 (by kernel_rfl) ?hf12x0 ?hr12x0 (fun _ _ _ h => h) ?hy12x0 (by assumption) ?rest12x0
            case hi12x0 => (simp only [List.getElem?_toArray, List.getElem?_cons_zero]; exact rfl)
            case hf12x0 => kernel_rfl
            case hr12x0 => kernel_rfl
            case hy12x0 => (refine Or.inl ⟨by rfl, ?_⟩; intro w hSw; (try dsimp only at hSw); go_simp; try with_reducible rfl)
            simp only [put_mk, List.set_cons_succ, List.set_cons_zero]
            refine wpAnyH_take (i := 1) (oi := ?o12x1) (v := ?v12x1) ?hi12x1 (by kernel_rfl) ?hf12x1 ?hr12x1 (fun _ _ _ h => h) ?hy12x1 (by assumption) ?rest12x1
            case hi12x1 => (simp only [List.getElem?_toArray, List.getElem?_cons_succ, List.getElem?_cons_zero]; exact rfl)
            case hf12x1 => kernel_rfl
            case hr12x1 => kernel_rfl
            case hy12x1 => (refine Or.inl ⟨by rfl, ?_⟩; intro w hSw; (try dsimp only at hSw); go_simp; try with_reducible rfl)
            simp only [put_mk, List.set_cons_succ, List.set_cons_zero]
            refine wpAnyH_take (i := 2) (oi := ?o12x2) (v := ?v12x2) ?hi12x2 (by kernel_rfl) ?hf12x2 ?hr12x2 (fun _ _ _ h => h) ?hy12x2 (by assumption) ?rest12x2
            case hi12x2 => (simp only [List.getElem?_toArray, List.getElem?_cons_succ, List.getElem?_cons_zero]; exact rfl)
            case hf12x2 => kernel_rfl
            case hr12x2 => kernel_rfl
            case hy12x2 => (refine Or.inl ⟨by rfl, ?_⟩; intro w hSw; (try dsimp only at hSw); go_simp; try with_reducible rfl)
            simp only [put_mk, List.set_cons_succ, List.set_cons_zero]
            refine wpAnyH_take (i := 3) (oi := ?o12x3) (v := ?v12x3) ?hi12x3 (by kernel_rfl) ?hf12x3 ?hr12x3 (fun _ _ _ h => h) ?hy12x3 (by assumption) ?rest12x3
            case hi12x3 => (simp only [List.getElem?_toArray, List.getElem?_cons_succ, List.getElem?_cons_zero]; exact rfl)
            case hf12x3 => kernel_rfl
            case hr12x3 => kernel_rfl
            case hy12x3 => (refine Or.inl ⟨by rfl, ?_⟩; intro w hSw; (try dsimp only at hSw); go_simp; try with_reducible rfl)
            simp only [put_mk, List.set_cons_succ, List.set_cons_zero]
            refine wpAnyH_take (i := 4) (oi := ?o12x4) (v := ?v12x4) ?hi12x4 (by kernel_rfl) ?hf12x4 ?hr12x4 (fun _ _ _ h => h) ?hy12x4 (by assumption) ?rest12x4
            case hi12x4 => (simp only [List.getElem?_toArray, List.getElem?_cons_succ, List.getElem?_cons_zero]; exact rfl)
            case hf12x4 => kernel_rfl
            case hr12x4 => kernel_rfl
            case hy12x4 => (refine Or.inl ⟨by rfl, ?_⟩; intro w hSw; (try dsimp only at hSw); go_simp; try with_reducible rfl)
            simp only [put_mk, List.set_cons_succ, List.set_cons_zero]
            refine wpAnyH_take (i := 5) (oi := ?o12x5) (v := ?v12x5) ?hi12x5 (by kernel_rfl) ?hf12x5 ?hr12x5 (fun _ _ _ h => h) ?hy12x5 (by assumption) ?rest12x5
            case hi12x5 => (simp only [List.getElem?_toArray, List.getElem?_cons_succ, List.getElem?_cons_zero]; exact rfl)
            case hf12x5 => kernel_rfl
            case hr12x5 => kernel_rfl
            case hy12x5 => (refine Or.inl ⟨by rfl, ?_⟩; intro w hSw; (try dsimp only at hSw); go_simp; try with_reducible rfl)
            simp only [put_mk, List.set_cons_succ, List.set_cons_zero]
            refine wpAnyH_take (i := 6) (oi := ?o12x6) (v := ?v12x6) ?hi12x6 (by kernel_rfl) ?hf12x6 ?hr12x6 (fun _ _ _ h => h) ?hy12x6 (by assumption) ?rest12x6
            case hi12x6 => (simp only [List.getElem?_toArray, List.getElem?_cons_succ, List.getElem?_cons_zero]; exact rfl)
            case hf12x6 => kernel_rfl
            case hr12x6 => kernel_rfl
            case hy12x6 => (refine Or.inl ⟨by rfl, ?_⟩; intro w hSw; (try dsimp only at hSw); go_simp; try with_reducible rfl)
            simp only [put_mk, List.set_cons_succ, List.set_cons_zero]
            refine wpAnyH_ready (rs := [7]) (by kernel_rfl) (by simp) ?_
            refine AllReadyH.cons (o := ?o12x7) ?hi12x7 (fun K hK => ?_) AllReadyH.nil
            case hi12x7 => (simp only [List.getElem?_toArray, List.getElem?_cons_succ, List.getElem?_cons_zero]; exact rfl)
            go_simp
            refine (lineOf_any ax ay bx by' s _ bd1 bd2 bd3 bd4 G1.out g2).mono ?_
            rintro e w6 ⟨A6, c6, rfl, hr6, hb6⟩
            refine hK.out _ _ ?_ (fun hHeld => ?_)
            · (repeat (first | exact Ext.refl _ | assumption | refine Ext.setCell ?_ (by first | (simp; done) | (simp; omega)) _ | refine Ext.drewN ?_ _ | refine Ext.alloc ?_ _ | refine Ext.drew ?_ | refine Ext.trans ?_ (by assumption)))
            clear hK K
            refine wpAnyH_ready (rs := [8]) (by kernel_rfl) (by simp) ?_
            refine AllReadyH.cons (o := ?o12x8) ?hi12x8 (fun K hK => ?_) AllReadyH.nil
            case hi12x8 => (simp only [List.getElem?_toArray, List.getElem?_cons_succ, List.getElem?_cons_zero]; exact rfl)
            go_simp
            refine (values_any X Y W H A A6 n c (s + 1) c6 l _ _ Hreg.out hn Hnw.out (hD _ ?_) Hlen.out hr6.rd Hpl.out (by omega)).mono ?_
            · (repeat (first | exact Ext.refl _ | assumption | refine Ext.setCell ?_ (by first | (simp; done) | (simp; omega)) _ | refine Ext.drewN ?_ _ | refine Ext.alloc ?_ _ | refine Ext.drew ?_ | refine Ext.trans ?_ (by assumption)))
            rintro e w7 ⟨C7, q7, rfl, hr7, hb7⟩
            refine hK.out _ _ ?_ (fun hHeld => ?_)
            · (repeat (first | exact Ext.refl _ | assumption | refine Ext.setCell ?_ (by first | (simp; done) | (simp; omega)) _ | refine Ext.drewN ?_ _ | refine Ext.alloc ?_ _ | refine Ext.drew ?_ | refine Ext.trans ?_ (by assumption)))
            clear hK K
            refine wpAnyH_ready (rs := [9]) (by kernel_rfl) (by simp) ?_
            refine AllReadyH.cons (o := ?o12x9) ?hi12x9 (fun K hK => ?_) AllReadyH.nil
            case hi12x9 => (simp only [List.getElem?_toArray, List.getElem?_cons_succ, List.getElem?_cons_zero]; exact rfl)
            go_simp
            refine (bits_same C C7 (s + 1) q q7 _ _ Hlen2.out (hCr _ ?_) hr7.rd (by omega)).mono ?_
            · (repeat (first | exact Ext.refl _ | assumption | refine Ext.setCell ?_ (by first | (simp; done) | (simp; omega)) _ | refine Ext.drewN ?_ _ | refine Ext.alloc ?_ _ | refine Ext.drew ?_ | refine Ext.trans ?_ (by assumption)))
            rintro e w' ⟨rfl, rfl⟩
            refine hK.out _ _ ?_ (fun hHeld => ?_)
            · (repeat (first | exact Ext.refl _ | assumption | refine Ext.setCell ?_ (by first | (simp; done) | (simp; omega)) _ | refine Ext.drewN ?_ _ | refine Ext.alloc ?_ _ | refine Ext.drew ?_ | refine Ext.trans ?_ (by assumption)))
            clear hK K
            refine wpAnyH_take (i := 10) (oi := ?o12x10) (v := ?v12x10) ?hi12x10 (by kernel_rfl) ?hf12x10 ?hr12x10 (fun _ _ _ h => h) ?hy12x10 (by assumption) ?rest12x10
            case hi12x10 => (simp only [List.getElem?_toArray, List.getElem?_cons_succ, List.getElem?_cons_zero]; exact rfl)
            case hf12x10 => kernel_rfl
            case hr12x10 => kernel_rfl
            case hy12x10 => (refine Or.inl ⟨by rfl, ?_⟩; intro w hSw; (try dsimp only at hSw); go_simp; try with_reducible rfl)
            simp only [put_mk, List.set_cons_succ, List.set_cons_zero]
            refine wpAnyH_take (i := 11) (oi := ?o12x11) (v := ?v12x11) ?hi12x11 (by kernel_rfl) ?hf12x11 ?hr12x11 (fun _ _ _ h => h) ?hy12x11 (by assumption) ?rest12x11
            case hi12x11 => (simp only [List.getElem?_toArray, List.getElem?_cons_succ, List.getElem?_cons_zero]; exact rfl)
            case hf12x11 => kernel_rfl
            case hr12x11 => kernel_rfl
            case hy12x11 => (refine Or.inl ⟨by rfl, ?_⟩; intro w hSw; (try dsimp only at hSw); go_simp; try with_reducible rfl)
            simp only [put_mk, List.set_cons_succ, List.set_cons_zero]
            refine wpAnyH_done (by kernel_rfl) ?_ _
            refine NoPanic.normal ?_
            go_wp2
            go_ret
            exact ⟨rfl, (by repeat (first | exact Ext.refl _ | assumption | refine Ext.setCell ?_ (by first | (simp; done) | (simp; omega)) _ | refine Ext.drewN ?_ _ | refine Ext.alloc ?_ _ | refine Ext.drew ?_ | refine Ext.trans ?_ (by assumption)))⟩
          · have hv2 := Hp1.out hpe
            subst hv2
            have P0 : (profE X Y W H ax ay bx by' l != 0) = true := by simpa using hpe
            clear hpe Hp1 Hp2
            go_wp2
            go_ret
            exact ⟨ret_b (by simp), (by repeat (first | exact Ext.refl _ | assumption | refine Ext.setCell ?_ (by first | (simp; done) | (simp; omega)) _ | refine Ext.drewN ?_ _ | refine Ext.alloc ?_ _ | refine Ext.drew ?_ | refine Ext.trans ?_ (by assumption)))⟩
        · have HP : Hid (profE X Y W H ax ay bx by' l = firstE [fieldE X Y W H l, 5]) := by show _ = _; unfold profE hasW; rw [if_neg (fun h => hhb h.2)]
          have hne : profE X Y W H ax ay bx by' l ≠ 0 := by
            intro h; rw [HP.out] at h; simp only [firstE] at h; split at h <;> simp_all
          have hv2 := Hp1.out hne
          subst hv2
          have P0 : (profE X Y W H ax ay bx by' l != 0) = true := by simpa using hne
          have Ha := hidA hha
          have Hb : Hid (hasB X Y W H bx by' = false) := by show _ = _; simpa using hhb
          clear hha hhb hne Hp1 Hp2
          refine wp_region_noPanic ?_
          refine wp_region_held_drew (S := fun w' => Ext w4 w') (by kernel_rfl) ?_ (fun hHeld => ?_)
          · (repeat (first | exact Ext.refl _ | assumption | refine Ext.setCell ?_ (by first | (simp; done) | (simp; omega)) _ | refine Ext.drewN ?_ _ | refine Ext.alloc ?_ _ | refine Ext.drew ?_ | refine Ext.trans ?_ (by assumption)))
          refine wpAnyH_take (i := 0) (oi := ?o11x0) (v := ?v11x0) ?hi11x0 (by kernel_rfl) ?hf11x0 ?hr11x0 (fun _ _ _ h => h) ?hy11x0 (by assumption) ?rest11x0
          case hi11x0 => (simp only [List.getElem?_toArray, List.getElem?_cons_zero]; exact rfl)
          case hf11x0 => kernel_rfl
          case hr11x0 => kernel_rfl
          case hy11x0 => (refine Or.inl ⟨by rfl, ?_⟩; intro w hSw; (try dsimp only at hSw); go_simp; try with_reducible rfl)
          simp only [put_mk, List.set_cons_succ, List.set_cons_zero]
          refine wpAnyH_take (i := 2) (oi := ?o11x2) (v := ?v11x2) ?hi11x2 (by kernel_rfl) ?hf11x2 ?hr11x2 (fun _ _ _ h => h) ?hy11x2 (by assumption) ?rest11x2
          case hi11x2 => (simp only [List.getElem?_toArray, List.getElem?_cons_succ, List.getElem?_cons_zero]; exact rfl)
          case hf11x2 => kernel_rfl
          case hr11x2 => kernel_rfl
          case hy11x2 => (refine Or.inl ⟨by rfl, ?_⟩; intro w hSw; (try dsimp only at hSw); go_simp; try with_reducible rfl)
          simp only [put_mk, List.set_cons_succ, List.set_cons_zero]
          refine wpAnyH_take (i := 3) (oi := ?o11x3) (v := ?v11x3) ?hi11x3 (by kernel_rfl) ?hf11x3 ?hr11x3 (fun _ _ _ h => h) ?hy11x3 (by assumption) ?rest11x3
          case hi11x3 => (simp only [List.getElem?_toArray, List.getElem?_cons_succ, List.getElem?_cons_zero]; exact rfl)
          case hf11x3 => kernel_rfl
          case hr11x3 => kernel_rfl
          case hy11x3 => (refine Or.inl ⟨by rfl, ?_⟩; intro w hSw; (try dsimp only at hSw); go_simp; try with_reducible rfl)
          simp only [put_mk, List.set_cons_succ, List.set_cons_zero]
          refine wpAnyH_take (i := 4) (oi := ?o11x4) (v := ?v11x4) ?hi11x4 (by kernel_rfl) ?hf11x4 ?hr11x4 (fun _ _ _ h => h) ?hy11x4 (by assumption) ?rest11x4
          case hi11x4 => (simp only [List.getElem?_toArray, List.getElem?_cons_succ, List.getElem?_cons_zero]; exact rfl)
          case hf11x4 => kernel_rfl
          case hr11x4 => kernel_rfl
          case hy11x4 => (refine Or.inl ⟨by rfl, ?_⟩; intro w hSw; (try dsimp only at hSw); go_simp; try with_reducible rfl)
          simp only [put_mk, List.set_cons_succ, List.set_cons_zero]
          refine wpAnyH_take (i := 5) (oi := ?o11x5) (v := ?v11x5) ?hi11x5 (by kernel_rfl) ?hf11x5 ?hr11x5 (fun _ _ _ h => h) ?hy11x5 (by assumption) ?rest11x5
          case hi11x5 => (simp only [List.getElem?_toArray, List.getElem?_cons_succ, List.getElem?_cons_zero]; exact rfl)
          case hf11x5 => kernel_rfl
          case hr11x5 => kernel_rfl
          case hy11x5 => (refine Or.inl ⟨by rfl, ?_⟩; intro w hSw; (try dsimp only at hSw); go_simp; try with_reducible rfl)
          simp only [put_mk, List.set_cons_succ, List.set_cons_zero]
          refine wpAnyH_take (i := 6) (oi := ?o11x6) (v := ?v11x6) ?hi11x6 (by kernel_rfl) ?hf11x6 ?hr11x6 (fun _ _ _ h => h) ?hy11x6 (by assumption) ?rest11x6
          case hi11x6 => (simp only [List.getElem?_toArray, List.getElem?_cons_succ, List.getElem?_cons_zero]; exact rfl)
          case hf11x6 => kernel_rfl
          case hr11x6 => kernel_rfl
          case hy11x6 => (refine Or.inl ⟨by rfl, ?_⟩; intro w hSw; (try dsimp only at hSw); go_simp; try with_reducible rfl)
          simp only [put_mk, List.set_cons_succ, List.set_cons_zero]
          refine wpAnyH_take (i := 7) (oi := ?o11x7) (v := ?v11x7) ?hi11x7 (by kernel_rfl) ?hf11x7 ?hr11x7 (fun _ _ _ h => h) ?hy11x7 (by assumption) ?rest11x7
          case hi11x7 => (simp only [List.getElem?_toArray, List.getElem?_cons_succ, List.getElem?_cons_zero]; exact rfl)
          case hf11x7 => kernel_rfl
          case hr11x7 => kernel_rfl
          case hy11x7 => (refine Or.inl ⟨by rfl, ?_⟩; intro w hSw; (try dsimp only at hSw); go_simp; try with_reducible rfl)
          simp only [put_mk, List.set_cons_succ, List.set_cons_zero]
          refine wpAnyH_ready (rs := [1]) (by kernel_rfl) (by simp) ?_
          refine AllReadyH.cons (o := ?o11x1) ?hi11x1 (fun K hK => ?_) AllReadyH.nil
          case hi11x1 => (simp only [List.getElem?_toArray, List.getElem?_cons_succ, List.getElem?_cons_zero]; exact rfl)
          go_simp
          refine ((HFE _ ?_).out).mono ?_
          · (repeat (first | exact Ext.refl _ | assumption | refine Ext.setCell ?_ (by first | (simp; done) | (simp; omega)) _ | refine Ext.drewN ?_ _ | refine Ext.alloc ?_ _ | refine Ext.drew ?_ | refine Ext.trans ?_ (by assumption)))
          rintro e w5 ⟨rfl, hb5⟩
          refine hK.out _ _ ?_ (fun hHeld => ?_)
          · (repeat (first | exact Ext.refl _ | assumption | refine Ext.setCell ?_ (by first | (simp; done) | (simp; omega)) _ | refine Ext.drewN ?_ _ | refine Ext.alloc ?_ _ | refine Ext.drew ?_ | refine Ext.trans ?_ (by assumption)))
          clear hK K
          refine wpAnyH_ready (rs := [8]) (by kernel_rfl) (by simp) ?_
          refine AllReadyH.cons (o := ?o11x8) ?hi11x8 (fun K hK => ?_) AllReadyH.nil
          case hi11x8 => (simp only [List.getElem?_toArray, List.getElem?_cons_succ, List.getElem?_cons_zero]; exact rfl)
          go_simp
          refine (has_eq _ _ _ _ _ _ _ _ Ha.out).mono ?_
          rintro e w6 ⟨rfl, hb6⟩
          refine hK.out _ _ ?_ (fun hHeld => ?_)
          · (repeat (first | exact Ext.refl _ | assumption | refine Ext.setCell ?_ (by first | (simp; done) | (simp; omega)) _ | refine Ext.drewN ?_ _ | refine Ext.alloc ?_ _ | refine Ext.drew ?_ | refine Ext.trans ?_ (by assumption)))
          clear hK K
          refine wpAnyH_take (i := 9) (oi := ?o11x9) (v := ?v11x9) ?hi11x9 (by kernel_rfl) ?hf11x9 ?hr11x9 (fun _ _ _ h => h) ?hy11x9 (by assumption) ?rest11x9
          case hi11x9 => (simp only [List.getElem?_toArray, List.getElem?_cons_succ, List.getElem?_cons_zero]; exact rfl)
          case hf11x9 => kernel_rfl
          case hr11x9 => kernel_rfl
          case hy11x9 => (refine Or.inl ⟨by rfl, ?_⟩; intro w hSw; (try dsimp only at hSw); go_simp; try with_reducible rfl)
          simp only [put_mk, List.set_cons_succ, List.set_cons_zero]
          refine wpAnyH_take (i := 10) (oi := ?o11x10) (v := ?v11x10) ?hi11x10 (by kernel_rfl) ?hf11x10 ?hr11x10 (fun _ _ _ h => h) ?hy11x10 (by assumption) ?rest11x10
          case hi11x10 => (simp only [List.getElem?_toArray, List.getElem?_cons_succ, List.getElem?_cons_zero]; exact rfl)
          case hf11x10 => kernel_rfl
          case hr11x10 => kernel_rfl
          case hy11x10 => (refine Or.inl ⟨by rfl, ?_⟩; intro w hSw; (try dsimp only at hSw); go_simp; try with_reducible rfl)
          simp only [put_mk, List.set_cons_succ, List.set_cons_zero]
          refine wpAnyH_take (i := 11) (oi := ?o11x11) (v := ?v11x11) ?hi11x11 (by kernel_rfl) ?hf11x11 ?hr11x11 (fun _ _ _ h => h) ?hy11x11 (by assumption) ?rest11x11
          case hi11x11 => (simp only [List.getElem?_toArray, List.getElem?_cons_succ, List.getElem?_cons_zero]; exact rfl)
          case hf11x11 => kernel_rfl
          case hr11x11 => kernel_rfl
          case hy11x11 => (refine Or.inl ⟨by rfl, ?_⟩; intro w hSw; (try dsimp only at hSw); go_simp; try with_reducible rfl)
          simp only [put_mk, List.set_cons_succ, List.set_cons_zero]
          refine wpAnyH_take (i := 12) (oi := ?o11x12) (v := ?v11x12) ?hi11x12 (by kernel_rfl) ?hf11x12 ?hr11x12 (fun _ _ _ h => h) ?hy11x12 (by assumption) ?rest11x12
          case hi11x12 => (simp only [List.getElem?_toArray, List.getElem?_cons_succ, List.getElem?_cons_zero]; exact rfl)
          case hf11x12 => kernel_rfl
          case hr11x12 => kernel_rfl
          case hy11x12 => (refine Or.inl ⟨by rfl, ?_⟩; intro w hSw; (try dsimp only at hSw); go_simp; try with_reducible rfl)
          simp only [put_mk, List.set_cons_succ, List.set_cons_zero]
          refine wpAnyH_take (i := 13) (oi := ?o11x13) (v := ?v11x13) ?hi11x13 (by kernel_rfl) ?hf11x13 ?hr11x13 (fun _ _ _ h => h) ?hy11x13 (by assumption) ?rest11x13
          case hi11x13 => (simp only [List.getElem?_toArray, List.getElem?_cons_succ, List.getElem?_cons_zero]; exact rfl)
          case hf11x13 => kernel_rfl
          case hr11x13 => kernel_rfl
          case hy11x13 => (refine Or.inl ⟨by rfl, ?_⟩; intro w hSw; (try dsimp only at hSw); go_simp; try with_reducible rfl)
          simp only [put_mk, List.set_cons_succ, List.set_cons_zero]
          refine wpAnyH_take (i := 14) (oi := ?o11x14) (v := ?v11x14) ?hi11x14 (by kernel_rfl) ?hf11x14 ?hr11x14 (fun _ _ _ h => h) ?hy11x14 (by assumption) ?rest11x14
          case hi11x14 => (simp only [List.getElem?_toArray, List.getElem?_cons_succ, List.getElem?_cons_zero]; exact rfl)
          case hf11x14 => kernel_rfl
          case hr11x14 => kernel_rfl
          case hy11x14 => (refine Or.inl ⟨by rfl, ?_⟩; intro w hSw; (try dsimp only at hSw); go_simp; try with_reducible rfl)
          simp only [put_mk, List.set_cons_succ, List.set_cons_zero]
          refine wpAnyH_take (i := 15) (oi := ?o11x15) (v := ?v11x15) ?hi11x15 (by kernel_rfl) ?hf11x15 ?hr11x15 (fun _ _ _ h => h) ?hy11x15 (by assumption) ?rest11x15
          case hi11x15 => (simp only [List.getElem?_toArray, List.getElem?_cons_succ, List.getElem?_cons_zero]; exact rfl)
          case hf11x15 => kernel_rfl
          case hr11x15 => kernel_rfl
          case hy11x15 => (refine Or.inl ⟨by rfl, ?_⟩; intro w hSw; (try dsimp only at hSw); go_simp; try with_reducible rfl)
          simp only [put_mk, List.set_cons_succ, List.set_cons_zero]
          refine wpAnyH_take (i := 16) (oi := ?o11x16) (v := ?v11x16) ?hi11x16 (by kernel_rfl) ?hf11x16 ?hr11x16 (fun _ _ _ h => h) ?hy11x16 (by assumption) ?rest11x16
          case hi11x16 => (simp only [List.getElem?_toArray, List.getElem?_cons_succ, List.getElem?_cons_zero]; exact rfl)
          case hf11x16 => kernel_rfl
          case hr11x16 => kernel_rfl
          case hy11x16 => (refine Or.inl ⟨by rfl, ?_⟩; intro w hSw; (try dsimp only at hSw); go_simp; try with_reducible rfl)
          simp only [put_mk, List.set_cons_succ, List.set_cons_zero]
          refine wpAnyH_ready (rs := [17]) (by kernel_rfl) (by simp) ?_
          refine AllReadyH.cons (o := ?o11x17) ?hi11x17 (fun K hK => ?_) AllReadyH.nil
          case hi11x17 => (simp only [List.getElem?_toArray, List.getElem?_cons_succ, List.getElem?_cons_zero]; exact rfl)
          go_simp
          refine (has_eq _ _ _ _ _ _ _ _ Hb.out).mono ?_
          rintro e w7 ⟨rfl, hb7⟩
          refine hK.out _ _ ?_ (fun hHeld => ?_)
          · (repeat (first | exact Ext.refl _ | assumption | refine Ext.setCell ?_ (by first | (simp; done) | (simp; omega)) _ | refine Ext.drewN ?_ _ | refine Ext.alloc ?_ _ | refine Ext.drew ?_ | refine Ext.trans ?_ (by assumption)))
          clear hK K
          refine wpAnyH_take (i := 18) (oi := ?o11x18) (v := ?v11x18) ?hi11x18 (by kernel_rfl) ?hf11x18 ?hr11x18 (fun _ _ _ h => h) ?hy11x18 (by assumption) ?rest11x18
          case hi11x18 => (simp only [List.getElem?_toArray, List.getElem?_cons_succ, List.getElem?_cons_zero]; exact rfl)
          case hf11x18 => kernel_rfl
          case hr11x18 => kernel_rfl
          case hy11x18 => (refine Or.inl ⟨by rfl, ?_⟩; intro w hSw; (try dsimp only at hSw); go_simp; try with_reducible rfl)
          simp only [put_mk, List.set_cons_succ, List.set_cons_zero]
          refine wpAnyH_take (i := 19) (oi := ?o11x19) (v := ?v11x19) ?hi11x19 (by kernel_rfl) ?hf11x19 ?hr11x19 (fun _ _ _ h => h) ?hy11x19 (by assumption) ?rest11x19
          case hi11x19 => (simp only [List.getElem?_toArray, List.getElem?_cons_succ, List.getElem?_cons_zero]; exact rfl)
          case hf11x19 => kernel_rfl
          case hr11x19 => kernel_rfl
          case hy11x19 => (refine Or.inl ⟨by rfl, ?_⟩; intro w hSw; (try dsimp only at hSw); go_simp; try with_reducible rfl)
          simp only [put_mk, List.set_cons_succ, List.set_cons_zero]
          refine wpAnyH_ready (rs := [20]) (by kernel_rfl) (by simp) ?_
          refine AllReadyH.cons (o := ?o11x20) ?hi11x20 (fun K hK => ?_) AllReadyH.nil
          case hi11x20 => (simp only [List.getElem?_toArray, List.getElem?_cons_succ, List.getElem?_cons_zero]; exact rfl)
          go_simp
          refine (when_yes _ _).mono ?_
          rintro e w' ⟨rfl, rfl⟩
          refine hK.out _ _ ?_ (fun hHeld => ?_)
          · (repeat (first | exact Ext.refl _ | assumption | refine Ext.setCell ?_ (by first | (simp; done) | (simp; omega)) _ | refine Ext.drewN ?_ _ | refine Ext.alloc ?_ _ | refine Ext.drew ?_ | refine Ext.trans ?_ (by assumption)))
          clear hK K
          refine wpAnyH_ready (rs := [21]) (by kernel_rfl) (by simp) ?_
          refine AllReadyH.cons (o := ?o11x21) ?hi11x21 (fun K hK => ?_) AllReadyH.nil
          case hi11x21 => (simp only [List.getElem?_toArray, List.getElem?_cons_succ, List.getElem?_cons_zero]; exact rfl)
          go_simp
          refine hK.out _ _ ?_ (fun hHeld => ?_)
          · (repeat (first | exact Ext.refl _ | assumption | refine Ext.setCell ?_ (by first | (simp; done) | (simp; omega)) _ | refine Ext.drewN ?_ _ | refine Ext.alloc ?_ _ | refine Ext.drew ?_ | refine Ext.trans ?_ (by assumption)))
          clear hK K
          refine wpAnyH_ready (rs := [22]) (by kernel_rfl) (by simp) ?_
          refine AllReadyH.cons (o := ?o11x22) ?hi11x22 (fun K hK => ?_) AllReadyH.nil
          case hi11x22 => (simp only [List.getElem?_toArray, List.getElem?_cons_succ, List.getElem?_cons_zero]; exact rfl)
          go_simp
          refine (first_any _ 2 2 [fieldE X Y W H l, 5] _ rfl (Rd.new (by simp) rfl) (by omega)).mono ?_
          rw [← HP.out]
          rintro e w' ⟨rfl, rfl⟩
          refine hK.out _ _ ?_ (fun hHeld => ?_)
          · (repeat (first | exact Ext.refl _ | assumption | refine Ext.setCell ?_ (by first | (simp; done) | (simp; omega)) _ | refine Ext.drewN ?_ _ | refine Ext.alloc ?_ _ | refine Ext.drew ?_ | refine Ext.trans ?_ (by assumption)))
          clear hK K
          refine wpAnyH_take (i := 23) (oi := ?o11x23) (v := ?v11x23) ?hi11x23 (by kernel_rfl) ?hf11x23 ?hr11x23 (fun _ _ _ h => h) ?hy11x23 (by assumption) ?rest11x23
          case hi11x23 => (simp only [List.getElem?_toArray, List.getElem?_cons_succ, List.getElem?_cons_zero]; exact rfl)
          case hf11x23 => kernel_rfl
          case hr11x23 => kernel_rfl
          case hy11x23 => (refine Or.inl ⟨by rfl, ?_⟩; intro w hSw; (try dsimp only at hSw); go_simp; try with_reducible rfl)
          simp only [put_mk, List.set_cons_succ, List.set_cons_zero]
          refine wpAnyH_done (by kernel_rfl) ?_ _
          refine NoPanic.normal ?_
          go_wp2
          go_ret
          exact ⟨ret_b (by simp), (by repeat (first | exact Ext.refl _ | assumption | refine Ext.setCell ?_ (by first | (simp; done) | (simp; omega)) _ | refine Ext.drewN ?_ _ | refine Ext.alloc ?_ _ | refine Ext.drew ?_ | refine Ext.trans ?_ (by assumption)))⟩
      · have HP : Hid (profE X Y W H ax ay bx by' l = firstE [fieldE X Y W H l, 5]) := by show _ = _; unfold profE hasW; rw [if_neg (fun h => hha h.1)]
        have hne : profE X Y W H ax ay bx by' l ≠ 0 := by
          intro h; rw [HP.out] at h; simp only [firstE] at h; split at h <;> simp_all
        have hv2 := Hp1.out hne
        subst hv2
        have P0 : (profE X Y W H ax ay bx by' l != 0) = true := by simpa using hne
        have Ha : Hid (hasB X Y W H ax ay = false) := by show _ = _; simpa using hha
        clear hha hne Hp1 Hp2
        refine wp_region_noPanic ?_
        refine wp_region_held_drew (S := fun w' => Ext w4 w') (by kernel_rfl) ?_ (fun hHeld => ?_)
        · (repeat (first | exact Ext.refl _ | assumption | refine Ext.setCell ?_ (by first | (simp; done) | (simp; omega)) _ | refine Ext.drewN ?_ _ | refine Ext.alloc ?_ _ | refine Ext.drew ?_ | refine Ext.trans ?_ (by assumption)))
        refine wpAnyH_take (i := 0) (oi := ?o9x0) (v := ?v9x0) ?hi9x0 (by kernel_rfl) ?hf9x0 ?hr9x0 (fun _ _ _ h => h) ?hy9x0 (by assumption) ?rest9x0
        case hi9x0 => (simp only [List.getElem?_toArray, List.getElem?_cons_zero]; exact rfl)
        case hf9x0 => kernel_rfl
        case hr9x0 => kernel_rfl
        case hy9x0 => (refine Or.inl ⟨by rfl, ?_⟩; intro w hSw; (try dsimp only at hSw); go_simp; try with_reducible rfl)
        simp only [put_mk, List.set_cons_succ, List.set_cons_zero]
        refine wpAnyH_take (i := 2) (oi := ?o9x2) (v := ?v9x2) ?hi9x2 (by kernel_rfl) ?hf9x2 ?hr9x2 (fun _ _ _ h => h) ?hy9x2 (by assumption) ?rest9x2
        case hi9x2 => (simp only [List.getElem?_toArray, List.getElem?_cons_succ, List.getElem?_cons_zero]; exact rfl)
        case hf9x2 => kernel_rfl
        case hr9x2 => kernel_rfl
        case hy9x2 => (refine Or.inl ⟨by rfl, ?_⟩; intro w hSw; (try dsimp only at hSw); go_simp; try with_reducible rfl)
        simp only [put_mk, List.set_cons_succ, List.set_cons_zero]
        refine wpAnyH_take (i := 3) (oi := ?o9x3) (v := ?v9x3) ?hi9x3 (by kernel_rfl) ?hf9x3 ?hr9x3 (fun _ _ _ h => h) ?hy9x3 (by assumption) ?rest9x3
        case hi9x3 => (simp only [List.getElem?_toArray, List.getElem?_cons_succ, List.getElem?_cons_zero]; exact rfl)
        case hf9x3 => kernel_rfl
        case hr9x3 => kernel_rfl
        case hy9x3 => (refine Or.inl ⟨by rfl, ?_⟩; intro w hSw; (try dsimp only at hSw); go_simp; try with_reducible rfl)
        simp only [put_mk, List.set_cons_succ, List.set_cons_zero]
        refine wpAnyH_take (i := 4) (oi := ?o9x4) (v := ?v9x4) ?hi9x4 (by kernel_rfl) ?hf9x4 ?hr9x4 (fun _ _ _ h => h) ?hy9x4 (by assumption) ?rest9x4
        case hi9x4 => (simp only [List.getElem?_toArray, List.getElem?_cons_succ, List.getElem?_cons_zero]; exact rfl)
        case hf9x4 => kernel_rfl
        case hr9x4 => kernel_rfl
        case hy9x4 => (refine Or.inl ⟨by rfl, ?_⟩; intro w hSw; (try dsimp only at hSw); go_simp; try with_reducible rfl)
        simp only [put_mk, List.set_cons_succ, List.set_cons_zero]
        refine wpAnyH_take (i := 5) (oi := ?o9x5) (v := ?v9x5) ?hi9x5 (by kernel_rfl) ?hf9x5 ?hr9x5 (fun _ _ _ h => h) ?hy9x5 (by assumption) ?rest9x5
        case hi9x5 => (simp only [List.getElem?_toArray, List.getElem?_cons_succ, List.getElem?_cons_zero]; exact rfl)
        case hf9x5 => kernel_rfl
        case hr9x5 => kernel_rfl
        case hy9x5 => (refine Or.inl ⟨by rfl, ?_⟩; intro w hSw; (try dsimp only at hSw); go_simp; try with_reducible rfl)
        simp only [put_mk, List.set_cons_succ, List.set_cons_zero]
        refine wpAnyH_take (i := 6) (oi := ?o9x6) (v := ?v9x6) ?hi9x6 (by kernel_rfl) ?hf9x6 ?hr9x6 (fun _ _ _ h => h) ?hy9x6 (by assumption) ?rest9x6
        case hi9x6 => (simp only [List.getElem?_toArray, List.getElem?_cons_succ, List.getElem?_cons_zero]; exact rfl)
        case hf9x6 => kernel_rfl
        case hr9x6 => kernel_rfl
        case hy9x6 => (refine Or.inl ⟨by rfl, ?_⟩; intro w hSw; (try dsimp only at hSw); go_simp; try with_reducible rfl)
        simp only [put_mk, List.set_cons_succ, List.set_cons_zero]
        refine wpAnyH_take (i := 7) (oi := ?o9x7) (v := ?v9x7) ?hi9x7 (by kernel_rfl) ?hf9x7 ?hr9x7 (fun _ _ _ h => h) ?hy9x7 (by assumption) ?rest9x7
        case hi9x7 => (simp only [List.getElem?_toArray, List.getElem?_cons_succ, List.getElem?_cons_zero]; exact rfl)
        case hf9x7 => kernel_rfl
        case hr9x7 => kernel_rfl
        case hy9x7 => (refine Or.inl ⟨by rfl, ?_⟩; intro w hSw; (try dsimp only at hSw); go_simp; try with_reducible rfl)
        simp only [put_mk, List.set_cons_succ, List.set_cons_zero]
        refine wpAnyH_ready (rs := [1]) (by kernel_rfl) (by simp) ?_
        refine AllReadyH.cons (o := ?o9x1) ?hi9x1 (fun K hK => ?_) AllReadyH.nil
        case hi9x1 => (simp only [List.getElem?_toArray, List.getElem?_cons_succ, List.getElem?_cons_zero]; exact rfl)
        go_simp
        refine ((HFE _ ?_).out).mono ?_
        · (repeat (first | exact Ext.refl _ | assumption | refine Ext.setCell ?_ (by first | (simp; done) | (simp; omega)) _ | refine Ext.drewN ?_ _ | refine Ext.alloc ?_ _ | refine Ext.drew ?_ | refine Ext.trans ?_ (by assumption)))
        rintro e w5 ⟨rfl, hb5⟩
        refine hK.out _ _ ?_ (fun hHeld => ?_)
        · (repeat (first | exact Ext.refl _ | assumption | refine Ext.setCell ?_ (by first | (simp; done) | (simp; omega)) _ | refine Ext.drewN ?_ _ | refine Ext.alloc ?_ _ | refine Ext.drew ?_ | refine Ext.trans ?_ (by assumption)))
        clear hK K
        refine wpAnyH_ready (rs := [8]) (by kernel_rfl) (by simp) ?_
        refine AllReadyH.cons (o := ?o9x8) ?hi9x8 (fun K hK => ?_) AllReadyH.nil
        case hi9x8 => (simp only [List.getElem?_toArray, List.getElem?_cons_succ, List.getElem?_cons_zero]; exact rfl)
        go_simp
        refine (has_eq _ _ _ _ _ _ _ _ Ha.out).mono ?_
        rintro e w6 ⟨rfl, hb6⟩
        refine hK.out _ _ ?_ (fun hHeld => ?_)
        · (repeat (first | exact Ext.refl _ | assumption | refine Ext.setCell ?_ (by first | (simp; done) | (simp; omega)) _ | refine Ext.drewN ?_ _ | refine Ext.alloc ?_ _ | refine Ext.drew ?_ | refine Ext.trans ?_ (by assumption)))
        clear hK K
        refine wpAnyH_take (i := 9) (oi := ?o9x9) (v := ?v9x9) ?hi9x9 (by kernel_rfl) ?hf9x9 ?hr9x9 (fun _ _ _ h => h) ?hy9x9 (by assumption) ?rest9x9
        case hi9x9 => (simp only [List.getElem?_toArray, List.getElem?_cons_succ, List.getElem?_cons_zero]; exact rfl)
        case hf9x9 => kernel_rfl
        case hr9x9 => kernel_rfl
        case hy9x9 => (refine Or.inl ⟨by rfl, ?_⟩; intro w hSw; (try dsimp only at hSw); go_simp; try with_reducible rfl)
        simp only [put_mk, List.set_cons_succ, List.set_cons_zero]
        refine wpAnyH_take (i := 10) (oi := ?o9x10) (v := ?v9x10) ?hi9x10 (by kernel_rfl) ?hf9x10 ?hr9x10 (fun _ _ _ h => h) ?hy9x10 (by assumption) ?rest9x10
        case hi9x10 => (simp only [List.getElem?_toArray, List.getElem?_cons_succ, List.getElem?_cons_zero]; exact rfl)
        case hf9x10 => kernel_rfl
        case hr9x10 => kernel_rfl
        case hy9x10 => (refine Or.inl ⟨by rfl, ?_⟩; intro w hSw; (try dsimp only at hSw); go_simp; try with_reducible rfl)
        simp only [put_mk, List.set_cons_succ, List.set_cons_zero]
        refine wpAnyH_take (i := 11) (oi := ?o9x11) (v := undef) ?hi9x11 (by kernel_rfl) ?hf9x11 ?hr9x11 (fun _ _ _ h => h) ?hy9x11 (by assumption) ?rest9x11
        case hi9x11 => (simp only [List.getElem?_toArray, List.getElem?_cons_succ, List.getElem?_cons_zero]; exact rfl)
        case hf9x11 => kernel_rfl
        case hr9x11 => kernel_rfl
        case hy9x11 => exact Or.inr ⟨by rfl, rfl⟩
        simp only [put_mk, List.set_cons_succ, List.set_cons_zero]
        refine wpAnyH_take (i := 12) (oi := ?o9x12) (v := undef) ?hi9x12 (by kernel_rfl) ?hf9x12 ?hr9x12 (fun _ _ _ h => h) ?hy9x12 (by assumption) ?rest9x12
        case hi9x12 => (simp only [List.getElem?_toArray, List.getElem?_cons_succ, List.getElem?_cons_zero]; exact rfl)
        case hf9x12 => kernel_rfl
        case hr9x12 => kernel_rfl
        case hy9x12 => exact Or.inr ⟨by rfl, rfl⟩
        simp only [put_mk, List.set_cons_succ, List.set_cons_zero]
        refine wpAnyH_take (i := 13) (oi := ?o9x13) (v := undef) ?hi9x13 (by kernel_rfl) ?hf9x13 ?hr9x13 (fun _ _ _ h => h) ?hy9x13 (by assumption) ?rest9x13
        case hi9x13 => (simp only [List.getElem?_toArray, List.getElem?_cons_succ, List.getElem?_cons_zero]; exact rfl)
        case hf9x13 => kernel_rfl
        case hr9x13 => kernel_rfl
        case hy9x13 => exact Or.inr ⟨by rfl, rfl⟩
        simp only [put_mk, List.set_cons_succ, List.set_cons_zero]
        refine wpAnyH_take (i := 14) (oi := ?o9x14) (v := undef) ?hi9x14 (by kernel_rfl) ?hf9x14 ?hr9x14 (fun _ _ _ h => h) ?hy9x14 (by assumption) ?rest9x14
        case hi9x14 => (simp only [List.getElem?_toArray, List.getElem?_cons_succ, List.getElem?_cons_zero]; exact rfl)
        case hf9x14 => kernel_rfl
        case hr9x14 => kernel_rfl
        case hy9x14 => exact Or.inr ⟨by rfl, rfl⟩
        simp only [put_mk, List.set_cons_succ, List.set_cons_zero]
        refine wpAnyH_take (i := 15) (oi := ?o9x15) (v := undef) ?hi9x15 (by kernel_rfl) ?hf9x15 ?hr9x15 (fun _ _ _ h => h) ?hy9x15 (by assumption) ?rest9x15
        case hi9x15 => (simp only [List.getElem?_toArray, List.getElem?_cons_succ, List.getElem?_cons_zero]; exact rfl)
        case hf9x15 => kernel_rfl
        case hr9x15 => kernel_rfl
        case hy9x15 => exact Or.inr ⟨by rfl, rfl⟩
        simp only [put_mk, List.set_cons_succ, List.set_cons_zero]
        refine wpAnyH_take (i := 16) (oi := ?o9x16) (v := undef) ?hi9x16 (by kernel_rfl) ?hf9x16 ?hr9x16 (fun _ _ _ h => h) ?hy9x16 (by assumption) ?rest9x16
        case hi9x16 => (simp only [List.getElem?_toArray, List.getElem?_cons_succ, List.getElem?_cons_zero]; exact rfl)
        case hf9x16 => kernel_rfl
        case hr9x16 => kernel_rfl
        case hy9x16 => exact Or.inr ⟨by rfl, rfl⟩
        simp only [put_mk, List.set_cons_succ, List.set_cons_zero]
        refine wpAnyH_take (i := 17) (oi := ?o9x17) (v := undef) ?hi9x17 (by kernel_rfl) ?hf9x17 ?hr9x17 (fun _ _ _ h => h) ?hy9x17 (by assumption) ?rest9x17
        case hi9x17 => (simp only [List.getElem?_toArray, List.getElem?_cons_succ, List.getElem?_cons_zero]; exact rfl)
        case hf9x17 => kernel_rfl
        case hr9x17 => kernel_rfl
        case hy9x17 => exact Or.inr ⟨by rfl, rfl⟩
        simp only [put_mk, List.set_cons_succ, List.set_cons_zero]
        refine wpAnyH_take (i := 18) (oi := ?o9x18) (v := undef) ?hi9x18 (by kernel_rfl) ?hf9x18 ?hr9x18 (fun _ _ _ h => h) ?hy9x18 (by assumption) ?rest9x18
        case hi9x18 => (simp only [List.getElem?_toArray, List.getElem?_cons_succ, List.getElem?_cons_zero]; exact rfl)
        case hf9x18 => kernel_rfl
        case hr9x18 => kernel_rfl
        case hy9x18 => exact Or.inr ⟨by rfl, rfl⟩
        simp only [put_mk, List.set_cons_succ, List.set_cons_zero]
        refine wpAnyH_take (i := 19) (oi := ?o9x19) (v := ?v9x19) ?hi9x19 (by kernel_rfl) ?hf9x19 ?hr9x19 (fun _ _ _ h => h) ?hy9x19 (by assumption) ?rest9x19
        case hi9x19 => (simp only [List.getElem?_toArray, List.getElem?_cons_succ, List.getElem?_cons_zero]; exact rfl)
        case hf9x19 => kernel_rfl
        case hr9x19 => kernel_rfl
        case hy9x19 => (refine Or.inl ⟨by rfl, ?_⟩; intro w hSw; (try dsimp only at hSw); go_simp; try with_reducible rfl)
        simp only [put_mk, List.set_cons_succ, List.set_cons_zero]
        refine wpAnyH_ready (rs := [20]) (by kernel_rfl) (by simp) ?_
        refine AllReadyH.cons (o := ?o9x20) ?hi9x20 (fun K hK => ?_) AllReadyH.nil
        case hi9x20 => (simp only [List.getElem?_toArray, List.getElem?_cons_succ, List.getElem?_cons_zero]; exact rfl)
        go_simp
        refine (when_yes _ _).mono ?_
        rintro e w' ⟨rfl, rfl⟩
        refine hK.out _ _ ?_ (fun hHeld => ?_)
        · (repeat (first | exact Ext.refl _ | assumption | refine Ext.setCell ?_ (by first | (simp; done) | (simp; omega)) _ | refine Ext.drewN ?_ _ | refine Ext.alloc ?_ _ | refine Ext.drew ?_ | refine Ext.trans ?_ (by assumption)))
        clear hK K
        refine wpAnyH_ready (rs := [21]) (by kernel_rfl) (by simp) ?_
        refine AllReadyH.cons (o := ?o9x21) ?hi9x21 (fun K hK => ?_) AllReadyH.nil
        case hi9x21 => (simp only [List.getElem?_toArray, List.getElem?_cons_succ, List.getElem?_cons_zero]; exact rfl)
        go_simp
        refine hK.out _ _ ?_ (fun hHeld => ?_)
        · (repeat (first | exact Ext.refl _ | assumption | refine Ext.setCell ?_ (by first | (simp; done) | (simp; omega)) _ | refine Ext.drewN ?_ _ | refine Ext.alloc ?_ _ | refine Ext.drew ?_ | refine Ext.trans ?_ (by assumption)))
        clear hK K
        refine wpAnyH_ready (rs := [22]) (by kernel_rfl) (by simp) ?_
        refine AllReadyH.cons (o := ?o9x22) ?hi9x22 (fun K hK => ?_) AllReadyH.nil
        case hi9x22 => (simp only [List.getElem?_toArray, List.getElem?_cons_succ, List.getElem?_cons_zero]; exact rfl)
        go_simp
        refine (first_any _ 2 2 [fieldE X Y W H l, 5] _ rfl (Rd.new (by simp) rfl) (by omega)).mono ?_
        rw [← HP.out]
        rintro e w' ⟨rfl, rfl⟩
        refine hK.out _ _ ?_ (fun hHeld => ?_)
        · (repeat (first | exact Ext.refl _ | assumption | refine Ext.setCell ?_ (by first | (simp; done) | (simp; omega)) _ | refine Ext.drewN ?_ _ | refine Ext.alloc ?_ _ | refine Ext.drew ?_ | refine Ext.trans ?_ (by assumption)))
        clear hK K
        refine wpAnyH_take (i := 23) (oi := ?o9x23) (v := ?v9x23) ?hi9x23 (by kernel_rfl) ?hf9x23 ?hr9x23 (fun _ _ _ h => h) ?hy9x23 (by assumption) ?rest9x23
        case hi9x23 => (simp only [List.getElem?_toArray, List.getElem?_cons_succ, List.getElem?_cons_zero]; exact rfl)
        case hf9x23 => kernel_rfl
        case hr9x23 => kernel_rfl
        case hy9x23 => (refine Or.inl ⟨by rfl, ?_⟩; intro w hSw; (try dsimp only at hSw); go_simp; try with_reducible rfl)
        simp only [put_mk, List.set_cons_succ, List.set_cons_zero]
        refine wpAnyH_done (by kernel_rfl) ?_ _
        refine NoPanic.normal ?_
        go_wp2
        go_ret
        exact ⟨ret_b (by simp), (by repeat (first | exact Ext.refl _ | assumption | refine Ext.setCell ?_ (by first | (simp; done) | (simp; omega)) _ | refine Ext.drewN ?_ _ | refine Ext.alloc ?_ _ | refine Ext.drew ?_ | refine Ext.trans ?_ (by assumption)))⟩


end Go.Proofs.Ytjfipkccbapajaa
