/- The walk of the law LinesMatch, case B. -/
import Derived.Test.YtjfipkccbapajaaLinesB
namespace Go.Proofs.Ytjfipkccbapajaa
open Go.RowKit
attribute [local go_sem ↓] Go.wp_at_zero Go.wp_at_succ
attribute [local go_sem] run_max4

set_option maxRecDepth 100000 in
set_option maxHeartbeats 6400000 in
theorem lines_B (X Y W H ax ay bx by' : Int) (A : Option Addr) (n c : Nat) (l : List Nat) (w : World) (hn : l.length = n) (hd : Rd w A (flt l)) (hb : n ≤ 140737488351232) (hw : wantK ax ay bx by' 2 = 0) (hs : 65536 ≤ stepsZ ax ay bx by') :
    Calls Try.prog 4 #[.agg #[.int .i64 X, .int .i64 Y, .int .i64 W, .int .i64 H, .slice A n c], .agg #[.int .i64 ax, .int .i64 ay], .agg #[.int .i64 bx, .int .i64 by']] w fun e w' => e = .returned (.bool true) ∧ Ext w w' := by
  have Hw := hidA hw
  clear hw
  go_enter Try.func4, Try.ntmps4
  go_wp2_with fail
  refine (Line_any ax ay bx by' _).mono ?_
  rintro e w1 ⟨v1, rfl, hb1, hv1, hv2⟩
  have Hv1 := hidA hv1
  have Hv2 := hidA hv2
  clear hv1 hv2
  have hc1 := hb1.cell
  have hd1 := (((hd.alloc _).alloc _).alloc _).ext hb1
  clear hd
  go_wp2_with fail
  refine (profile_any X Y W H ax ay bx by' A n c l _ hn hd1 hb).mono ?_
  rintro e w2 ⟨v2, rfl, hb2, hp1, hp2⟩
  have Hp1 := hidA hp1
  have Hp2 := hidA hp2
  clear hp1 hp2 hc1
  have hx2 : Ext w w2 := ((((Ext.refl w).alloc _).alloc _).alloc _).trans (hb1.trans hb2)
  have hF : Bk w2 w.heap.size 48 #[.int .i64 X, .int .i64 Y, .int .i64 W, .int .i64 H, .slice A n c] := (((Bk.new' rfl).alloc _).alloc _).ext (hb1.trans hb2)
  have hA' : Bk w2 (w.heap.size + 1) 31 #[.int .i64 ax, .int .i64 ay] := ((Bk.new' (by simp)).alloc _).ext (hb1.trans hb2)
  have hB' : Bk w2 (w.heap.size + 1 + 1) 31 #[.int .i64 bx, .int .i64 by'] := (Bk.new' (by simp)).ext (hb1.trans hb2)
  have f0 : w2.cell? ⟨w.heap.size + 1, 0, none⟩ = some (.int .i64 ax) := hA'.cell 0
  have f1 : w2.cell? ⟨w.heap.size + 1, 1, none⟩ = some (.int .i64 ay) := hA'.cell 1
  have f2 : w2.cell? ⟨w.heap.size + 1 + 1, 0, none⟩ = some (.int .i64 bx) := hB'.cell 0
  have f3 : w2.cell? ⟨w.heap.size + 1 + 1, 1, none⟩ = some (.int .i64 by') := hB'.cell 1
  go_wp2_with fail
  go_loopw [11, 31] (fun s i wr => ∃ k : Nat, k ≤ 2 ∧ i = .int .i64 k ∧ s = .int .i64 (wantK ax ay bx by' k) ∧ Ext w2 wr ∧ Bk wr w.heap.size 48 #[.int .i64 X, .int .i64 Y, .int .i64 W, .int .i64 H, .slice A n c] ∧
      Bk wr (w.heap.size + 1) 31 #[.int .i64 ax, .int .i64 ay] ∧ Bk wr (w.heap.size + 1 + 1) 31 #[.int .i64 bx, .int .i64 by'] ∧ Bk wr w2.heap.size 31 #[.int .i64 ax, .int .i64 ay, .int .i64 bx, .int .i64 by']) (fun _ i _ => 2 - (intOf i).toNat)
  case atStart => exact ⟨0, by omega, rfl, rfl, (by repeat (first | exact Ext.refl _ | assumption | refine Ext.setCell ?_ (by first | (simp; done) | (simp; omega)) _ | refine Ext.drewN ?_ _ | refine Ext.alloc ?_ _ | refine Ext.drew ?_ | refine Ext.trans ?_ (by assumption))), hF.alloc _, hA'.alloc _, hB'.alloc _, Bk.new _ _ _⟩
  case round =>
    obtain ⟨k, hk, rfl, rfl, hx, hB0, hB1, hB2, hB3⟩ := hrel
    have d0 : wr.cell? ⟨w2.heap.size, 0, none⟩ = some (.int .i64 ax) := hB3.cell 0
    have d1 : wr.cell? ⟨w2.heap.size, 1, none⟩ = some (.int .i64 ay) := hB3.cell 1
    have d2 : wr.cell? ⟨w2.heap.size, 2, none⟩ = some (.int .i64 bx) := hB3.cell 2
    have d3 : wr.cell? ⟨w2.heap.size, 3, none⟩ = some (.int .i64 by') := hB3.cell 3
    have hl := hB3.lt
    clear f0 f1 f2 f3
    rcases (by omega : k = 0 ∨ k = 1 ∨ k = 2) with rfl | rfl | rfl
    · by_cases hx' : -4194304 ≤ ax ∧ ax ≤ 4194304
      · by_cases hy' : -4194304 ≤ ay ∧ ay ≤ 4194304
        · have HW : Hid (wantK ax ay bx by' 1 = firstE [wantK ax ay bx by' 0, 0]) := want_ok0 ⟨hx'.1, hx'.2, hy'.1, hy'.2⟩
          go_wp2_with (first
            | (go_at_call_of 19 (Value.int IntKind.i64 ax); refine (within_yes _ _ _ _ hx').mono ?_; rintro e w' ⟨rfl, rfl⟩)
            | (go_at_call 19; refine (within_yes _ _ _ _ hy').mono ?_; rintro e w' ⟨rfl, rfl⟩)
            | (go_at_call 14; refine (when_no _ _).mono ?_; rintro e w' ⟨rfl, rfl⟩)
            | (go_at_call 13; refine (first_any _ 2 2 [wantK ax ay bx by' 0, 0] _ rfl (Rd.new (by simp) rfl) (by omega)).mono ?_; rw [← HW.out]; rintro e w' ⟨rfl, rfl⟩))
          go_roundw
          case rel => exact ⟨1, by omega, rfl, rfl, (by repeat (first | exact Ext.refl _ | assumption | refine Ext.setCell ?_ (by first | (simp; done) | (simp; omega)) _ | refine Ext.drewN ?_ _ | refine Ext.alloc ?_ _ | refine Ext.drew ?_ | refine Ext.trans ?_ (by assumption))), (hB0.alloc _).alloc _, (hB1.alloc _).alloc _, (hB2.alloc _).alloc _, (hB3.alloc _).alloc _⟩
          case measure => decide
        · have HW : Hid (wantK ax ay bx by' 1 = firstE [wantK ax ay bx by' 0, 5]) := want_no0 (fun h => hy' ⟨h.2.2.1, h.2.2.2⟩)
          go_wp2_with (first
            | (go_at_call_of 19 (Value.int IntKind.i64 ax); refine (within_yes _ _ _ _ hx').mono ?_; rintro e w' ⟨rfl, rfl⟩)
            | (go_at_call 19; refine (within_no _ _ _ _ hy').mono ?_; rintro e w' ⟨rfl, rfl⟩)
            | (go_at_call 14; refine (when_yes _ _).mono ?_; rintro e w' ⟨rfl, rfl⟩)
            | (go_at_call 13; refine (first_any _ 2 2 [wantK ax ay bx by' 0, 5] _ rfl (Rd.new (by simp) rfl) (by omega)).mono ?_; rw [← HW.out]; rintro e w' ⟨rfl, rfl⟩))
          go_roundw
          case rel => exact ⟨1, by omega, rfl, rfl, (by repeat (first | exact Ext.refl _ | assumption | refine Ext.setCell ?_ (by first | (simp; done) | (simp; omega)) _ | refine Ext.drewN ?_ _ | refine Ext.alloc ?_ _ | refine Ext.drew ?_ | refine Ext.trans ?_ (by assumption))), (hB0.alloc _).alloc _, (hB1.alloc _).alloc _, (hB2.alloc _).alloc _, (hB3.alloc _).alloc _⟩
          case measure => decide
      · have HW : Hid (wantK ax ay bx by' 1 = firstE [wantK ax ay bx by' 0, 5]) := want_no0 (fun h => hx' ⟨h.1, h.2.1⟩)
        go_wp2_with (first
          | (go_at_call 19; refine (within_no _ _ _ _ hx').mono ?_; rintro e w' ⟨rfl, rfl⟩)
          | (go_at_call 14; refine (when_yes _ _).mono ?_; rintro e w' ⟨rfl, rfl⟩)
          | (go_at_call 13; refine (first_any _ 2 2 [wantK ax ay bx by' 0, 5] _ rfl (Rd.new (by simp) rfl) (by omega)).mono ?_; rw [← HW.out]; rintro e w' ⟨rfl, rfl⟩))
        go_roundw
        case rel => exact ⟨1, by omega, rfl, rfl, (by repeat (first | exact Ext.refl _ | assumption | refine Ext.setCell ?_ (by first | (simp; done) | (simp; omega)) _ | refine Ext.drewN ?_ _ | refine Ext.alloc ?_ _ | refine Ext.drew ?_ | refine Ext.trans ?_ (by assumption))), (hB0.alloc _).alloc _, (hB1.alloc _).alloc _, (hB2.alloc _).alloc _, (hB3.alloc _).alloc _⟩
        case measure => decide
    · by_cases hx' : -4194304 ≤ bx ∧ bx ≤ 4194304
      · by_cases hy' : -4194304 ≤ by' ∧ by' ≤ 4194304
        · have HW : Hid (wantK ax ay bx by' 2 = firstE [wantK ax ay bx by' 1, 0]) := want_ok1 ⟨hx'.1, hx'.2, hy'.1, hy'.2⟩
          go_wp2_with (first
            | (go_at_call_of 19 (Value.int IntKind.i64 bx); refine (within_yes _ _ _ _ hx').mono ?_; rintro e w' ⟨rfl, rfl⟩)
            | (go_at_call 19; refine (within_yes _ _ _ _ hy').mono ?_; rintro e w' ⟨rfl, rfl⟩)
            | (go_at_call 14; refine (when_no _ _).mono ?_; rintro e w' ⟨rfl, rfl⟩)
            | (go_at_call 13; refine (first_any _ 2 2 [wantK ax ay bx by' 1, 0] _ rfl (Rd.new (by simp) rfl) (by omega)).mono ?_; rw [← HW.out]; rintro e w' ⟨rfl, rfl⟩))
          go_roundw
          case rel => exact ⟨2, by omega, rfl, rfl, (by repeat (first | exact Ext.refl _ | assumption | refine Ext.setCell ?_ (by first | (simp; done) | (simp; omega)) _ | refine Ext.drewN ?_ _ | refine Ext.alloc ?_ _ | refine Ext.drew ?_ | refine Ext.trans ?_ (by assumption))), (hB0.alloc _).alloc _, (hB1.alloc _).alloc _, (hB2.alloc _).alloc _, (hB3.alloc _).alloc _⟩
          case measure => decide
        · have HW : Hid (wantK ax ay bx by' 2 = firstE [wantK ax ay bx by' 1, 5]) := want_no1 (fun h => hy' ⟨h.2.2.1, h.2.2.2⟩)
          go_wp2_with (first
            | (go_at_call_of 19 (Value.int IntKind.i64 bx); refine (within_yes _ _ _ _ hx').mono ?_; rintro e w' ⟨rfl, rfl⟩)
            | (go_at_call 19; refine (within_no _ _ _ _ hy').mono ?_; rintro e w' ⟨rfl, rfl⟩)
            | (go_at_call 14; refine (when_yes _ _).mono ?_; rintro e w' ⟨rfl, rfl⟩)
            | (go_at_call 13; refine (first_any _ 2 2 [wantK ax ay bx by' 1, 5] _ rfl (Rd.new (by simp) rfl) (by omega)).mono ?_; rw [← HW.out]; rintro e w' ⟨rfl, rfl⟩))
          go_roundw
          case rel => exact ⟨2, by omega, rfl, rfl, (by repeat (first | exact Ext.refl _ | assumption | refine Ext.setCell ?_ (by first | (simp; done) | (simp; omega)) _ | refine Ext.drewN ?_ _ | refine Ext.alloc ?_ _ | refine Ext.drew ?_ | refine Ext.trans ?_ (by assumption))), (hB0.alloc _).alloc _, (hB1.alloc _).alloc _, (hB2.alloc _).alloc _, (hB3.alloc _).alloc _⟩
          case measure => decide
      · have HW : Hid (wantK ax ay bx by' 2 = firstE [wantK ax ay bx by' 1, 5]) := want_no1 (fun h => hx' ⟨h.1, h.2.1⟩)
        go_wp2_with (first
          | (go_at_call 19; refine (within_no _ _ _ _ hx').mono ?_; rintro e w' ⟨rfl, rfl⟩)
          | (go_at_call 14; refine (when_yes _ _).mono ?_; rintro e w' ⟨rfl, rfl⟩)
          | (go_at_call 13; refine (first_any _ 2 2 [wantK ax ay bx by' 1, 5] _ rfl (Rd.new (by simp) rfl) (by omega)).mono ?_; rw [← HW.out]; rintro e w' ⟨rfl, rfl⟩))
        go_roundw
        case rel => exact ⟨2, by omega, rfl, rfl, (by repeat (first | exact Ext.refl _ | assumption | refine Ext.setCell ?_ (by first | (simp; done) | (simp; omega)) _ | refine Ext.drewN ?_ _ | refine Ext.alloc ?_ _ | refine Ext.drew ?_ | refine Ext.trans ?_ (by assumption))), (hB0.alloc _).alloc _, (hB1.alloc _).alloc _, (hB2.alloc _).alloc _, (hB3.alloc _).alloc _⟩
        case measure => decide
    · clear d0 d1 d2 d3
      have hw := Hw.out
      obtain ⟨wa, wb⟩ := want_good hw
      obtain ⟨p1, p2, p3, p4⟩ := placeE_bd wa
      obtain ⟨p5, p6, p7, p8⟩ := placeE_bd wb
      have HE : Hid (lineErr ax ay bx by' = 4) := by show _ = _; unfold lineErr; rw [if_neg (by simp [wa]), if_neg (by simp [wb]), if_pos hs]
      have hv0 := Hv1.out (by rw [HE.out]; omega)
      subst hv0
      have t1 : (wantK ax ay bx by' 2 == 0) = true := by simpa using hw
      have t3 : (lineErr ax ay bx by' != 4) = false := by rw [HE.out]; rfl
      have hmx : max4 (bx - ax) (ax - bx) (by' - ay) (ay - by') = stepsZ ax ay bx by' := by unfold stepsZ max4; omega
      have hsb : stepsZ ax ay bx by' ≤ 16777216 := by unfold stepsZ max4; omega
      have e0 : wr.cell? ⟨w.heap.size + 1, 0, none⟩ = some (.int .i64 ax) := hB1.cell 0
      have e1 : wr.cell? ⟨w.heap.size + 1, 1, none⟩ = some (.int .i64 ay) := hB1.cell 1
      have e2 : wr.cell? ⟨w.heap.size + 1 + 1, 0, none⟩ = some (.int .i64 bx) := hB2.cell 0
      have e3 : wr.cell? ⟨w.heap.size + 1 + 1, 1, none⟩ = some (.int .i64 by') := hB2.cell 1
      clear hw wa wb
      go_wp2_with (go_at_call 15; refine (levels_any _).mono ?_; rintro e w4 ⟨rfl, hx4⟩)

      have hB4 := hB0.ext hx4
      have hB5 := hB1.ext hx4
      have hB6 := hB2.ext hx4
      have s0 : ∀ w', Ext w4 w' → w'.cell? ⟨w.heap.size, 0, none⟩ = some (.int .i64 X) := fun w' h => (hB4.ext h).cell 0
      have s1 : ∀ w', Ext w4 w' → w'.cell? ⟨w.heap.size, 1, none⟩ = some (.int .i64 Y) := fun w' h => (hB4.ext h).cell 1
      have s2 : ∀ w', Ext w4 w' → w'.cell? ⟨w.heap.size, 2, none⟩ = some (.int .i64 W) := fun w' h => (hB4.ext h).cell 2
      have s3 : ∀ w', Ext w4 w' → w'.cell? ⟨w.heap.size, 3, none⟩ = some (.int .i64 H) := fun w' h => (hB4.ext h).cell 3
      have s4 : ∀ w', Ext w4 w' → w'.cell? ⟨w.heap.size, 4, none⟩ = some (.slice A n c) := fun w' h => (hB4.ext h).cell 4
      have s5 : ∀ w', Ext w4 w' → w'.cell? ⟨w.heap.size + 1, 0, none⟩ = some (.int .i64 ax) := fun w' h => (hB5.ext h).cell 0
      have s6 : ∀ w', Ext w4 w' → w'.cell? ⟨w.heap.size + 1, 1, none⟩ = some (.int .i64 ay) := fun w' h => (hB5.ext h).cell 1
      have s7 : ∀ w', Ext w4 w' → w'.cell? ⟨w.heap.size + 1 + 1, 0, none⟩ = some (.int .i64 bx) := fun w' h => (hB6.ext h).cell 0
      have s8 : ∀ w', Ext w4 w' → w'.cell? ⟨w.heap.size + 1 + 1, 1, none⟩ = some (.int .i64 by') := fun w' h => (hB6.ext h).cell 1
      have hD : ∀ w', Ext w4 w' → Rd w' A (flt l) := fun w' h => ((hd1.ext hb2).ext hx).ext (hx4.trans h)
      have hxw := hx2.trans (hx.trans hx4)
      clear hl
      have HFE := fun (w' : World) (h : Ext w4 w') => hidA (fieldError_any X Y W H A n c l w' hn (hD w' h) hb)
      by_cases hha : hasB X Y W H ax ay = true
      · by_cases hhb : hasB X Y W H bx by' = true
        · have HP : Hid (profE X Y W H ax ay bx by' l = firstE [fieldE X Y W H l, 0]) := by show _ = _; unfold profE hasW; rw [if_pos ⟨hha, hhb⟩]
          have Ha := hidA hha
          have Hb := hidA hhb
          clear hha hhb
          refine wp_region_noPanic ?_
          refine wp_region_held_drew (S := fun w' => Ext w4 w') (by kernel_rfl) ?_ (fun hHeld => ?_)
          · (repeat (first | exact Ext.refl _ | assumption | refine Ext.setCell ?_ (by first | (simp; done) | (simp; omega)) _ | refine Ext.drewN ?_ _ | refine Ext.alloc ?_ _ | refine Ext.drew ?_ | refine Ext.trans ?_ (by assumption)))
          refine wpAnyH_take (i := 0) (oi := ?o6x0) (v := ?v6x0) ?hi6x0 (by kernel_rfl) ?hf6x0 ?hr6x0 (fun _ _ _ h => h) ?hy6x0 (by assumption) ?rest6x0
          case hi6x0 => (simp only [List.getElem?_toArray, List.getElem?_cons_zero]; exact rfl)
          case hf6x0 => kernel_rfl
          case hr6x0 => kernel_rfl
          case hy6x0 => (refine Or.inl ⟨by rfl, ?_⟩; intro w hSw; (try dsimp only at hSw); go_simp; try with_reducible rfl)
          simp only [put_mk, List.set_cons_succ, List.set_cons_zero]
          refine wpAnyH_take (i := 2) (oi := ?o6x2) (v := ?v6x2) ?hi6x2 (by kernel_rfl) ?hf6x2 ?hr6x2 (fun _ _ _ h => h) ?hy6x2 (by assumption) ?rest6x2
          case hi6x2 => (simp only [List.getElem?_toArray, List.getElem?_cons_succ, List.getElem?_cons_zero]; exact rfl)
          case hf6x2 => kernel_rfl
          case hr6x2 => kernel_rfl
          case hy6x2 => (refine Or.inl ⟨by rfl, ?_⟩; intro w hSw; (try dsimp only at hSw); go_simp; try with_reducible rfl)
          simp only [put_mk, List.set_cons_succ, List.set_cons_zero]
          refine wpAnyH_take (i := 3) (oi := ?o6x3) (v := ?v6x3) ?hi6x3 (by kernel_rfl) ?hf6x3 ?hr6x3 (fun _ _ _ h => h) ?hy6x3 (by assumption) ?rest6x3
          case hi6x3 => (simp only [List.getElem?_toArray, List.getElem?_cons_succ, List.getElem?_cons_zero]; exact rfl)
          case hf6x3 => kernel_rfl
          case hr6x3 => kernel_rfl
          case hy6x3 => (refine Or.inl ⟨by rfl, ?_⟩; intro w hSw; (try dsimp only at hSw); go_simp; try with_reducible rfl)
          simp only [put_mk, List.set_cons_succ, List.set_cons_zero]
          refine wpAnyH_take (i := 4) (oi := ?o6x4) (v := ?v6x4) ?hi6x4 (by kernel_rfl) ?hf6x4 ?hr6x4 (fun _ _ _ h => h) ?hy6x4 (by assumption) ?rest6x4
          case hi6x4 => (simp only [List.getElem?_toArray, List.getElem?_cons_succ, List.getElem?_cons_zero]; exact rfl)
          case hf6x4 => kernel_rfl
          case hr6x4 => kernel_rfl
          case hy6x4 => (refine Or.inl ⟨by rfl, ?_⟩; intro w hSw; (try dsimp only at hSw); go_simp; try with_reducible rfl)
          simp only [put_mk, List.set_cons_succ, List.set_cons_zero]
          refine wpAnyH_take (i := 5) (oi := ?o6x5) (v := ?v6x5) ?hi6x5 (by kernel_rfl) ?hf6x5 ?hr6x5 (fun _ _ _ h => h) ?hy6x5 (by assumption) ?rest6x5
          case hi6x5 => (simp only [List.getElem?_toArray, List.getElem?_cons_succ, List.getElem?_cons_zero]; exact rfl)
          case hf6x5 => kernel_rfl
          case hr6x5 => kernel_rfl
          case hy6x5 => (refine Or.inl ⟨by rfl, ?_⟩; intro w hSw; (try dsimp only at hSw); go_simp; try with_reducible rfl)
          simp only [put_mk, List.set_cons_succ, List.set_cons_zero]
          refine wpAnyH_take (i := 6) (oi := ?o6x6) (v := ?v6x6) ?hi6x6 (by kernel_rfl) ?hf6x6 ?hr6x6 (fun _ _ _ h => h) ?hy6x6 (by assumption) ?rest6x6
          case hi6x6 => (simp only [List.getElem?_toArray, List.getElem?_cons_succ, List.getElem?_cons_zero]; exact rfl)
          case hf6x6 => kernel_rfl
          case hr6x6 => kernel_rfl
          case hy6x6 => (refine Or.inl ⟨by rfl, ?_⟩; intro w hSw; (try dsimp only at hSw); go_simp; try with_reducible rfl)
          simp only [put_mk, List.set_cons_succ, List.set_cons_zero]
          refine wpAnyH_take (i := 7) (oi := ?o6x7) (v := ?v6x7) ?hi6x7 (by kernel_rfl) ?hf6x7 ?hr6x7 (fun _ _ _ h => h) ?hy6x7 (by assumption) ?rest6x7
          case hi6x7 => (simp only [List.getElem?_toArray, List.getElem?_cons_succ, List.getElem?_cons_zero]; exact rfl)
          case hf6x7 => kernel_rfl
          case hr6x7 => kernel_rfl
          case hy6x7 => (refine Or.inl ⟨by rfl, ?_⟩; intro w hSw; (try dsimp only at hSw); go_simp; try with_reducible rfl)
          simp only [put_mk, List.set_cons_succ, List.set_cons_zero]
          refine wpAnyH_ready (rs := [1]) (by kernel_rfl) (by simp) ?_
          refine AllReadyH.cons (o := ?o6x1) ?hi6x1 (fun K hK => ?_) AllReadyH.nil
          case hi6x1 => (simp only [List.getElem?_toArray, List.getElem?_cons_succ, List.getElem?_cons_zero]; exact rfl)
          go_simp
          refine ((HFE _ ?_).out).mono ?_
          · (repeat (first | exact Ext.refl _ | assumption | refine Ext.setCell ?_ (by first | (simp; done) | (simp; omega)) _ | refine Ext.drewN ?_ _ | refine Ext.alloc ?_ _ | refine Ext.drew ?_ | refine Ext.trans ?_ (by assumption)))
          rintro e w5 ⟨rfl, hb5⟩
          refine hK.out _ _ ?_ (fun hHeld => ?_)
          · (repeat (first | exact Ext.refl _ | assumption | refine Ext.setCell ?_ (by first | (simp; done) | (simp; omega)) _ | refine Ext.drewN ?_ _ | refine Ext.alloc ?_ _ | refine Ext.drew ?_ | refine Ext.trans ?_ (by assumption)))
          clear hK K
          refine wpAnyH_ready (rs := [8]) (by kernel_rfl) (by simp) ?_
          refine AllReadyH.cons (o := ?o6x8) ?hi6x8 (fun K hK => ?_) AllReadyH.nil
          case hi6x8 => (simp only [List.getElem?_toArray, List.getElem?_cons_succ, List.getElem?_cons_zero]; exact rfl)
          go_simp
          refine (has_eq _ _ _ _ _ _ _ _ Ha.out).mono ?_
          rintro e w6 ⟨rfl, hb6⟩
          refine hK.out _ _ ?_ (fun hHeld => ?_)
          · (repeat (first | exact Ext.refl _ | assumption | refine Ext.setCell ?_ (by first | (simp; done) | (simp; omega)) _ | refine Ext.drewN ?_ _ | refine Ext.alloc ?_ _ | refine Ext.drew ?_ | refine Ext.trans ?_ (by assumption)))
          clear hK K
          refine wpAnyH_take (i := 9) (oi := ?o6x9) (v := ?v6x9) ?hi6x9 (by kernel_rfl) ?hf6x9 ?hr6x9 (fun _ _ _ h => h) ?hy6x9 (by assumption) ?rest6x9
          case hi6x9 => (simp only [List.getElem?_toArray, List.getElem?_cons_succ, List.getElem?_cons_zero]; exact rfl)
          case hf6x9 => kernel_rfl
          case hr6x9 => kernel_rfl
          case hy6x9 => (refine Or.inl ⟨by rfl, ?_⟩; intro w hSw; (try dsimp only at hSw); go_simp; try with_reducible rfl)
          simp only [put_mk, List.set_cons_succ, List.set_cons_zero]
          refine wpAnyH_take (i := 10) (oi := ?o6x10) (v := ?v6x10) ?hi6x10 (by kernel_rfl) ?hf6x10 ?hr6x10 (fun _ _ _ h => h) ?hy6x10 (by assumption) ?rest6x10
          case hi6x10 => (simp only [List.getElem?_toArray, List.getElem?_cons_succ, List.getElem?_cons_zero]; exact rfl)
          case hf6x10 => kernel_rfl
          case hr6x10 => kernel_rfl
          case hy6x10 => (refine Or.inl ⟨by rfl, ?_⟩; intro w hSw; (try dsimp only at hSw); go_simp; try with_reducible rfl)
          simp only [put_mk, List.set_cons_succ, List.set_cons_zero]
          refine wpAnyH_take (i := 11) (oi := ?o6x11) (v := ?v6x11) ?hi6x11 (by kernel_rfl) ?hf6x11 ?hr6x11 (fun _ _ _ h => h) ?hy6x11 (by assumption) ?rest6x11
          case hi6x11 => (simp only [List.getElem?_toArray, List.getElem?_cons_succ, List.getElem?_cons_zero]; exact rfl)
          case hf6x11 => kernel_rfl
          case hr6x11 => kernel_rfl
          case hy6x11 => (refine Or.inl ⟨by rfl, ?_⟩; intro w hSw; (try dsimp only at hSw); go_simp; try with_reducible rfl)
          simp only [put_mk, List.set_cons_succ, List.set_cons_zero]
          refine wpAnyH_take (i := 12) (oi := ?o6x12) (v := ?v6x12) ?hi6x12 (by kernel_rfl) ?hf6x12 ?hr6x12 (fun _ _ _ h => h) ?hy6x12 (by assumption) ?rest6x12
          case hi6x12 => (simp only [List.getElem?_toArray, List.getElem?_cons_succ, List.getElem?_cons_zero]; exact rfl)
          case hf6x12 => kernel_rfl
          case hr6x12 => kernel_rfl
          case hy6x12 => (refine Or.inl ⟨by rfl, ?_⟩; intro w hSw; (try dsimp only at hSw); go_simp; try with_reducible rfl)
          simp only [put_mk, List.set_cons_succ, List.set_cons_zero]
          refine wpAnyH_take (i := 13) (oi := ?o6x13) (v := ?v6x13) ?hi6x13 (by kernel_rfl) ?hf6x13 ?hr6x13 (fun _ _ _ h => h) ?hy6x13 (by assumption) ?rest6x13
          case hi6x13 => (simp only [List.getElem?_toArray, List.getElem?_cons_succ, List.getElem?_cons_zero]; exact rfl)
          case hf6x13 => kernel_rfl
          case hr6x13 => kernel_rfl
          case hy6x13 => (refine Or.inl ⟨by rfl, ?_⟩; intro w hSw; (try dsimp only at hSw); go_simp; try with_reducible rfl)
          simp only [put_mk, List.set_cons_succ, List.set_cons_zero]
          refine wpAnyH_take (i := 14) (oi := ?o6x14) (v := ?v6x14) ?hi6x14 (by kernel_rfl) ?hf6x14 ?hr6x14 (fun _ _ _ h => h) ?hy6x14 (by assumption) ?rest6x14
          case hi6x14 => (simp only [List.getElem?_toArray, List.getElem?_cons_succ, List.getElem?_cons_zero]; exact rfl)
          case hf6x14 => kernel_rfl
          case hr6x14 => kernel_rfl
          case hy6x14 => (refine Or.inl ⟨by rfl, ?_⟩; intro w hSw; (try dsimp only at hSw); go_simp; try with_reducible rfl)
          simp only [put_mk, List.set_cons_succ, List.set_cons_zero]
          refine wpAnyH_take (i := 15) (oi := ?o6x15) (v := ?v6x15) ?hi6x15 (by kernel_rfl) ?hf6x15 ?hr6x15 (fun _ _ _ h => h) ?hy6x15 (by assumption) ?rest6x15
          case hi6x15 => (simp only [List.getElem?_toArray, List.getElem?_cons_succ, List.getElem?_cons_zero]; exact rfl)
          case hf6x15 => kernel_rfl
          case hr6x15 => kernel_rfl
          case hy6x15 => (refine Or.inl ⟨by rfl, ?_⟩; intro w hSw; (try dsimp only at hSw); go_simp; try with_reducible rfl)
          simp only [put_mk, List.set_cons_succ, List.set_cons_zero]
          refine wpAnyH_take (i := 16) (oi := ?o6x16) (v := ?v6x16) ?hi6x16 (by kernel_rfl) ?hf6x16 ?hr6x16 (fun _ _ _ h => h) ?hy6x16 (by assumption) ?rest6x16
          case hi6x16 => (simp only [List.getElem?_toArray, List.getElem?_cons_succ, List.getElem?_cons_zero]; exact rfl)
          case hf6x16 => kernel_rfl
          case hr6x16 => kernel_rfl
          case hy6x16 => (refine Or.inl ⟨by rfl, ?_⟩; intro w hSw; (try dsimp only at hSw); go_simp; try with_reducible rfl)
          simp only [put_mk, List.set_cons_succ, List.set_cons_zero]
          refine wpAnyH_ready (rs := [17]) (by kernel_rfl) (by simp) ?_
          refine AllReadyH.cons (o := ?o6x17) ?hi6x17 (fun K hK => ?_) AllReadyH.nil
          case hi6x17 => (simp only [List.getElem?_toArray, List.getElem?_cons_succ, List.getElem?_cons_zero]; exact rfl)
          go_simp
          refine (has_eq _ _ _ _ _ _ _ _ Hb.out).mono ?_
          rintro e w7 ⟨rfl, hb7⟩
          refine hK.out _ _ ?_ (fun hHeld => ?_)
          · (repeat (first | exact Ext.refl _ | assumption | refine Ext.setCell ?_ (by first | (simp; done) | (simp; omega)) _ | refine Ext.drewN ?_ _ | refine Ext.alloc ?_ _ | refine Ext.drew ?_ | refine Ext.trans ?_ (by assumption)))
          clear hK K
          refine wpAnyH_take (i := 18) (oi := ?o6x18) (v := ?v6x18) ?hi6x18 (by kernel_rfl) ?hf6x18 ?hr6x18 (fun _ _ _ h => h) ?hy6x18 (by assumption) ?rest6x18
          case hi6x18 => (simp only [List.getElem?_toArray, List.getElem?_cons_succ, List.getElem?_cons_zero]; exact rfl)
          case hf6x18 => kernel_rfl
          case hr6x18 => kernel_rfl
          case hy6x18 => (refine Or.inl ⟨by rfl, ?_⟩; intro w hSw; (try dsimp only at hSw); go_simp; try with_reducible rfl)
          simp only [put_mk, List.set_cons_succ, List.set_cons_zero]
          refine wpAnyH_take (i := 19) (oi := ?o6x19) (v := ?v6x19) ?hi6x19 (by kernel_rfl) ?hf6x19 ?hr6x19 (fun _ _ _ h => h) ?hy6x19 (by assumption) ?rest6x19
          case hi6x19 => (simp only [List.getElem?_toArray, List.getElem?_cons_succ, List.getElem?_cons_zero]; exact rfl)
          case hf6x19 => kernel_rfl
          case hr6x19 => kernel_rfl
          case hy6x19 => (refine Or.inl ⟨by rfl, ?_⟩; intro w hSw; (try dsimp only at hSw); go_simp; try with_reducible rfl)
          simp only [put_mk, List.set_cons_succ, List.set_cons_zero]
          refine wpAnyH_ready (rs := [20]) (by kernel_rfl) (by simp) ?_
          refine AllReadyH.cons (o := ?o6x20) ?hi6x20 (fun K hK => ?_) AllReadyH.nil
          case hi6x20 => (simp only [List.getElem?_toArray, List.getElem?_cons_succ, List.getElem?_cons_zero]; exact rfl)
          go_simp
          refine (when_no _ _).mono ?_
          rintro e w' ⟨rfl, rfl⟩
          refine hK.out _ _ ?_ (fun hHeld => ?_)
          · (repeat (first | exact Ext.refl _ | assumption | refine Ext.setCell ?_ (by first | (simp; done) | (simp; omega)) _ | refine Ext.drewN ?_ _ | refine Ext.alloc ?_ _ | refine Ext.drew ?_ | refine Ext.trans ?_ (by assumption)))
          clear hK K
          refine wpAnyH_ready (rs := [21]) (by kernel_rfl) (by simp) ?_
          refine AllReadyH.cons (o := ?o6x21) ?hi6x21 (fun K hK => ?_) AllReadyH.nil
          case hi6x21 => (simp only [List.getElem?_toArray, List.getElem?_cons_succ, List.getElem?_cons_zero]; exact rfl)
          go_simp
          refine hK.out _ _ ?_ (fun hHeld => ?_)
          · (repeat (first | exact Ext.refl _ | assumption | refine Ext.setCell ?_ (by first | (simp; done) | (simp; omega)) _ | refine Ext.drewN ?_ _ | refine Ext.alloc ?_ _ | refine Ext.drew ?_ | refine Ext.trans ?_ (by assumption)))
          clear hK K
          refine wpAnyH_ready (rs := [22]) (by kernel_rfl) (by simp) ?_
          refine AllReadyH.cons (o := ?o6x22) ?hi6x22 (fun K hK => ?_) AllReadyH.nil
          case hi6x22 => (simp only [List.getElem?_toArray, List.getElem?_cons_succ, List.getElem?_cons_zero]; exact rfl)
          go_simp
          refine (first_any _ 2 2 [fieldE X Y W H l, 0] _ rfl (Rd.new (by simp) rfl) (by omega)).mono ?_
          rw [← HP.out]
          rintro e w' ⟨rfl, rfl⟩
          refine hK.out _ _ ?_ (fun hHeld => ?_)
          · (repeat (first | exact Ext.refl _ | assumption | refine Ext.setCell ?_ (by first | (simp; done) | (simp; omega)) _ | refine Ext.drewN ?_ _ | refine Ext.alloc ?_ _ | refine Ext.drew ?_ | refine Ext.trans ?_ (by assumption)))
          clear hK K
          refine wpAnyH_take (i := 23) (oi := ?o6x23) (v := ?v6x23) ?hi6x23 (by kernel_rfl) ?hf6x23 ?hr6x23 (fun _ _ _ h => h) ?hy6x23 (by assumption) ?rest6x23
          case hi6x23 => (simp only [List.getElem?_toArray, List.getElem?_cons_succ, List.getElem?_cons_zero]; exact rfl)
          case hf6x23 => kernel_rfl
          case hr6x23 => kernel_rfl
          case hy6x23 => (refine Or.inl ⟨by rfl, ?_⟩; intro w hSw; (try dsimp only at hSw); go_simp; try with_reducible rfl)
          simp only [put_mk, List.set_cons_succ, List.set_cons_zero]
          refine wpAnyH_done (by kernel_rfl) ?_ _
          refine NoPanic.normal ?_
          by_cases hpe : profE X Y W H ax ay bx by' l = 0
          · obtain ⟨s, C, q, g1, g2, rfl, g4, g5, g6, g7⟩ := Hp2.out hpe
            clear Hp1 Hp2
            have G1 := hidA g1
            have HPe := hidA hpe
            have P0 : (profE X Y W H ax ay bx by' l == 0) = true := by simpa using hpe
            have P1 : (profE X Y W H ax ay bx by' l != 0) = false := by simpa using hpe
            have Hreg := hidA (RegOk.of_zero (fieldE_parts g5).1)
            have Hfw := hidA (fieldE_parts g5).2.1
            have Hpl := hidA (show ∀ p ∈ linePts ax ay bx by' s (s + 1), InR X Y W H p.1 p.2 from fun p hp => by
              obtain ⟨k, hk, rfl⟩ := List.mem_map.1 hp
              exact line_in g6 g7 (by have := List.mem_range.1 hk; omega))
            have bd : (-4194304 ≤ ax ∧ ax ≤ 4194304) ∧ (-4194304 ≤ ay ∧ ay ≤ 4194304) ∧ (-4194304 ≤ bx ∧ bx ≤ 4194304) ∧ (-4194304 ≤ by' ∧ by' ≤ 4194304) := by
              have hreg := Hreg.out
              unfold RegOk at hreg
              unfold InR at g6 g7
              omega
            obtain ⟨bd1, bd2, bd3, bd4⟩ := bd
            have hCr : ∀ w', Ext w4 w' → Rd w' C (flt ((linePts ax ay bx by' s (s + 1)).map (valAt X Y W l))) := fun w' h => g4.rd.ext (hx.trans (hx4.trans h))
            have hnw : (n : Int) = W * H := by rw [← hn]; exact Hfw.out
            have Hnw := hidA hnw
            have Hlen : Hid ((linePts ax ay bx by' s (s + 1)).length = s + 1) := by show _ = _; simp [linePts]
            have Hlen2 : Hid (((linePts ax ay bx by' s (s + 1)).map (valAt X Y W l)).length = s + 1) := by show _ = _; rw [List.length_map]; exact Hlen.out
            clear g1 hpe g4 g5 g6 g7 hnw
            go_wp2_with fail
            refine wp_region_noPanic ?_
            refine wp_region_held_drew (S := fun w' => Ext w4 w') (by kernel_rfl) ?_ (fun hHeld => ?_)
            · (repeat (first | exact Ext.refl _ | assumption | refine Ext.setCell ?_ (by first | (simp; done) | (simp; omega)) _ | refine Ext.drewN ?_ _ | refine Ext.alloc ?_ _ | refine Ext.drew ?_ | refine Ext.trans ?_ (by assumption)))
            refine wpAnyH_take (i := 0) (oi := ?o8x0) (v := ?v8x0) ?hi8x0 (by kernel_rfl) ?hf8x0 ?hr8x0 (fun _ _ _ h => h) ?hy8x0 (by assumption) ?rest8x0
            case hi8x0 => (simp only [List.getElem?_toArray, List.getElem?_cons_zero]; exact rfl)
            case hf8x0 => kernel_rfl
            case hr8x0 => kernel_rfl
            case hy8x0 => (refine Or.inl ⟨by rfl, ?_⟩; intro w hSw; (try dsimp only at hSw); go_simp; try with_reducible rfl)
            simp only [put_mk, List.set_cons_succ, List.set_cons_zero]
            refine wpAnyH_take (i := 1) (oi := ?o8x1) (v := ?v8x1) ?hi8x1 (by kernel_rfl) ?hf8x1 ?hr8x1 (fun _ _ _ h => h) ?hy8x1 (by assumption) ?rest8x1
            case hi8x1 => (simp only [List.getElem?_toArray, List.getElem?_cons_succ, List.getElem?_cons_zero]; exact rfl)
            case hf8x1 => kernel_rfl
            case hr8x1 => kernel_rfl
            case hy8x1 => (refine Or.inl ⟨by rfl, ?_⟩; intro w hSw; (try dsimp only at hSw); go_simp; try with_reducible rfl)
            simp only [put_mk, List.set_cons_succ, List.set_cons_zero]
            refine wpAnyH_take (i := 2) (oi := ?o8x2) (v := ?v8x2) ?hi8x2 (by kernel_rfl) ?hf8x2 ?hr8x2 (fun _ _ _ h => h) ?hy8x2 (by assumption) ?rest8x2
            case hi8x2 => (simp only [List.getElem?_toArray, List.getElem?_cons_succ, List.getElem?_cons_zero]; exact rfl)
            case hf8x2 => kernel_rfl
            case hr8x2 => kernel_rfl
            case hy8x2 => (refine Or.inl ⟨by rfl, ?_⟩; intro w hSw; (try dsimp only at hSw); go_simp; try with_reducible rfl)
            simp only [put_mk, List.set_cons_succ, List.set_cons_zero]
            refine wpAnyH_take (i := 3) (oi := ?o8x3) (v := ?v8x3) ?hi8x3 (by kernel_rfl) ?hf8x3 ?hr8x3 (fun _ _ _ h => h) ?hy8x3 (by assumption) ?rest8x3
            case hi8x3 => (simp only [List.getElem?_toArray, List.getElem?_cons_succ, List.getElem?_cons_zero]; exact rfl)
            case hf8x3 => kernel_rfl
            case hr8x3 => kernel_rfl
            case hy8x3 => (refine Or.inl ⟨by rfl, ?_⟩; intro w hSw; (try dsimp only at hSw); go_simp; try with_reducible rfl)
            simp only [put_mk, List.set_cons_succ, List.set_cons_zero]
            refine wpAnyH_take (i := 4) (oi := ?o8x4) (v := ?v8x4) ?hi8x4 (by kernel_rfl) ?hf8x4 ?hr8x4 (fun _ _ _ h => h) ?hy8x4 (by assumption) ?rest8x4
            case hi8x4 => (simp only [List.getElem?_toArray, List.getElem?_cons_succ, List.getElem?_cons_zero]; exact rfl)
            case hf8x4 => kernel_rfl
            case hr8x4 => kernel_rfl
            case hy8x4 => (refine Or.inl ⟨by rfl, ?_⟩; intro w hSw; (try dsimp only at hSw); go_simp; try with_reducible rfl)
            simp only [put_mk, List.set_cons_succ, List.set_cons_zero]
            refine wpAnyH_take (i := 5) (oi := ?o8x5) (v := ?v8x5) ?hi8x5 (by kernel_rfl) ?hf8x5 ?hr8x5 (fun _ _ _ h => h) ?hy8x5 (by assumption) ?rest8x5
            case hi8x5 => (simp only [List.getElem?_toArray, List.getElem?_cons_succ, List.getElem?_cons_zero]; exact rfl)
            case hf8x5 => kernel_rfl
            case hr8x5 => kernel_rfl
            case hy8x5 => (refine Or.inl ⟨by rfl, ?_⟩; intro w hSw; (try dsimp only at hSw); go_simp; try with_reducible rfl)
            simp only [put_mk, List.set_cons_succ, List.set_cons_zero]
            refine wpAnyH_take (i := 6) (oi := ?o8x6) (v := ?v8x6) ?hi8x6 (by kernel_rfl) ?hf8x6 ?hr8x6 (fun _ _ _ h => h) ?hy8x6 (by assumption) ?rest8x6
            case hi8x6 => (simp only [List.getElem?_toArray, List.getElem?_cons_succ, List.getElem?_cons_zero]; exact rfl)
            case hf8x6 => kernel_rfl
            case hr8x6 => kernel_rfl
            case hy8x6 => (refine Or.inl ⟨by rfl, ?_⟩; intro w hSw; (try dsimp only at hSw); go_simp; try with_reducible rfl)
            simp only [put_mk, List.set_cons_succ, List.set_cons_zero]
            refine wpAnyH_ready (rs := [7]) (by kernel_rfl) (by simp) ?_
            refine AllReadyH.cons (o := ?o8x7) ?hi8x7 (fun K hK => ?_) AllReadyH.nil
            case hi8x7 => (simp only [List.getElem?_toArray, List.getElem?_cons_succ, List.getElem?_cons_zero]; exact rfl)
            go_simp
            refine (lineOf_any ax ay bx by' s _ bd1 bd2 bd3 bd4 G1.out g2).mono ?_
            rintro e w6 ⟨A6, c6, rfl, hr6, hb6⟩
            refine hK.out _ _ ?_ (fun hHeld => ?_)
            · (repeat (first | exact Ext.refl _ | assumption | refine Ext.setCell ?_ (by first | (simp; done) | (simp; omega)) _ | refine Ext.drewN ?_ _ | refine Ext.alloc ?_ _ | refine Ext.drew ?_ | refine Ext.trans ?_ (by assumption)))
            clear hK K
            refine wpAnyH_ready (rs := [8]) (by kernel_rfl) (by simp) ?_
            refine AllReadyH.cons (o := ?o8x8) ?hi8x8 (fun K hK => ?_) AllReadyH.nil
            case hi8x8 => (simp only [List.getElem?_toArray, List.getElem?_cons_succ, List.getElem?_cons_zero]; exact rfl)
            go_simp
            refine (values_any X Y W H A A6 n c (s + 1) c6 l _ _ Hreg.out hn Hnw.out (hD _ ?_) Hlen.out hr6.rd Hpl.out (by omega)).mono ?_
            · (repeat (first | exact Ext.refl _ | assumption | refine Ext.setCell ?_ (by first | (simp; done) | (simp; omega)) _ | refine Ext.drewN ?_ _ | refine Ext.alloc ?_ _ | refine Ext.drew ?_ | refine Ext.trans ?_ (by assumption)))
            rintro e w7 ⟨C7, q7, rfl, hr7, hb7⟩
            refine hK.out _ _ ?_ (fun hHeld => ?_)
            · (repeat (first | exact Ext.refl _ | assumption | refine Ext.setCell ?_ (by first | (simp; done) | (simp; omega)) _ | refine Ext.drewN ?_ _ | refine Ext.alloc ?_ _ | refine Ext.drew ?_ | refine Ext.trans ?_ (by assumption)))
            clear hK K
            refine wpAnyH_ready (rs := [9]) (by kernel_rfl) (by simp) ?_
            refine AllReadyH.cons (o := ?o8x9) ?hi8x9 (fun K hK => ?_) AllReadyH.nil
            case hi8x9 => (simp only [List.getElem?_toArray, List.getElem?_cons_succ, List.getElem?_cons_zero]; exact rfl)
            go_simp
            refine (bits_same C C7 (s + 1) q q7 _ _ Hlen2.out (hCr _ ?_) hr7.rd (by omega)).mono ?_
            · (repeat (first | exact Ext.refl _ | assumption | refine Ext.setCell ?_ (by first | (simp; done) | (simp; omega)) _ | refine Ext.drewN ?_ _ | refine Ext.alloc ?_ _ | refine Ext.drew ?_ | refine Ext.trans ?_ (by assumption)))
            rintro e w' ⟨rfl, rfl⟩
            refine hK.out _ _ ?_ (fun hHeld => ?_)
            · (repeat (first | exact Ext.refl _ | assumption | refine Ext.setCell ?_ (by first | (simp; done) | (simp; omega)) _ | refine Ext.drewN ?_ _ | refine Ext.alloc ?_ _ | refine Ext.drew ?_ | refine Ext.trans ?_ (by assumption)))
            clear hK K
            refine wpAnyH_take (i := 10) (oi := ?o8x10) (v := ?v8x10) ?hi8x10 (by kernel_rfl) ?hf8x10 ?hr8x10 (fun _ _ _ h => h) ?hy8x10 (by assumption) ?rest8x10
            case hi8x10 => (simp only [List.getElem?_toArray, List.getElem?_cons_succ, List.getElem?_cons_zero]; exact rfl)
            case hf8x10 => kernel_rfl
            case hr8x10 => kernel_rfl
            case hy8x10 => (refine Or.inl ⟨by rfl, ?_⟩; intro w hSw; (try dsimp only at hSw); go_simp; try with_reducible rfl)
            simp only [put_mk, List.set_cons_succ, List.set_cons_zero]
            refine wpAnyH_take (i := 11) (oi := ?o8x11) (v := ?v8x11) ?hi8x11 (by kernel_rfl) ?hf8x11 ?hr8x11 (fun _ _ _ h => h) ?hy8x11 (by assumption) ?rest8x11
            case hi8x11 => (simp only [List.getElem?_toArray, List.getElem?_cons_succ, List.getElem?_cons_zero]; exact rfl)
            case hf8x11 => kernel_rfl
            case hr8x11 => kernel_rfl
            case hy8x11 => (refine Or.inl ⟨by rfl, ?_⟩; intro w hSw; (try dsimp only at hSw); go_simp; try with_reducible rfl)
            simp only [put_mk, List.set_cons_succ, List.set_cons_zero]
            refine wpAnyH_done (by kernel_rfl) ?_ _
            refine NoPanic.normal ?_
            go_wp2
            go_ret
            exact ⟨rfl, (by repeat (first | exact Ext.refl _ | assumption | refine Ext.setCell ?_ (by first | (simp; done) | (simp; omega)) _ | refine Ext.drewN ?_ _ | refine Ext.alloc ?_ _ | refine Ext.drew ?_ | refine Ext.trans ?_ (by assumption)))⟩
          · have hv2 := Hp1.out hpe
            subst hv2
            have P0 : (profE X Y W H ax ay bx by' l != 0) = true := by simpa using hpe
            clear hpe Hp1 Hp2
            go_wp2
            go_ret
            exact ⟨ret_b (by simp), (by repeat (first | exact Ext.refl _ | assumption | refine Ext.setCell ?_ (by first | (simp; done) | (simp; omega)) _ | refine Ext.drewN ?_ _ | refine Ext.alloc ?_ _ | refine Ext.drew ?_ | refine Ext.trans ?_ (by assumption)))⟩
        · have HP : Hid (profE X Y W H ax ay bx by' l = firstE [fieldE X Y W H l, 5]) := by show _ = _; unfold profE hasW; rw [if_neg (fun h => hhb h.2)]
          have hne : profE X Y W H ax ay bx by' l ≠ 0 := by
            intro h; rw [HP.out] at h; simp only [firstE] at h; split at h <;> simp_all
          have hv2 := Hp1.out hne
          subst hv2
          have P0 : (profE X Y W H ax ay bx by' l != 0) = true := by simpa using hne
          have Ha := hidA hha
          have Hb : Hid (hasB X Y W H bx by' = false) := by show _ = _; simpa using hhb
          clear hha hhb hne Hp1 Hp2
          refine wp_region_noPanic ?_
          refine wp_region_held_drew (S := fun w' => Ext w4 w') (by kernel_rfl) ?_ (fun hHeld => ?_)
          · (repeat (first | exact Ext.refl _ | assumption | refine Ext.setCell ?_ (by first | (simp; done) | (simp; omega)) _ | refine Ext.drewN ?_ _ | refine Ext.alloc ?_ _ | refine Ext.drew ?_ | refine Ext.trans ?_ (by assumption)))
          refine wpAnyH_take (i := 0) (oi := ?o7x0) (v := ?v7x0) ?hi7x0 (by kernel_rfl) ?hf7x0 ?hr7x0 (fun _ _ _ h => h) ?hy7x0 (by assumption) ?rest7x0
          case hi7x0 => (simp only [List.getElem?_toArray, List.getElem?_cons_zero]; exact rfl)
          case hf7x0 => kernel_rfl
          case hr7x0 => kernel_rfl
          case hy7x0 => (refine Or.inl ⟨by rfl, ?_⟩; intro w hSw; (try dsimp only at hSw); go_simp; try with_reducible rfl)
          simp only [put_mk, List.set_cons_succ, List.set_cons_zero]
          refine wpAnyH_take (i := 2) (oi := ?o7x2) (v := ?v7x2) ?hi7x2 (by kernel_rfl) ?hf7x2 ?hr7x2 (fun _ _ _ h => h) ?hy7x2 (by assumption) ?rest7x2
          case hi7x2 => (simp only [List.getElem?_toArray, List.getElem?_cons_succ, List.getElem?_cons_zero]; exact rfl)
          case hf7x2 => kernel_rfl
          case hr7x2 => kernel_rfl
          case hy7x2 => (refine Or.inl ⟨by rfl, ?_⟩; intro w hSw; (try dsimp only at hSw); go_simp; try with_reducible rfl)
          simp only [put_mk, List.set_cons_succ, List.set_cons_zero]
          refine wpAnyH_take (i := 3) (oi := ?o7x3) (v := ?v7x3) ?hi7x3 (by kernel_rfl) ?hf7x3 ?hr7x3 (fun _ _ _ h => h) ?hy7x3 (by assumption) ?rest7x3
          case hi7x3 => (simp only [List.getElem?_toArray, List.getElem?_cons_succ, List.getElem?_cons_zero]; exact rfl)
          case hf7x3 => kernel_rfl
          case hr7x3 => kernel_rfl
          case hy7x3 => (refine Or.inl ⟨by rfl, ?_⟩; intro w hSw; (try dsimp only at hSw); go_simp; try with_reducible rfl)
          simp only [put_mk, List.set_cons_succ, List.set_cons_zero]
          refine wpAnyH_take (i := 4) (oi := ?o7x4) (v := ?v7x4) ?hi7x4 (by kernel_rfl) ?hf7x4 ?hr7x4 (fun _ _ _ h => h) ?hy7x4 (by assumption) ?rest7x4
          case hi7x4 => (simp only [List.getElem?_toArray, List.getElem?_cons_succ, List.getElem?_cons_zero]; exact rfl)
          case hf7x4 => kernel_rfl
          case hr7x4 => kernel_rfl
          case hy7x4 => (refine Or.inl ⟨by rfl, ?_⟩; intro w hSw; (try dsimp only at hSw); go_simp; try with_reducible rfl)
          simp only [put_mk, List.set_cons_succ, List.set_cons_zero]
          refine wpAnyH_take (i := 5) (oi := ?o7x5) (v := ?v7x5) ?hi7x5 (by kernel_rfl) ?hf7x5 ?hr7x5 (fun _ _ _ h => h) ?hy7x5 (by assumption) ?rest7x5
          case hi7x5 => (simp only [List.getElem?_toArray, List.getElem?_cons_succ, List.getElem?_cons_zero]; exact rfl)
          case hf7x5 => kernel_rfl
          case hr7x5 => kernel_rfl
          case hy7x5 => (refine Or.inl ⟨by rfl, ?_⟩; intro w hSw; (try dsimp only at hSw); go_simp; try with_reducible rfl)
          simp only [put_mk, List.set_cons_succ, List.set_cons_zero]
          refine wpAnyH_take (i := 6) (oi := ?o7x6) (v := ?v7x6) ?hi7x6 (by kernel_rfl) ?hf7x6 ?hr7x6 (fun _ _ _ h => h) ?hy7x6 (by assumption) ?rest7x6
          case hi7x6 => (simp only [List.getElem?_toArray, List.getElem?_cons_succ, List.getElem?_cons_zero]; exact rfl)
          case hf7x6 => kernel_rfl
          case hr7x6 => kernel_rfl
          case hy7x6 => (refine Or.inl ⟨by rfl, ?_⟩; intro w hSw; (try dsimp only at hSw); go_simp; try with_reducible rfl)
          simp only [put_mk, List.set_cons_succ, List.set_cons_zero]
          refine wpAnyH_take (i := 7) (oi := ?o7x7) (v := ?v7x7) ?hi7x7 (by kernel_rfl) ?hf7x7 ?hr7x7 (fun _ _ _ h => h) ?hy7x7 (by assumption) ?rest7x7
          case hi7x7 => (simp only [List.getElem?_toArray, List.getElem?_cons_succ, List.getElem?_cons_zero]; exact rfl)
          case hf7x7 => kernel_rfl
          case hr7x7 => kernel_rfl
          case hy7x7 => (refine Or.inl ⟨by rfl, ?_⟩; intro w hSw; (try dsimp only at hSw); go_simp; try with_reducible rfl)
          simp only [put_mk, List.set_cons_succ, List.set_cons_zero]
          refine wpAnyH_ready (rs := [1]) (by kernel_rfl) (by simp) ?_
          refine AllReadyH.cons (o := ?o7x1) ?hi7x1 (fun K hK => ?_) AllReadyH.nil
          case hi7x1 => (simp only [List.getElem?_toArray, List.getElem?_cons_succ, List.getElem?_cons_zero]; exact rfl)
          go_simp
          refine ((HFE _ ?_).out).mono ?_
          · (repeat (first | exact Ext.refl _ | assumption | refine Ext.setCell ?_ (by first | (simp; done) | (simp; omega)) _ | refine Ext.drewN ?_ _ | refine Ext.alloc ?_ _ | refine Ext.drew ?_ | refine Ext.trans ?_ (by assumption)))
          rintro e w5 ⟨rfl, hb5⟩
          refine hK.out _ _ ?_ (fun hHeld => ?_)
          · (repeat (first | exact Ext.refl _ | assumption | refine Ext.setCell ?_ (by first | (simp; done) | (simp; omega)) _ | refine Ext.drewN ?_ _ | refine Ext.alloc ?_ _ | refine Ext.drew ?_ | refine Ext.trans ?_ (by assumption)))
          clear hK K
          refine wpAnyH_ready (rs := [8]) (by kernel_rfl) (by simp) ?_
          refine AllReadyH.cons (o := ?o7x8) ?hi7x8 (fun K hK => ?_) AllReadyH.nil
          case hi7x8 => (simp only [List.getElem?_toArray, List.getElem?_cons_succ, List.getElem?_cons_zero]; exact rfl)
          go_simp
          refine (has_eq _ _ _ _ _ _ _ _ Ha.out).mono ?_
          rintro e w6 ⟨rfl, hb6⟩
          refine hK.out _ _ ?_ (fun hHeld => ?_)
          · (repeat (first | exact Ext.refl _ | assumption | refine Ext.setCell ?_ (by first | (simp; done) | (simp; omega)) _ | refine Ext.drewN ?_ _ | refine Ext.alloc ?_ _ | refine Ext.drew ?_ | refine Ext.trans ?_ (by assumption)))
          clear hK K
          refine wpAnyH_take (i := 9) (oi := ?o7x9) (v := ?v7x9) ?hi7x9 (by kernel_rfl) ?hf7x9 ?hr7x9 (fun _ _ _ h => h) ?hy7x9 (by assumption) ?rest7x9
          case hi7x9 => (simp only [List.getElem?_toArray, List.getElem?_cons_succ, List.getElem?_cons_zero]; exact rfl)
          case hf7x9 => kernel_rfl
          case hr7x9 => kernel_rfl
          case hy7x9 => (refine Or.inl ⟨by rfl, ?_⟩; intro w hSw; (try dsimp only at hSw); go_simp; try with_reducible rfl)
          simp only [put_mk, List.set_cons_succ, List.set_cons_zero]
          refine wpAnyH_take (i := 10) (oi := ?o7x10) (v := ?v7x10) ?hi7x10 (by kernel_rfl) ?hf7x10 ?hr7x10 (fun _ _ _ h => h) ?hy7x10 (by assumption) ?rest7x10
          case hi7x10 => (simp only [List.getElem?_toArray, List.getElem?_cons_succ, List.getElem?_cons_zero]; exact rfl)
          case hf7x10 => kernel_rfl
          case hr7x10 => kernel_rfl
          case hy7x10 => (refine Or.inl ⟨by rfl, ?_⟩; intro w hSw; (try dsimp only at hSw); go_simp; try with_reducible rfl)
          simp only [put_mk, List.set_cons_succ, List.set_cons_zero]
          refine wpAnyH_take (i := 11) (oi := ?o7x11) (v := ?v7x11) ?hi7x11 (by kernel_rfl) ?hf7x11 ?hr7x11 (fun _ _ _ h => h) ?hy7x11 (by assumption) ?rest7x11
          case hi7x11 => (simp only [List.getElem?_toArray, List.getElem?_cons_succ, List.getElem?_cons_zero]; exact rfl)
          case hf7x11 => kernel_rfl
          case hr7x11 => kernel_rfl
          case hy7x11 => (refine Or.inl ⟨by rfl, ?_⟩; intro w hSw; (try dsimp only at hSw); go_simp; try with_reducible rfl)
          simp only [put_mk, List.set_cons_succ, List.set_cons_zero]
          refine wpAnyH_take (i := 12) (oi := ?o7x12) (v := ?v7x12) ?hi7x12 (by kernel_rfl) ?hf7x12 ?hr7x12 (fun _ _ _ h => h) ?hy7x12 (by assumption) ?rest7x12
          case hi7x12 => (simp only [List.getElem?_toArray, List.getElem?_cons_succ, List.getElem?_cons_zero]; exact rfl)
          case hf7x12 => kernel_rfl
          case hr7x12 => kernel_rfl
          case hy7x12 => (refine Or.inl ⟨by rfl, ?_⟩; intro w hSw; (try dsimp only at hSw); go_simp; try with_reducible rfl)
          simp only [put_mk, List.set_cons_succ, List.set_cons_zero]
          refine wpAnyH_take (i := 13) (oi := ?o7x13) (v := ?v7x13) ?hi7x13 (by kernel_rfl) ?hf7x13 ?hr7x13 (fun _ _ _ h => h) ?hy7x13 (by assumption) ?rest7x13
          case hi7x13 => (simp only [List.getElem?_toArray, List.getElem?_cons_succ, List.getElem?_cons_zero]; exact rfl)
          case hf7x13 => kernel_rfl
          case hr7x13 => kernel_rfl
          case hy7x13 => (refine Or.inl ⟨by rfl, ?_⟩; intro w hSw; (try dsimp only at hSw); go_simp; try with_reducible rfl)
          simp only [put_mk, List.set_cons_succ, List.set_cons_zero]
          refine wpAnyH_take (i := 14) (oi := ?o7x14) (v := ?v7x14) ?hi7x14 (by kernel_rfl) ?hf7x14 ?hr7x14 (fun _ _ _ h => h) ?hy7x14 (by assumption) ?rest7x14
          case hi7x14 => (simp only [List.getElem?_toArray, List.getElem?_cons_succ, List.getElem?_cons_zero]; exact rfl)
          case hf7x14 => kernel_rfl
          case hr7x14 => kernel_rfl
          case hy7x14 => (refine Or.inl ⟨by rfl, ?_⟩; intro w hSw; (try dsimp only at hSw); go_simp; try with_reducible rfl)
          simp only [put_mk, List.set_cons_succ, List.set_cons_zero]
          refine wpAnyH_take (i := 15) (oi := ?o7x15) (v := ?v7x15) ?hi7x15 (by kernel_rfl) ?hf7x15 ?hr7x15 (fun _ _ _ h => h) ?hy7x15 (by assumption) ?rest7x15
          case hi7x15 => (simp only [List.getElem?_toArray, List.getElem?_cons_succ, List.getElem?_cons_zero]; exact rfl)
          case hf7x15 => kernel_rfl
          case hr7x15 => kernel_rfl
          case hy7x15 => (refine Or.inl ⟨by rfl, ?_⟩; intro w hSw; (try dsimp only at hSw); go_simp; try with_reducible rfl)
          simp only [put_mk, List.set_cons_succ, List.set_cons_zero]
          refine wpAnyH_take (i := 16) (oi := ?o7x16) (v := ?v7x16) ?hi7x16 (by kernel_rfl) ?hf7x16 ?hr7x16 (fun _ _ _ h => h) ?hy7x16 (by assumption) ?rest7x16
          case hi7x16 => (simp only [List.getElem?_toArray, List.getElem?_cons_succ, List.getElem?_cons_zero]; exact rfl)
          case hf7x16 => kernel_rfl
          case hr7x16 => kernel_rfl
          case hy7x16 => (refine Or.inl ⟨by rfl, ?_⟩; intro w hSw; (try dsimp only at hSw); go_simp; try with_reducible rfl)
          simp only [put_mk, List.set_cons_succ, List.set_cons_zero]
          refine wpAnyH_ready (rs := [17]) (by kernel_rfl) (by simp) ?_
          refine AllReadyH.cons (o := ?o7x17) ?hi7x17 (fun K hK => ?_) AllReadyH.nil
          case hi7x17 => (simp only [List.getElem?_toArray, List.getElem?_cons_succ, List.getElem?_cons_zero]; exact rfl)
          go_simp
          refine (has_eq _ _ _ _ _ _ _ _ Hb.out).mono ?_
          rintro e w7 ⟨rfl, hb7⟩
          refine hK.out _ _ ?_ (fun hHeld => ?_)
          · (repeat (first | exact Ext.refl _ | assumption | refine Ext.setCell ?_ (by first | (simp; done) | (simp; omega)) _ | refine Ext.drewN ?_ _ | refine Ext.alloc ?_ _ | refine Ext.drew ?_ | refine Ext.trans ?_ (by assumption)))
          clear hK K
          refine wpAnyH_take (i := 18) (oi := ?o7x18) (v := ?v7x18) ?hi7x18 (by kernel_rfl) ?hf7x18 ?hr7x18 (fun _ _ _ h => h) ?hy7x18 (by assumption) ?rest7x18
          case hi7x18 => (simp only [List.getElem?_toArray, List.getElem?_cons_succ, List.getElem?_cons_zero]; exact rfl)
          case hf7x18 => kernel_rfl
          case hr7x18 => kernel_rfl
          case hy7x18 => (refine Or.inl ⟨by rfl, ?_⟩; intro w hSw; (try dsimp only at hSw); go_simp; try with_reducible rfl)
          simp only [put_mk, List.set_cons_succ, List.set_cons_zero]
          refine wpAnyH_take (i := 19) (oi := ?o7x19) (v := ?v7x19) ?hi7x19 (by kernel_rfl) ?hf7x19 ?hr7x19 (fun _ _ _ h => h) ?hy7x19 (by assumption) ?rest7x19
          case hi7x19 => (simp only [List.getElem?_toArray, List.getElem?_cons_succ, List.getElem?_cons_zero]; exact rfl)
          case hf7x19 => kernel_rfl
          case hr7x19 => kernel_rfl
          case hy7x19 => (refine Or.inl ⟨by rfl, ?_⟩; intro w hSw; (try dsimp only at hSw); go_simp; try with_reducible rfl)
          simp only [put_mk, List.set_cons_succ, List.set_cons_zero]
          refine wpAnyH_ready (rs := [20]) (by kernel_rfl) (by simp) ?_
          refine AllReadyH.cons (o := ?o7x20) ?hi7x20 (fun K hK => ?_) AllReadyH.nil
          case hi7x20 => (simp only [List.getElem?_toArray, List.getElem?_cons_succ, List.getElem?_cons_zero]; exact rfl)
          go_simp
          refine (when_yes _ _).mono ?_
          rintro e w' ⟨rfl, rfl⟩
          refine hK.out _ _ ?_ (fun hHeld => ?_)
          · (repeat (first | exact Ext.refl _ | assumption | refine Ext.setCell ?_ (by first | (simp; done) | (simp; omega)) _ | refine Ext.drewN ?_ _ | refine Ext.alloc ?_ _ | refine Ext.drew ?_ | refine Ext.trans ?_ (by assumption)))
          clear hK K
          refine wpAnyH_ready (rs := [21]) (by kernel_rfl) (by simp) ?_
          refine AllReadyH.cons (o := ?o7x21) ?hi7x21 (fun K hK => ?_) AllReadyH.nil
          case hi7x21 => (simp only [List.getElem?_toArray, List.getElem?_cons_succ, List.getElem?_cons_zero]; exact rfl)
          go_simp
          refine hK.out _ _ ?_ (fun hHeld => ?_)
          · (repeat (first | exact Ext.refl _ | assumption | refine Ext.setCell ?_ (by first | (simp; done) | (simp; omega)) _ | refine Ext.drewN ?_ _ | refine Ext.alloc ?_ _ | refine Ext.drew ?_ | refine Ext.trans ?_ (by assumption)))
          clear hK K
          refine wpAnyH_ready (rs := [22]) (by kernel_rfl) (by simp) ?_
          refine AllReadyH.cons (o := ?o7x22) ?hi7x22 (fun K hK => ?_) AllReadyH.nil
          case hi7x22 => (simp only [List.getElem?_toArray, List.getElem?_cons_succ, List.getElem?_cons_zero]; exact rfl)
          go_simp
          refine (first_any _ 2 2 [fieldE X Y W H l, 5] _ rfl (Rd.new (by simp) rfl) (by omega)).mono ?_
          rw [← HP.out]
          rintro e w' ⟨rfl, rfl⟩
          refine hK.out _ _ ?_ (fun hHeld => ?_)
          · (repeat (first | exact Ext.refl _ | assumption | refine Ext.setCell ?_ (by first | (simp; done) | (simp; omega)) _ | refine Ext.drewN ?_ _ | refine Ext.alloc ?_ _ | refine Ext.drew ?_ | refine Ext.trans ?_ (by assumption)))
          clear hK K
          refine wpAnyH_take (i := 23) (oi := ?o7x23) (v := ?v7x23) ?hi7x23 (by kernel_rfl) ?hf7x23 ?hr7x23 (fun _ _ _ h => h) ?hy7x23 (by assumption) ?rest7x23
          case hi7x23 => (simp only [List.getElem?_toArray, List.getElem?_cons_succ, List.getElem?_cons_zero]; exact rfl)
          case hf7x23 => kernel_rfl
          case hr7x23 => kernel_rfl
          case hy7x23 => (refine Or.inl ⟨by rfl, ?_⟩; intro w hSw; (try dsimp only at hSw); go_simp; try with_reducible rfl)
          simp only [put_mk, List.set_cons_succ, List.set_cons_zero]
          refine wpAnyH_done (by kernel_rfl) ?_ _
          refine NoPanic.normal ?_
          go_wp2
          go_ret
          exact ⟨ret_b (by simp), (by repeat (first | exact Ext.refl _ | assumption | refine Ext.setCell ?_ (by first | (simp; done) | (simp; omega)) _ | refine Ext.drewN ?_ _ | refine Ext.alloc ?_ _ | refine Ext.drew ?_ | refine Ext.trans ?_ (by assumption)))⟩
      · have HP : Hid (profE X Y W H ax ay bx by' l = firstE [fieldE X Y W H l, 5]) := by show _ = _; unfold profE hasW; rw [if_neg (fun h => hha h.1)]
        have hne : profE X Y W H ax ay bx by' l ≠ 0 := by
          intro h; rw [HP.out] at h; simp only [firstE] at h; split at h <;> simp_all
        have hv2 := Hp1.out hne
        subst hv2
        have P0 : (profE X Y W H ax ay bx by' l != 0) = true := by simpa using hne
        have Ha : Hid (hasB X Y W H ax ay = false) := by show _ = _; simpa using hha
        clear hha hne Hp1 Hp2
        refine wp_region_noPanic ?_
        refine wp_region_held_drew (S := fun w' => Ext w4 w') (by kernel_rfl) ?_ (fun hHeld => ?_)
        · (repeat (first | exact Ext.refl _ | assumption | refine Ext.setCell ?_ (by first | (simp; done) | (simp; omega)) _ | refine Ext.drewN ?_ _ | refine Ext.alloc ?_ _ | refine Ext.drew ?_ | refine Ext.trans ?_ (by assumption)))
        refine wpAnyH_take (i := 0) (oi := ?o5x0) (v := ?v5x0) ?hi5x0 (by kernel_rfl) ?hf5x0 ?hr5x0 (fun _ _ _ h => h) ?hy5x0 (by assumption) ?rest5x0
        case hi5x0 => (simp only [List.getElem?_toArray, List.getElem?_cons_zero]; exact rfl)
        case hf5x0 => kernel_rfl
        case hr5x0 => kernel_rfl
        case hy5x0 => (refine Or.inl ⟨by rfl, ?_⟩; intro w hSw; (try dsimp only at hSw); go_simp; try with_reducible rfl)
        simp only [put_mk, List.set_cons_succ, List.set_cons_zero]
        refine wpAnyH_take (i := 2) (oi := ?o5x2) (v := ?v5x2) ?hi5x2 (by kernel_rfl) ?hf5x2 ?hr5x2 (fun _ _ _ h => h) ?hy5x2 (by assumption) ?rest5x2
        case hi5x2 => (simp only [List.getElem?_toArray, List.getElem?_cons_succ, List.getElem?_cons_zero]; exact rfl)
        case hf5x2 => kernel_rfl
        case hr5x2 => kernel_rfl
        case hy5x2 => (refine Or.inl ⟨by rfl, ?_⟩; intro w hSw; (try dsimp only at hSw); go_simp; try with_reducible rfl)
        simp only [put_mk, List.set_cons_succ, List.set_cons_zero]
        refine wpAnyH_take (i := 3) (oi := ?o5x3) (v := ?v5x3) ?hi5x3 (by kernel_rfl) ?hf5x3 ?hr5x3 (fun _ _ _ h => h) ?hy5x3 (by assumption) ?rest5x3
        case hi5x3 => (simp only [List.getElem?_toArray, List.getElem?_cons_succ, List.getElem?_cons_zero]; exact rfl)
        case hf5x3 => kernel_rfl
        case hr5x3 => kernel_rfl
        case hy5x3 => (refine Or.inl ⟨by rfl, ?_⟩; intro w hSw; (try dsimp only at hSw); go_simp; try with_reducible rfl)
        simp only [put_mk, List.set_cons_succ, List.set_cons_zero]
        refine wpAnyH_take (i := 4) (oi := ?o5x4) (v := ?v5x4) ?hi5x4 (by kernel_rfl) ?hf5x4 ?hr5x4 (fun _ _ _ h => h) ?hy5x4 (by assumption) ?rest5x4
        case hi5x4 => (simp only [List.getElem?_toArray, List.getElem?_cons_succ, List.getElem?_cons_zero]; exact rfl)
        case hf5x4 => kernel_rfl
        case hr5x4 => kernel_rfl
        case hy5x4 => (refine Or.inl ⟨by rfl, ?_⟩; intro w hSw; (try dsimp only at hSw); go_simp; try with_reducible rfl)
        simp only [put_mk, List.set_cons_succ, List.set_cons_zero]
        refine wpAnyH_take (i := 5) (oi := ?o5x5) (v := ?v5x5) ?hi5x5 (by kernel_rfl) ?hf5x5 ?hr5x5 (fun _ _ _ h => h) ?hy5x5 (by assumption) ?rest5x5
        case hi5x5 => (simp only [List.getElem?_toArray, List.getElem?_cons_succ, List.getElem?_cons_zero]; exact rfl)
        case hf5x5 => kernel_rfl
        case hr5x5 => kernel_rfl
        case hy5x5 => (refine Or.inl ⟨by rfl, ?_⟩; intro w hSw; (try dsimp only at hSw); go_simp; try with_reducible rfl)
        simp only [put_mk, List.set_cons_succ, List.set_cons_zero]
        refine wpAnyH_take (i := 6) (oi := ?o5x6) (v := ?v5x6) ?hi5x6 (by kernel_rfl) ?hf5x6 ?hr5x6 (fun _ _ _ h => h) ?hy5x6 (by assumption) ?rest5x6
        case hi5x6 => (simp only [List.getElem?_toArray, List.getElem?_cons_succ, List.getElem?_cons_zero]; exact rfl)
        case hf5x6 => kernel_rfl
        case hr5x6 => kernel_rfl
        case hy5x6 => (refine Or.inl ⟨by rfl, ?_⟩; intro w hSw; (try dsimp only at hSw); go_simp; try with_reducible rfl)
        simp only [put_mk, List.set_cons_succ, List.set_cons_zero]
        refine wpAnyH_take (i := 7) (oi := ?o5x7) (v := ?v5x7) ?hi5x7 (by kernel_rfl) ?hf5x7 ?hr5x7 (fun _ _ _ h => h) ?hy5x7 (by assumption) ?rest5x7
        case hi5x7 => (simp only [List.getElem?_toArray, List.getElem?_cons_succ, List.getElem?_cons_zero]; exact rfl)
        case hf5x7 => kernel_rfl
        case hr5x7 => kernel_rfl
        case hy5x7 => (refine Or.inl ⟨by rfl, ?_⟩; intro w hSw; (try dsimp only at hSw); go_simp; try with_reducible rfl)
        simp only [put_mk, List.set_cons_succ, List.set_cons_zero]
        refine wpAnyH_ready (rs := [1]) (by kernel_rfl) (by simp) ?_
        refine AllReadyH.cons (o := ?o5x1) ?hi5x1 (fun K hK => ?_) AllReadyH.nil
        case hi5x1 => (simp only [List.getElem?_toArray, List.getElem?_cons_succ, List.getElem?_cons_zero]; exact rfl)
        go_simp
        refine ((HFE _ ?_).out).mono ?_
        · (repeat (first | exact Ext.refl _ | assumption | refine Ext.setCell ?_ (by first | (simp; done) | (simp; omega)) _ | refine Ext.drewN ?_ _ | refine Ext.alloc ?_ _ | refine Ext.drew ?_ | refine Ext.trans ?_ (by assumption)))
        rintro e w5 ⟨rfl, hb5⟩
        refine hK.out _ _ ?_ (fun hHeld => ?_)
        · (repeat (first | exact Ext.refl _ | assumption | refine Ext.setCell ?_ (by first | (simp; done) | (simp; omega)) _ | refine Ext.drewN ?_ _ | refine Ext.alloc ?_ _ | refine Ext.drew ?_ | refine Ext.trans ?_ (by assumption)))
        clear hK K
        refine wpAnyH_ready (rs := [8]) (by kernel_rfl) (by simp) ?_
        refine AllReadyH.cons (o := ?o5x8) ?hi5x8 (fun K hK => ?_) AllReadyH.nil
        case hi5x8 => (simp only [List.getElem?_toArray, List.getElem?_cons_succ, List.getElem?_cons_zero]; exact rfl)
        go_simp
        refine (has_eq _ _ _ _ _ _ _ _ Ha.out).mono ?_
        rintro e w6 ⟨rfl, hb6⟩
        refine hK.out _ _ ?_ (fun hHeld => ?_)
        · (repeat (first | exact Ext.refl _ | assumption | refine Ext.setCell ?_ (by first | (simp; done) | (simp; omega)) _ | refine Ext.drewN ?_ _ | refine Ext.alloc ?_ _ | refine Ext.drew ?_ | refine Ext.trans ?_ (by assumption)))
        clear hK K
        refine wpAnyH_take (i := 9) (oi := ?o5x9) (v := ?v5x9) ?hi5x9 (by kernel_rfl) ?hf5x9 ?hr5x9 (fun _ _ _ h => h) ?hy5x9 (by assumption) ?rest5x9
        case hi5x9 => (simp only [List.getElem?_toArray, List.getElem?_cons_succ, List.getElem?_cons_zero]; exact rfl)
        case hf5x9 => kernel_rfl
        case hr5x9 => kernel_rfl
        case hy5x9 => (refine Or.inl ⟨by rfl, ?_⟩; intro w hSw; (try dsimp only at hSw); go_simp; try with_reducible rfl)
        simp only [put_mk, List.set_cons_succ, List.set_cons_zero]
        refine wpAnyH_take (i := 10) (oi := ?o5x10) (v := ?v5x10) ?hi5x10 (by kernel_rfl) ?hf5x10 ?hr5x10 (fun _ _ _ h => h) ?hy5x10 (by assumption) ?rest5x10
        case hi5x10 => (simp only [List.getElem?_toArray, List.getElem?_cons_succ, List.getElem?_cons_zero]; exact rfl)
        case hf5x10 => kernel_rfl
        case hr5x10 => kernel_rfl
        case hy5x10 => (refine Or.inl ⟨by rfl, ?_⟩; intro w hSw; (try dsimp only at hSw); go_simp; try with_reducible rfl)
        simp only [put_mk, List.set_cons_succ, List.set_cons_zero]
        refine wpAnyH_take (i := 11) (oi := ?o5x11) (v := undef) ?hi5x11 (by kernel_rfl) ?hf5x11 ?hr5x11 (fun _ _ _ h => h) ?hy5x11 (by assumption) ?rest5x11
        case hi5x11 => (simp only [List.getElem?_toArray, List.getElem?_cons_succ, List.getElem?_cons_zero]; exact rfl)
        case hf5x11 => kernel_rfl
        case hr5x11 => kernel_rfl
        case hy5x11 => exact Or.inr ⟨by rfl, rfl⟩
        simp only [put_mk, List.set_cons_succ, List.set_cons_zero]
        refine wpAnyH_take (i := 12) (oi := ?o5x12) (v := undef) ?hi5x12 (by kernel_rfl) ?hf5x12 ?hr5x12 (fun _ _ _ h => h) ?hy5x12 (by assumption) ?rest5x12
        case hi5x12 => (simp only [List.getElem?_toArray, List.getElem?_cons_succ, List.getElem?_cons_zero]; exact rfl)
        case hf5x12 => kernel_rfl
        case hr5x12 => kernel_rfl
        case hy5x12 => exact Or.inr ⟨by rfl, rfl⟩
        simp only [put_mk, List.set_cons_succ, List.set_cons_zero]
        refine wpAnyH_take (i := 13) (oi := ?o5x13) (v := undef) ?hi5x13 (by kernel_rfl) ?hf5x13 ?hr5x13 (fun _ _ _ h => h) ?hy5x13 (by assumption) ?rest5x13
        case hi5x13 => (simp only [List.getElem?_toArray, List.getElem?_cons_succ, List.getElem?_cons_zero]; exact rfl)
        case hf5x13 => kernel_rfl
        case hr5x13 => kernel_rfl
        case hy5x13 => exact Or.inr ⟨by rfl, rfl⟩
        simp only [put_mk, List.set_cons_succ, List.set_cons_zero]
        refine wpAnyH_take (i := 14) (oi := ?o5x14) (v := undef) ?hi5x14 (by kernel_rfl) ?hf5x14 ?hr5x14 (fun _ _ _ h => h) ?hy5x14 (by assumption) ?rest5x14
        case hi5x14 => (simp only [List.getElem?_toArray, List.getElem?_cons_succ, List.getElem?_cons_zero]; exact rfl)
        case hf5x14 => kernel_rfl
        case hr5x14 => kernel_rfl
        case hy5x14 => exact Or.inr ⟨by rfl, rfl⟩
        simp only [put_mk, List.set_cons_succ, List.set_cons_zero]
        refine wpAnyH_take (i := 15) (oi := ?o5x15) (v := undef) ?hi5x15 (by kernel_rfl) ?hf5x15 ?hr5x15 (fun _ _ _ h => h) ?hy5x15 (by assumption) ?rest5x15
        case hi5x15 => (simp only [List.getElem?_toArray, List.getElem?_cons_succ, List.getElem?_cons_zero]; exact rfl)
        case hf5x15 => kernel_rfl
        case hr5x15 => kernel_rfl
        case hy5x15 => exact Or.inr ⟨by rfl, rfl⟩
        simp only [put_mk, List.set_cons_succ, List.set_cons_zero]
        refine wpAnyH_take (i := 16) (oi := ?o5x16) (v := undef) ?hi5x16 (by kernel_rfl) ?hf5x16 ?hr5x16 (fun _ _ _ h => h) ?hy5x16 (by assumption) ?rest5x16
        case hi5x16 => (simp only [List.getElem?_toArray, List.getElem?_cons_succ, List.getElem?_cons_zero]; exact rfl)
        case hf5x16 => kernel_rfl
        case hr5x16 => kernel_rfl
        case hy5x16 => exact Or.inr ⟨by rfl, rfl⟩
        simp only [put_mk, List.set_cons_succ, List.set_cons_zero]
        refine wpAnyH_take (i := 17) (oi := ?o5x17) (v := undef) ?hi5x17 (by kernel_rfl) ?hf5x17 ?hr5x17 (fun _ _ _ h => h) ?hy5x17 (by assumption) ?rest5x17
        case hi5x17 => (simp only [List.getElem?_toArray, List.getElem?_cons_succ, List.getElem?_cons_zero]; exact rfl)
        case hf5x17 => kernel_rfl
        case hr5x17 => kernel_rfl
        case hy5x17 => exact Or.inr ⟨by rfl, rfl⟩
        simp only [put_mk, List.set_cons_succ, List.set_cons_zero]
        refine wpAnyH_take (i := 18) (oi := ?o5x18) (v := undef) ?hi5x18 (by kernel_rfl) ?hf5x18 ?hr5x18 (fun _ _ _ h => h) ?hy5x18 (by assumption) ?rest5x18
        case hi5x18 => (simp only [List.getElem?_toArray, List.getElem?_cons_succ, List.getElem?_cons_zero]; exact rfl)
        case hf5x18 => kernel_rfl
        case hr5x18 => kernel_rfl
        case hy5x18 => exact Or.inr ⟨by rfl, rfl⟩
        simp only [put_mk, List.set_cons_succ, List.set_cons_zero]
        refine wpAnyH_take (i := 19) (oi := ?o5x19) (v := ?v5x19) ?hi5x19 (by kernel_rfl) ?hf5x19 ?hr5x19 (fun _ _ _ h => h) ?hy5x19 (by assumption) ?rest5x19
        case hi5x19 => (simp only [List.getElem?_toArray, List.getElem?_cons_succ, List.getElem?_cons_zero]; exact rfl)
        case hf5x19 => kernel_rfl
        case hr5x19 => kernel_rfl
        case hy5x19 => (refine Or.inl ⟨by rfl, ?_⟩; intro w hSw; (try dsimp only at hSw); go_simp; try with_reducible rfl)
        simp only [put_mk, List.set_cons_succ, List.set_cons_zero]
        refine wpAnyH_ready (rs := [20]) (by kernel_rfl) (by simp) ?_
        refine AllReadyH.cons (o := ?o5x20) ?hi5x20 (fun K hK => ?_) AllReadyH.nil
        case hi5x20 => (simp only [List.getElem?_toArray, List.getElem?_cons_succ, List.getElem?_cons_zero]; exact rfl)
        go_simp
        refine (when_yes _ _).mono ?_
        rintro e w' ⟨rfl, rfl⟩
        refine hK.out _ _ ?_ (fun hHeld => ?_)
        · (repeat (first | exact Ext.refl _ | assumption | refine Ext.setCell ?_ (by first | (simp; done) | (simp; omega)) _ | refine Ext.drewN ?_ _ | refine Ext.alloc ?_ _ | refine Ext.drew ?_ | refine Ext.trans ?_ (by assumption)))
        clear hK K
        refine wpAnyH_ready (rs := [21]) (by kernel_rfl) (by simp) ?_
        refine AllReadyH.cons (o := ?o5x21) ?hi5x21 (fun K hK => ?_) AllReadyH.nil
        case hi5x21 => (simp only [List.getElem?_toArray, List.getElem?_cons_succ, List.getElem?_cons_zero]; exact rfl)
        go_simp
        refine hK.out _ _ ?_ (fun hHeld => ?_)
        · (repeat (first | exact Ext.refl _ | assumption | refine Ext.setCell ?_ (by first | (simp; done) | (simp; omega)) _ | refine Ext.drewN ?_ _ | refine Ext.alloc ?_ _ | refine Ext.drew ?_ | refine Ext.trans ?_ (by assumption)))
        clear hK K
        refine wpAnyH_ready (rs := [22]) (by kernel_rfl) (by simp) ?_
        refine AllReadyH.cons (o := ?o5x22) ?hi5x22 (fun K hK => ?_) AllReadyH.nil
        case hi5x22 => (simp only [List.getElem?_toArray, List.getElem?_cons_succ, List.getElem?_cons_zero]; exact rfl)
        go_simp
        refine (first_any _ 2 2 [fieldE X Y W H l, 5] _ rfl (Rd.new (by simp) rfl) (by omega)).mono ?_
        rw [← HP.out]
        rintro e w' ⟨rfl, rfl⟩
        refine hK.out _ _ ?_ (fun hHeld => ?_)
        · (repeat (first | exact Ext.refl _ | assumption | refine Ext.setCell ?_ (by first | (simp; done) | (simp; omega)) _ | refine Ext.drewN ?_ _ | refine Ext.alloc ?_ _ | refine Ext.drew ?_ | refine Ext.trans ?_ (by assumption)))
        clear hK K
        refine wpAnyH_take (i := 23) (oi := ?o5x23) (v := ?v5x23) ?hi5x23 (by kernel_rfl) ?hf5x23 ?hr5x23 (fun _ _ _ h => h) ?hy5x23 (by assumption) ?rest5x23
        case hi5x23 => (simp only [List.getElem?_toArray, List.getElem?_cons_succ, List.getElem?_cons_zero]; exact rfl)
        case hf5x23 => kernel_rfl
        case hr5x23 => kernel_rfl
        case hy5x23 => (refine Or.inl ⟨by rfl, ?_⟩; intro w hSw; (try dsimp only at hSw); go_simp; try with_reducible rfl)
        simp only [put_mk, List.set_cons_succ, List.set_cons_zero]
        refine wpAnyH_done (by kernel_rfl) ?_ _
        refine NoPanic.normal ?_
        go_wp2
        go_ret
        exact ⟨ret_b (by simp), (by repeat (first | exact Ext.refl _ | assumption | refine Ext.setCell ?_ (by first | (simp; done) | (simp; omega)) _ | refine Ext.drewN ?_ _ | refine Ext.alloc ?_ _ | refine Ext.drew ?_ | refine Ext.trans ?_ (by assumption)))⟩


end Go.Proofs.Ytjfipkccbapajaa
