/- The walk of the law LinesMatch. -/
import Derived.Test.YtjfipkccbapajaaLinesA
import Derived.Deep.DeepCutAuto
namespace Go.Proofs.Ytjfipkccbapajaa
open Go.RowKit
attribute [local go_sem ↓] Go.wp_at_zero Go.wp_at_succ
attribute [local go_sem] run_max4

theorem put_mk (l : List Value) (D : List Deferred) (d : Nat) (v : Value) : Act.put ⟨l.toArray, D⟩ (some d) v = ⟨(l.set d v).toArray, D⟩ := by simp [Act.put]

def wantK (ax ay bx by' : Int) : Nat → Int
  | 0 => 0
  | 1 => firstE [0, placeE ax ay]
  | _ => firstE [firstE [0, placeE ax ay], placeE bx by']
theorem want_ok0 {ax ay bx by' : Int} (h : -4194304 ≤ ax ∧ ax ≤ 4194304 ∧ -4194304 ≤ ay ∧ ay ≤ 4194304) : wantK ax ay bx by' (0 + 1) = firstE [wantK ax ay bx by' 0, 0] := by simp [wantK, placeE_ok h]
theorem want_no0 {ax ay bx by' : Int} (h : ¬ (-4194304 ≤ ax ∧ ax ≤ 4194304 ∧ -4194304 ≤ ay ∧ ay ≤ 4194304)) : wantK ax ay bx by' (0 + 1) = firstE [wantK ax ay bx by' 0, 5] := by simp [wantK, placeE_no h]
theorem want_ok1 {ax ay bx by' : Int} (h : -4194304 ≤ bx ∧ bx ≤ 4194304 ∧ -4194304 ≤ by' ∧ by' ≤ 4194304) : wantK ax ay bx by' (1 + 1) = firstE [wantK ax ay bx by' 1, 0] := by simp [wantK, placeE_ok h]
theorem want_no1 {ax ay bx by' : Int} (h : ¬ (-4194304 ≤ bx ∧ bx ≤ 4194304 ∧ -4194304 ≤ by' ∧ by' ≤ 4194304)) : wantK ax ay bx by' (1 + 1) = firstE [wantK ax ay bx by' 1, 5] := by simp [wantK, placeE_no h]
theorem want_bad {ax ay bx by' : Int} (h : wantK ax ay bx by' 2 ≠ 0) : lineErr ax ay bx by' = wantK ax ay bx by' 2 := by
  unfold lineErr
  by_cases h1 : placeE ax ay = 0
  · by_cases h2 : placeE bx by' = 0
    · simp [wantK, firstE, h1, h2] at h
    · simp [wantK, firstE, h1, placeE_ne h2]
  · simp [wantK, firstE, placeE_ne h1]
theorem want_good {ax ay bx by' : Int} (h : wantK ax ay bx by' 2 = 0) : placeE ax ay = 0 ∧ placeE bx by' = 0 := by
  by_cases h1 : placeE ax ay = 0
  · by_cases h2 : placeE bx by' = 0
    · exact ⟨h1, h2⟩
    · simp [wantK, firstE, h1, h2] at h
  · simp [wantK, firstE, h1] at h

set_option maxRecDepth 100000 in
set_option maxHeartbeats 6400000 in
theorem lines_A (X Y W H ax ay bx by' : Int) (A : Option Addr) (n c : Nat) (l : List Nat) (w : World) (hn : l.length = n) (hd : Rd w A (flt l)) (hb : n ≤ 140737488351232) (hw : wantK ax ay bx by' 2 ≠ 0) :
    Calls Try.prog 4 #[.agg #[.int .i64 X, .int .i64 Y, .int .i64 W, .int .i64 H, .slice A n c], .agg #[.int .i64 ax, .int .i64 ay], .agg #[.int .i64 bx, .int .i64 by']] w fun e w' => e = .returned (.bool true) ∧ Ext w w' := by
  have Hw := hidA hw
  clear hw
  go_enter Try.func4, Try.ntmps4
  go_wp2_with fail
  refine (Line_any ax ay bx by' _).mono ?_
  rintro e w1 ⟨v1, rfl, hb1, hv1, hv2⟩
  have Hv1 := hidA hv1
  have Hv2 := hidA hv2
  clear hv1 hv2
  have hc1 := hb1.cell
  have hd1 := (((hd.alloc _).alloc _).alloc _).ext hb1
  clear hd
  go_wp2_with fail
  refine (profile_any X Y W H ax ay bx by' A n c l _ hn hd1 hb).mono ?_
  rintro e w2 ⟨v2, rfl, hb2, hp1, hp2⟩
  have Hp1 := hidA hp1
  have Hp2 := hidA hp2
  clear hp1 hp2 hc1
  have hx2 : Ext w w2 := ((((Ext.refl w).alloc _).alloc _).alloc _).trans (hb1.trans hb2)
  have hF : Bk w2 w.heap.size 48 #[.int .i64 X, .int .i64 Y, .int .i64 W, .int .i64 H, .slice A n c] := (((Bk.new' rfl).alloc _).alloc _).ext (hb1.trans hb2)
  have hA' : Bk w2 (w.heap.size + 1) 31 #[.int .i64 ax, .int .i64 ay] := ((Bk.new' (by simp)).alloc _).ext (hb1.trans hb2)
  have hB' : Bk w2 (w.heap.size + 1 + 1) 31 #[.int .i64 bx, .int .i64 by'] := (Bk.new' (by simp)).ext (hb1.trans hb2)
  have f0 : w2.cell? ⟨w.heap.size + 1, 0, none⟩ = some (.int .i64 ax) := hA'.cell 0
  have f1 : w2.cell? ⟨w.heap.size + 1, 1, none⟩ = some (.int .i64 ay) := hA'.cell 1
  have f2 : w2.cell? ⟨w.heap.size + 1 + 1, 0, none⟩ = some (.int .i64 bx) := hB'.cell 0
  have f3 : w2.cell? ⟨w.heap.size + 1 + 1, 1, none⟩ = some (.int .i64 by') := hB'.cell 1
  go_wp2_with fail
  go_loopw [11, 31] (fun s i wr => ∃ k : Nat, k ≤ 2 ∧ i = .int .i64 k ∧ s = .int .i64 (wantK ax ay bx by' k) ∧ Ext w2 wr ∧ Bk wr w.heap.size 48 #[.int .i64 X, .int .i64 Y, .int .i64 W, .int .i64 H, .slice A n c] ∧
      Bk wr (w.heap.size + 1) 31 #[.int .i64 ax, .int .i64 ay] ∧ Bk wr (w.heap.size + 1 + 1) 31 #[.int .i64 bx, .int .i64 by'] ∧ Bk wr w2.heap.size 31 #[.int .i64 ax, .int .i64 ay, .int .i64 bx, .int .i64 by']) (fun _ i _ => 2 - (intOf i).toNat)
  case atStart => exact ⟨0, by omega, rfl, rfl, (by repeat (first | exact Ext.refl _ | assumption | refine Ext.setCell ?_ (by first | (simp; done) | (simp; omega)) _ | refine Ext.drewN ?_ _ | refine Ext.alloc ?_ _ | refine Ext.drew ?_ | refine Ext.trans ?_ (by assumption))), hF.alloc _, hA'.alloc _, hB'.alloc _, Bk.new _ _ _⟩
  case round =>
    obtain ⟨k, hk, rfl, rfl, hx, hB0, hB1, hB2, hB3⟩ := hrel
    have d0 : wr.cell? ⟨w2.heap.size, 0, none⟩ = some (.int .i64 ax) := hB3.cell 0
    have d1 : wr.cell? ⟨w2.heap.size, 1, none⟩ = some (.int .i64 ay) := hB3.cell 1
    have d2 : wr.cell? ⟨w2.heap.size, 2, none⟩ = some (.int .i64 bx) := hB3.cell 2
    have d3 : wr.cell? ⟨w2.heap.size, 3, none⟩ = some (.int .i64 by') := hB3.cell 3
    have hl := hB3.lt
    clear f0 f1 f2 f3
    rcases (by omega : k = 0 ∨ k = 1 ∨ k = 2) with rfl | rfl | rfl
    · by_cases hx' : -4194304 ≤ ax ∧ ax ≤ 4194304
      · by_cases hy' : -4194304 ≤ ay ∧ ay ≤ 4194304
        · have HW : Hid (wantK ax ay bx by' 1 = firstE [wantK ax ay bx by' 0, 0]) := want_ok0 ⟨hx'.1, hx'.2, hy'.1, hy'.2⟩
          go_wp2_with (first
            | (go_at_call_of 19 (Value.int IntKind.i64 ax); refine (within_yes _ _ _ _ hx').mono ?_; rintro e w' ⟨rfl, rfl⟩)
            | (go_at_call 19; refine (within_yes _ _ _ _ hy').mono ?_; rintro e w' ⟨rfl, rfl⟩)
            | (go_at_call 14; refine (when_no _ _).mono ?_; rintro e w' ⟨rfl, rfl⟩)
            | (go_at_call 13; refine (first_any _ 2 2 [wantK ax ay bx by' 0, 0] _ rfl (Rd.new (by simp) rfl) (by omega)).mono ?_; rw [← HW.out]; rintro e w' ⟨rfl, rfl⟩))
          go_roundw
          case rel => exact ⟨1, by omega, rfl, rfl, (by repeat (first | exact Ext.refl _ | assumption | refine Ext.setCell ?_ (by first | (simp; done) | (simp; omega)) _ | refine Ext.drewN ?_ _ | refine Ext.alloc ?_ _ | refine Ext.drew ?_ | refine Ext.trans ?_ (by assumption))), (hB0.alloc _).alloc _, (hB1.alloc _).alloc _, (hB2.alloc _).alloc _, (hB3.alloc _).alloc _⟩
          case measure => decide
        · have HW : Hid (wantK ax ay bx by' 1 = firstE [wantK ax ay bx by' 0, 5]) := want_no0 (fun h => hy' ⟨h.2.2.1, h.2.2.2⟩)
          go_wp2_with (first
            | (go_at_call_of 19 (Value.int IntKind.i64 ax); refine (within_yes _ _ _ _ hx').mono ?_; rintro e w' ⟨rfl, rfl⟩)
            | (go_at_call 19; refine (within_no _ _ _ _ hy').mono ?_; rintro e w' ⟨rfl, rfl⟩)
            | (go_at_call 14; refine (when_yes _ _).mono ?_; rintro e w' ⟨rfl, rfl⟩)
            | (go_at_call 13; refine (first_any _ 2 2 [wantK ax ay bx by' 0, 5] _ rfl (Rd.new (by simp) rfl) (by omega)).mono ?_; rw [← HW.out]; rintro e w' ⟨rfl, rfl⟩))
          go_roundw
          case rel => exact ⟨1, by omega, rfl, rfl, (by repeat (first | exact Ext.refl _ | assumption | refine Ext.setCell ?_ (by first | (simp; done) | (simp; omega)) _ | refine Ext.drewN ?_ _ | refine Ext.alloc ?_ _ | refine Ext.drew ?_ | refine Ext.trans ?_ (by assumption))), (hB0.alloc _).alloc _, (hB1.alloc _).alloc _, (hB2.alloc _).alloc _, (hB3.alloc _).alloc _⟩
          case measure => decide
      · have HW : Hid (wantK ax ay bx by' 1 = firstE [wantK ax ay bx by' 0, 5]) := want_no0 (fun h => hx' ⟨h.1, h.2.1⟩)
        go_wp2_with (first
          | (go_at_call 19; refine (within_no _ _ _ _ hx').mono ?_; rintro e w' ⟨rfl, rfl⟩)
          | (go_at_call 14; refine (when_yes _ _).mono ?_; rintro e w' ⟨rfl, rfl⟩)
          | (go_at_call 13; refine (first_any _ 2 2 [wantK ax ay bx by' 0, 5] _ rfl (Rd.new (by simp) rfl) (by omega)).mono ?_; rw [← HW.out]; rintro e w' ⟨rfl, rfl⟩))
        go_roundw
        case rel => exact ⟨1, by omega, rfl, rfl, (by repeat (first | exact Ext.refl _ | assumption | refine Ext.setCell ?_ (by first | (simp; done) | (simp; omega)) _ | refine Ext.drewN ?_ _ | refine Ext.alloc ?_ _ | refine Ext.drew ?_ | refine Ext.trans ?_ (by assumption))), (hB0.alloc _).alloc _, (hB1.alloc _).alloc _, (hB2.alloc _).alloc _, (hB3.alloc _).alloc _⟩
        case measure => decide
    · by_cases hx' : -4194304 ≤ bx ∧ bx ≤ 4194304
      · by_cases hy' : -4194304 ≤ by' ∧ by' ≤ 4194304
        · have HW : Hid (wantK ax ay bx by' 2 = firstE [wantK ax ay bx by' 1, 0]) := want_ok1 ⟨hx'.1, hx'.2, hy'.1, hy'.2⟩
          go_wp2_with (first
            | (go_at_call_of 19 (Value.int IntKind.i64 bx); refine (within_yes _ _ _ _ hx').mono ?_; rintro e w' ⟨rfl, rfl⟩)
            | (go_at_call 19; refine (within_yes _ _ _ _ hy').mono ?_; rintro e w' ⟨rfl, rfl⟩)
            | (go_at_call 14; refine (when_no _ _).mono ?_; rintro e w' ⟨rfl, rfl⟩)
            | (go_at_call 13; refine (first_any _ 2 2 [wantK ax ay bx by' 1, 0] _ rfl (Rd.new (by simp) rfl) (by omega)).mono ?_; rw [← HW.out]; rintro e w' ⟨rfl, rfl⟩))
          go_roundw
          case rel => exact ⟨2, by omega, rfl, rfl, (by repeat (first | exact Ext.refl _ | assumption | refine Ext.setCell ?_ (by first | (simp; done) | (simp; omega)) _ | refine Ext.drewN ?_ _ | refine Ext.alloc ?_ _ | refine Ext.drew ?_ | refine Ext.trans ?_ (by assumption))), (hB0.alloc _).alloc _, (hB1.alloc _).alloc _, (hB2.alloc _).alloc _, (hB3.alloc _).alloc _⟩
          case measure => decide
        · have HW : Hid (wantK ax ay bx by' 2 = firstE [wantK ax ay bx by' 1, 5]) := want_no1 (fun h => hy' ⟨h.2.2.1, h.2.2.2⟩)
          go_wp2_with (first
            | (go_at_call_of 19 (Value.int IntKind.i64 bx); refine (within_yes _ _ _ _ hx').mono ?_; rintro e w' ⟨rfl, rfl⟩)
            | (go_at_call 19; refine (within_no _ _ _ _ hy').mono ?_; rintro e w' ⟨rfl, rfl⟩)
            | (go_at_call 14; refine (when_yes _ _).mono ?_; rintro e w' ⟨rfl, rfl⟩)
            | (go_at_call 13; refine (first_any _ 2 2 [wantK ax ay bx by' 1, 5] _ rfl (Rd.new (by simp) rfl) (by omega)).mono ?_; rw [← HW.out]; rintro e w' ⟨rfl, rfl⟩))
          go_roundw
          case rel => exact ⟨2, by omega, rfl, rfl, (by repeat (first | exact Ext.refl _ | assumption | refine Ext.setCell ?_ (by first | (simp; done) | (simp; omega)) _ | refine Ext.drewN ?_ _ | refine Ext.alloc ?_ _ | refine Ext.drew ?_ | refine Ext.trans ?_ (by assumption))), (hB0.alloc _).alloc _, (hB1.alloc _).alloc _, (hB2.alloc _).alloc _, (hB3.alloc _).alloc _⟩
          case measure => decide
      · have HW : Hid (wantK ax ay bx by' 2 = firstE [wantK ax ay bx by' 1, 5]) := want_no1 (fun h => hx' ⟨h.1, h.2.1⟩)
        go_wp2_with (first
          | (go_at_call 19; refine (within_no _ _ _ _ hx').mono ?_; rintro e w' ⟨rfl, rfl⟩)
          | (go_at_call 14; refine (when_yes _ _).mono ?_; rintro e w' ⟨rfl, rfl⟩)
          | (go_at_call 13; refine (first_any _ 2 2 [wantK ax ay bx by' 1, 5] _ rfl (Rd.new (by simp) rfl) (by omega)).mono ?_; rw [← HW.out]; rintro e w' ⟨rfl, rfl⟩))
        go_roundw
        case rel => exact ⟨2, by omega, rfl, rfl, (by repeat (first | exact Ext.refl _ | assumption | refine Ext.setCell ?_ (by first | (simp; done) | (simp; omega)) _ | refine Ext.drewN ?_ _ | refine Ext.alloc ?_ _ | refine Ext.drew ?_ | refine Ext.trans ?_ (by assumption))), (hB0.alloc _).alloc _, (hB1.alloc _).alloc _, (hB2.alloc _).alloc _, (hB3.alloc _).alloc _⟩
        case measure => decide
    · clear d0 d1 d2 d3
      have hw := Hw.out
      have HE := hidA (want_bad hw)
      have hv0 := Hv1.out (by rw [HE.out]; exact hw)
      subst hv0
      have t1 : (wantK ax ay bx by' 2 == 0) = false := by simpa using hw
      have t2 : (wantK ax ay bx by' 2 != 0) = true := by simpa using hw
      have t3 : (lineErr ax ay bx by' != wantK ax ay bx by' 2) = false := by rw [HE.out]; simp
      clear hw
      go_wp2_with (go_at_call 15; refine (levels_any _).mono ?_; rintro e w4 ⟨rfl, hx4⟩)

      have hB4 := hB0.ext hx4
      have hB5 := hB1.ext hx4
      have hB6 := hB2.ext hx4
      have s0 : ∀ w', Ext w4 w' → w'.cell? ⟨w.heap.size, 0, none⟩ = some (.int .i64 X) := fun w' h => (hB4.ext h).cell 0
      have s1 : ∀ w', Ext w4 w' → w'.cell? ⟨w.heap.size, 1, none⟩ = some (.int .i64 Y) := fun w' h => (hB4.ext h).cell 1
      have s2 : ∀ w', Ext w4 w' → w'.cell? ⟨w.heap.size, 2, none⟩ = some (.int .i64 W) := fun w' h => (hB4.ext h).cell 2
      have s3 : ∀ w', Ext w4 w' → w'.cell? ⟨w.heap.size, 3, none⟩ = some (.int .i64 H) := fun w' h => (hB4.ext h).cell 3
      have s4 : ∀ w', Ext w4 w' → w'.cell? ⟨w.heap.size, 4, none⟩ = some (.slice A n c) := fun w' h => (hB4.ext h).cell 4
      have s5 : ∀ w', Ext w4 w' → w'.cell? ⟨w.heap.size + 1, 0, none⟩ = some (.int .i64 ax) := fun w' h => (hB5.ext h).cell 0
      have s6 : ∀ w', Ext w4 w' → w'.cell? ⟨w.heap.size + 1, 1, none⟩ = some (.int .i64 ay) := fun w' h => (hB5.ext h).cell 1
      have s7 : ∀ w', Ext w4 w' → w'.cell? ⟨w.heap.size + 1 + 1, 0, none⟩ = some (.int .i64 bx) := fun w' h => (hB6.ext h).cell 0
      have s8 : ∀ w', Ext w4 w' → w'.cell? ⟨w.heap.size + 1 + 1, 1, none⟩ = some (.int .i64 by') := fun w' h => (hB6.ext h).cell 1
      have hD : ∀ w', Ext w4 w' → Rd w' A (flt l) := fun w' h => ((hd1.ext hb2).ext hx).ext (hx4.trans h)
      have hxw := hx2.trans (hx.trans hx4)
      clear hl
      have HFE := fun (w' : World) (h : Ext w4 w') => hidA (fieldError_any X Y W H A n c l w' hn (hD w' h) hb)
      by_cases hha : hasB X Y W H ax ay = true
      · by_cases hhb : hasB X Y W H bx by' = true
        · have HP : Hid (profE X Y W H ax ay bx by' l = firstE [fieldE X Y W H l, 0]) := by show _ = _; unfold profE hasW; rw [if_pos ⟨hha, hhb⟩]
          have Ha := hidA hha
          have Hb := hidA hhb
          clear hha hhb
          refine wp_region_noPanic ?_
          refine wp_region_held_drew (S := fun w' => Ext w4 w') (by kernel_rfl) ?_ (fun hHeld => ?_)
          · (repeat (first | exact Ext.refl _ | assumption | refine Ext.setCell ?_ (by first | (simp; done) | (simp; omega)) _ | refine Ext.drewN ?_ _ | refine Ext.alloc ?_ _ | refine Ext.drew ?_ | refine Ext.trans ?_ (by assumption)))
          refine wpAnyH_take (i := 0) (oi := ?o2x0) (v := ?v2x0) ?hi2x0 (by kernel_rfl) ?hf2x0 ?hr2x0 (fun _ _ _ h => h) ?hy2x0 (by assumption) ?rest2x0
          case hi2x0 => (simp only [List.getElem?_toArray, List.getElem?_cons_zero]; exact rfl)
          case hf2x0 => kernel_rfl
          case hr2x0 => kernel_rfl
          case hy2x0 => (refine Or.inl ⟨by rfl, ?_⟩; intro w hSw; (try dsimp only at hSw); go_simp; try with_reducible rfl)
          simp only [put_mk, List.set_cons_succ, List.set_cons_zero]
          refine wpAnyH_take (i := 2) (oi := ?o2x2) (v := ?v2x2) ?hi2x2 (by kernel_rfl) ?hf2x2 ?hr2x2 (fun _ _ _ h => h) ?hy2x2 (by assumption) ?rest2x2
          case hi2x2 => (simp only [List.getElem?_toArray, List.getElem?_cons_succ, List.getElem?_cons_zero]; exact rfl)
          case hf2x2 => kernel_rfl
          case hr2x2 => kernel_rfl
          case hy2x2 => (refine Or.inl ⟨by rfl, ?_⟩; intro w hSw; (try dsimp only at hSw); go_simp; try with_reducible rfl)
          simp only [put_mk, List.set_cons_succ, List.set_cons_zero]
          refine wpAnyH_take (i := 3) (oi := ?o2x3) (v := ?v2x3) ?hi2x3 (by kernel_rfl) ?hf2x3 ?hr2x3 (fun _ _ _ h => h) ?hy2x3 (by assumption) ?rest2x3
          case hi2x3 => (simp only [List.getElem?_toArray, List.getElem?_cons_succ, List.getElem?_cons_zero]; exact rfl)
          case hf2x3 => kernel_rfl
          case hr2x3 => kernel_rfl
          case hy2x3 => (refine Or.inl ⟨by rfl, ?_⟩; intro w hSw; (try dsimp only at hSw); go_simp; try with_reducible rfl)
          simp only [put_mk, List.set_cons_succ, List.set_cons_zero]
          refine wpAnyH_take (i := 4) (oi := ?o2x4) (v := ?v2x4) ?hi2x4 (by kernel_rfl) ?hf2x4 ?hr2x4 (fun _ _ _ h => h) ?hy2x4 (by assumption) ?rest2x4
          case hi2x4 => (simp only [List.getElem?_toArray, List.getElem?_cons_succ, List.getElem?_cons_zero]; exact rfl)
          case hf2x4 => kernel_rfl
          case hr2x4 => kernel_rfl
          case hy2x4 => (refine Or.inl ⟨by rfl, ?_⟩; intro w hSw; (try dsimp only at hSw); go_simp; try with_reducible rfl)
          simp only [put_mk, List.set_cons_succ, List.set_cons_zero]
          refine wpAnyH_take (i := 5) (oi := ?o2x5) (v := ?v2x5) ?hi2x5 (by kernel_rfl) ?hf2x5 ?hr2x5 (fun _ _ _ h => h) ?hy2x5 (by assumption) ?rest2x5
          case hi2x5 => (simp only [List.getElem?_toArray, List.getElem?_cons_succ, List.getElem?_cons_zero]; exact rfl)
          case hf2x5 => kernel_rfl
          case hr2x5 => kernel_rfl
          case hy2x5 => (refine Or.inl ⟨by rfl, ?_⟩; intro w hSw; (try dsimp only at hSw); go_simp; try with_reducible rfl)
          simp only [put_mk, List.set_cons_succ, List.set_cons_zero]
          refine wpAnyH_take (i := 6) (oi := ?o2x6) (v := ?v2x6) ?hi2x6 (by kernel_rfl) ?hf2x6 ?hr2x6 (fun _ _ _ h => h) ?hy2x6 (by assumption) ?rest2x6
          case hi2x6 => (simp only [List.getElem?_toArray, List.getElem?_cons_succ, List.getElem?_cons_zero]; exact rfl)
          case hf2x6 => kernel_rfl
          case hr2x6 => kernel_rfl
          case hy2x6 => (refine Or.inl ⟨by rfl, ?_⟩; intro w hSw; (try dsimp only at hSw); go_simp; try with_reducible rfl)
          simp only [put_mk, List.set_cons_succ, List.set_cons_zero]
          refine wpAnyH_take (i := 7) (oi := ?o2x7) (v := ?v2x7) ?hi2x7 (by kernel_rfl) ?hf2x7 ?hr2x7 (fun _ _ _ h => h) ?hy2x7 (by assumption) ?rest2x7
          case hi2x7 => (simp only [List.getElem?_toArray, List.getElem?_cons_succ, List.getElem?_cons_zero]; exact rfl)
          case hf2x7 => kernel_rfl
          case hr2x7 => kernel_rfl
          case hy2x7 => (refine Or.inl ⟨by rfl, ?_⟩; intro w hSw; (try dsimp only at hSw); go_simp; try with_reducible rfl)
          simp only [put_mk, List.set_cons_succ, List.set_cons_zero]
          refine wpAnyH_ready (rs := [1]) (by kernel_rfl) (by simp) ?_
          refine AllReadyH.cons (o := ?o2x1) ?hi2x1 (fun K hK => ?_) AllReadyH.nil
          case hi2x1 => (simp only [List.getElem?_toArray, List.getElem?_cons_succ, List.getElem?_cons_zero]; exact rfl)
          go_simp
          refine ((HFE _ ?_).out).mono ?_
          · (repeat (first | exact Ext.refl _ | assumption | refine Ext.setCell ?_ (by first | (simp; done) | (simp; omega)) _ | refine Ext.drewN ?_ _ | refine Ext.alloc ?_ _ | refine Ext.drew ?_ | refine Ext.trans ?_ (by assumption)))
          rintro e w5 ⟨rfl, hb5⟩
          refine hK.out _ _ ?_ (fun hHeld => ?_)
          · (repeat (first | exact Ext.refl _ | assumption | refine Ext.setCell ?_ (by first | (simp; done) | (simp; omega)) _ | refine Ext.drewN ?_ _ | refine Ext.alloc ?_ _ | refine Ext.drew ?_ | refine Ext.trans ?_ (by assumption)))
          clear hK K
          refine wpAnyH_ready (rs := [8]) (by kernel_rfl) (by simp) ?_
          refine AllReadyH.cons (o := ?o2x8) ?hi2x8 (fun K hK => ?_) AllReadyH.nil
          case hi2x8 => (simp only [List.getElem?_toArray, List.getElem?_cons_succ, List.getElem?_cons_zero]; exact rfl)
          go_simp
          refine (has_eq _ _ _ _ _ _ _ _ Ha.out).mono ?_
          rintro e w6 ⟨rfl, hb6⟩
          refine hK.out _ _ ?_ (fun hHeld => ?_)
          · (repeat (first | exact Ext.refl _ | assumption | refine Ext.setCell ?_ (by first | (simp; done) | (simp; omega)) _ | refine Ext.drewN ?_ _ | refine Ext.alloc ?_ _ | refine Ext.drew ?_ | refine Ext.trans ?_ (by assumption)))
          clear hK K
          refine wpAnyH_take (i := 9) (oi := ?o2x9) (v := ?v2x9) ?hi2x9 (by kernel_rfl) ?hf2x9 ?hr2x9 (fun _ _ _ h => h) ?hy2x9 (by assumption) ?rest2x9
          case hi2x9 => (simp only [List.getElem?_toArray, List.getElem?_cons_succ, List.getElem?_cons_zero]; exact rfl)
          case hf2x9 => kernel_rfl
          case hr2x9 => kernel_rfl
          case hy2x9 => (refine Or.inl ⟨by rfl, ?_⟩; intro w hSw; (try dsimp only at hSw); go_simp; try with_reducible rfl)
          simp only [put_mk, List.set_cons_succ, List.set_cons_zero]
          refine wpAnyH_take (i := 10) (oi := ?o2x10) (v := ?v2x10) ?hi2x10 (by kernel_rfl) ?hf2x10 ?hr2x10 (fun _ _ _ h => h) ?hy2x10 (by assumption) ?rest2x10
          case hi2x10 => (simp only [List.getElem?_toArray, List.getElem?_cons_succ, List.getElem?_cons_zero]; exact rfl)
          case hf2x10 => kernel_rfl
          case hr2x10 => kernel_rfl
          case hy2x10 => (refine Or.inl ⟨by rfl, ?_⟩; intro w hSw; (try dsimp only at hSw); go_simp; try with_reducible rfl)
          simp only [put_mk, List.set_cons_succ, List.set_cons_zero]
          refine wpAnyH_take (i := 11) (oi := ?o2x11) (v := ?v2x11) ?hi2x11 (by kernel_rfl) ?hf2x11 ?hr2x11 (fun _ _ _ h => h) ?hy2x11 (by assumption) ?rest2x11
          case hi2x11 => (simp only [List.getElem?_toArray, List.getElem?_cons_succ, List.getElem?_cons_zero]; exact rfl)
          case hf2x11 => kernel_rfl
          case hr2x11 => kernel_rfl
          case hy2x11 => (refine Or.inl ⟨by rfl, ?_⟩; intro w hSw; (try dsimp only at hSw); go_simp; try with_reducible rfl)
          simp only [put_mk, List.set_cons_succ, List.set_cons_zero]
          refine wpAnyH_take (i := 12) (oi := ?o2x12) (v := ?v2x12) ?hi2x12 (by kernel_rfl) ?hf2x12 ?hr2x12 (fun _ _ _ h => h) ?hy2x12 (by assumption) ?rest2x12
          case hi2x12 => (simp only [List.getElem?_toArray, List.getElem?_cons_succ, List.getElem?_cons_zero]; exact rfl)
          case hf2x12 => kernel_rfl
          case hr2x12 => kernel_rfl
          case hy2x12 => (refine Or.inl ⟨by rfl, ?_⟩; intro w hSw; (try dsimp only at hSw); go_simp; try with_reducible rfl)
          simp only [put_mk, List.set_cons_succ, List.set_cons_zero]
          refine wpAnyH_take (i := 13) (oi := ?o2x13) (v := ?v2x13) ?hi2x13 (by kernel_rfl) ?hf2x13 ?hr2x13 (fun _ _ _ h => h) ?hy2x13 (by assumption) ?rest2x13
          case hi2x13 => (simp only [List.getElem?_toArray, List.getElem?_cons_succ, List.getElem?_cons_zero]; exact rfl)
          case hf2x13 => kernel_rfl
          case hr2x13 => kernel_rfl
          case hy2x13 => (refine Or.inl ⟨by rfl, ?_⟩; intro w hSw; (try dsimp only at hSw); go_simp; try with_reducible rfl)
          simp only [put_mk, List.set_cons_succ, List.set_cons_zero]
          refine wpAnyH_take (i := 14) (oi := ?o2x14) (v := ?v2x14) ?hi2x14 (by kernel_rfl) ?hf2x14 ?hr2x14 (fun _ _ _ h => h) ?hy2x14 (by assumption) ?rest2x14
          case hi2x14 => (simp only [List.getElem?_toArray, List.getElem?_cons_succ, List.getElem?_cons_zero]; exact rfl)
          case hf2x14 => kernel_rfl
          case hr2x14 => kernel_rfl
          case hy2x14 => (refine Or.inl ⟨by rfl, ?_⟩; intro w hSw; (try dsimp only at hSw); go_simp; try with_reducible rfl)
          simp only [put_mk, List.set_cons_succ, List.set_cons_zero]
          refine wpAnyH_take (i := 15) (oi := ?o2x15) (v := ?v2x15) ?hi2x15 (by kernel_rfl) ?hf2x15 ?hr2x15 (fun _ _ _ h => h) ?hy2x15 (by assumption) ?rest2x15
          case hi2x15 => (simp only [List.getElem?_toArray, List.getElem?_cons_succ, List.getElem?_cons_zero]; exact rfl)
          case hf2x15 => kernel_rfl
          case hr2x15 => kernel_rfl
          case hy2x15 => (refine Or.inl ⟨by rfl, ?_⟩; intro w hSw; (try dsimp only at hSw); go_simp; try with_reducible rfl)
          simp only [put_mk, List.set_cons_succ, List.set_cons_zero]
          refine wpAnyH_take (i := 16) (oi := ?o2x16) (v := ?v2x16) ?hi2x16 (by kernel_rfl) ?hf2x16 ?hr2x16 (fun _ _ _ h => h) ?hy2x16 (by assumption) ?rest2x16
          case hi2x16 => (simp only [List.getElem?_toArray, List.getElem?_cons_succ, List.getElem?_cons_zero]; exact rfl)
          case hf2x16 => kernel_rfl
          case hr2x16 => kernel_rfl
          case hy2x16 => (refine Or.inl ⟨by rfl, ?_⟩; intro w hSw; (try dsimp only at hSw); go_simp; try with_reducible rfl)
          simp only [put_mk, List.set_cons_succ, List.set_cons_zero]
          refine wpAnyH_ready (rs := [17]) (by kernel_rfl) (by simp) ?_
          refine AllReadyH.cons (o := ?o2x17) ?hi2x17 (fun K hK => ?_) AllReadyH.nil
          case hi2x17 => (simp only [List.getElem?_toArray, List.getElem?_cons_succ, List.getElem?_cons_zero]; exact rfl)
          go_simp
          refine (has_eq _ _ _ _ _ _ _ _ Hb.out).mono ?_
          rintro e w7 ⟨rfl, hb7⟩
          refine hK.out _ _ ?_ (fun hHeld => ?_)
          · (repeat (first | exact Ext.refl _ | assumption | refine Ext.setCell ?_ (by first | (simp; done) | (simp; omega)) _ | refine Ext.drewN ?_ _ | refine Ext.alloc ?_ _ | refine Ext.drew ?_ | refine Ext.trans ?_ (by assumption)))
          clear hK K
          refine wpAnyH_take (i := 18) (oi := ?o2x18) (v := ?v2x18) ?hi2x18 (by kernel_rfl) ?hf2x18 ?hr2x18 (fun _ _ _ h => h) ?hy2x18 (by assumption) ?rest2x18
          case hi2x18 => (simp only [List.getElem?_toArray, List.getElem?_cons_succ, List.getElem?_cons_zero]; exact rfl)
          case hf2x18 => kernel_rfl
          case hr2x18 => kernel_rfl
          case hy2x18 => (refine Or.inl ⟨by rfl, ?_⟩; intro w hSw; (try dsimp only at hSw); go_simp; try with_reducible rfl)
          simp only [put_mk, List.set_cons_succ, List.set_cons_zero]
          refine wpAnyH_take (i := 19) (oi := ?o2x19) (v := ?v2x19) ?hi2x19 (by kernel_rfl) ?hf2x19 ?hr2x19 (fun _ _ _ h => h) ?hy2x19 (by assumption) ?rest2x19
          case hi2x19 => (simp only [List.getElem?_toArray, List.getElem?_cons_succ, List.getElem?_cons_zero]; exact rfl)
          case hf2x19 => kernel_rfl
          case hr2x19 => kernel_rfl
          case hy2x19 => (refine Or.inl ⟨by rfl, ?_⟩; intro w hSw; (try dsimp only at hSw); go_simp; try with_reducible rfl)
          simp only [put_mk, List.set_cons_succ, List.set_cons_zero]
          refine wpAnyH_ready (rs := [20]) (by kernel_rfl) (by simp) ?_
          refine AllReadyH.cons (o := ?o2x20) ?hi2x20 (fun K hK => ?_) AllReadyH.nil
          case hi2x20 => (simp only [List.getElem?_toArray, List.getElem?_cons_succ, List.getElem?_cons_zero]; exact rfl)
          go_simp
          refine (when_no _ _).mono ?_
          rintro e w' ⟨rfl, rfl⟩
          refine hK.out _ _ ?_ (fun hHeld => ?_)
          · (repeat (first | exact Ext.refl _ | assumption | refine Ext.setCell ?_ (by first | (simp; done) | (simp; omega)) _ | refine Ext.drewN ?_ _ | refine Ext.alloc ?_ _ | refine Ext.drew ?_ | refine Ext.trans ?_ (by assumption)))
          clear hK K
          refine wpAnyH_ready (rs := [21]) (by kernel_rfl) (by simp) ?_
          refine AllReadyH.cons (o := ?o2x21) ?hi2x21 (fun K hK => ?_) AllReadyH.nil
          case hi2x21 => (simp only [List.getElem?_toArray, List.getElem?_cons_succ, List.getElem?_cons_zero]; exact rfl)
          go_simp
          refine hK.out _ _ ?_ (fun hHeld => ?_)
          · (repeat (first | exact Ext.refl _ | assumption | refine Ext.setCell ?_ (by first | (simp; done) | (simp; omega)) _ | refine Ext.drewN ?_ _ | refine Ext.alloc ?_ _ | refine Ext.drew ?_ | refine Ext.trans ?_ (by assumption)))
          clear hK K
          refine wpAnyH_ready (rs := [22]) (by kernel_rfl) (by simp) ?_
          refine AllReadyH.cons (o := ?o2x22) ?hi2x22 (fun K hK => ?_) AllReadyH.nil
          case hi2x22 => (simp only [List.getElem?_toArray, List.getElem?_cons_succ, List.getElem?_cons_zero]; exact rfl)
          go_simp
          refine (first_any _ 2 2 [fieldE X Y W H l, 0] _ rfl (Rd.new (by simp) rfl) (by omega)).mono ?_
          rw [← HP.out]
          rintro e w' ⟨rfl, rfl⟩
          refine hK.out _ _ ?_ (fun hHeld => ?_)
          · (repeat (first | exact Ext.refl _ | assumption | refine Ext.setCell ?_ (by first | (simp; done) | (simp; omega)) _ | refine Ext.drewN ?_ _ | refine Ext.alloc ?_ _ | refine Ext.drew ?_ | refine Ext.trans ?_ (by assumption)))
          clear hK K
          refine wpAnyH_take (i := 23) (oi := ?o2x23) (v := ?v2x23) ?hi2x23 (by kernel_rfl) ?hf2x23 ?hr2x23 (fun _ _ _ h => h) ?hy2x23 (by assumption) ?rest2x23
          case hi2x23 => (simp only [List.getElem?_toArray, List.getElem?_cons_succ, List.getElem?_cons_zero]; exact rfl)
          case hf2x23 => kernel_rfl
          case hr2x23 => kernel_rfl
          case hy2x23 => (refine Or.inl ⟨by rfl, ?_⟩; intro w hSw; (try dsimp only at hSw); go_simp; try with_reducible rfl)
          simp only [put_mk, List.set_cons_succ, List.set_cons_zero]
          refine wpAnyH_done (by kernel_rfl) ?_ _
          refine NoPanic.normal ?_
          by_cases hpe : profE X Y W H ax ay bx by' l = 0
          · obtain ⟨s, C, q, g1, g2, rfl, g4, g5, g6, g7⟩ := Hp2.out hpe
            clear Hp1 Hp2
            have G1 := hidA g1
            have HPe := hidA hpe
            have P0 : (profE X Y W H ax ay bx by' l == 0) = true := by simpa using hpe
            have P1 : (profE X Y W H ax ay bx by' l != 0) = false := by simpa using hpe
            have Hreg := hidA (RegOk.of_zero (fieldE_parts g5).1)
            have Hfw := hidA (fieldE_parts g5).2.1
            have Hpl := hidA (show ∀ p ∈ linePts ax ay bx by' s (s + 1), InR X Y W H p.1 p.2 from fun p hp => by
              obtain ⟨k, hk, rfl⟩ := List.mem_map.1 hp
              exact line_in g6 g7 (by have := List.mem_range.1 hk; omega))
            have bd : (-4194304 ≤ ax ∧ ax ≤ 4194304) ∧ (-4194304 ≤ ay ∧ ay ≤ 4194304) ∧ (-4194304 ≤ bx ∧ bx ≤ 4194304) ∧ (-4194304 ≤ by' ∧ by' ≤ 4194304) := by
              have hreg := Hreg.out
              unfold RegOk at hreg
              unfold InR at g6 g7
              omega
            obtain ⟨bd1, bd2, bd3, bd4⟩ := bd
            have hCr : ∀ w', Ext w4 w' → Rd w' C (flt ((linePts ax ay bx by' s (s + 1)).map (valAt X Y W l))) := fun w' h => g4.rd.ext (hx.trans (hx4.trans h))
            have hnw : (n : Int) = W * H := by rw [← hn]; exact Hfw.out
            have Hnw := hidA hnw
            have Hlen : Hid ((linePts ax ay bx by' s (s + 1)).length = s + 1) := by show _ = _; simp [linePts]
            have Hlen2 : Hid (((linePts ax ay bx by' s (s + 1)).map (valAt X Y W l)).length = s + 1) := by show _ = _; rw [List.length_map]; exact Hlen.out
            clear g1 hpe g4 g5 g6 g7 hnw
            go_wp2_with fail
            refine wp_region_noPanic ?_
            refine wp_region_held_drew (S := fun w' => Ext w4 w') (by kernel_rfl) ?_ (fun hHeld => ?_)
            · (repeat (first | exact Ext.refl _ | assumption | refine Ext.setCell ?_ (by first | (simp; done) | (simp; omega)) _ | refine Ext.drewN ?_ _ | refine Ext.alloc ?_ _ | refine Ext.drew ?_ | refine Ext.trans ?_ (by assumption)))
            refine wpAnyH_take (i := 0) (oi := ?o4x0) (v := ?v4x0) ?hi4x0 (by kernel_rfl) ?hf4x0 ?hr4x0 (fun _ _ _ h => h) ?hy4x0 (by assumption) ?rest4x0
            case hi4x0 => (simp only [List.getElem?_toArray, List.getElem?_cons_zero]; exact rfl)
            case hf4x0 => kernel_rfl
            case hr4x0 => kernel_rfl
            case hy4x0 => (refine Or.inl ⟨by rfl, ?_⟩; intro w hSw; (try dsimp only at hSw); go_simp; try with_reducible rfl)
            simp only [put_mk, List.set_cons_succ, List.set_cons_zero]
            refine wpAnyH_take (i := 1) (oi := ?o4x1) (v := ?v4x1) ?hi4x1 (by kernel_rfl) ?hf4x1 ?hr4x1 (fun _ _ _ h => h) ?hy4x1 (by assumption) ?rest4x1
            case hi4x1 => (simp only [List.getElem?_toArray, List.getElem?_cons_succ, List.getElem?_cons_zero]; exact rfl)
            case hf4x1 => kernel_rfl
            case hr4x1 => kernel_rfl
            case hy4x1 => (refine Or.inl ⟨by rfl, ?_⟩; intro w hSw; (try dsimp only at hSw); go_simp; try with_reducible rfl)
            simp only [put_mk, List.set_cons_succ, List.set_cons_zero]
            refine wpAnyH_take (i := 2) (oi := ?o4x2) (v := ?v4x2) ?hi4x2 (by kernel_rfl) ?hf4x2 ?hr4x2 (fun _ _ _ h => h) ?hy4x2 (by assumption) ?rest4x2
            case hi4x2 => (simp only [List.getElem?_toArray, List.getElem?_cons_succ, List.getElem?_cons_zero]; exact rfl)
            case hf4x2 => kernel_rfl
            case hr4x2 => kernel_rfl
            case hy4x2 => (refine Or.inl ⟨by rfl, ?_⟩; intro w hSw; (try dsimp only at hSw); go_simp; try with_reducible rfl)
            simp only [put_mk, List.set_cons_succ, List.set_cons_zero]
            refine wpAnyH_take (i := 3) (oi := ?o4x3) (v := ?v4x3) ?hi4x3 (by kernel_rfl) ?hf4x3 ?hr4x3 (fun _ _ _ h => h) ?hy4x3 (by assumption) ?rest4x3
            case hi4x3 => (simp only [List.getElem?_toArray, List.getElem?_cons_succ, List.getElem?_cons_zero]; exact rfl)
            case hf4x3 => kernel_rfl
            case hr4x3 => kernel_rfl
            case hy4x3 => (refine Or.inl ⟨by rfl, ?_⟩; intro w hSw; (try dsimp only at hSw); go_simp; try with_reducible rfl)
            simp only [put_mk, List.set_cons_succ, List.set_cons_zero]
            refine wpAnyH_take (i := 4) (oi := ?o4x4) (v := ?v4x4) ?hi4x4 (by kernel_rfl) ?hf4x4 ?hr4x4 (fun _ _ _ h => h) ?hy4x4 (by assumption) ?rest4x4
            case hi4x4 => (simp only [List.getElem?_toArray, List.getElem?_cons_succ, List.getElem?_cons_zero]; exact rfl)
            case hf4x4 => kernel_rfl
            case hr4x4 => kernel_rfl
            case hy4x4 => (refine Or.inl ⟨by rfl, ?_⟩; intro w hSw; (try dsimp only at hSw); go_simp; try with_reducible rfl)
            simp only [put_mk, List.set_cons_succ, List.set_cons_zero]
            refine wpAnyH_take (i := 5) (oi := ?o4x5) (v := ?v4x5) ?hi4x5 (by kernel_rfl) ?hf4x5 ?hr4x5 (fun _ _ _ h => h) ?hy4x5 (by assumption) ?rest4x5
            case hi4x5 => (simp only [List.getElem?_toArray, List.getElem?_cons_succ, List.getElem?_cons_zero]; exact rfl)
            case hf4x5 => kernel_rfl
            case hr4x5 => kernel_rfl
            case hy4x5 => (refine Or.inl ⟨by rfl, ?_⟩; intro w hSw; (try dsimp only at hSw); go_simp; try with_reducible rfl)
            simp only [put_mk, List.set_cons_succ, List.set_cons_zero]
            refine wpAnyH_take (i := 6) (oi := ?o4x6) (v := ?v4x6) ?hi4x6 (by kernel_rfl) ?hf4x6 ?hr4x6 (fun _ _ _ h => h) ?hy4x6 (by assumption) ?rest4x6
            case hi4x6 => (simp only [List.getElem?_toArray, List.getElem?_cons_succ, List.getElem?_cons_zero]; exact rfl)
            case hf4x6 => kernel_rfl
            case hr4x6 => kernel_rfl
            case hy4x6 => (refine Or.inl ⟨by rfl, ?_⟩; intro w hSw; (try dsimp only at hSw); go_simp; try with_reducible rfl)
            simp only [put_mk, List.set_cons_succ, List.set_cons_zero]
            refine wpAnyH_ready (rs := [7]) (by kernel_rfl) (by simp) ?_
            refine AllReadyH.cons (o := ?o4x7) ?hi4x7 (fun K hK => ?_) AllReadyH.nil
            case hi4x7 => (simp only [List.getElem?_toArray, List.getElem?_cons_succ, List.getElem?_cons_zero]; exact rfl)
            go_simp
            refine (lineOf_any ax ay bx by' s _ bd1 bd2 bd3 bd4 G1.out g2).mono ?_
            rintro e w6 ⟨A6, c6, rfl, hr6, hb6⟩
            refine hK.out _ _ ?_ (fun hHeld => ?_)
            · (repeat (first | exact Ext.refl _ | assumption | refine Ext.setCell ?_ (by first | (simp; done) | (simp; omega)) _ | refine Ext.drewN ?_ _ | refine Ext.alloc ?_ _ | refine Ext.drew ?_ | refine Ext.trans ?_ (by assumption)))
            clear hK K
            refine wpAnyH_ready (rs := [8]) (by kernel_rfl) (by simp) ?_
            refine AllReadyH.cons (o := ?o4x8) ?hi4x8 (fun K hK => ?_) AllReadyH.nil
            case hi4x8 => (simp only [List.getElem?_toArray, List.getElem?_cons_succ, List.getElem?_cons_zero]; exact rfl)
            go_simp
            refine (values_any X Y W H A A6 n c (s + 1) c6 l _ _ Hreg.out hn Hnw.out (hD _ ?_) Hlen.out hr6.rd Hpl.out (by omega)).mono ?_
            · (repeat (first | exact Ext.refl _ | assumption | refine Ext.setCell ?_ (by first | (simp; done) | (simp; omega)) _ | refine Ext.drewN ?_ _ | refine Ext.alloc ?_ _ | refine Ext.drew ?_ | refine Ext.trans ?_ (by assumption)))
            rintro e w7 ⟨C7, q7, rfl, hr7, hb7⟩
            refine hK.out _ _ ?_ (fun hHeld => ?_)
            · (repeat (first | exact Ext.refl _ | assumption | refine Ext.setCell ?_ (by first | (simp; done) | (simp; omega)) _ | refine Ext.drewN ?_ _ | refine Ext.alloc ?_ _ | refine Ext.drew ?_ | refine Ext.trans ?_ (by assumption)))
            clear hK K
            refine wpAnyH_ready (rs := [9]) (by kernel_rfl) (by simp) ?_
            refine AllReadyH.cons (o := ?o4x9) ?hi4x9 (fun K hK => ?_) AllReadyH.nil
            case hi4x9 => (simp only [List.getElem?_toArray, List.getElem?_cons_succ, List.getElem?_cons_zero]; exact rfl)
            go_simp
            refine (bits_same C C7 (s + 1) q q7 _ _ Hlen2.out (hCr _ ?_) hr7.rd (by omega)).mono ?_
            · (repeat (first | exact Ext.refl _ | assumption | refine Ext.setCell ?_ (by first | (simp; done) | (simp; omega)) _ | refine Ext.drewN ?_ _ | refine Ext.alloc ?_ _ | refine Ext.drew ?_ | refine Ext.trans ?_ (by assumption)))
            rintro e w' ⟨rfl, rfl⟩
            refine hK.out _ _ ?_ (fun hHeld => ?_)
            · (repeat (first | exact Ext.refl _ | assumption | refine Ext.setCell ?_ (by first | (simp; done) | (simp; omega)) _ | refine Ext.drewN ?_ _ | refine Ext.alloc ?_ _ | refine Ext.drew ?_ | refine Ext.trans ?_ (by assumption)))
            clear hK K
            refine wpAnyH_take (i := 10) (oi := ?o4x10) (v := ?v4x10) ?hi4x10 (by kernel_rfl) ?hf4x10 ?hr4x10 (fun _ _ _ h => h) ?hy4x10 (by assumption) ?rest4x10
            case hi4x10 => (simp only [List.getElem?_toArray, List.getElem?_cons_succ, List.getElem?_cons_zero]; exact rfl)
            case hf4x10 => kernel_rfl
            case hr4x10 => kernel_rfl
            case hy4x10 => (refine Or.inl ⟨by rfl, ?_⟩; intro w hSw; (try dsimp only at hSw); go_simp; try with_reducible rfl)
            simp only [put_mk, List.set_cons_succ, List.set_cons_zero]
            refine wpAnyH_take (i := 11) (oi := ?o4x11) (v := ?v4x11) ?hi4x11 (by kernel_rfl) ?hf4x11 ?hr4x11 (fun _ _ _ h => h) ?hy4x11 (by assumption) ?rest4x11
            case hi4x11 => (simp only [List.getElem?_toArray, List.getElem?_cons_succ, List.getElem?_cons_zero]; exact rfl)
            case hf4x11 => kernel_rfl
            case hr4x11 => kernel_rfl
            case hy4x11 => (refine Or.inl ⟨by rfl, ?_⟩; intro w hSw; (try dsimp only at hSw); go_simp; try with_reducible rfl)
            simp only [put_mk, List.set_cons_succ, List.set_cons_zero]
            refine wpAnyH_done (by kernel_rfl) ?_ _
            refine NoPanic.normal ?_
            go_wp2
            go_ret
            exact ⟨rfl, (by repeat (first | exact Ext.refl _ | assumption | refine Ext.setCell ?_ (by first | (simp; done) | (simp; omega)) _ | refine Ext.drewN ?_ _ | refine Ext.alloc ?_ _ | refine Ext.drew ?_ | refine Ext.trans ?_ (by assumption)))⟩
          · have hv2 := Hp1.out hpe
            subst hv2
            have P0 : (profE X Y W H ax ay bx by' l != 0) = true := by simpa using hpe
            clear hpe Hp1 Hp2
            go_wp2
            go_ret
            exact ⟨ret_b (by simp), (by repeat (first | exact Ext.refl _ | assumption | refine Ext.setCell ?_ (by first | (simp; done) | (simp; omega)) _ | refine Ext.drewN ?_ _ | refine Ext.alloc ?_ _ | refine Ext.drew ?_ | refine Ext.trans ?_ (by assumption)))⟩
        · have HP : Hid (profE X Y W H ax ay bx by' l = firstE [fieldE X Y W H l, 5]) := by show _ = _; unfold profE hasW; rw [if_neg (fun h => hhb h.2)]
          have hne : profE X Y W H ax ay bx by' l ≠ 0 := by
            intro h; rw [HP.out] at h; simp only [firstE] at h; split at h <;> simp_all
          have hv2 := Hp1.out hne
          subst hv2
          have P0 : (profE X Y W H ax ay bx by' l != 0) = true := by simpa using hne
          have Ha := hidA hha
          have Hb : Hid (hasB X Y W H bx by' = false) := by show _ = _; simpa using hhb
          clear hha hhb hne Hp1 Hp2
          refine wp_region_noPanic ?_
          refine wp_region_held_drew (S := fun w' => Ext w4 w') (by kernel_rfl) ?_ (fun hHeld => ?_)
          · (repeat (first | exact Ext.refl _ | assumption | refine Ext.setCell ?_ (by first | (simp; done) | (simp; omega)) _ | refine Ext.drewN ?_ _ | refine Ext.alloc ?_ _ | refine Ext.drew ?_ | refine Ext.trans ?_ (by assumption)))
          refine wpAnyH_take (i := 0) (oi := ?o3x0) (v := ?v3x0) ?hi3x0 (by kernel_rfl) ?hf3x0 ?hr3x0 (fun _ _ _ h => h) ?hy3x0 (by assumption) ?rest3x0
          case hi3x0 => (simp only [List.getElem?_toArray, List.getElem?_cons_zero]; exact rfl)
          case hf3x0 => kernel_rfl
          case hr3x0 => kernel_rfl
          case hy3x0 => (refine Or.inl ⟨by rfl, ?_⟩; intro w hSw; (try dsimp only at hSw); go_simp; try with_reducible rfl)
          simp only [put_mk, List.set_cons_succ, List.set_cons_zero]
          refine wpAnyH_take (i := 2) (oi := ?o3x2) (v := ?v3x2) ?hi3x2 (by kernel_rfl) ?hf3x2 ?hr3x2 (fun _ _ _ h => h) ?hy3x2 (by assumption) ?rest3x2
          case hi3x2 => (simp only [List.getElem?_toArray, List.getElem?_cons_succ, List.getElem?_cons_zero]; exact rfl)
          case hf3x2 => kernel_rfl
          case hr3x2 => kernel_rfl
          case hy3x2 => (refine Or.inl ⟨by rfl, ?_⟩; intro w hSw; (try dsimp only at hSw); go_simp; try with_reducible rfl)
          simp only [put_mk, List.set_cons_succ, List.set_cons_zero]
          refine wpAnyH_take (i := 3) (oi := ?o3x3) (v := ?v3x3) ?hi3x3 (by kernel_rfl) ?hf3x3 ?hr3x3 (fun _ _ _ h => h) ?hy3x3 (by assumption) ?rest3x3
          case hi3x3 => (simp only [List.getElem?_toArray, List.getElem?_cons_succ, List.getElem?_cons_zero]; exact rfl)
          case hf3x3 => kernel_rfl
          case hr3x3 => kernel_rfl
          case hy3x3 => (refine Or.inl ⟨by rfl, ?_⟩; intro w hSw; (try dsimp only at hSw); go_simp; try with_reducible rfl)
          simp only [put_mk, List.set_cons_succ, List.set_cons_zero]
          refine wpAnyH_take (i := 4) (oi := ?o3x4) (v := ?v3x4) ?hi3x4 (by kernel_rfl) ?hf3x4 ?hr3x4 (fun _ _ _ h => h) ?hy3x4 (by assumption) ?rest3x4
          case hi3x4 => (simp only [List.getElem?_toArray, List.getElem?_cons_succ, List.getElem?_cons_zero]; exact rfl)
          case hf3x4 => kernel_rfl
          case hr3x4 => kernel_rfl
          case hy3x4 => (refine Or.inl ⟨by rfl, ?_⟩; intro w hSw; (try dsimp only at hSw); go_simp; try with_reducible rfl)
          simp only [put_mk, List.set_cons_succ, List.set_cons_zero]
          refine wpAnyH_take (i := 5) (oi := ?o3x5) (v := ?v3x5) ?hi3x5 (by kernel_rfl) ?hf3x5 ?hr3x5 (fun _ _ _ h => h) ?hy3x5 (by assumption) ?rest3x5
          case hi3x5 => (simp only [List.getElem?_toArray, List.getElem?_cons_succ, List.getElem?_cons_zero]; exact rfl)
          case hf3x5 => kernel_rfl
          case hr3x5 => kernel_rfl
          case hy3x5 => (refine Or.inl ⟨by rfl, ?_⟩; intro w hSw; (try dsimp only at hSw); go_simp; try with_reducible rfl)
          simp only [put_mk, List.set_cons_succ, List.set_cons_zero]
          refine wpAnyH_take (i := 6) (oi := ?o3x6) (v := ?v3x6) ?hi3x6 (by kernel_rfl) ?hf3x6 ?hr3x6 (fun _ _ _ h => h) ?hy3x6 (by assumption) ?rest3x6
          case hi3x6 => (simp only [List.getElem?_toArray, List.getElem?_cons_succ, List.getElem?_cons_zero]; exact rfl)
          case hf3x6 => kernel_rfl
          case hr3x6 => kernel_rfl
          case hy3x6 => (refine Or.inl ⟨by rfl, ?_⟩; intro w hSw; (try dsimp only at hSw); go_simp; try with_reducible rfl)
          simp only [put_mk, List.set_cons_succ, List.set_cons_zero]
          refine wpAnyH_take (i := 7) (oi := ?o3x7) (v := ?v3x7) ?hi3x7 (by kernel_rfl) ?hf3x7 ?hr3x7 (fun _ _ _ h => h) ?hy3x7 (by assumption) ?rest3x7
          case hi3x7 => (simp only [List.getElem?_toArray, List.getElem?_cons_succ, List.getElem?_cons_zero]; exact rfl)
          case hf3x7 => kernel_rfl
          case hr3x7 => kernel_rfl
          case hy3x7 => (refine Or.inl ⟨by rfl, ?_⟩; intro w hSw; (try dsimp only at hSw); go_simp; try with_reducible rfl)
          simp only [put_mk, List.set_cons_succ, List.set_cons_zero]
          refine wpAnyH_ready (rs := [1]) (by kernel_rfl) (by simp) ?_
          refine AllReadyH.cons (o := ?o3x1) ?hi3x1 (fun K hK => ?_) AllReadyH.nil
          case hi3x1 => (simp only [List.getElem?_toArray, List.getElem?_cons_succ, List.getElem?_cons_zero]; exact rfl)
          go_simp
          refine ((HFE _ ?_).out).mono ?_
          · (repeat (first | exact Ext.refl _ | assumption | refine Ext.setCell ?_ (by first | (simp; done) | (simp; omega)) _ | refine Ext.drewN ?_ _ | refine Ext.alloc ?_ _ | refine Ext.drew ?_ | refine Ext.trans ?_ (by assumption)))
          rintro e w5 ⟨rfl, hb5⟩
          refine hK.out _ _ ?_ (fun hHeld => ?_)
          · (repeat (first | exact Ext.refl _ | assumption | refine Ext.setCell ?_ (by first | (simp; done) | (simp; omega)) _ | refine Ext.drewN ?_ _ | refine Ext.alloc ?_ _ | refine Ext.drew ?_ | refine Ext.trans ?_ (by assumption)))
          clear hK K
          refine wpAnyH_ready (rs := [8]) (by kernel_rfl) (by simp) ?_
          refine AllReadyH.cons (o := ?o3x8) ?hi3x8 (fun K hK => ?_) AllReadyH.nil
          case hi3x8 => (simp only [List.getElem?_toArray, List.getElem?_cons_succ, List.getElem?_cons_zero]; exact rfl)
          go_simp
          refine (has_eq _ _ _ _ _ _ _ _ Ha.out).mono ?_
          rintro e w6 ⟨rfl, hb6⟩
          refine hK.out _ _ ?_ (fun hHeld => ?_)
          · (repeat (first | exact Ext.refl _ | assumption | refine Ext.setCell ?_ (by first | (simp; done) | (simp; omega)) _ | refine Ext.drewN ?_ _ | refine Ext.alloc ?_ _ | refine Ext.drew ?_ | refine Ext.trans ?_ (by assumption)))
          clear hK K
          refine wpAnyH_take (i := 9) (oi := ?o3x9) (v := ?v3x9) ?hi3x9 (by kernel_rfl) ?hf3x9 ?hr3x9 (fun _ _ _ h => h) ?hy3x9 (by assumption) ?rest3x9
          case hi3x9 => (simp only [List.getElem?_toArray, List.getElem?_cons_succ, List.getElem?_cons_zero]; exact rfl)
          case hf3x9 => kernel_rfl
          case hr3x9 => kernel_rfl
          case hy3x9 => (refine Or.inl ⟨by rfl, ?_⟩; intro w hSw; (try dsimp only at hSw); go_simp; try with_reducible rfl)
          simp only [put_mk, List.set_cons_succ, List.set_cons_zero]
          refine wpAnyH_take (i := 10) (oi := ?o3x10) (v := ?v3x10) ?hi3x10 (by kernel_rfl) ?hf3x10 ?hr3x10 (fun _ _ _ h => h) ?hy3x10 (by assumption) ?rest3x10
          case hi3x10 => (simp only [List.getElem?_toArray, List.getElem?_cons_succ, List.getElem?_cons_zero]; exact rfl)
          case hf3x10 => kernel_rfl
          case hr3x10 => kernel_rfl
          case hy3x10 => (refine Or.inl ⟨by rfl, ?_⟩; intro w hSw; (try dsimp only at hSw); go_simp; try with_reducible rfl)
          simp only [put_mk, List.set_cons_succ, List.set_cons_zero]
          refine wpAnyH_take (i := 11) (oi := ?o3x11) (v := ?v3x11) ?hi3x11 (by kernel_rfl) ?hf3x11 ?hr3x11 (fun _ _ _ h => h) ?hy3x11 (by assumption) ?rest3x11
          case hi3x11 => (simp only [List.getElem?_toArray, List.getElem?_cons_succ, List.getElem?_cons_zero]; exact rfl)
          case hf3x11 => kernel_rfl
          case hr3x11 => kernel_rfl
          case hy3x11 => (refine Or.inl ⟨by rfl, ?_⟩; intro w hSw; (try dsimp only at hSw); go_simp; try with_reducible rfl)
          simp only [put_mk, List.set_cons_succ, List.set_cons_zero]
          refine wpAnyH_take (i := 12) (oi := ?o3x12) (v := ?v3x12) ?hi3x12 (by kernel_rfl) ?hf3x12 ?hr3x12 (fun _ _ _ h => h) ?hy3x12 (by assumption) ?rest3x12
          case hi3x12 => (simp only [List.getElem?_toArray, List.getElem?_cons_succ, List.getElem?_cons_zero]; exact rfl)
          case hf3x12 => kernel_rfl
          case hr3x12 => kernel_rfl
          case hy3x12 => (refine Or.inl ⟨by rfl, ?_⟩; intro w hSw; (try dsimp only at hSw); go_simp; try with_reducible rfl)
          simp only [put_mk, List.set_cons_succ, List.set_cons_zero]
          refine wpAnyH_take (i := 13) (oi := ?o3x13) (v := ?v3x13) ?hi3x13 (by kernel_rfl) ?hf3x13 ?hr3x13 (fun _ _ _ h => h) ?hy3x13 (by assumption) ?rest3x13
          case hi3x13 => (simp only [List.getElem?_toArray, List.getElem?_cons_succ, List.getElem?_cons_zero]; exact rfl)
          case hf3x13 => kernel_rfl
          case hr3x13 => kernel_rfl
          case hy3x13 => (refine Or.inl ⟨by rfl, ?_⟩; intro w hSw; (try dsimp only at hSw); go_simp; try with_reducible rfl)
          simp only [put_mk, List.set_cons_succ, List.set_cons_zero]
          refine wpAnyH_take (i := 14) (oi := ?o3x14) (v := ?v3x14) ?hi3x14 (by kernel_rfl) ?hf3x14 ?hr3x14 (fun _ _ _ h => h) ?hy3x14 (by assumption) ?rest3x14
          case hi3x14 => (simp only [List.getElem?_toArray, List.getElem?_cons_succ, List.getElem?_cons_zero]; exact rfl)
          case hf3x14 => kernel_rfl
          case hr3x14 => kernel_rfl
          case hy3x14 => (refine Or.inl ⟨by rfl, ?_⟩; intro w hSw; (try dsimp only at hSw); go_simp; try with_reducible rfl)
          simp only [put_mk, List.set_cons_succ, List.set_cons_zero]
          refine wpAnyH_take (i := 15) (oi := ?o3x15) (v := ?v3x15) ?hi3x15 (by kernel_rfl) ?hf3x15 ?hr3x15 (fun _ _ _ h => h) ?hy3x15 (by assumption) ?rest3x15
          case hi3x15 => (simp only [List.getElem?_toArray, List.getElem?_cons_succ, List.getElem?_cons_zero]; exact rfl)
          case hf3x15 => kernel_rfl
          case hr3x15 => kernel_rfl
          case hy3x15 => (refine Or.inl ⟨by rfl, ?_⟩; intro w hSw; (try dsimp only at hSw); go_simp; try with_reducible rfl)
          simp only [put_mk, List.set_cons_succ, List.set_cons_zero]
          refine wpAnyH_take (i := 16) (oi := ?o3x16) (v := ?v3x16) ?hi3x16 (by kernel_rfl) ?hf3x16 ?hr3x16 (fun _ _ _ h => h) ?hy3x16 (by assumption) ?rest3x16
          case hi3x16 => (simp only [List.getElem?_toArray, List.getElem?_cons_succ, List.getElem?_cons_zero]; exact rfl)
          case hf3x16 => kernel_rfl
          case hr3x16 => kernel_rfl
          case hy3x16 => (refine Or.inl ⟨by rfl, ?_⟩; intro w hSw; (try dsimp only at hSw); go_simp; try with_reducible rfl)
          simp only [put_mk, List.set_cons_succ, List.set_cons_zero]
          refine wpAnyH_ready (rs := [17]) (by kernel_rfl) (by simp) ?_
          refine AllReadyH.cons (o := ?o3x17) ?hi3x17 (fun K hK => ?_) AllReadyH.nil
          case hi3x17 => (simp only [List.getElem?_toArray, List.getElem?_cons_succ, List.getElem?_cons_zero]; exact rfl)
          go_simp
          refine (has_eq _ _ _ _ _ _ _ _ Hb.out).mono ?_
          rintro e w7 ⟨rfl, hb7⟩
          refine hK.out _ _ ?_ (fun hHeld => ?_)
          · (repeat (first | exact Ext.refl _ | assumption | refine Ext.setCell ?_ (by first | (simp; done) | (simp; omega)) _ | refine Ext.drewN ?_ _ | refine Ext.alloc ?_ _ | refine Ext.drew ?_ | refine Ext.trans ?_ (by assumption)))
          clear hK K
          refine wpAnyH_take (i := 18) (oi := ?o3x18) (v := ?v3x18) ?hi3x18 (by kernel_rfl) ?hf3x18 ?hr3x18 (fun _ _ _ h => h) ?hy3x18 (by assumption) ?rest3x18
          case hi3x18 => (simp only [List.getElem?_toArray, List.getElem?_cons_succ, List.getElem?_cons_zero]; exact rfl)
          case hf3x18 => kernel_rfl
          case hr3x18 => kernel_rfl
          case hy3x18 => (refine Or.inl ⟨by rfl, ?_⟩; intro w hSw; (try dsimp only at hSw); go_simp; try with_reducible rfl)
          simp only [put_mk, List.set_cons_succ, List.set_cons_zero]
          refine wpAnyH_take (i := 19) (oi := ?o3x19) (v := ?v3x19) ?hi3x19 (by kernel_rfl) ?hf3x19 ?hr3x19 (fun _ _ _ h => h) ?hy3x19 (by assumption) ?rest3x19
          case hi3x19 => (simp only [List.getElem?_toArray, List.getElem?_cons_succ, List.getElem?_cons_zero]; exact rfl)
          case hf3x19 => kernel_rfl
          case hr3x19 => kernel_rfl
          case hy3x19 => (refine Or.inl ⟨by rfl, ?_⟩; intro w hSw; (try dsimp only at hSw); go_simp; try with_reducible rfl)
          simp only [put_mk, List.set_cons_succ, List.set_cons_zero]
          refine wpAnyH_ready (rs := [20]) (by kernel_rfl) (by simp) ?_
          refine AllReadyH.cons (o := ?o3x20) ?hi3x20 (fun K hK => ?_) AllReadyH.nil
          case hi3x20 => (simp only [List.getElem?_toArray, List.getElem?_cons_succ, List.getElem?_cons_zero]; exact rfl)
          go_simp
          refine (when_yes _ _).mono ?_
          rintro e w' ⟨rfl, rfl⟩
          refine hK.out _ _ ?_ (fun hHeld => ?_)
          · (repeat (first | exact Ext.refl _ | assumption | refine Ext.setCell ?_ (by first | (simp; done) | (simp; omega)) _ | refine Ext.drewN ?_ _ | refine Ext.alloc ?_ _ | refine Ext.drew ?_ | refine Ext.trans ?_ (by assumption)))
          clear hK K
          refine wpAnyH_ready (rs := [21]) (by kernel_rfl) (by simp) ?_
          refine AllReadyH.cons (o := ?o3x21) ?hi3x21 (fun K hK => ?_) AllReadyH.nil
          case hi3x21 => (simp only [List.getElem?_toArray, List.getElem?_cons_succ, List.getElem?_cons_zero]; exact rfl)
          go_simp
          refine hK.out _ _ ?_ (fun hHeld => ?_)
          · (repeat (first | exact Ext.refl _ | assumption | refine Ext.setCell ?_ (by first | (simp; done) | (simp; omega)) _ | refine Ext.drewN ?_ _ | refine Ext.alloc ?_ _ | refine Ext.drew ?_ | refine Ext.trans ?_ (by assumption)))
          clear hK K
          refine wpAnyH_ready (rs := [22]) (by kernel_rfl) (by simp) ?_
          refine AllReadyH.cons (o := ?o3x22) ?hi3x22 (fun K hK => ?_) AllReadyH.nil
          case hi3x22 => (simp only [List.getElem?_toArray, List.getElem?_cons_succ, List.getElem?_cons_zero]; exact rfl)
          go_simp
          refine (first_any _ 2 2 [fieldE X Y W H l, 5] _ rfl (Rd.new (by simp) rfl) (by omega)).mono ?_
          rw [← HP.out]
          rintro e w' ⟨rfl, rfl⟩
          refine hK.out _ _ ?_ (fun hHeld => ?_)
          · (repeat (first | exact Ext.refl _ | assumption | refine Ext.setCell ?_ (by first | (simp; done) | (simp; omega)) _ | refine Ext.drewN ?_ _ | refine Ext.alloc ?_ _ | refine Ext.drew ?_ | refine Ext.trans ?_ (by assumption)))
          clear hK K
          refine wpAnyH_take (i := 23) (oi := ?o3x23) (v := ?v3x23) ?hi3x23 (by kernel_rfl) ?hf3x23 ?hr3x23 (fun _ _ _ h => h) ?hy3x23 (by assumption) ?rest3x23
          case hi3x23 => (simp only [List.getElem?_toArray, List.getElem?_cons_succ, List.getElem?_cons_zero]; exact rfl)
          case hf3x23 => kernel_rfl
          case hr3x23 => kernel_rfl
          case hy3x23 => (refine Or.inl ⟨by rfl, ?_⟩; intro w hSw; (try dsimp only at hSw); go_simp; try with_reducible rfl)
          simp only [put_mk, List.set_cons_succ, List.set_cons_zero]
          refine wpAnyH_done (by kernel_rfl) ?_ _
          refine NoPanic.normal ?_
          go_wp2
          go_ret
          exact ⟨ret_b (by simp), (by repeat (first | exact Ext.refl _ | assumption | refine Ext.setCell ?_ (by first | (simp; done) | (simp; omega)) _ | refine Ext.drewN ?_ _ | refine Ext.alloc ?_ _ | refine Ext.drew ?_ | refine Ext.trans ?_ (by assumption)))⟩
      · have HP : Hid (profE X Y W H ax ay bx by' l = firstE [fieldE X Y W H l, 5]) := by show _ = _; unfold profE hasW; rw [if_neg (fun h => hha h.1)]
        have hne : profE X Y W H ax ay bx by' l ≠ 0 := by
          intro h; rw [HP.out] at h; simp only [firstE] at h; split at h <;> simp_all
        have hv2 := Hp1.out hne
        subst hv2
        have P0 : (profE X Y W H ax ay bx by' l != 0) = true := by simpa using hne
        have Ha : Hid (hasB X Y W H ax ay = false) := by show _ = _; simpa using hha
        clear hha hne Hp1 Hp2
        refine wp_region_noPanic ?_
        refine wp_region_held_drew (S := fun w' => Ext w4 w') (by kernel_rfl) ?_ (fun hHeld => ?_)
        · (repeat (first | exact Ext.refl _ | assumption | refine Ext.setCell ?_ (by first | (simp; done) | (simp; omega)) _ | refine Ext.drewN ?_ _ | refine Ext.alloc ?_ _ | refine Ext.drew ?_ | refine Ext.trans ?_ (by assumption)))
        refine wpAnyH_take (i := 0) (oi := ?o1x0) (v := ?v1x0) ?hi1x0 (by kernel_rfl) ?hf1x0 ?hr1x0 (fun _ _ _ h => h) ?hy1x0 (by assumption) ?rest1x0
        case hi1x0 => (simp only [List.getElem?_toArray, List.getElem?_cons_zero]; exact rfl)
        case hf1x0 => kernel_rfl
        case hr1x0 => kernel_rfl
        case hy1x0 => (refine Or.inl ⟨by rfl, ?_⟩; intro w hSw; (try dsimp only at hSw); go_simp; try with_reducible rfl)
        simp only [put_mk, List.set_cons_succ, List.set_cons_zero]
        refine wpAnyH_take (i := 2) (oi := ?o1x2) (v := ?v1x2) ?hi1x2 (by kernel_rfl) ?hf1x2 ?hr1x2 (fun _ _ _ h => h) ?hy1x2 (by assumption) ?rest1x2
        case hi1x2 => (simp only [List.getElem?_toArray, List.getElem?_cons_succ, List.getElem?_cons_zero]; exact rfl)
        case hf1x2 => kernel_rfl
        case hr1x2 => kernel_rfl
        case hy1x2 => (refine Or.inl ⟨by rfl, ?_⟩; intro w hSw; (try dsimp only at hSw); go_simp; try with_reducible rfl)
        simp only [put_mk, List.set_cons_succ, List.set_cons_zero]
        refine wpAnyH_take (i := 3) (oi := ?o1x3) (v := ?v1x3) ?hi1x3 (by kernel_rfl) ?hf1x3 ?hr1x3 (fun _ _ _ h => h) ?hy1x3 (by assumption) ?rest1x3
        case hi1x3 => (simp only [List.getElem?_toArray, List.getElem?_cons_succ, List.getElem?_cons_zero]; exact rfl)
        case hf1x3 => kernel_rfl
        case hr1x3 => kernel_rfl
        case hy1x3 => (refine Or.inl ⟨by rfl, ?_⟩; intro w hSw; (try dsimp only at hSw); go_simp; try with_reducible rfl)
        simp only [put_mk, List.set_cons_succ, List.set_cons_zero]
        refine wpAnyH_take (i := 4) (oi := ?o1x4) (v := ?v1x4) ?hi1x4 (by kernel_rfl) ?hf1x4 ?hr1x4 (fun _ _ _ h => h) ?hy1x4 (by assumption) ?rest1x4
        case hi1x4 => (simp only [List.getElem?_toArray, List.getElem?_cons_succ, List.getElem?_cons_zero]; exact rfl)
        case hf1x4 => kernel_rfl
        case hr1x4 => kernel_rfl
        case hy1x4 => (refine Or.inl ⟨by rfl, ?_⟩; intro w hSw; (try dsimp only at hSw); go_simp; try with_reducible rfl)
        simp only [put_mk, List.set_cons_succ, List.set_cons_zero]
        refine wpAnyH_take (i := 5) (oi := ?o1x5) (v := ?v1x5) ?hi1x5 (by kernel_rfl) ?hf1x5 ?hr1x5 (fun _ _ _ h => h) ?hy1x5 (by assumption) ?rest1x5
        case hi1x5 => (simp only [List.getElem?_toArray, List.getElem?_cons_succ, List.getElem?_cons_zero]; exact rfl)
        case hf1x5 => kernel_rfl
        case hr1x5 => kernel_rfl
        case hy1x5 => (refine Or.inl ⟨by rfl, ?_⟩; intro w hSw; (try dsimp only at hSw); go_simp; try with_reducible rfl)
        simp only [put_mk, List.set_cons_succ, List.set_cons_zero]
        refine wpAnyH_take (i := 6) (oi := ?o1x6) (v := ?v1x6) ?hi1x6 (by kernel_rfl) ?hf1x6 ?hr1x6 (fun _ _ _ h => h) ?hy1x6 (by assumption) ?rest1x6
        case hi1x6 => (simp only [List.getElem?_toArray, List.getElem?_cons_succ, List.getElem?_cons_zero]; exact rfl)
        case hf1x6 => kernel_rfl
        case hr1x6 => kernel_rfl
        case hy1x6 => (refine Or.inl ⟨by rfl, ?_⟩; intro w hSw; (try dsimp only at hSw); go_simp; try with_reducible rfl)
        simp only [put_mk, List.set_cons_succ, List.set_cons_zero]
        refine wpAnyH_take (i := 7) (oi := ?o1x7) (v := ?v1x7) ?hi1x7 (by kernel_rfl) ?hf1x7 ?hr1x7 (fun _ _ _ h => h) ?hy1x7 (by assumption) ?rest1x7
        case hi1x7 => (simp only [List.getElem?_toArray, List.getElem?_cons_succ, List.getElem?_cons_zero]; exact rfl)
        case hf1x7 => kernel_rfl
        case hr1x7 => kernel_rfl
        case hy1x7 => (refine Or.inl ⟨by rfl, ?_⟩; intro w hSw; (try dsimp only at hSw); go_simp; try with_reducible rfl)
        simp only [put_mk, List.set_cons_succ, List.set_cons_zero]
        refine wpAnyH_ready (rs := [1]) (by kernel_rfl) (by simp) ?_
        refine AllReadyH.cons (o := ?o1x1) ?hi1x1 (fun K hK => ?_) AllReadyH.nil
        case hi1x1 => (simp only [List.getElem?_toArray, List.getElem?_cons_succ, List.getElem?_cons_zero]; exact rfl)
        go_simp
        refine ((HFE _ ?_).out).mono ?_
        · (repeat (first | exact Ext.refl _ | assumption | refine Ext.setCell ?_ (by first | (simp; done) | (simp; omega)) _ | refine Ext.drewN ?_ _ | refine Ext.alloc ?_ _ | refine Ext.drew ?_ | refine Ext.trans ?_ (by assumption)))
        rintro e w5 ⟨rfl, hb5⟩
        refine hK.out _ _ ?_ (fun hHeld => ?_)
        · (repeat (first | exact Ext.refl _ | assumption | refine Ext.setCell ?_ (by first | (simp; done) | (simp; omega)) _ | refine Ext.drewN ?_ _ | refine Ext.alloc ?_ _ | refine Ext.drew ?_ | refine Ext.trans ?_ (by assumption)))
        clear hK K
        refine wpAnyH_ready (rs := [8]) (by kernel_rfl) (by simp) ?_
        refine AllReadyH.cons (o := ?o1x8) ?hi1x8 (fun K hK => ?_) AllReadyH.nil
        case hi1x8 => (simp only [List.getElem?_toArray, List.getElem?_cons_succ, List.getElem?_cons_zero]; exact rfl)
        go_simp
        refine (has_eq _ _ _ _ _ _ _ _ Ha.out).mono ?_
        rintro e w6 ⟨rfl, hb6⟩
        refine hK.out _ _ ?_ (fun hHeld => ?_)
        · (repeat (first | exact Ext.refl _ | assumption | refine Ext.setCell ?_ (by first | (simp; done) | (simp; omega)) _ | refine Ext.drewN ?_ _ | refine Ext.alloc ?_ _ | refine Ext.drew ?_ | refine Ext.trans ?_ (by assumption)))
        clear hK K
        refine wpAnyH_take (i := 9) (oi := ?o1x9) (v := ?v1x9) ?hi1x9 (by kernel_rfl) ?hf1x9 ?hr1x9 (fun _ _ _ h => h) ?hy1x9 (by assumption) ?rest1x9
        case hi1x9 => (simp only [List.getElem?_toArray, List.getElem?_cons_succ, List.getElem?_cons_zero]; exact rfl)
        case hf1x9 => kernel_rfl
        case hr1x9 => kernel_rfl
        case hy1x9 => (refine Or.inl ⟨by rfl, ?_⟩; intro w hSw; (try dsimp only at hSw); go_simp; try with_reducible rfl)
        simp only [put_mk, List.set_cons_succ, List.set_cons_zero]
        refine wpAnyH_take (i := 10) (oi := ?o1x10) (v := ?v1x10) ?hi1x10 (by kernel_rfl) ?hf1x10 ?hr1x10 (fun _ _ _ h => h) ?hy1x10 (by assumption) ?rest1x10
        case hi1x10 => (simp only [List.getElem?_toArray, List.getElem?_cons_succ, List.getElem?_cons_zero]; exact rfl)
        case hf1x10 => kernel_rfl
        case hr1x10 => kernel_rfl
        case hy1x10 => (refine Or.inl ⟨by rfl, ?_⟩; intro w hSw; (try dsimp only at hSw); go_simp; try with_reducible rfl)
        simp only [put_mk, List.set_cons_succ, List.set_cons_zero]
        refine wpAnyH_take (i := 11) (oi := ?o1x11) (v := undef) ?hi1x11 (by kernel_rfl) ?hf1x11 ?hr1x11 (fun _ _ _ h => h) ?hy1x11 (by assumption) ?rest1x11
        case hi1x11 => (simp only [List.getElem?_toArray, List.getElem?_cons_succ, List.getElem?_cons_zero]; exact rfl)
        case hf1x11 => kernel_rfl
        case hr1x11 => kernel_rfl
        case hy1x11 => exact Or.inr ⟨by rfl, rfl⟩
        simp only [put_mk, List.set_cons_succ, List.set_cons_zero]
        refine wpAnyH_take (i := 12) (oi := ?o1x12) (v := undef) ?hi1x12 (by kernel_rfl) ?hf1x12 ?hr1x12 (fun _ _ _ h => h) ?hy1x12 (by assumption) ?rest1x12
        case hi1x12 => (simp only [List.getElem?_toArray, List.getElem?_cons_succ, List.getElem?_cons_zero]; exact rfl)
        case hf1x12 => kernel_rfl
        case hr1x12 => kernel_rfl
        case hy1x12 => exact Or.inr ⟨by rfl, rfl⟩
        simp only [put_mk, List.set_cons_succ, List.set_cons_zero]
        refine wpAnyH_take (i := 13) (oi := ?o1x13) (v := undef) ?hi1x13 (by kernel_rfl) ?hf1x13 ?hr1x13 (fun _ _ _ h => h) ?hy1x13 (by assumption) ?rest1x13
        case hi1x13 => (simp only [List.getElem?_toArray, List.getElem?_cons_succ, List.getElem?_cons_zero]; exact rfl)
        case hf1x13 => kernel_rfl
        case hr1x13 => kernel_rfl
        case hy1x13 => exact Or.inr ⟨by rfl, rfl⟩
        simp only [put_mk, List.set_cons_succ, List.set_cons_zero]
        refine wpAnyH_take (i := 14) (oi := ?o1x14) (v := undef) ?hi1x14 (by kernel_rfl) ?hf1x14 ?hr1x14 (fun _ _ _ h => h) ?hy1x14 (by assumption) ?rest1x14
        case hi1x14 => (simp only [List.getElem?_toArray, List.getElem?_cons_succ, List.getElem?_cons_zero]; exact rfl)
        case hf1x14 => kernel_rfl
        case hr1x14 => kernel_rfl
        case hy1x14 => exact Or.inr ⟨by rfl, rfl⟩
        simp only [put_mk, List.set_cons_succ, List.set_cons_zero]
        refine wpAnyH_take (i := 15) (oi := ?o1x15) (v := undef) ?hi1x15 (by kernel_rfl) ?hf1x15 ?hr1x15 (fun _ _ _ h => h) ?hy1x15 (by assumption) ?rest1x15
        case hi1x15 => (simp only [List.getElem?_toArray, List.getElem?_cons_succ, List.getElem?_cons_zero]; exact rfl)
        case hf1x15 => kernel_rfl
        case hr1x15 => kernel_rfl
        case hy1x15 => exact Or.inr ⟨by rfl, rfl⟩
        simp only [put_mk, List.set_cons_succ, List.set_cons_zero]
        refine wpAnyH_take (i := 16) (oi := ?o1x16) (v := undef) ?hi1x16 (by kernel_rfl) ?hf1x16 ?hr1x16 (fun _ _ _ h => h) ?hy1x16 (by assumption) ?rest1x16
        case hi1x16 => (simp only [List.getElem?_toArray, List.getElem?_cons_succ, List.getElem?_cons_zero]; exact rfl)
        case hf1x16 => kernel_rfl
        case hr1x16 => kernel_rfl
        case hy1x16 => exact Or.inr ⟨by rfl, rfl⟩
        simp only [put_mk, List.set_cons_succ, List.set_cons_zero]
        refine wpAnyH_take (i := 17) (oi := ?o1x17) (v := undef) ?hi1x17 (by kernel_rfl) ?hf1x17 ?hr1x17 (fun _ _ _ h => h) ?hy1x17 (by assumption) ?rest1x17
        case hi1x17 => (simp only [List.getElem?_toArray, List.getElem?_cons_succ, List.getElem?_cons_zero]; exact rfl)
        case hf1x17 => kernel_rfl
        case hr1x17 => kernel_rfl
        case hy1x17 => exact Or.inr ⟨by rfl, rfl⟩
        simp only [put_mk, List.set_cons_succ, List.set_cons_zero]
        refine wpAnyH_take (i := 18) (oi := ?o1x18) (v := undef) ?hi1x18 (by kernel_rfl) ?hf1x18 ?hr1x18 (fun _ _ _ h => h) ?hy1x18 (by assumption) ?rest1x18
        case hi1x18 => (simp only [List.getElem?_toArray, List.getElem?_cons_succ, List.getElem?_cons_zero]; exact rfl)
        case hf1x18 => kernel_rfl
        case hr1x18 => kernel_rfl
        case hy1x18 => exact Or.inr ⟨by rfl, rfl⟩
        simp only [put_mk, List.set_cons_succ, List.set_cons_zero]
        refine wpAnyH_take (i := 19) (oi := ?o1x19) (v := ?v1x19) ?hi1x19 (by kernel_rfl) ?hf1x19 ?hr1x19 (fun _ _ _ h => h) ?hy1x19 (by assumption) ?rest1x19
        case hi1x19 => (simp only [List.getElem?_toArray, List.getElem?_cons_succ, List.getElem?_cons_zero]; exact rfl)
        case hf1x19 => kernel_rfl
        case hr1x19 => kernel_rfl
        case hy1x19 => (refine Or.inl ⟨by rfl, ?_⟩; intro w hSw; (try dsimp only at hSw); go_simp; try with_reducible rfl)
        simp only [put_mk, List.set_cons_succ, List.set_cons_zero]
        refine wpAnyH_ready (rs := [20]) (by kernel_rfl) (by simp) ?_
        refine AllReadyH.cons (o := ?o1x20) ?hi1x20 (fun K hK => ?_) AllReadyH.nil
        case hi1x20 => (simp only [List.getElem?_toArray, List.getElem?_cons_succ, List.getElem?_cons_zero]; exact rfl)
        go_simp
        refine (when_yes _ _).mono ?_
        rintro e w' ⟨rfl, rfl⟩
        refine hK.out _ _ ?_ (fun hHeld => ?_)
        · (repeat (first | exact Ext.refl _ | assumption | refine Ext.setCell ?_ (by first | (simp; done) | (simp; omega)) _ | refine Ext.drewN ?_ _ | refine Ext.alloc ?_ _ | refine Ext.drew ?_ | refine Ext.trans ?_ (by assumption)))
        clear hK K
        refine wpAnyH_ready (rs := [21]) (by kernel_rfl) (by simp) ?_
        refine AllReadyH.cons (o := ?o1x21) ?hi1x21 (fun K hK => ?_) AllReadyH.nil
        case hi1x21 => (simp only [List.getElem?_toArray, List.getElem?_cons_succ, List.getElem?_cons_zero]; exact rfl)
        go_simp
        refine hK.out _ _ ?_ (fun hHeld => ?_)
        · (repeat (first | exact Ext.refl _ | assumption | refine Ext.setCell ?_ (by first | (simp; done) | (simp; omega)) _ | refine Ext.drewN ?_ _ | refine Ext.alloc ?_ _ | refine Ext.drew ?_ | refine Ext.trans ?_ (by assumption)))
        clear hK K
        refine wpAnyH_ready (rs := [22]) (by kernel_rfl) (by simp) ?_
        refine AllReadyH.cons (o := ?o1x22) ?hi1x22 (fun K hK => ?_) AllReadyH.nil
        case hi1x22 => (simp only [List.getElem?_toArray, List.getElem?_cons_succ, List.getElem?_cons_zero]; exact rfl)
        go_simp
        refine (first_any _ 2 2 [fieldE X Y W H l, 5] _ rfl (Rd.new (by simp) rfl) (by omega)).mono ?_
        rw [← HP.out]
        rintro e w' ⟨rfl, rfl⟩
        refine hK.out _ _ ?_ (fun hHeld => ?_)
        · (repeat (first | exact Ext.refl _ | assumption | refine Ext.setCell ?_ (by first | (simp; done) | (simp; omega)) _ | refine Ext.drewN ?_ _ | refine Ext.alloc ?_ _ | refine Ext.drew ?_ | refine Ext.trans ?_ (by assumption)))
        clear hK K
        refine wpAnyH_take (i := 23) (oi := ?o1x23) (v := ?v1x23) ?hi1x23 (by kernel_rfl) ?hf1x23 ?hr1x23 (fun _ _ _ h => h) ?hy1x23 (by assumption) ?rest1x23
        case hi1x23 => (simp only [List.getElem?_toArray, List.getElem?_cons_succ, List.getElem?_cons_zero]; exact rfl)
        case hf1x23 => kernel_rfl
        case hr1x23 => kernel_rfl
        case hy1x23 => (refine Or.inl ⟨by rfl, ?_⟩; intro w hSw; (try dsimp only at hSw); go_simp; try with_reducible rfl)
        simp only [put_mk, List.set_cons_succ, List.set_cons_zero]
        refine wpAnyH_done (by kernel_rfl) ?_ _
        refine NoPanic.normal ?_
        go_wp2
        go_ret
        exact ⟨ret_b (by simp), (by repeat (first | exact Ext.refl _ | assumption | refine Ext.setCell ?_ (by first | (simp; done) | (simp; omega)) _ | refine Ext.drewN ?_ _ | refine Ext.alloc ?_ _ | refine Ext.drew ?_ | refine Ext.trans ?_ (by assumption)))⟩


end Go.Proofs.Ytjfipkccbapajaa
