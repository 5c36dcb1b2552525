/- Contract: plant.spread, for any function value whose calls turn one cell of one block. -/
import Derived.Test.YtgaonoklbihkjaaDoorCoverP
import Derived.Test.YtgaonoklbihkjaaDoorCrowdB
namespace Go.Proofs.YtgaonoklbihkjaaDoor
open Go.RowKit
attribute [local go_sem ↓] Go.wp_at_zero Go.wp_at_succ
attribute [local go_sem] run_store_float

def partF (r d : Nat) : Nat := fsub 1065353216 (fdiv (rootB (floatOfInt .f32 (d : Int))) (floatOfInt .f32 (r : Int)))

theorem cell_ext2 {w w' : World} {a : Addr} {v : Value} (h : w.cell? a = some v) (hx : Ext w w') : w'.cell? a = some v := by
  have hb : a.block < w.heap.size := by
    by_cases hb : a.block < w.heap.size
    · exact hb
    · simp [World.cell?, Array.getElem?_eq_none (Nat.le_of_not_lt hb)] at h
  rw [hx.cell a hb]
  exact h

set_option maxRecDepth 100000 in
set_option maxHeartbeats 6400000 in
theorem spread_any (X Y : Int) (Wn Hn : Nat) (hr : Reg X Y Wn Hn) (A : Option Addr) (n c : Nat) (l : List KindR) (a : PlantR) (ia r : Nat) (hn : l.length = n) (hia : ia < l.length) (hka : a.kind = ia) (hsr : l[ia].p = (r : Int) - 1) (hr1 : 1 ≤ r) (hr2 : r ≤ 33) (haf : a.farB = false)
    (F : FuncId) (hent : ∀ args w, (callFunc F args).run Tryd.prog w = .ok (.enter F args) w) (caps : Array Value) (w : World) (gv : Nat) (hgv : gv < w.heap.size) (hd : Rd w A (kcells l)) (St : (Nat → Nat) → World → Prop) (f : Nat → Nat → Nat) (g : Nat → Nat) (h0 : St g w)
    (hstep : ∀ g1 w1 w2, St g1 w1 → Ext w1 w2 → St g1 w2)
    (hcall : ∀ (g1 : Nat → Nat) (k : Nat) (w1 : World), k < Wn * Hn → decide (sqD (cellP X Y Wn k) a < r * r) = true → St g1 w1 →
      Calls Tryd.prog F (#[.int .i64 k, .float .f32 (partF r (sqD (cellP X Y Wn k) a))] ++ caps) w1 fun e w2 => e = .returned (.tuple #[]) ∧ St (putG g1 k (f k (g1 k))) w2 ∧ w1.grownBy w2 (some gv)) :
    Calls Tryd.prog 42 #[.agg #[.int .i64 X, .int .i64 Y, .int .i64 (Wn : Int), .int .i64 (Hn : Int)], .slice A n c, a.v, .func (.func F) #[] caps] w fun e w' =>
      e = .returned (.tuple #[]) ∧ w.grownBy w' (some gv) ∧ ∃ g', St g' w' ∧ ∀ k, k < Wn * Hn → g' k = if decide (sqD (cellP X Y Wn k) a < r * r) = true then f k (g k) else g k := by
  have Hc := hidA (fun g1 k w1 h1 h2 h3 => hidA (hcall g1 k w1 h1 h2 h3))
  clear hcall
  obtain ⟨q1, q2, q3, q4, q5, q6, q7, q8, q9⟩ := hr
  have hr : Reg X Y Wn Hn := ⟨q1, q2, q3, q4, q5, q6, q7, q8, q9⟩
  have Hr := hidA hr
  clear hr
  obtain ⟨v1, v2, v3, v4⟩ := far_no haf
  have hin : ∀ k, decide (sqD (cellP X Y Wn k) a < r * r) = true → k < Wn * Hn → (-(r : Int) < colK X Wn k - a.x ∧ colK X Wn k - a.x < r) ∧ -(r : Int) < rowK Y Wn k - a.y ∧ rowK Y Wn k - a.y < r := fun k h hk => near_in (cell_far Hr.out hk) haf (of_decide_eq_true h)
  obtain ⟨nr, hnrd⟩ : ∃ nr : Nat → Bool, nr = fun k => decide (k < Wn * Hn) && decide (sqD (cellP X Y Wn k) a < r * r) := ⟨_, rfl⟩
  have hin2 : ∀ k, nr k = true → (-(r : Int) < colK X Wn k - a.x ∧ colK X Wn k - a.x < r) ∧ -(r : Int) < rowK Y Wn k - a.y ∧ rowK Y Wn k - a.y < r := fun k h => by
    rw [hnrd] at h
    simp only [Bool.and_eq_true] at h
    exact hin k h.2 (of_decide_eq_true h.1)
  have Hin := hidA hin2
  clear hin hin2
  have Hnr := hidA hnrd
  clear hnrd
  have HZ := hidA (fun (x y : Int) (h : (⟨0, x, y, 0, 0⟩ : PlantR).farB = false) => sq_wraps (a := ⟨0, x, y, 0, 0⟩) (b := a) h haf)
  obtain ⟨ka, px, py, sz, ag⟩ := a
  dsimp only at hka v1 v2 v3 v4 Hin
  subst hka
  dsimp only [PlantR.v]
  have Hst := hidA h0
  obtain ⟨ak, rfl, hkb, _⟩ := hd.at (k := ia) (by rw [kcells_length]; omega)
  have g1 := hd.space hia
  rw [hsr] at g1
  have a0 : (0 : Int) ≤ ia := by omega
  have a1 : (ia : Int) < n := by omega
  clear hd h0 hsr
  go_enter Tryd.func42, Tryd.ntmps42
  obtain ⟨w2, hw2⟩ : ∃ w2, w2 = (w.alloc (.cells #[.int .i64 X, .int .i64 Y, .int .i64 (Wn : Int), .int .i64 (Hn : Int)] 52)).alloc (.cells #[.int .i64 (ia : Int), .int .i64 px, .int .i64 py, .float .f32 sz, .int .i64 ag] 46) := ⟨_, rfl⟩
  have hB2 : Bk w2 w.heap.size 52 #[.int .i64 X, .int .i64 Y, .int .i64 (Wn : Int), .int .i64 (Hn : Int)] := by rw [hw2]; exact (Bk.new' rfl).alloc _
  have hP2 : Bk w2 (w.heap.size + 1) 46 #[.int .i64 (ia : Int), .int .i64 px, .int .i64 py, .float .f32 sz, .int .i64 ag] := by rw [hw2]; exact Bk.new' (by simp)
  have hx2 : Ext w w2 := by rw [hw2]; exact ((Ext.refl w).alloc _).alloc _
  have g1' := cell_ext2 g1 hx2
  have hS2 : St g w2 := hstep _ _ _ Hst.out hx2
  have hgr2 : w.grownBy w2 (some gv) := grown_ext hx2 _
  have c0 := hB2.cell 0
  have c1 := hB2.cell 1
  have d0 := hP2.cell 0
  have d2 := hP2.cell 2
  go_upto_region 1 with fail
  rw [← hw2]
  clear hw2 g1 hx2 Hst
  go_wp2_with fail
  clear g1' c0 c1 d0 d2
  have hsp : St (sprG nr f g X Y Wn (max (py - r) Y) X) w2 := by rw [spr_start Hin.out q1]; exact hS2
  clear hS2
  go_loopw [9] (fun s9 wr => ∃ y : Int, s9 = .int .i64 y ∧ Y ≤ y ∧ py - r ≤ y ∧ y ≤ 8388608 ∧ St (sprG nr f g X Y Wn y X) wr ∧ w.grownBy wr (some gv) ∧ Bk wr w.heap.size 52 #[.int .i64 X, .int .i64 Y, .int .i64 (Wn : Int), .int .i64 (Hn : Int)] ∧ Bk wr (w.heap.size + 1) 46 #[.int .i64 (ia : Int), .int .i64 px, .int .i64 py, .float .f32 sz, .int .i64 ag]) (fun s9 _ => (8388609 - intOf s9).toNat)
  case atStart => exact ⟨max (py - r) Y, rfl, by omega, by omega, by omega, hsp, hgr2, hB2, hP2⟩
  case round =>
    clear hsp hgr2 hB2 hP2
    obtain ⟨y, rfl, hy1, hy2, hy3, hSt, hgr, hB0, hB1⟩ := hrel
    have c0 := hB0.cell 0
    have c1 := hB0.cell 1
    have c2 := hB0.cell 2
    have c3 := hB0.cell 3
    have d1 := hB1.cell 1
    have d2 := hB1.cell 2
    by_cases hyl : y ≤ min (py + r) (Y + Hn - 1)
    · go_wp2_with fail
      clear c0 c1 c2 c3 d1 d2
      have hSr : St (sprG nr f g X Y Wn y (max (px - r) X)) wr := by rw [← spr_row Hin.out]; exact hSt
      clear hSt
      go_loopw [10] (fun s10 wr2 => ∃ x : Int, s10 = .int .i64 x ∧ X ≤ x ∧ px - r ≤ x ∧ x ≤ 8388608 ∧ St (sprG nr f g X Y Wn y x) wr2 ∧ w.grownBy wr2 (some gv) ∧ Bk wr2 w.heap.size 52 #[.int .i64 X, .int .i64 Y, .int .i64 (Wn : Int), .int .i64 (Hn : Int)] ∧ Bk wr2 (w.heap.size + 1) 46 #[.int .i64 (ia : Int), .int .i64 px, .int .i64 py, .float .f32 sz, .int .i64 ag]) (fun s10 _ => (8388609 - intOf s10).toNat)
      case atStart => exact ⟨max (px - r) X, rfl, by omega, by omega, by omega, hSr, hgr, hB0, hB1⟩
      case round =>
        clear hSr hgr hB0 hB1
        obtain ⟨x, rfl, hx1, hx2, hx3, hSt, hgr, hB0, hB1⟩ := hrel
        have c0 := hB0.cell 0
        have c1 := hB0.cell 1
        have c2 := hB0.cell 2
        have d1 := hB1.cell 1
        have d2 := hB1.cell 2
        by_cases hxl : x ≤ min (px + r) (X + Wn - 1)
        · have hxX : x < X + Wn := by omega
          have hyY : y < Y + Hn := by omega
          have hkN := cellK_lt (Hn := Hn) hx1 hxX hy1 hyY
          have hcc := (cell_of (k := cellK X Y Wn x y) q1 hx1 hxX hy1).2 rfl
          have hcp : cellP X Y Wn (cellK X Y Wn x y) = ⟨0, x, y, 0, 0⟩ := by unfold cellP; rw [hcc.1, hcc.2]
          have hfar : (⟨0, x, y, 0, 0⟩ : PlantR).farB = false := by rw [← hcp]; exact cell_far Hr.out hkN
          obtain ⟨z1, z2, z3, z4, z5⟩ := HZ.out x y hfar
          have hq := (sq_int hfar haf).2.1
          have HN : Hid (nr (cellK X Y Wn x y) = decide (sqD ⟨0, x, y, 0, 0⟩ ⟨(ia : Int), px, py, sz, ag⟩ < r * r)) := by show _ = _; rw [Hnr.out]; dsimp only; rw [hcp, decide_eq_true hkN]; rfl
          have HCd := fun (g1 : Nat → Nat) (w1 : World) (hh : decide (sqD ⟨0, x, y, 0, 0⟩ ⟨(ia : Int), px, py, sz, ag⟩ < r * r) = true) (hS : St g1 w1) => hidA (Hc.out g1 (cellK X Y Wn x y) w1 hkN (by rw [hcp]; exact hh) hS).out
          rw [hcp] at HCd
          have hsp := spr_put (nr := nr) (f := f) (g := g) q1 hx1 hxX hy1
          have hsa := spr_at (nr := nr) (f := f) (g := g) q1 hx1 hxX hy1
          have hsk := spr_skip (nr := nr) (f := f) (g := g) q1 hx1 hxX hy1
          have Hsp := hidA hsp
          have Hsa := hidA hsa
          have Hsk := hidA hsk
          obtain ⟨Q, hQ⟩ : ∃ Q : Int, Q = (y - Y) * Wn := ⟨_, rfl⟩
          have hkQ : (cellK X Y Wn x y : Int) = Q + (x - X) := by
            unfold cellK
            rw [Int.natCast_add, Int.natCast_mul, Int.toNat_of_nonneg (by omega), Int.toNat_of_nonneg (by omega), hQ]
          have hQ0 : 0 ≤ Q := by rw [hQ]; exact Int.mul_nonneg (by omega) (by omega)
          clear hsp hsa hsk hcc hcp hfar
          generalize cellK X Y Wn x y = k0 at *
          generalize sqD _ _ = dd at *
          generalize hqa : (x - px) * (x - px) = qa at *
          generalize hqb : (y - py) * (y - py) = qb at *
          have y1' := IntWalk.i64_left (x - px)
          have y2' := IntWalk.i64_left (y - py)
          obtain ⟨rr, hrr⟩ : ∃ rr : Nat, rr = r * r := ⟨_, rfl⟩
          have hrr4 : rr ≤ 1089 := by rw [hrr]; exact Nat.le_trans (Nat.mul_le_mul hr2 hr2) (by decide)
          have W3 : wrap64 ((r : Int) * (r : Int)) = (rr : Int) := by rw [← Int.natCast_mul, ← hrr]; exact IntWalk.wrap64_in _ ⟨by omega, by omega⟩
          have hdq : dd < 1152921504606846976 := hq
          go_upto_region 9 with fail
          rw [z5]
          by_cases hdd : (dd : Int) < rr
          · have hlt : dd < r * r := by rw [← hrr]; exact Int.ofNat_lt.1 hdd
            have hnr : nr k0 = true := by rw [HN.out]; exact decide_eq_true hlt
            obtain ⟨p1, p2, _⟩ := wgt_ok (size := 0) (by unfold Bd; decide) hlt (by omega : r ≤ 64)
            have r1 := fun (w : World) => run_float_arith (P := Tryd.prog) w .quo 24 .f32 _ _ _ p1
            have r2 := fun (w : World) => run_float_arith (P := Tryd.prog) w .sub 24 .f32 _ _ _ p2
            have HR := fun (w : World) => hidA (noiseRoot_any (K := 60) (int_bd' hq) (int_pos dd) (by decide) w)
            have HCe := fun (w1 : World) (hS : St (sprG nr f g X Y Wn y x) w1) => HCd _ w1 (decide_eq_true hlt) hS
            have W6 : IntKind.i64.wrap (r : Int) = r := IntWalk.i64_in _ (by omega)
            have W7 : IntKind.i64.wrap (dd : Int) = dd := IntWalk.i64_in _ ⟨by omega, by omega⟩
            have W9 : wrap64 ((y - Y) * Wn) = Q := by rw [← hQ]; exact IntWalk.wrap64_in _ ⟨by omega, by omega⟩
            have hidx : IntKind.i64.wrap (IntKind.i64.wrap (IntKind.i64.wrap (IntKind.i64.wrap (y - Y) * (Wn : Int)) + x) - X) = (k0 : Int) := by
              rw [IntWalk.i64_in (y - Y) (by omega), ← hQ, IntWalk.i64_in Q (by omega), IntWalk.i64_in (Q + x) (by omega), IntWalk.i64_in (Q + x - X) (by omega)]
              omega
            unfold partF at HCe
            generalize fdiv (rootB (floatOfInt .f32 (dd : Int))) (floatOfInt .f32 (r : Int)) = fq at *
            generalize fsub 1065353216 fq = fp at *
            clear p1 p2 HCd Hc HZ hqa hqb z1 z2 z3 z4 z5 hQ hrr hlt hkQ
            have e0 : ∀ w', (Bk w' w.heap.size 52 #[.int .i64 X, .int .i64 Y, .int .i64 (Wn : Int), .int .i64 (Hn : Int)] ∧ Bk w' (w.heap.size + 1) 46 #[.int .i64 (ia : Int), .int .i64 px, .int .i64 py, .float .f32 sz, .int .i64 ag]) → w'.cell? ⟨w.heap.size, 0, none⟩ = some (.int .i64 X) := fun w' h => h.1.cell 0
            have e1 : ∀ w', (Bk w' w.heap.size 52 #[.int .i64 X, .int .i64 Y, .int .i64 (Wn : Int), .int .i64 (Hn : Int)] ∧ Bk w' (w.heap.size + 1) 46 #[.int .i64 (ia : Int), .int .i64 px, .int .i64 py, .float .f32 sz, .int .i64 ag]) → w'.cell? ⟨w.heap.size, 1, none⟩ = some (.int .i64 Y) := fun w' h => h.1.cell 1
            have e2 : ∀ w', (Bk w' w.heap.size 52 #[.int .i64 X, .int .i64 Y, .int .i64 (Wn : Int), .int .i64 (Hn : Int)] ∧ Bk w' (w.heap.size + 1) 46 #[.int .i64 (ia : Int), .int .i64 px, .int .i64 py, .float .f32 sz, .int .i64 ag]) → w'.cell? ⟨w.heap.size, 2, none⟩ = some (.int .i64 (Wn : Int)) := fun w' h => h.1.cell 2
            go_upto_region 10 with fail
            refine wp_region_noPanic ?_
            refine wp_region_held_drew (S := fun w' => Bk w' w.heap.size 52 #[.int .i64 X, .int .i64 Y, .int .i64 (Wn : Int), .int .i64 (Hn : Int)] ∧ Bk w' (w.heap.size + 1) 46 #[.int .i64 (ia : Int), .int .i64 px, .int .i64 py, .float .f32 sz, .int .i64 ag]) (by kernel_rfl) ?_ (fun hHeld => ?_)
            · (first | assumption | exact ⟨hB0, hB1⟩ | exact ⟨Bk.drew hB0, Bk.drew hB1⟩ | exact ⟨hB7, hP7⟩)
            refine wpAnyH_take (i := 0) (oi := ?o1x0) (v := ?v1x0) ?hi1x0 (by kernel_rfl) ?hf1x0 ?hr1x0 (fun _ _ _ h => h) ?hy1x0 (by assumption) ?rest1x0
            case hi1x0 => (simp only [List.getElem?_toArray, List.getElem?_cons_zero]; exact rfl)
            case hf1x0 => kernel_rfl
            case hr1x0 => kernel_rfl
            case hy1x0 => (refine Or.inl ⟨by rfl, ?_⟩; intro w hSw; (try dsimp only at hSw); go_simp; try with_reducible rfl)
            simp only [put_mk, List.set_cons_succ, List.set_cons_zero]
            refine wpAnyH_take (i := 1) (oi := ?o1x1) (v := ?v1x1) ?hi1x1 (by kernel_rfl) ?hf1x1 ?hr1x1 (fun _ _ _ h => h) ?hy1x1 (by assumption) ?rest1x1
            case hi1x1 => (simp only [List.getElem?_toArray, List.getElem?_cons_succ, List.getElem?_cons_zero]; exact rfl)
            case hf1x1 => kernel_rfl
            case hr1x1 => kernel_rfl
            case hy1x1 => (refine Or.inl ⟨by rfl, ?_⟩; intro w hSw; (try dsimp only at hSw); go_simp; try with_reducible rfl)
            simp only [put_mk, List.set_cons_succ, List.set_cons_zero]
            refine wpAnyH_take (i := 2) (oi := ?o1x2) (v := ?v1x2) ?hi1x2 (by kernel_rfl) ?hf1x2 ?hr1x2 (fun _ _ _ h => h) ?hy1x2 (by assumption) ?rest1x2
            case hi1x2 => (simp only [List.getElem?_toArray, List.getElem?_cons_succ, List.getElem?_cons_zero]; exact rfl)
            case hf1x2 => kernel_rfl
            case hr1x2 => kernel_rfl
            case hy1x2 => (refine Or.inl ⟨by rfl, ?_⟩; intro w hSw; (try dsimp only at hSw); go_simp; try with_reducible rfl)
            simp only [put_mk, List.set_cons_succ, List.set_cons_zero]
            refine wpAnyH_take (i := 3) (oi := ?o1x3) (v := ?v1x3) ?hi1x3 (by kernel_rfl) ?hf1x3 ?hr1x3 (fun _ _ _ h => h) ?hy1x3 (by assumption) ?rest1x3
            case hi1x3 => (simp only [List.getElem?_toArray, List.getElem?_cons_succ, List.getElem?_cons_zero]; exact rfl)
            case hf1x3 => kernel_rfl
            case hr1x3 => kernel_rfl
            case hy1x3 => (refine Or.inl ⟨by rfl, ?_⟩; intro w hSw; (try dsimp only at hSw); go_simp; try with_reducible rfl)
            simp only [put_mk, List.set_cons_succ, List.set_cons_zero]
            refine wpAnyH_take (i := 4) (oi := ?o1x4) (v := ?v1x4) ?hi1x4 (by kernel_rfl) ?hf1x4 ?hr1x4 (fun _ _ _ h => h) ?hy1x4 (by assumption) ?rest1x4
            case hi1x4 => (simp only [List.getElem?_toArray, List.getElem?_cons_succ, List.getElem?_cons_zero]; exact rfl)
            case hf1x4 => kernel_rfl
            case hr1x4 => kernel_rfl
            case hy1x4 => (refine Or.inl ⟨by rfl, ?_⟩; intro w hSw; (try dsimp only at hSw); go_simp; try with_reducible rfl)
            simp only [put_mk, List.set_cons_succ, List.set_cons_zero]
            refine wpAnyH_take (i := 5) (oi := ?o1x5) (v := ?v1x5) ?hi1x5 (by kernel_rfl) ?hf1x5 ?hr1x5 (fun _ _ _ h => h) ?hy1x5 (by assumption) ?rest1x5
            case hi1x5 => (simp only [List.getElem?_toArray, List.getElem?_cons_succ, List.getElem?_cons_zero]; exact rfl)
            case hf1x5 => kernel_rfl
            case hr1x5 => kernel_rfl
            case hy1x5 => (refine Or.inl ⟨by rfl, ?_⟩; intro w hSw; (try dsimp only at hSw); go_simp; try with_reducible rfl)
            simp only [put_mk, List.set_cons_succ, List.set_cons_zero]
            refine wpAnyH_take (i := 6) (oi := ?o1x6) (v := ?v1x6) ?hi1x6 (by kernel_rfl) ?hf1x6 ?hr1x6 (fun _ _ _ h => h) ?hy1x6 (by assumption) ?rest1x6
            case hi1x6 => (simp only [List.getElem?_toArray, List.getElem?_cons_succ, List.getElem?_cons_zero]; exact rfl)
            case hf1x6 => kernel_rfl
            case hr1x6 => kernel_rfl
            case hy1x6 => (refine Or.inl ⟨by rfl, ?_⟩; intro w hSw; (try dsimp only at hSw); go_simp; try with_reducible rfl)
            simp only [put_mk, List.set_cons_succ, List.set_cons_zero]
            refine wpAnyH_take (i := 7) (oi := ?o1x7) (v := ?v1x7) ?hi1x7 (by kernel_rfl) ?hf1x7 ?hr1x7 (fun _ _ _ h => h) ?hy1x7 (by assumption) ?rest1x7
            case hi1x7 => (simp only [List.getElem?_toArray, List.getElem?_cons_succ, List.getElem?_cons_zero]; exact rfl)
            case hf1x7 => kernel_rfl
            case hr1x7 => kernel_rfl
            case hy1x7 => (refine Or.inl ⟨by rfl, ?_⟩; intro w hSw; (try dsimp only at hSw); go_simp; try with_reducible rfl)
            simp only [put_mk, List.set_cons_succ, List.set_cons_zero]
            refine wpAnyH_take (i := 8) (oi := ?o1x8) (v := ?v1x8) ?hi1x8 (by kernel_rfl) ?hf1x8 ?hr1x8 (fun _ _ _ h => h) ?hy1x8 (by assumption) ?rest1x8
            case hi1x8 => (simp only [List.getElem?_toArray, List.getElem?_cons_succ, List.getElem?_cons_zero]; exact rfl)
            case hf1x8 => kernel_rfl
            case hr1x8 => kernel_rfl
            case hy1x8 => (refine Or.inl ⟨by rfl, ?_⟩; intro w hSw; (try dsimp only at hSw); go_simp; try with_reducible rfl)
            simp only [put_mk, List.set_cons_succ, List.set_cons_zero]
            refine wpAnyH_take (i := 9) (oi := ?o1x9) (v := ?v1x9) ?hi1x9 (by kernel_rfl) ?hf1x9 ?hr1x9 (fun _ _ _ h => h) ?hy1x9 (by assumption) ?rest1x9
            case hi1x9 => (simp only [List.getElem?_toArray, List.getElem?_cons_succ, List.getElem?_cons_zero]; exact rfl)
            case hf1x9 => kernel_rfl
            case hr1x9 => kernel_rfl
            case hy1x9 => (refine Or.inl ⟨by rfl, ?_⟩; intro w hSw; (try dsimp only at hSw); go_simp; try with_reducible rfl)
            simp only [put_mk, List.set_cons_succ, List.set_cons_zero]
            refine wpAnyH_take (i := 10) (oi := ?o1x10) (v := ?v1x10) ?hi1x10 (by kernel_rfl) ?hf1x10 ?hr1x10 (fun _ _ _ h => h) ?hy1x10 (by assumption) ?rest1x10
            case hi1x10 => (simp only [List.getElem?_toArray, List.getElem?_cons_succ, List.getElem?_cons_zero]; exact rfl)
            case hf1x10 => kernel_rfl
            case hr1x10 => kernel_rfl
            case hy1x10 => (refine Or.inl ⟨by rfl, ?_⟩; intro w hSw; (try dsimp only at hSw); go_simp; try with_reducible rfl)
            simp only [put_mk, List.set_cons_succ, List.set_cons_zero]
            refine wpAnyH_take (i := 11) (oi := ?o1x11) (v := ?v1x11) ?hi1x11 (by kernel_rfl) ?hf1x11 ?hr1x11 (fun _ _ _ h => h) ?hy1x11 (by assumption) ?rest1x11
            case hi1x11 => (simp only [List.getElem?_toArray, List.getElem?_cons_succ, List.getElem?_cons_zero]; exact rfl)
            case hf1x11 => kernel_rfl
            case hr1x11 => kernel_rfl
            case hy1x11 => (refine Or.inl ⟨by rfl, ?_⟩; intro w hSw; (try dsimp only at hSw); go_simp; try with_reducible rfl)
            simp only [put_mk, List.set_cons_succ, List.set_cons_zero]
            refine wpAnyH_take (i := 12) (oi := ?o1x12) (v := ?v1x12) ?hi1x12 (by kernel_rfl) ?hf1x12 ?hr1x12 (fun _ _ _ h => h) ?hy1x12 (by assumption) ?rest1x12
            case hi1x12 => (simp only [List.getElem?_toArray, List.getElem?_cons_succ, List.getElem?_cons_zero]; exact rfl)
            case hf1x12 => kernel_rfl
            case hr1x12 => kernel_rfl
            case hy1x12 => (refine Or.inl ⟨by rfl, ?_⟩; intro w hSw; (try dsimp only at hSw); go_simp; try with_reducible rfl)
            simp only [put_mk, List.set_cons_succ, List.set_cons_zero]
            refine wpAnyH_take (i := 13) (oi := ?o1x13) (v := ?v1x13) ?hi1x13 (by kernel_rfl) ?hf1x13 ?hr1x13 (fun _ _ _ h => h) ?hy1x13 (by assumption) ?rest1x13
            case hi1x13 => (simp only [List.getElem?_toArray, List.getElem?_cons_succ, List.getElem?_cons_zero]; exact rfl)
            case hf1x13 => kernel_rfl
            case hr1x13 => kernel_rfl
            case hy1x13 => (refine Or.inl ⟨by rfl, ?_⟩; intro w hSw; (try dsimp only at hSw); go_simp; try with_reducible rfl)
            simp only [put_mk, List.set_cons_succ, List.set_cons_zero]
            refine wpAnyH_take (i := 14) (oi := ?o1x14) (v := ?v1x14) ?hi1x14 (by kernel_rfl) ?hf1x14 ?hr1x14 (fun _ _ _ h => h) ?hy1x14 (by assumption) ?rest1x14
            case hi1x14 => (simp only [List.getElem?_toArray, List.getElem?_cons_succ, List.getElem?_cons_zero]; exact rfl)
            case hf1x14 => kernel_rfl
            case hr1x14 => kernel_rfl
            case hy1x14 => (refine Or.inl ⟨by rfl, ?_⟩; intro w hSw; (try dsimp only at hSw); go_simp; try with_reducible rfl)
            simp only [put_mk, List.set_cons_succ, List.set_cons_zero]
            refine wpAnyH_take (i := 16) (oi := ?o1x16) (v := ?v1x16) ?hi1x16 (by kernel_rfl) ?hf1x16 ?hr1x16 (fun _ _ _ h => h) ?hy1x16 (by assumption) ?rest1x16
            case hi1x16 => (simp only [List.getElem?_toArray, List.getElem?_cons_succ, List.getElem?_cons_zero]; exact rfl)
            case hf1x16 => kernel_rfl
            case hr1x16 => kernel_rfl
            case hy1x16 => (refine Or.inl ⟨by rfl, ?_⟩; intro w hSw; (try dsimp only at hSw); go_simp; try with_reducible rfl)
            simp only [put_mk, List.set_cons_succ, List.set_cons_zero]
            refine wpAnyH_take (i := 17) (oi := ?o1x17) (v := ?v1x17) ?hi1x17 (by kernel_rfl) ?hf1x17 ?hr1x17 (fun _ _ _ h => h) ?hy1x17 (by assumption) ?rest1x17
            case hi1x17 => (simp only [List.getElem?_toArray, List.getElem?_cons_succ, List.getElem?_cons_zero]; exact rfl)
            case hf1x17 => kernel_rfl
            case hr1x17 => kernel_rfl
            case hy1x17 => (refine Or.inl ⟨by rfl, ?_⟩; intro w hSw; (try dsimp only at hSw); go_simp; try with_reducible rfl)
            simp only [put_mk, List.set_cons_succ, List.set_cons_zero]
            refine wpAnyH_ready (rs := [15]) (by kernel_rfl) (by simp) ?_
            refine AllReadyH.cons (o := ?o1x15) ?hi1x15 (fun K hK => ?_) AllReadyH.nil
            case hi1x15 => (simp only [List.getElem?_toArray, List.getElem?_cons_succ, List.getElem?_cons_zero]; exact rfl)
            go_simp
            refine ((HR _).out).mono ?_
            rintro e w6 ⟨rfl, hw6⟩
            subst hw6
            refine hK.out _ _ ?_ (fun hHeld => ?_)
            · (first | assumption | exact ⟨hB0, hB1⟩ | exact ⟨Bk.drew hB0, Bk.drew hB1⟩ | exact ⟨hB7, hP7⟩)
            clear hK K
            refine wpAnyH_take (i := 18) (oi := ?o1x18) (v := ?v1x18) ?hi1x18 (by kernel_rfl) ?hf1x18 ?hr1x18 (fun _ _ _ h => h) ?hy1x18 (by assumption) ?rest1x18
            case hi1x18 => (simp only [List.getElem?_toArray, List.getElem?_cons_succ, List.getElem?_cons_zero]; exact rfl)
            case hf1x18 => kernel_rfl
            case hr1x18 => kernel_rfl
            case hy1x18 => (refine Or.inl ⟨by rfl, ?_⟩; intro w hSw; (try dsimp only at hSw); go_simp; try with_reducible rfl)
            simp only [put_mk, List.set_cons_succ, List.set_cons_zero]
            refine wpAnyH_take (i := 19) (oi := ?o1x19) (v := ?v1x19) ?hi1x19 (by kernel_rfl) ?hf1x19 ?hr1x19 (fun _ _ _ h => h) ?hy1x19 (by assumption) ?rest1x19
            case hi1x19 => (simp only [List.getElem?_toArray, List.getElem?_cons_succ, List.getElem?_cons_zero]; exact rfl)
            case hf1x19 => kernel_rfl
            case hr1x19 => kernel_rfl
            case hy1x19 => (refine Or.inl ⟨by rfl, ?_⟩; intro w hSw; (try dsimp only at hSw); go_simp; try with_reducible rfl)
            simp only [put_mk, List.set_cons_succ, List.set_cons_zero]
            refine wpAnyH_ready (rs := [20]) (by kernel_rfl) (by simp) ?_
            refine AllReadyH.cons (o := ?o1x20) ?hi1x20 (fun K hK => ?_) AllReadyH.nil
            case hi1x20 => (simp only [List.getElem?_toArray, List.getElem?_cons_succ, List.getElem?_cons_zero]; exact rfl)
            go_simp
            try rw [hidx]
            refine ((HCe _ (hstep _ _ _ hSt (by repeat (first | exact Ext.refl _ | assumption | refine Ext.setCell ?_ (by first | (simp; done) | (simp; omega)) _ | refine Ext.drewN ?_ _ | refine Ext.alloc ?_ _ | refine Ext.drew ?_ | refine Ext.trans ?_ (by assumption))))).out).mono ?_
            rintro e w7 ⟨rfl, hSt7, hg7⟩
            have hB7 : Bk w7 w.heap.size 52 #[.int .i64 X, .int .i64 Y, .int .i64 (Wn : Int), .int .i64 (Hn : Int)] := (hHeld.1).grown hg7 (by simp; omega)
            have hP7 : Bk w7 (w.heap.size + 1) 46 #[.int .i64 (ia : Int), .int .i64 px, .int .i64 py, .float .f32 sz, .int .i64 ag] := (hHeld.2).grown hg7 (by simp; omega)
            refine hK.out _ _ ?_ (fun hHeld => ?_)
            · (first | assumption | exact ⟨hB0, hB1⟩ | exact ⟨Bk.drew hB0, Bk.drew hB1⟩ | exact ⟨hB7, hP7⟩)
            clear hK K
            refine wpAnyH_done (by kernel_rfl) ?_ _
            refine NoPanic.normal ?_
            have hS2 : St (sprG nr f g X Y Wn y (x + 1)) w7 := by rw [Hsp.out hnr]; rw [Hsa.out] at hSt7; exact hSt7
            have hgr7 : w.grownBy w7 (some gv) := grown_trans' (grown_drew' hgr) hg7
            clear HN Hsp Hsa Hsk hSt hSt7 HCe e0 e1 e2 hB0 hB1 hidx W3 W6 W7 W9 HR r1 r2
            go_wp2_with fail
            go_roundw
            case rel => exact ⟨x + 1, rfl, by omega, by omega, by omega, hS2, hgr7, hB7, hP7⟩
            case measure => simp [intOf]; omega
          · have hnr : nr k0 = false := by rw [HN.out]; exact decide_eq_false (fun h => hdd (Int.ofNat_lt.2 (by rw [hrr]; exact h)))
            have hS2 : St (sprG nr f g X Y Wn y (x + 1)) wr := by rw [Hsk.out hnr]; exact hSt
            clear HN HCd Hsp Hsa Hsk hSt z1 z2 z3 z4 z5 hqa hqb hQ hrr
            go_wp2_with fail
            go_roundw
            case rel => exact ⟨x + 1, rfl, by omega, by omega, by omega, hS2, hgr, hB0, hB1⟩
            case measure => simp [intOf]; omega
        · have hS2 : St (sprG nr f g X Y Wn (y + 1) X) wr := by rw [← spr_next Hin.out q1 (by omega : min (px + r) (X + Wn - 1) < x)]; exact hSt
          clear hSt
          go_wp2_with fail
          go_roundw
          case rel => exact ⟨y + 1, rfl, by omega, by omega, by omega, hS2, hgr, hB0, hB1⟩
          case measure => simp [intOf]; omega
    · have hend : ∀ k, k < Wn * Hn → sprG nr f g X Y Wn y X k = if decide (sqD (cellP X Y Wn k) ⟨(ia : Int), px, py, sz, ag⟩ < r * r) = true then f k (g k) else g k := fun k hk => by
        rw [spr_end Hin.out q1 hk (by omega), Hnr.out]
        simp only [decide_eq_true hk, Bool.true_and]
      have Hend := hidA hend
      clear hend
      go_wp2_with fail
      ((try simp only [Exit.inBlock, Exit.then]); refine bodyPost_end (results_none Tryd.results42 _ _ _) rfl ?_)
      exact ⟨rfl, hgr, _, hSt, fun k hk => by rw [Hend.out k hk]; simp⟩
end Go.Proofs.YtgaonoklbihkjaaDoor
