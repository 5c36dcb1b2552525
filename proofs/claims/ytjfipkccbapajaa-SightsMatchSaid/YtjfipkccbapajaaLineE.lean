/- Contract: level.Line. -/
import Derived.Test.YtjfipkccbapajaaLineD
namespace Go.Proofs.Ytjfipkccbapajaa
open Go.RowKit

def lineErr (ax ay bx by' : Int) : Int := if placeE ax ay ≠ 0 then 5 else if placeE bx by' ≠ 0 then 5 else if 65536 ≤ stepsZ ax ay bx by' then 4 else 0

theorem placeE_bd {x y : Int} (h : placeE x y = 0) : -4194304 ≤ x ∧ x ≤ 4194304 ∧ -4194304 ≤ y ∧ y ≤ 4194304 := by
  unfold placeE at h
  split at h
  · assumption
  · simp at h
theorem placeE_ne {x y : Int} (h : placeE x y ≠ 0) : placeE x y = 5 := by
  unfold placeE at h ⊢
  split
  · rename_i h'; rw [if_pos h'] at h; exact absurd rfl h
  · rfl

theorem idxA {ax ay bx by' : Int} (w : World) : (Instr.index 40 (.agg #[.int .i64 ax, .int .i64 ay, .int .i64 bx, .int .i64 by']) (.int .i64 0)).run Try.prog w = .ok (.agg #[.int .i64 ax, .int .i64 ay]) w := by kernel_rfl
theorem idxB {ax ay bx by' : Int} (w : World) : (Instr.index 40 (.agg #[.int .i64 ax, .int .i64 ay, .int .i64 bx, .int .i64 by']) (.int .i64 1)).run Try.prog w = .ok (.agg #[.int .i64 bx, .int .i64 by']) w := by kernel_rfl

set_option maxRecDepth 100000 in
set_option maxHeartbeats 1600000 in
theorem Line_any (ax ay bx by' : Int) (w : World) :
    Calls Try.prog 22 #[.agg #[.int .i64 ax, .int .i64 ay], .agg #[.int .i64 bx, .int .i64 by']] w fun e w' =>
      ∃ v, e = .returned (.tuple #[v, .int .i64 (lineErr ax ay bx by')]) ∧ Ext w w' ∧
        (lineErr ax ay bx by' ≠ 0 → v = .slice none 0 0) ∧
        (lineErr ax ay bx by' = 0 → ∃ (n : Nat) (A : Option Addr) (c : Nat), stepsZ ax ay bx by' = n ∧ n ≤ 65535 ∧ v = .slice A (n + 1 : Nat) c ∧ Rdb w.heap.size w' A (ptv (linePts ax ay bx by' n (n + 1)))) := by
  have ia := @idxA ax ay bx by'
  have ib := @idxB ax ay bx by'
  have HE : Hid (lineErr ax ay bx by' = if placeE ax ay ≠ 0 then 5 else if placeE bx by' ≠ 0 then 5 else if 65536 ≤ stepsZ ax ay bx by' then 4 else 0) := rfl
  go_enter Try.func22, Try.ntmps22
  go_wp2
  go_loopw [12] (fun i wr => ∃ k : Nat, k ≤ 2 ∧ i = .int .i64 k ∧ Ext w wr ∧ Bk wr w.heap.size 31 #[.int .i64 ax, .int .i64 ay] ∧ Bk wr (w.heap.size + 1) 31 #[.int .i64 bx, .int .i64 by'] ∧ Hid (1 ≤ k → placeE ax ay = 0) ∧ Hid (2 ≤ k → placeE bx by' = 0)) (fun i _ => 2 - (intOf i).toNat)
  case atStart => exact ⟨0, by omega, rfl, (by repeat (first | exact Ext.refl _ | assumption | refine Ext.setCell ?_ (by first | (simp; done) | (simp; omega)) _ | refine Ext.drewN ?_ _ | refine Ext.alloc ?_ _ | refine Ext.drew ?_ | refine Ext.trans ?_ (by assumption))), (Bk.new' rfl).alloc _, Bk.new' (by simp), fun h => absurd h (by omega), fun h => absurd h (by omega)⟩
  case round =>
    obtain ⟨k, hk, rfl, hx, hB0, hB1, ha, hb⟩ := hrel
    have d0 : wr.cell? ⟨w.heap.size, 0, none⟩ = some (.int .i64 ax) := hB0.cell 0
    have d1 : wr.cell? ⟨w.heap.size, 1, none⟩ = some (.int .i64 ay) := hB0.cell 1
    have d2 : wr.cell? ⟨w.heap.size + 1, 0, none⟩ = some (.int .i64 bx) := hB1.cell 0
    have d3 : wr.cell? ⟨w.heap.size + 1, 1, none⟩ = some (.int .i64 by') := hB1.cell 1
    have hl := hB1.lt
    rcases (by omega : k = 0 ∨ k = 1 ∨ k = 2) with rfl | rfl | rfl
    · by_cases hp : placeE ax ay = 0
      · have Hp := hidA hp
        clear hp
        go_wp2_with fail
        refine (checkPlace_any _ _ _).mono ?_
        rw [Hp.out]
        rintro e w2 ⟨rfl, rfl⟩
        go_wp2
        go_roundw
        case rel => exact ⟨1, by omega, rfl, (by repeat (first | exact Ext.refl _ | assumption | refine Ext.setCell ?_ (by first | (simp; done) | (simp; omega)) _ | refine Ext.drewN ?_ _ | refine Ext.alloc ?_ _ | refine Ext.drew ?_ | refine Ext.trans ?_ (by assumption))), hB0.alloc _, hB1.alloc _, fun _ => Hp.out, fun h => absurd h (by omega)⟩
        case measure => decide
      · have Hp := hidA (placeE_ne hp)
        have H5 : Hid (lineErr ax ay bx by' = 5) := by rw [HE.out, if_pos hp]; rfl
        clear hp
        go_wp2_with fail
        refine (checkPlace_any _ _ _).mono ?_
        rw [Hp.out]
        rintro e w2 ⟨rfl, rfl⟩
        go_wp2
        go_ret2
        exact ⟨.slice none 0 0, by rw [H5.out]; rfl, (by repeat (first | exact Ext.refl _ | assumption | refine Ext.setCell ?_ (by first | (simp; done) | (simp; omega)) _ | refine Ext.drewN ?_ _ | refine Ext.alloc ?_ _ | refine Ext.drew ?_ | refine Ext.trans ?_ (by assumption))), fun _ => rfl, fun h => by rw [H5.out] at h; cases h⟩
    · by_cases hp : placeE bx by' = 0
      · have Hp := hidA hp
        clear hp
        go_wp2_with fail
        refine (checkPlace_any _ _ _).mono ?_
        rw [Hp.out]
        rintro e w2 ⟨rfl, rfl⟩
        go_wp2
        go_roundw
        case rel => exact ⟨2, by omega, rfl, (by repeat (first | exact Ext.refl _ | assumption | refine Ext.setCell ?_ (by first | (simp; done) | (simp; omega)) _ | refine Ext.drewN ?_ _ | refine Ext.alloc ?_ _ | refine Ext.drew ?_ | refine Ext.trans ?_ (by assumption))), hB0.alloc _, hB1.alloc _, fun _ => ha.out (by omega), fun _ => Hp.out⟩
        case measure => decide
      · have Hp := hidA (placeE_ne hp)
        have H5 : Hid (lineErr ax ay bx by' = 5) := by rw [HE.out, if_neg (by simp [ha.out (by omega)]), if_pos hp]; rfl
        clear hp
        go_wp2_with fail
        refine (checkPlace_any _ _ _).mono ?_
        rw [Hp.out]
        rintro e w2 ⟨rfl, rfl⟩
        go_wp2
        go_ret2
        exact ⟨.slice none 0 0, by rw [H5.out]; rfl, (by repeat (first | exact Ext.refl _ | assumption | refine Ext.setCell ?_ (by first | (simp; done) | (simp; omega)) _ | refine Ext.drewN ?_ _ | refine Ext.alloc ?_ _ | refine Ext.drew ?_ | refine Ext.trans ?_ (by assumption))), fun _ => rfl, fun h => by rw [H5.out] at h; cases h⟩
    · have Ha := hidA (placeE_bd (ha.out (by omega)))
      have Hb := hidA (placeE_bd (hb.out (by omega)))
      obtain ⟨a1, a2, a3, a4⟩ := Ha.out
      obtain ⟨b1, b2, b3, b4⟩ := Hb.out
      have HE2 : Hid (lineErr ax ay bx by' = if 65536 ≤ stepsZ ax ay bx by' then 4 else 0) := by rw [HE.out, if_neg (by simp [ha.out (by omega)]), if_neg (by simp [hb.out (by omega)])]; rfl
      clear ha hb HE
      go_wp2_with fail
      refine (steps_any _ _ _ _ _ (by omega) (by omega) (by omega) (by omega)).mono ?_
      rintro e w2 ⟨rfl, hb2⟩
      have hx2 := hx.trans hb2
      have f0 : w2.cell? ⟨w.heap.size, 0, none⟩ = some (.int .i64 ax) := (hB0.ext hb2).cell 0
      have f1 : w2.cell? ⟨w.heap.size, 1, none⟩ = some (.int .i64 ay) := (hB0.ext hb2).cell 1
      have f2 : w2.cell? ⟨w.heap.size + 1, 0, none⟩ = some (.int .i64 bx) := (hB1.ext hb2).cell 0
      have f3 : w2.cell? ⟨w.heap.size + 1, 1, none⟩ = some (.int .i64 by') := (hB1.ext hb2).cell 1
      by_cases hs : 65536 ≤ stepsZ ax ay bx by'
      · have H4 : Hid (lineErr ax ay bx by' = 4) := by rw [HE2.out, if_pos hs]; rfl
        go_wp2
        go_ret2
        exact ⟨.slice none 0 0, by rw [H4.out]; rfl, hx2, fun _ => rfl, fun h => by rw [H4.out] at h; cases h⟩
      · have H0 : Hid (lineErr ax ay bx by' = 0) := by rw [HE2.out, if_neg hs]; rfl
        have hs0 : 0 ≤ stepsZ ax ay bx by' := by unfold stepsZ max4; omega
        obtain ⟨n, hn⟩ := Int.eq_ofNat_of_zero_le hs0
        have hn' : n ≤ 65535 := by omega
        have Hn := hidA hn
        clear hn
        go_wp2_with fail
        refine (line_any ax ay bx by' n _ ⟨a1, a2⟩ ⟨a3, a4⟩ ⟨b1, b2⟩ ⟨b3, b4⟩ Hn.out hn').mono ?_
        rintro e w3 ⟨A, c, rfl, hr3, hb3⟩
        go_wp2
        go_ret2
        exact ⟨.slice A (n + 1 : Nat) c, by rw [H0.out]; rfl, hx2.trans hb3, fun h => absurd H0.out h, fun _ => ⟨n, A, c, Hn.out, hn', rfl, hr3.mono hx2.size⟩⟩

end Go.Proofs.Ytjfipkccbapajaa
