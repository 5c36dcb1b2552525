/- Contracts: empty and result; what suits is a height. -/
import Derived.Test.YtjkalnboijkikaaDoorGroundH
namespace Go.Proofs.YtjkalnboijkikaaDoor
open Go.RowKit
attribute [local go_sem ↓] Go.wp_at_zero Go.wp_at_succ

section
open Ieee
/-- within the bounds of a word that stands for a number of a positive sign -/
theorem ord_le {K b c n j : Nat} (h : Bd K b) (hK : K ≤ 127) (hc : single.read c = .number false n ((j : Int) - 149)) (hn : 2 ^ (K + 149) ≤ n * 2 ^ j) : ord b c = some .lt ∨ ord b c = some .eq := by
  obtain ⟨s, m, k, e, hm⟩ := read_bd h hK
  rw [ord_val e hc]
  have h1 := signed_abs s m k
  have h2 := signed_abs false n j
  have h3 := signed_false n j
  rcases Int.lt_trichotomy (signed s m k) (signed false n j) with h | h | h
  · left; rw [Int.compare_eq_lt.2 h]
  · right; rw [Int.compare_eq_eq.2 h]
  · exfalso; omega
theorem ord_ge {K b c n j : Nat} (h : Bd K b) (hK : K ≤ 127) (hc : single.read c = .number true n ((j : Int) - 149)) (hn : 2 ^ (K + 149) ≤ n * 2 ^ j) : ord b c = some .gt ∨ ord b c = some .eq := by
  obtain ⟨s, m, k, e, hm⟩ := read_bd h hK
  rw [ord_val e hc]
  have h1 := signed_abs s m k
  have h2 := signed_abs true n j
  have h3 : signed true n j ≤ 0 := by
    unfold signed
    rw [if_pos rfl]
    omega
  rcases Int.lt_trichotomy (signed s m k) (signed true n j) with h | h | h
  · exfalso; omega
  · right; rw [Int.compare_eq_eq.2 h]
  · left; rw [Int.compare_eq_gt.2 h]
theorem bd_hgt {K b : Nat} (h : Bd K b) (hK : K ≤ 20) : hgtB b = true := by
  have h' := h.mono hK
  unfold hgtB
  rcases ord_le h' (by omega) (show single.read 1233125376 = .number false 8388608 (((146 : Nat) : Int) - 149) by decide +kernel) (by decide) with a | a <;>
  rcases ord_ge h' (by omega) (show single.read 3380609024 = .number true 8388608 (((146 : Nat) : Int) - 149) by decide +kernel) (by decide) with d | d <;> rw [a, d] <;> rfl
theorem bd_finB {K b : Nat} (h : Bd K b) (hK : K ≤ 20) : finB b = true := by
  have h' := h.mono hK
  unfold finB
  rcases ord_le h' (by omega) (show single.read 2139095039 = .number false 16777215 (((253 : Nat) : Int) - 149) by decide +kernel) (by decide) with a | a <;>
  rcases ord_ge h' (by omega) (show single.read 4286578687 = .number true 16777215 (((253 : Nat) : Int) - 149) by decide +kernel) (by decide) with d | d <;> rw [a, d] <;> rfl
end
theorem suit_bd {a0 a1 a2 a3 a4 a5 g0 g1 g2 : Nat} (b0 : Bd 20 g0) (b1 : Bd 22 g1) (b2 : Bd 20 g2) (hg1 : ord g1 0 ≠ some .lt)
    (hs0 : Bd 20 a0) (hs1 : Bd 20 a1) (hs2 : Bd 20 a2) (hs3 : Bd 20 a3) (hs4 : Bd 20 a4) (hs5 : Bd 20 a5) : Bd 20 (suitF a0 a1 a2 a3 a4 a5 g0 g1 g2) := by
  obtain ⟨p1, pb1⟩ := fadd_ok (K := 20) hs4 (one_bd.mono (show 0 ≤ 20 by omega)) (by omega)
  have ha := slack_bd b0 hs0 hs1 (hs2.mono (show 20 ≤ 22 by omega))
  have hc := slack_bd b2 hs4 hs5 pb1
  have hb : Bd 5 (slopeF g1 a3) := by
    unfold slopeF
    split
    · exact zero_bd.mono (by omega)
    · rename_i h1
      split
      · rename_i h2
        obtain ⟨d1, db1⟩ := fquot_ok b1 hs3 (by omega) (by omega) hg1 ((ord_swap hs3 zero_bd (by omega) (by omega)).1 (gt_ord.1 h2)) (fun h => h1 (gt_ord.2 h))
        obtain ⟨d2, db2⟩ := fmul_ok half_bd db1 (by omega)
        obtain ⟨d3, db3⟩ := fsub_ok (one_bd.mono (show 0 ≤ 3 by omega)) db2 (by omega)
        exact db3.mono (by omega)
      · exact one_bd.mono (by omega)
  obtain ⟨m1, mb1⟩ := fmul_ok (K := 4) (J := 5) ha hb (by omega)
  obtain ⟨m2, mb2⟩ := fmul_ok (K := 10) (J := 4) mb1 hc (by omega)
  exact mb2.mono (by omega)
theorem fits_zero {X Y W H : Int} {n : Nat} {l l' : List Nat} {a0 a1 a2 a3 a4 a5 : Nat} (hl : l.length = n) (ht : twoE X Y W H l X Y W H l' = 0) (hs0 : Bd 20 a0) (hs1 : Bd 20 a1) (hs2 : Bd 20 a2) (hs3 : Bd 20 a3) (hs4 : Bd 20 a4) (hs5 : Bd 20 a5) :
    numE ((List.range n).map (fitK X Y W H l l' a0 a1 a2 a3 a4 a5)) = 0 := by
  obtain ⟨f1, f2⟩ := two_zero ht
  have hr := RegOk.of_zero (fieldE_parts f1).1
  have hv := val_bd f1
  have hv' := val_bd f2
  have hb : ∀ b ∈ (List.range n).map (fitK X Y W H l l' a0 a1 a2 a3 a4 a5), Bd 20 b := fun b hb => by
    obtain ⟨k, hk, rfl⟩ := List.mem_map.1 hb
    have hkn : k < n := List.mem_range.1 hk
    have hi := placeK_in hr (by rw [← hl]; exact (fieldE_parts f1).2.1) hkn
    exact suit_bd (hv _ _ hi) (slope_bd hv hi 4).1 (wet_bd (hv' _ _ hi)) (slope_nonneg hv hi 4) hs0 hs1 hs2 hs3 hs4 hs5
  exact numE_ok (fun b h => bd_finB (hb b h) (by omega)) (fun b h => bd_hgt (hb b h) (by omega))

theorem place_cell {X Y W H x y : Int} {k : Nat} (hr : RegOk X Y W H) (hi : InR X Y W H x y) (hk : cellN X Y W x y = k) : placeK X Y W k = (x, y) := by
  unfold RegOk at hr
  unfold InR at hi
  unfold cellN at hk
  obtain ⟨Wn, rfl⟩ := Int.eq_ofNat_of_zero_le (show 0 ≤ W by omega)
  obtain ⟨i, hi'⟩ := Int.eq_ofNat_of_zero_le (show 0 ≤ x - X by omega)
  obtain ⟨j, hj'⟩ := Int.eq_ofNat_of_zero_le (show 0 ≤ y - Y by omega)
  obtain rfl : k = j * Wn + i := by
    have : ((k : Nat) : Int) = ((j * Wn + i : Nat) : Int) := by
      rw [← hk, hj', Int.natCast_add, Int.natCast_mul]
      omega
    omega
  rw [placeK_at (by omega)]
  have e1 : X + i = x := by omega
  have e2 : Y + j = y := by omega
  rw [e1, e2]

set_option maxHeartbeats 1600000 in
theorem empty_zero (w : World) : Calls Tryd.prog 22 #[.agg #[.int .i64 0, .int .i64 0, .int .i64 0, .int .i64 0, .slice none 0 0]] w fun e w' => e = .returned (.bool true) ∧ Ext w w' := by
  go_enter Tryd.func22, Tryd.ntmps22
  go_wp2
  go_ret
  exact ⟨rfl, (by repeat (first | exact Ext.refl _ | assumption | refine Ext.setCell ?_ (by first | (simp; done) | (simp; omega)) _ | refine Ext.drewN ?_ _ | refine Ext.alloc ?_ _ | refine Ext.drew ?_ | refine Ext.trans ?_ (by assumption)))⟩
set_option maxHeartbeats 1600000 in
set_option maxRecDepth 100000 in
theorem result_ok (X Y W H : Int) (A B : Option Addr) (n c d : Nat) (l : List Nat) (w : World) (hn : l.length = n) (ha : Rd w A (flt l)) (hb : Rd w B (flt l)) (hnb : n ≤ 4000000000) (hz : numE l = 0) :
    Calls Tryd.prog 26 #[.agg #[.int .i64 X, .int .i64 Y, .int .i64 W, .int .i64 H, .slice B n d], .int .i64 0, .agg #[.int .i64 X, .int .i64 Y, .int .i64 W, .int .i64 H], .slice A n c] w fun e w' => e = .returned (.bool true) ∧ Ext w w' := by
  have HZ := hidA hz
  clear hz
  go_enter Tryd.func26, Tryd.ntmps26
  go_wp2_with fail
  refine (numberError_any A n c l _ hn ((ha.alloc _).alloc _) (by omega)).mono ?_
  rw [HZ.out]
  rintro e w' ⟨rfl, rfl⟩
  go_wp2_with (go_at_call 41; refine (bits_same B A n d c l _ hn ((hb.alloc _).alloc _) ((ha.alloc _).alloc _) hnb).mono ?_; rintro e w2 ⟨rfl, rfl⟩)
  go_ret
  exact ⟨rfl, (by repeat (first | exact Ext.refl _ | assumption | refine Ext.setCell ?_ (by first | (simp; done) | (simp; omega)) _ | refine Ext.drewN ?_ _ | refine Ext.alloc ?_ _ | refine Ext.drew ?_ | refine Ext.trans ?_ (by assumption)))⟩
end Go.Proofs.YtjkalnboijkikaaDoor
