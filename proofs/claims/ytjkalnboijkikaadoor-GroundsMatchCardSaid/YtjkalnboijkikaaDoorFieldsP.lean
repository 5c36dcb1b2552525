/- Contracts: field.CheckAll of two fields, and plant.checkFields. -/
import Derived.Test.YtjkalnboijkikaaDoorCheckP
import Derived.Test.YtjkalnboijkikaaDoorPlaces
import Derived.Deep.DeepCutAuto
namespace Go.Proofs.YtjkalnboijkikaaDoor
open Go.RowKit
attribute [local go_sem ↓] Go.wp_at_zero Go.wp_at_succ

theorem add_two (ad : Addr) (i j : Nat) (h : 0 < j) : (⟨(ad.add i).block, (ad.add i).off + j, none⟩ : Addr) = ad.add (i + j) := add_off ad i h

set_option maxRecDepth 100000 in
set_option maxHeartbeats 3200000 in
theorem checkAll_any (X Y W H X' Y' W' H' : Int) (A A' B : Option Addr) (n c n' c' : Nat) (l l' : List Nat) (w : World) (hn : l.length = n) (hn' : l'.length = n') (hd : Rd w A (flt l)) (hd' : Rd w A' (flt l')) (hb : n ≤ 140737488351232) (hb' : n' ≤ 140737488351232)
    (hB : Rd w B [.int .i64 X, .int .i64 Y, .int .i64 W, .int .i64 H, .slice A n c, .int .i64 X', .int .i64 Y', .int .i64 W', .int .i64 H', .slice A' n' c']) :
    Calls Tryd.prog 51 #[.slice B 2 2] w fun e w' => e = .returned (.int .i64 (firstE [fieldE X Y W H l, fieldE X' Y' W' H' l'])) ∧ Ext w w' := by
  obtain ⟨ad, rfl, hbk, hc⟩ := hB (by simp)
  have C0 := fun (w' : World) (h : Ext w w') (j : Nat) u (hu : [Value.int .i64 X, .int .i64 Y, .int .i64 W, .int .i64 H, .slice A n c, .int .i64 X', .int .i64 Y', .int .i64 W', .int .i64 H', .slice A' n' c'][j]? = some u) => (h.cell (ad.add j) (by rw [add_block]; exact hbk)).trans (hc j u hu)
  have HC := fun (w' : World) (h : Ext w w') => hidA (check_any X Y W H A n c l w' hn (hd.ext h) hb)
  have HC' := fun (w' : World) (h : Ext w w') => hidA (check_any X' Y' W' H' A' n' c' l' w' hn' (hd'.ext h) hb')
  clear hn hn' hd hd' hb hb' hB hc
  go_enter Tryd.func51, Tryd.ntmps51
  go_wp2_with fail
  go_loopw [8] (fun i wr => ∃ k : Nat, k ≤ 2 ∧ i = .int .i64 k ∧ (1 ≤ k → fieldE X Y W H l = 0) ∧ (2 ≤ k → fieldE X' Y' W' H' l' = 0) ∧ Ext w wr) (fun i _ => 2 - (intOf i).toNat)
  case atStart => exact ⟨0, by omega, rfl, fun h => by omega, fun h => by omega, (by repeat (first | exact Ext.refl _ | assumption | refine Ext.setCell ?_ (by first | (simp; done) | (simp; omega)) _ | refine Ext.drewN ?_ _ | refine Ext.alloc ?_ _ | refine Ext.drew ?_ | refine Ext.trans ?_ (by assumption)))⟩
  case round =>
    obtain ⟨k, hk, rfl, h1, h2, hx⟩ := hrel
    have H1 := hidA h1
    have H2 := hidA h2
    clear h1 h2
    rcases (by omega : k = 0 ∨ k = 1 ∨ k = 2) with rfl | rfl | rfl
    · have d0 := C0 wr hx 0 _ rfl
      have d1 := C0 wr hx 1 _ rfl
      have d2 := C0 wr hx 2 _ rfl
      have d3 := C0 wr hx 3 _ rfl
      have d4 := C0 wr hx 4 _ rfl
      rw [show ad.add 0 = ad from rfl] at d0
      rw [add_pos _ (by omega)] at d1 d2 d3 d4
      clear C0
      go_wp2_with fail
      refine ((HC _ ?_).out).mono ?_
      · (repeat (first | exact Ext.refl _ | assumption | refine Ext.setCell ?_ (by first | (simp; done) | (simp; omega)) _ | refine Ext.drewN ?_ _ | refine Ext.alloc ?_ _ | refine Ext.drew ?_ | refine Ext.trans ?_ (by assumption)))
      rintro e w5 ⟨rfl, hb5⟩
      by_cases hz : fieldE X Y W H l = 0
      · have b0 : (fieldE X Y W H l != 0) = false := by simpa using hz
        have Hz := hidA hz
        clear hz
        go_wp2_with fail
        go_roundw
        case rel => exact ⟨1, by omega, rfl, fun _ => Hz.out, fun h => by omega, (by repeat (first | exact Ext.refl _ | assumption | refine Ext.setCell ?_ (by first | (simp; done) | (simp; omega)) _ | refine Ext.drewN ?_ _ | refine Ext.alloc ?_ _ | refine Ext.drew ?_ | refine Ext.trans ?_ (by assumption)))⟩
        case measure => decide
      · have b0 : (fieldE X Y W H l != 0) = true := by simpa using hz
        have HN : Hid (fieldE X Y W H l = firstE [fieldE X Y W H l, fieldE X' Y' W' H' l']) := by show _ = _; simp [firstE, hz]
        clear hz
        go_wp2
        go_ret
        exact ⟨ret_i HN.out, (by repeat (first | exact Ext.refl _ | assumption | refine Ext.setCell ?_ (by first | (simp; done) | (simp; omega)) _ | refine Ext.drewN ?_ _ | refine Ext.alloc ?_ _ | refine Ext.drew ?_ | refine Ext.trans ?_ (by assumption)))⟩
    · have d0 := C0 wr hx 5 _ rfl
      have d1 := C0 wr hx 6 _ rfl
      have d2 := C0 wr hx 7 _ rfl
      have d3 := C0 wr hx 8 _ rfl
      have d4 := C0 wr hx 9 _ rfl
      rw [add_pos _ (by omega)] at d0 d1 d2 d3 d4
      have e1 : ad.add 5 = ⟨ad.block, ad.off + 5, none⟩ := add_pos _ (by omega)
      have hz1 := H1.out (by omega)
      clear C0
      go_wp2_with fail
      refine ((HC' _ ?_).out).mono ?_
      · (repeat (first | exact Ext.refl _ | assumption | refine Ext.setCell ?_ (by first | (simp; done) | (simp; omega)) _ | refine Ext.drewN ?_ _ | refine Ext.alloc ?_ _ | refine Ext.drew ?_ | refine Ext.trans ?_ (by assumption)))
      rintro e w5 ⟨rfl, hb5⟩
      by_cases hz : fieldE X' Y' W' H' l' = 0
      · have b0 : (fieldE X' Y' W' H' l' != 0) = false := by simpa using hz
        have Hz := hidA hz
        have Hz1 := hidA hz1
        clear hz hz1
        go_wp2_with fail
        go_roundw
        case rel => exact ⟨2, by omega, rfl, fun _ => Hz1.out, fun _ => Hz.out, (by repeat (first | exact Ext.refl _ | assumption | refine Ext.setCell ?_ (by first | (simp; done) | (simp; omega)) _ | refine Ext.drewN ?_ _ | refine Ext.alloc ?_ _ | refine Ext.drew ?_ | refine Ext.trans ?_ (by assumption)))⟩
        case measure => decide
      · have b0 : (fieldE X' Y' W' H' l' != 0) = true := by simpa using hz
        have HN : Hid (fieldE X' Y' W' H' l' = firstE [fieldE X Y W H l, fieldE X' Y' W' H' l']) := by show _ = _; simp [firstE, hz1]
        clear hz hz1
        go_wp2
        go_ret
        exact ⟨ret_i HN.out, (by repeat (first | exact Ext.refl _ | assumption | refine Ext.setCell ?_ (by first | (simp; done) | (simp; omega)) _ | refine Ext.drewN ?_ _ | refine Ext.alloc ?_ _ | refine Ext.drew ?_ | refine Ext.trans ?_ (by assumption)))⟩
    · have HN : Hid (0 = firstE [fieldE X Y W H l, fieldE X' Y' W' H' l']) := by show _ = _; simp [firstE, H1.out (by omega), H2.out (by omega)]
      clear C0
      go_wp2
      go_ret
      exact ⟨ret_i HN.out, (by repeat (first | exact Ext.refl _ | assumption | refine Ext.setCell ?_ (by first | (simp; done) | (simp; omega)) _ | refine Ext.drewN ?_ _ | refine Ext.alloc ?_ _ | refine Ext.drew ?_ | refine Ext.trans ?_ (by assumption)))⟩
end Go.Proofs.YtjkalnboijkikaaDoor
