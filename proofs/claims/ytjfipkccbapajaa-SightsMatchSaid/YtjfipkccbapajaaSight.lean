/- Contracts: level.inside, level.at, level.Line, level.Profile, tarnref2.Values. -/
import Derived.Test.YtjfipkccbapajaaPlaces
import Derived.Test.YtjfipkccbapajaaLineD
import Derived.Test.YtjfipkccbapajaaDownB
namespace Go.Proofs.Ytjfipkccbapajaa
open Go.RowKit
attribute [local go_sem ↓] Go.wp_at_zero Go.wp_at_succ

def insE (X Y W H : Int) : List (Int × Int) → Int
  | [] => 0
  | p :: r => if InR X Y W H p.1 p.2 then insE X Y W H r else 5

theorem ptv_get {l : List (Int × Int)} {k : Nat} (hk : k < l.length) : (ptv l)[k * 2]? = some (.int .i64 l[k].1) ∧ (ptv l)[k * 2 + 1]? = some (.int .i64 l[k].2) := by
  induction l generalizing k with
  | nil => simp at hk
  | cons p r ih =>
    cases k with
    | zero => exact ⟨rfl, rfl⟩
    | succ k =>
      have h := ih (k := k) (by simpa using hk)
      have e : ptv (p :: r) = [.int .i64 p.1, .int .i64 p.2] ++ ptv r := rfl
      rw [e, show (k + 1) * 2 = k * 2 + 2 from by omega, show k * 2 + 2 + 1 = k * 2 + 1 + 2 from by omega]
      simpa using h

set_option maxHeartbeats 1600000 in
theorem inside_any (X Y W H : Int) (S : Value) (A : Option Addr) (n c : Nat) (l : List (Int × Int)) (w : World) (hr : RegOk X Y W H) (hn : l.length = n) (hd : Rd w A (ptv l)) (hb : n ≤ 4000000000) :
    Calls Try.prog 90 #[.agg #[.int .i64 X, .int .i64 Y, .int .i64 W, .int .i64 H, S], .slice A n c] w fun e w' => e = .returned (.int .i64 (insE X Y W H l)) ∧ Ext w w' := by
  have Hn := hidA hn
  have Hr := hidA hr
  clear hn hr
  go_enter Try.func90, Try.ntmps90
  go_wp2
  go_loopw [11] (fun i wr => ∃ k : Nat, k ≤ n ∧ i = .int .i64 k ∧ Hid (insE X Y W H (l.drop k) = insE X Y W H l) ∧ Ext w wr ∧ Bk wr w.heap.size 48 #[.int .i64 X, .int .i64 Y, .int .i64 W, .int .i64 H, S]) (fun i _ => n - (intOf i).toNat)
  case atStart => exact ⟨0, Nat.zero_le _, rfl, rfl, (Ext.refl _).alloc _, Bk.new _ _ _⟩
  case round =>
    obtain ⟨k, hk, rfl, hf, hx, hB⟩ := hrel
    have hl := hB.lt
    have d0 : wr.cell? ⟨w.heap.size, 0, none⟩ = some (.int .i64 X) := hB.cell 0
    have d1 : wr.cell? ⟨w.heap.size, 1, none⟩ = some (.int .i64 Y) := hB.cell 1
    have d2 : wr.cell? ⟨w.heap.size, 2, none⟩ = some (.int .i64 W) := hB.cell 2
    have d3 : wr.cell? ⟨w.heap.size, 3, none⟩ = some (.int .i64 H) := hB.cell 3
    by_cases hlt : k < n
    · have hkl : k < l.length := by have := Hn.out; omega
      obtain ⟨ad, rfl, hbk, hc⟩ := (hd.ext hx).at (k := 2 * k) (by rw [ptv_length]; omega)
      have e0 := hc (k * 2) _ (ptv_get hkl).1
      have e1 : wr.cell? ⟨(ad.add (k * 2)).block, (ad.add (k * 2)).off + 1, none⟩ = some (.int .i64 l[k].2) := by rw [add_off _ _ (by omega)]; exact hc (k * 2 + 1) _ (ptv_get hkl).2
      have hd' : Hid (insE X Y W H l = if InR X Y W H l[k].1 l[k].2 then insE X Y W H (l.drop (k + 1)) else 5) := by
        have h := hf.out
        rw [List.drop_eq_getElem_cons hkl] at h
        exact h.symm
      clear hc hd
      by_cases hin : InR X Y W H l[k].1 l[k].2
      · have Hin := hidA hin
        have H1 : Hid (insE X Y W H (l.drop (k + 1)) = insE X Y W H l) := by have h := hd'.out; rw [if_pos hin] at h; exact h.symm
        clear hin
        go_wp2_with fail
        refine (place_in _ _ _ _ _ _ _ Hr.out Hin.out).mono ?_
        rintro e w2 ⟨rfl, hb2⟩
        have hx2 := ((hx.alloc _).trans hb2)
        have hB2 := (hB.alloc _).ext hb2
        go_wp2
        go_roundw
        case rel => exact ⟨k + 1, by omega, by go_num, H1, hx2, hB2⟩
        case measure => simp [intOf]; omega
      · have Hin := hidA hin
        have H1 : Hid (insE X Y W H l = 5) := by have h := hd'.out; rw [if_neg hin] at h; exact h
        clear hin
        go_wp2_with fail
        refine (place_out _ _ _ _ _ _ _ Hr.out Hin.out).mono ?_
        rintro e w2 ⟨rfl, hb2⟩
        have hx2 := ((hx.alloc _).trans hb2)
        go_wp2
        go_ret
        exact ⟨ret_i H1.out.symm, hx2⟩
    · have H0 : Hid (insE X Y W H l = 0) := by
        have h := hf.out
        rw [List.drop_of_length_le (by have := Hn.out; omega)] at h
        exact h.symm
      go_wp2
      go_ret
      exact ⟨ret_i H0.out.symm, hx⟩

set_option maxHeartbeats 1600000 in
theorem at_any (X Y W H x y : Int) (A : Option Addr) (n c : Nat) (l : List Nat) (w : World) (hr : RegOk X Y W H) (h : InR X Y W H x y) (hn : l.length = n) (hnw : (n : Int) = W * H) (hd : Rd w A (flt l)) (k : Nat) (hk : cellN X Y W x y = k) (v : Nat) (hv : l[k]? = some v) :
    Calls Try.prog 91 #[.agg #[.int .i64 X, .int .i64 Y, .int .i64 W, .int .i64 H, .slice A n c], .agg #[.int .i64 x, .int .i64 y]] w fun e w' => e = .returned (.float .f32 v) ∧ Ext w w' := by
  have hkl : k < l.length := by
    rcases Nat.lt_or_ge k l.length with h' | h'
    · exact h'
    · rw [List.getElem?_eq_none h'] at hv; cases hv
  have Hr := hidA hr
  have Hin := hidA h
  have Hk := hidA hk
  have hkn : (k : Int) < n := by omega
  have Hn := hidA hn
  have hd2 := (hd.alloc (.cells #[.int .i64 X, .int .i64 Y, .int .i64 W, .int .i64 H, .slice A n c] 48)).alloc (.cells #[.int .i64 x, .int .i64 y] 31)
  clear hr h hk hnw hn
  go_enter Try.func91, Try.ntmps91
  go_wp2_with fail
  refine (place_in _ _ _ _ _ _ _ Hr.out Hin.out).mono ?_
  rw [Hk.out]
  rintro e w2 ⟨rfl, hb2⟩
  have hc1 := hb2.cell
  obtain ⟨ad, rfl, hbk, hc⟩ := (hd2.ext hb2).at (k := k) (by simpa using hkl)
  have e0 := hc k (.float .f32 v) (by simp [flt, hv])
  clear hc hd hd2 hv hkl
  go_wp2
  go_ret
  exact ⟨rfl, (by repeat (first | exact Ext.refl _ | assumption | refine Ext.setCell ?_ (by first | (simp; done) | (simp; omega)) _ | refine Ext.drewN ?_ _ | refine Ext.alloc ?_ _ | refine Ext.drew ?_ | refine Ext.trans ?_ (by assumption)))⟩

end Go.Proofs.Ytjfipkccbapajaa
