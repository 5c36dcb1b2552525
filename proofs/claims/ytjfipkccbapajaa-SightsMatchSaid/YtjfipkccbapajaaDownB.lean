/- Contracts: field.Check, field.Result, level.Down, and that levels() answers true. -/
import Derived.Test.YtjfipkccbapajaaDownA
namespace Go.Proofs.Ytjfipkccbapajaa
open Go.RowKit

set_option maxHeartbeats 800000 in
theorem check_any (x y ww hh : Int) (A : Option Addr) (n c : Nat) (l : List Nat) (w : World) (hn : l.length = n) (hr : Rd w A (flt l)) (hb : n ≤ 140737488351232) :
    Calls Try.prog 89 #[.agg #[.int .i64 x, .int .i64 y, .int .i64 ww, .int .i64 hh, .slice A n c]] w fun e w' => e = .returned (.int .i64 (fieldE x y ww hh l)) ∧ Ext w w' := by
  have Hn := hidA hn
  clear hn
  by_cases he : regE x y ww hh = 0
  · obtain ⟨h1, h2, h3, h4, h5, _⟩ := regE_zero he
    obtain ⟨p1, p2⟩ := prod_bd (A := 512) (B := 512) (by omega : 0 ≤ ww) h2 (by omega : 0 ≤ hh) h4
    have He := hidA he
    clear he
    by_cases hl : (n : Int) = ww * hh
    · have hl' : ((n : Int) != ww * hh) = false := by simp [hl]
      have HF := hidA (fieldE_num (l := l) He.out (by rw [Hn.out]; exact hl))
      clear hl
      go_enter Try.func89, Try.ntmps89
      go_wp2_with fail
      refine (checkRegion_any _ _ _ _ _).mono ?_
      rw [He.out]
      rintro e w1 ⟨rfl, hb1⟩
      have hc1 := hb1.cell
      go_wp2_with fail
      refine (heights_any A n c l _ Hn.out ((hr.alloc _).ext hb1) hb).mono ?_
      rintro e w2 ⟨rfl, rfl⟩
      go_wp2
      go_ret
      exact ⟨ret_i HF.out.symm, ((Ext.refl _).alloc _).trans hb1⟩
    · have hl' : ((n : Int) != ww * hh) = true := by simp [hl]
      have HF := hidA (fieldE_len (l := l) He.out (by rw [Hn.out]; exact hl))
      clear hl
      go_enter Try.func89, Try.ntmps89
      go_wp2_with fail
      refine (checkRegion_any _ _ _ _ _).mono ?_
      rw [He.out]
      rintro e w1 ⟨rfl, hb1⟩
      have hc1 := hb1.cell
      go_wp2
      go_ret
      exact ⟨ret_i HF.out.symm, ((Ext.refl _).alloc _).trans hb1⟩
  · have HF := hidA (fieldE_reg (l := l) he)
    have he' : (regE x y ww hh != 0) = true := by simp [he]
    clear he
    go_enter Try.func89, Try.ntmps89
    go_wp2_with fail
    refine (checkRegion_any _ _ _ _ _).mono ?_
    rintro e w1 ⟨rfl, hb1⟩
    go_wp2
    go_ret
    exact ⟨ret_i HF.out.symm, ((Ext.refl _).alloc _).trans hb1⟩

set_option maxHeartbeats 800000 in
theorem result_ok (x y ww hh : Int) (A : Option Addr) (n c : Nat) (l : List Nat) (w : World) (hn : l.length = n) (hr : Rd w A (flt l)) (hb : n ≤ 140737488351232) (hall : ∀ b ∈ l, hgtB b = true) :
    Calls Try.prog 97 #[.agg #[.int .i64 x, .int .i64 y, .int .i64 ww, .int .i64 hh, .slice A n c]] w fun e w' =>
      e = .returned (.tuple #[.agg #[.int .i64 x, .int .i64 y, .int .i64 ww, .int .i64 hh, .slice A n c], .int .i64 0]) ∧ Ext w w' := by
  have Hn := hidA hn
  have Ha := hidA hall
  clear hn hall
  go_enter Try.func97, Try.ntmps97
  go_wp2
  go_loop [9] (fun i => ∃ k : Nat, k ≤ n ∧ i = .int .i64 k) (fun i => n - (intOf i).toNat)
  case atStart => exact ⟨0, Nat.zero_le _, rfl⟩
  case round =>
    obtain ⟨k, hk, rfl⟩ := hrel
    by_cases hlt : k < n
    · have hkl : k < l.length := by have := Hn.out; omega
      obtain ⟨ad, rfl, hbk, hc⟩ := ((hr.alloc (.cells #[.int .i64 x, .int .i64 y, .int .i64 ww, .int .i64 hh, .slice A n c] 48)).alloc (.cells #[.int .i64 0, .int .i64 0, .int .i64 0, .int .i64 0, .slice none 0 0] 48)).at (k := k) (by simpa using hkl)
      have hck := hc k _ (flt_get hkl)
      have hfin : hgtB l[k] = true := Ha.out _ (List.getElem_mem hkl)
      clear hc hr hbk
      go_wp2_with (go_at_call 149; refine (height_any _ _).mono ?_; rintro e w' ⟨rfl, rfl⟩)
      go_round
      case rel => exact ⟨k + 1, by omega, by go_num⟩
      case measure => simp [intOf]; omega
    · go_wp2
      refine bodyPost_ret (v := .tuple #[.agg #[.int .i64 x, .int .i64 y, .int .i64 ww, .int .i64 hh, .slice A n c], .int .i64 0]) (by simp [results, Try.results97, go_sem]) rfl ⟨rfl, ?_⟩
      exact ((Ext.refl _).alloc _).alloc _

def zeroField : Value := .agg #[.int .i64 0, .int .i64 0, .int .i64 0, .int .i64 0, .slice none 0 0]

set_option maxHeartbeats 800000 in
theorem down_bad (x y ww hh : Int) (A : Option Addr) (n c : Nat) (l : List Nat) (w : World) (hn : l.length = n) (hr : Rd w A (flt l)) (hb : n ≤ 140737488351232) (he : fieldE x y ww hh l ≠ 0) :
    Calls Try.prog 30 #[.agg #[.int .i64 x, .int .i64 y, .int .i64 ww, .int .i64 hh, .slice A n c]] w fun e w' =>
      e = .returned (.tuple #[.agg #[.int .i64 0, .int .i64 0, .int .i64 0, .int .i64 0, .slice none 0 0], .int .i64 (fieldE x y ww hh l)]) ∧ Ext w w' := by
  have he' : (fieldE x y ww hh l != 0) = true := by simp [he]
  go_enter Try.func30, Try.ntmps30
  go_wp2_with fail
  refine (check_any x y ww hh A n c l _ hn ((hr.alloc _).alloc _) hb).mono ?_
  rintro e w1 ⟨rfl, hb1⟩
  clear hn hr
  have hc1 := hb1.cell
  have hf1 := hb1.frozen
  go_wp2
  refine bodyPost_ret (v := .tuple #[.agg #[.int .i64 0, .int .i64 0, .int .i64 0, .int .i64 0, .slice none 0 0], .int .i64 (fieldE x y ww hh l)]) (by simp [results, Try.results30, go_sem, hc1]) rfl ⟨rfl, ?_⟩
  repeat (first | exact Ext.refl _ | assumption | refine Ext.setCell ?_ (by simp) _ | refine Ext.alloc ?_ _ | refine Ext.drew ?_ | refine Ext.trans ?_ (by assumption))

set_option maxHeartbeats 1600000 in
theorem down_odd (x y ww hh : Int) (A : Option Addr) (n c : Nat) (l : List Nat) (w : World) (hn : l.length = n) (hr : Rd w A (flt l)) (hb : n ≤ 140737488351232) (he : fieldE x y ww hh l = 0) (ho : evB x y ww hh = false) :
    Calls Try.prog 30 #[.agg #[.int .i64 x, .int .i64 y, .int .i64 ww, .int .i64 hh, .slice A n c]] w fun e w' =>
      e = .returned (.tuple #[.agg #[.int .i64 0, .int .i64 0, .int .i64 0, .int .i64 0, .slice none 0 0], .int .i64 2]) ∧ Ext w w' := by
  go_enter Try.func30, Try.ntmps30
  go_wp2_with fail
  refine (check_any x y ww hh A n c l _ hn ((hr.alloc _).alloc _) hb).mono ?_
  rw [he]
  rintro e w1 ⟨rfl, hb1⟩
  clear hn hr he
  have hc1 := hb1.cell
  have hf1 := hb1.frozen
  go_wp2_with fail
  refine (even_any x y ww hh _).mono ?_
  rw [ho]
  rintro e w2 ⟨rfl, hb2⟩
  have hb3 := hb1.trans hb2
  clear hc1 hf1 hb1 hb2 ho
  have hc1 := hb3.cell
  have hf1 := hb3.frozen
  go_wp2
  refine bodyPost_ret (v := .tuple #[.agg #[.int .i64 0, .int .i64 0, .int .i64 0, .int .i64 0, .slice none 0 0], .int .i64 2]) (by simp [results, Try.results30, go_sem, hc1]) rfl ⟨rfl, ?_⟩
  repeat (first | exact Ext.refl _ | assumption | refine Ext.setCell ?_ (by simp) _ | refine Ext.alloc ?_ _ | refine Ext.drew ?_ | refine Ext.trans ?_ (by assumption))

set_option maxHeartbeats 1600000 in
theorem down_ok (X Y : Int) (W H n c : Nat) (A : Option Addr) (l : List Nat) (w : World) (hn : l.length = n) (hr : Rd w A (flt l)) (hn1 : n = 2 * H * (2 * W)) (hn2 : n ≤ 65536) (he : fieldE (2 * X) (2 * Y) (2 * W) (2 * H) l = 0)
    (g : Nat → Nat) (hq : ∀ j i, j < H → i < W → quarter (l.getD (2 * j * (2 * W) + 2 * i) 0) (l.getD (2 * j * (2 * W) + 2 * i + 1) 0) (l.getD (2 * j * (2 * W) + 2 * i + 2 * W) 0) (l.getD (2 * j * (2 * W) + 2 * i + 2 * W + 1) 0) = some (g (j * W + i)))
    (hgt : ∀ k, k < H * W → hgtB (g k) = true) :
    Calls Try.prog 30 #[.agg #[.int .i64 (2 * X), .int .i64 (2 * Y), .int .i64 (2 * W : Int), .int .i64 (2 * H : Int), .slice A n c]] w fun e w' =>
      ∃ A' c', e = .returned (.tuple #[.agg #[.int .i64 X, .int .i64 Y, .int .i64 W, .int .i64 H, .slice A' (H * W) c'], .int .i64 0]) ∧ Rdb (w.heap.size + 2) w' A' (flt ((List.range (H * W)).map g)) ∧ Ext w w' := by
  have hreg : regE (2 * X) (2 * Y) (2 * W) (2 * H) = 0 := by
    unfold fieldE at he
    by_cases h0 : regE (2 * X) (2 * Y) (2 * W) (2 * H) = 0
    · exact h0
    · rw [if_pos h0] at he; exact absurd he h0
  obtain ⟨b1, b2, b3, b4, b5, b6, b7, b8, b9⟩ := regE_zero hreg
  have hev : evB (2 * X) (2 * Y) (2 * W) (2 * H) = true := (evB_iff _ _ _ _).2 (by omega)
  have hN : H * W ≤ 65536 := by
    have : H * W ≤ 2 * H * (2 * W) := Nat.mul_le_mul (by omega) (by omega)
    omega
  have Hq := hidA hq
  have Hg := hidA hgt
  have Hn1 := hidA hn1
  have Hn := hidA hn
  clear hq hgt hn1 hn b5 hreg
  go_enter Try.func30, Try.ntmps30
  go_wp2_with fail
  refine (check_any (2 * X) (2 * Y) (2 * W) (2 * H) A n c l _ Hn.out ((hr.alloc _).alloc _) (by omega)).mono ?_
  rw [he]
  rintro e w1 ⟨rfl, hb1⟩
  clear he
  have hc1 := hb1.cell
  have hf1 := hb1.frozen
  go_wp2_with fail
  refine (even_any _ _ _ _ _).mono ?_
  rw [hev]
  rintro e w2 ⟨rfl, hb2⟩
  have hb3 := hb1.trans hb2
  clear hc1 hf1 hb1 hb2 hev
  have hc1 := hb3.cell
  have hf1 := hb3.frozen
  have hr3 := ((hr.alloc _).alloc _).ext hb3
  clear hr
  go_wp2_with fail
  refine (down_any X Y W H n c A l _ hr3 Hn.out Hn1.out hn2 (by omega) (by omega) (by omega) (by omega) g Hq.out).mono ?_
  rintro e w4 ⟨A', c', rfl, hr4, hb4⟩
  have hb5 := hb3.trans hb4
  have hsz := hb3.size
  clear hc1 hf1 hr3 hb3 hb4
  have hc1 := hb5.cell
  have hf1 := hb5.frozen
  go_wp2_with fail
  refine (result_ok X Y W H A' (H * W) c' ((List.range (H * W)).map g) _ (by simp) hr4.rd (by omega) (by
    intro b hb
    obtain ⟨k, hk, rfl⟩ := List.mem_map.1 hb
    exact Hg.out k (List.mem_range.1 hk))).mono ?_
  rintro e w6 ⟨rfl, hb6⟩
  have hr6 := hr4.ext hb6
  have hb7 := hb5.trans hb6
  clear hc1 hf1 hr4 hb5 hb6
  have hc1 := hb7.cell
  have hf1 := hb7.frozen
  go_wp2
  refine bodyPost_ret (v := .tuple #[.agg #[.int .i64 X, .int .i64 Y, .int .i64 W, .int .i64 H, .slice A' (H * W) c'], .int .i64 0]) (by simp [results, Try.results30, go_sem, hc1]) rfl ⟨A', c', rfl, ?_, ?_⟩
  · have hr7 := hr6.mono (b' := w.heap.size + 2) (by simp at hsz; omega)
    exact ((((hr7.set (by simp) _).set (by simp) _).set (by simp) _).set (by simp) _).set (by simp) _
  repeat (first | exact Ext.refl _ | assumption | refine Ext.setCell ?_ (by simp) _ | refine Ext.alloc ?_ _ | refine Ext.drew ?_ | refine Ext.trans ?_ (by assumption))

end Go.Proofs.Ytjfipkccbapajaa
