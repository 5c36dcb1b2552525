/- The law PricesMatch: it returns true for every field, rules and way. -/
import Derived.Test.YtpgdinpckolfpaaRnAB
namespace Go.Proofs.Ytpgdinpckolfpaa
open Go.RowKit
attribute [local go_sem ↓] Go.wp_at_zero Go.wp_at_succ
attribute [local go_sem] run_store_float

/-- the error ahead of the places -/
def wnt (g : Int) (q : Nat) : Int := firstE [g, if q = 0 then 10 else 0, if 65536 < q then 4 else 0]
/-- the error behind the first places -/
def wnI (w0 : Int) (b : Nat → Bool) : Nat → Int
  | 0 => w0
  | i + 1 => firstE [wnI w0 b i, if b i then 0 else 5]
theorem wnI_ne {w0 : Int} {b : Nat → Bool} (h : w0 ≠ 0) : ∀ i, wnI w0 b i = w0
  | 0 => rfl
  | i + 1 => by rw [wnI, wnI_ne h i]; unfold firstE; rw [if_neg h]
theorem wnI_zero {b : Nat → Bool} : ∀ i, wnI 0 b i = if ∀ j, j < i → b j = true then 0 else 5
  | 0 => by rw [wnI, if_pos (fun j h => by omega)]
  | i + 1 => by
    have ih := wnI_zero (b := b) i
    show firstE [wnI 0 b i, if b i then 0 else 5] = _
    by_cases h : ∀ j, j < i → b j = true
    · rw [if_pos h] at ih
      rw [ih]
      cases h1 : b i with
      | true =>
        rw [if_pos (show ∀ j, j < i + 1 → b j = true from fun j hj => by
          by_cases e : j = i
          · subst e; exact h1
          · exact h j (by omega))]
        rfl
      | false =>
        rw [if_neg (show ¬ ∀ j, j < i + 1 → b j = true from fun h9 => by have h8 := h9 i (by omega); rw [h1] at h8; cases h8)]
        rfl
    · rw [if_neg h] at ih
      rw [ih, if_neg (show ¬ ∀ j, j < i + 1 → b j = true from fun h9 => h fun j hj => h9 j (by omega))]
      rfl
theorem wnt_form (g : Int) (q : Nat) : firstE [g, if q = 0 then 10 else 0, if (65536 : Int) < (q : Int) then 4 else 0] = wnt g q := by
  unfold wnt
  by_cases h : 65536 < q
  · rw [if_pos h, if_pos (show (65536 : Int) < q by omega)]
  · rw [if_neg h, if_neg (show ¬ (65536 : Int) < q by omega)]
theorem nx_m {j q : Nat} (h1 : j + 1 < q) : q - (intOf (.int .i64 ((j : Int) + 1 + 1))).toNat < q - (intOf (.int .i64 ((j + 1 : Nat) : Int))).toNat := by
  simp [intOf]
  omega
theorem nx_2 {q : Nat} (h1 : 0 + 1 < q) : q - (intOf (.int .i64 2)).toNat < q - (intOf (.int .i64 ((0 + 1 : Nat) : Int))).toNat := by
  simp [intOf]
  omega
theorem nxt_q {i q : Nat} (h1 : i < q) : q - (intOf (.int .i64 ((i : Int) + 1))).toNat < q - (intOf (.int .i64 (i : Int))).toNat := by
  simp [intOf]
  omega
set_option maxRecDepth 100000 in
set_option maxHeartbeats 6400000 in
theorem prices_bad (X Y W H : Int) (A : Option Addr) (n c : Nat) (lf : List Nat) (gr wt br de : Nat) (sp : Int) (C : Option Addr) (m cc : Nat) (X' Y' W' H' : Int) (l : List Nat) (B : Option Addr) (q d : Nat) (ps : List (Int × Int)) (w : World) (hn : lf.length = n) (hV : Rd w A (flt lf)) (hb : n ≤ 140737488351232) (hC : CoP w C m X' Y' W' H' l) (hm : m ≤ 140737488351232) (hl : ps.length = q) (hP : Rd w B (ptv ps)) (hq : q ≤ 140737488351232) (E : Int) (hE : E ≠ 0) (hF : wnI (wnt (grndE X Y W H lf gr wt br de sp m X' Y' W' H' l) q) (fun i => hasB X Y W H (ps.getD i (0, 0)).1 (ps.getD i (0, 0)).2) q = E)
    (HPr : ∀ w', Ext w w' → Hid (Calls Try.prog 23 #[.agg #[.int .i64 X, .int .i64 Y, .int .i64 W, .int .i64 H, .slice A n c], .agg #[.float .f32 gr, .float .f32 wt, .float .f32 br, .float .f32 de, .int .i64 sp, .slice C m cc], .slice B q d] w' fun e w'' => e = .returned (.tuple #[.float .f32 0, .int .i64 E]) ∧ Ext w' w'')) :
    Calls Try.prog 4 #[.agg #[.int .i64 X, .int .i64 Y, .int .i64 W, .int .i64 H, .slice A n c], .agg #[.float .f32 gr, .float .f32 wt, .float .f32 br, .float .f32 de, .int .i64 sp, .slice C m cc], .slice B q d] w fun e w' => e = .returned (.bool true) ∧ Ext w w' := by
  have HGE := fun (w' : World) (h : Ext w w') => hidA (GroundError_any X Y W H A n c lf gr wt br de sp C m cc X' Y' W' H' l w' hn (hV.ext h) hb (hC.ext h) hm)
  have HL := fun (w : World) => hidA (leads_any w)
  have HWh := fun (b : Bool) (k : Int) (w : World) => hidA (when_any b k w)
  have HS3 := fun (a b c' : Int) (B : Option Addr) (w : World) (h : Rd w B [.int .i64 a, .int .i64 b, .int .i64 c']) => hidA (first_any B 3 3 [a, b, c'] w rfl h (by omega))
  have HS2 := fun (a b : Int) (B : Option Addr) (w : World) (h : Rd w B [.int .i64 a, .int .i64 b]) => hidA (first_any B 2 2 [a, b] w rfl h (by omega))
  have HHa := fun (x y : Int) (w : World) => hidA (has_any X Y W H x y w)
  have hne : (E != 0) = true := by simpa using hE
  have hz := zero_eq
  have HF := hidA hF
  have Hl := hidA hl
  generalize grndE X Y W H lf gr wt br de sp m X' Y' W' H' l = ge at *
  clear hn hV hb hC hm hE hF hl
  go_enter Try.func4, Try.ntmps4
  go_upto_region 1 with fail
  obtain ⟨w0, hw0⟩ : ∃ w0, w0 = (w.alloc (.cells #[.int .i64 X, .int .i64 Y, .int .i64 W, .int .i64 H, .slice A n c] 26)).alloc (.cells #[.float .f32 gr, .float .f32 wt, .float .f32 br, .float .f32 de, .int .i64 sp, .slice C m cc] 30) := ⟨_, rfl⟩
  have kF : Bk w0 w.heap.size 26 #[.int .i64 X, .int .i64 Y, .int .i64 W, .int .i64 H, .slice A n c] := by rw [hw0]; exact (Bk.new' rfl).alloc _
  have kR : Bk w0 (w.heap.size + 1) 30 #[.float .f32 gr, .float .f32 wt, .float .f32 br, .float .f32 de, .int .i64 sp, .slice C m cc] := by rw [hw0]; exact Bk.new' (by simp)
  have hx0 : Ext w w0 := by rw [hw0]; exact ((Ext.refl w).alloc _).alloc _
  rw [← hw0]
  clear hw0
  generalize w.heap.size + 1 = hr' at *
  generalize hfe : w.heap.size = hf at *
  clear hfe
  have f0 := kF.cell 0
  have f1 := kF.cell 1
  have f2 := kF.cell 2
  have f3 := kF.cell 3
  have f4 := kF.cell 4
  have r0 := kR.cell 0
  have r1 := kR.cell 1
  have r2 := kR.cell 2
  have r3 := kR.cell 3
  have r4 := kR.cell 4
  have r5 := kR.cell 5
  go_upto_region 3 with (first | (go_at_call 23; refine ((HPr _ hx0).out).mono ?_; rintro e w1 ⟨rfl, hx1⟩; have x0 := (kF.ext hx1).cell 0; have x1 := (kF.ext hx1).cell 1; have x2 := (kF.ext hx1).cell 2; have x3 := (kF.ext hx1).cell 3; have x4 := (kF.ext hx1).cell 4; have y0 := (kR.ext hx1).cell 0; have y1 := (kR.ext hx1).cell 1; have y2 := (kR.ext hx1).cell 2; have y3 := (kR.ext hx1).cell 3; have y4 := (kR.ext hx1).cell 4; have y5 := (kR.ext hx1).cell 5) | (go_at_call 18; refine ((HGE _ (hx0.trans hx1)).out).mono ?_; rintro e w2 ⟨rfl, hx2⟩) | (go_at_call 19; refine ((HWh _ _ _).out).mono ?_; rintro e w7 ⟨rfl, hw7⟩; subst hw7) | (go_at_call 17; refine ((HS3 _ _ _ _ _ (Rd.new (by first | rfl | simp) (by first | rfl | simp))).out).mono ?_; rintro e w8 ⟨rfl, hw8⟩; subst hw8))
  rw [wnt_form]
  generalize (if q = 0 then (10 : Int) else 0) = z1 at *
  generalize (if (65536 : Int) < (q : Int) then (4 : Int) else 0) = z2 at *
  have hx9 := (hx0.trans (hx1.trans hx2)).alloc (.cells #[.int .i64 ge, .int .i64 z1, .int .i64 z2] 33)
  have kF9 := ((kF.ext hx1).ext hx2).alloc (.cells #[.int .i64 ge, .int .i64 z1, .int .i64 z2] 33)
  have kR9 := ((kR.ext hx1).ext hx2).alloc (.cells #[.int .i64 ge, .int .i64 z1, .int .i64 z2] 33)
  clear f0 f1 f2 f3 f4 r0 r1 r2 r3 r4 r5 x0 x1 x2 x3 x4 y0 y1 y2 y3 y4 y5 kF kR hx0 hx1 hx2 HPr HGE HS3
  generalize w2.alloc (.cells #[.int .i64 ge, .int .i64 z1, .int .i64 z2] 33) = w3 at *
  generalize wnt ge q = u0 at *
  go_upto_region 4 with fail
  go_loopw [9, 38] (fun s9 s38 wr => ∃ i : Nat, i ≤ q ∧ s38 = .int .i64 i ∧ s9 = .int .i64 (wnI u0 (fun i => hasB X Y W H (ps.getD i (0, 0)).1 (ps.getD i (0, 0)).2) i) ∧ Ext w3 wr) (fun _ s38 _ => q - (intOf s38).toNat)
  case atStart => exact ⟨0, Nat.zero_le _, rfl, rfl, Ext.refl _⟩
  case round =>
    obtain ⟨i, hi, rfl, rfl, hx⟩ := hrel
    have hxw := hx9.trans hx
    by_cases hiq : i < q
    · obtain ⟨ad1, rfl, hb1, c0, c1⟩ := pt_at (hP.ext hxw) (k := i) (by have := Hl.out; omega)
      have Hst := hidA (show wnI u0 (fun i => hasB X Y W H (ps.getD i (0, 0)).1 (ps.getD i (0, 0)).2) (i + 1) = firstE [wnI u0 (fun i => hasB X Y W H (ps.getD i (0, 0)).1 (ps.getD i (0, 0)).2) i, if hasB X Y W H (ps.getD i (0, 0)).1 (ps.getD i (0, 0)).2 then 0 else 5] from rfl)
      generalize wnI u0 (fun i => hasB X Y W H (ps.getD i (0, 0)).1 (ps.getD i (0, 0)).2) i = v1 at *
      generalize (ps.getD i (0, 0)).1 = px at *
      generalize (ps.getD i (0, 0)).2 = py at *
      have HHq := fun w => HHa px py w
      obtain ⟨bb, hbb⟩ : ∃ bb, bb = hasB X Y W H px py := ⟨_, rfl⟩
      rw [← hbb] at HHq Hst
      have i0 : (0 : Int) ≤ i := by omega
      have i1 : (i : Int) < q := by omega
      have kF5 := kF9.ext hx
      have e0 := fun o => (kF5.alloc o).cell 0
      have e1 := fun o => (kF5.alloc o).cell 1
      have e2 := fun o => (kF5.alloc o).cell 2
      have e3 := fun o => (kF5.alloc o).cell 3
      have Hiq := hidA hiq
      have hqq : q ≤ 140737488351232 := hq
      clear hbb hi hiq HHa hb1 kF5
      go_wp2_with (first | (go_at_call 20; refine ((HHq _).out).mono ?_; rintro e w4 ⟨rfl, hx4⟩) | (go_at_call 19; refine ((HWh _ _ _).out).mono ?_; rintro e w7 ⟨rfl, hw7⟩; subst hw7) | (go_at_call 17; refine ((HS2 _ _ _ _ (Rd.new (by first | rfl | simp) (by first | rfl | simp))).out).mono ?_; rintro e w8 ⟨rfl, hw8⟩; subst hw8))
      go_roundw
      case rel => exact ⟨i + 1, Nat.succ_le_of_lt Hiq.out, (by first | rfl | go_num), (by rw [Hst.out]; cases bb <;> rfl), (by repeat (first | exact Ext.refl _ | assumption | refine Ext.setCell ?_ (by first | (simp; done) | (simp; omega)) _ | refine Ext.drewN ?_ _ | refine Ext.alloc ?_ _ | refine Ext.drew ?_ | refine Ext.trans ?_ (by assumption)))⟩
      case measure => exact nxt_q Hiq.out
    · obtain rfl : i = q := by omega
      rw [HF.out]
      go_wp2_with (go_at_call 15; refine ((HL _).out).mono ?_; rintro e w4 ⟨rfl, hx4⟩)
      go_ret
      exact ⟨by first | rfl | simp, hxw.trans (by repeat (first | exact Ext.refl _ | assumption | refine Ext.setCell ?_ (by first | (simp; done) | (simp; omega)) _ | refine Ext.drewN ?_ _ | refine Ext.alloc ?_ _ | refine Ext.drew ?_ | refine Ext.trans ?_ (by assumption)))⟩
set_option maxRecDepth 100000 in
set_option maxHeartbeats 6400000 in
theorem prices_good (X Y : Int) (Wn Hn : Nat) (A : Option Addr) (N c : Nat) (R : RlR) (C : Option Addr) (m cc : Nat) (lf : List Nat) (X' Y' W' H' : Int) (l : List Nat) (B : Option Addr) (q d : Nat) (ps : List (Int × Int)) (w : World)
    (hr : Reg X Y Wn Hn) (hN : N = Wn * Hn) (hR : RlOk R N) (hn : lf.length = N) (hh : ∀ j, j < N → Bd 20 (lf.getD j 0)) (hV : Rd w A (flt lf)) (hCo : CoR w C m R.co) (hC : CoP w C m X' Y' W' H' l) (hm : m ≤ 140737488351232) (hg : grndE X Y Wn Hn lf R.gr R.wt R.br R.de R.sp m X' Y' W' H' l = 0)
    (hl : ps.length = q) (hP : Rd w B (ptv ps)) (hqd : q ≤ d) (hq : amtE q = 0) (hin : ∀ p, p ∈ ps → InR X Y Wn Hn p.1 p.2) :
    Calls Try.prog 4 #[.agg #[.int .i64 X, .int .i64 Y, .int .i64 (Wn : Int), .int .i64 (Hn : Int), .slice A N c], .agg #[.float .f32 R.gr, .float .f32 R.wt, .float .f32 R.br, .float .f32 R.de, .int .i64 (R.sp : Int), .slice C m cc], .slice B q d] w fun e w' => e = .returned (.bool true) ∧ Ext w w' := by
  have hb : N ≤ 140737488351232 := by have := hr.n; omega
  have hq6 : 1 ≤ q ∧ q ≤ 65536 := by
    unfold amtE at hq
    split at hq
    · cases hq
    · split at hq
      · cases hq
      · omega
  have HPr := fun (w' : World) (h : Ext w w') => hidA (Price_ok X Y Wn Hn A N c R C m cc lf X' Y' W' H' l B q d ps w' hr hN hR hn hh (hV.ext h) (hCo.ext h) (hC.ext h) hm hg hl (hP.ext h) hqd hq hin)
  unfold PriPost at HPr
  have HGE := fun (w' : World) (h : Ext w w') => hidA (GroundError_any X Y Wn Hn A N c lf R.gr R.wt R.br R.de R.sp C m cc X' Y' W' H' l w' hn (hV.ext h) hb (hC.ext h) hm)
  have HL := fun (w : World) => hidA (leads_any w)
  have HWh := fun (b : Bool) (k : Int) (w : World) => hidA (when_any b k w)
  have HS3 := fun (a b c' : Int) (B : Option Addr) (w : World) (h : Rd w B [.int .i64 a, .int .i64 b, .int .i64 c']) => hidA (first_any B 3 3 [a, b, c'] w rfl h (by omega))
  have HS2 := fun (a b : Int) (B : Option Addr) (w : World) (h : Rd w B [.int .i64 a, .int .i64 b]) => hidA (first_any B 2 2 [a, b] w rfl h (by omega))
  have HHa := fun (x y : Int) (w : World) => hidA (has_any X Y Wn Hn x y w)
  have HBt := fun (a : Nat) (w : World) => hidA (bit_same a w)
  have hin2 : ∀ j, j < ps.length → InR X Y Wn Hn (ps.getD j (0, 0)).1 (ps.getD j (0, 0)).2 := fun j hj => by
    rw [show ps.getD j (0, 0) = ps[j] by simp [List.getD_eq_getElem?_getD, hj]]
    exact hin _ (List.getElem_mem hj)
  have hkin : ∀ j, j < ps.length → kOf X Y Wn (ps.getD j (0, 0)) < N := fun j hj => by rw [hN]; exact (kOf_in (hin2 j hj)).1
  have HF : Hid (wnI (wnt (grndE X Y Wn Hn lf R.gr R.wt R.br R.de R.sp m X' Y' W' H' l) q) (fun i => hasB X Y Wn Hn (ps.getD i (0, 0)).1 (ps.getD i (0, 0)).2) q = 0) := by
    show _ = _
    have h0 : wnt (grndE X Y Wn Hn lf R.gr R.wt R.br R.de R.sp m X' Y' W' H' l) q = 0 := by
      rw [hg]
      unfold wnt
      rw [if_neg (by omega), if_neg (by omega)]
      rfl
    rw [h0, wnI_zero, if_pos]
    intro j hj
    rw [hasB_ok hr.ok]
    exact decide_eq_true (hin2 j (by omega))
  have HTz := hidA (fun (i : Nat) (h1 : i + 1 < q) (w' : World) (h : Ext w w') => by
    have a1 := kOf_in (hin2 i (by omega))
    have a2 := kOf_in (hin2 (i + 1) (by omega))
    have h9 := Toll_any X Y Wn Hn A N c R C m cc (kOf X Y Wn (ps.getD i (0, 0))) (kOf X Y Wn (ps.getD (i + 1) (0, 0))) lf w' hr hN hR hn hh (hkin i (by omega)) (hkin (i + 1) (by omega)) (hV.ext h) (hCo.ext h)
    rw [← a1.2.1, ← a1.2.2, ← a2.2.1, ← a2.2.2] at h9
    unfold stV at h9
    exact h9)
  have HBd := hidA (fun i s (h1 : i < q) => prA_bd (X := X) (Y := Y) hR hN hr.w1 hh hkin i s (by omega))
  have HSb := hidA (fun i c (h1 : i + 1 < q) (h : stepF R (fun j => lf.getD j 0) Wn Hn (kOf X Y Wn (ps.getD i (0, 0))) (kOf X Y Wn (ps.getD (i + 1) (0, 0))) = some c) => stepF_bd hR hN hr.w1 hh (hkin i (by omega)) (hkin (i + 1) (by omega)) h)
  have HPn := hidA (fun i (h : prA R (fun j => lf.getD j 0) X Y Wn Hn ps i = none) => prA_none h (q - 1))
  have HP1 := hidA (fun i => (rfl : prA R (fun j => lf.getD j 0) X Y Wn Hn ps (i + 1) = match prA R (fun j => lf.getD j 0) X Y Wn Hn ps i with
    | none => none
    | some s => match stepF R (fun j => lf.getD j 0) Wn Hn (kOf X Y Wn (ps.getD i (0, 0))) (kOf X Y Wn (ps.getD (i + 1) (0, 0))) with
      | none => none
      | some c => some (fadd s c)))
  obtain ⟨Pf, hPf⟩ : ∃ Pf : Nat → Option Nat, Pf = fun i => prA R (fun j => lf.getD j 0) X Y Wn Hn ps i := ⟨_, rfl⟩
  obtain ⟨Sf, hSf⟩ : ∃ Sf : Nat → Option Nat, Sf = fun i => stepF R (fun j => lf.getD j 0) Wn Hn (kOf X Y Wn (ps.getD i (0, 0))) (kOf X Y Wn (ps.getD (i + 1) (0, 0))) := ⟨_, rfl⟩
  have hP0 : Pf 0 = some 0 := by rw [hPf]; rfl
  rw [show prA R (fun j => lf.getD j 0) X Y Wn Hn ps (q - 1) = Pf (q - 1) by rw [hPf]] at HPr
  obtain ⟨ev, hev⟩ : ∃ ev : Int, ev = if (Pf (q - 1)).isSome = true then 0 else 11 := ⟨_, rfl⟩
  obtain ⟨pv, hpv⟩ : ∃ pv, pv = (Pf (q - 1)).getD 0 := ⟨_, rfl⟩
  rw [← hev, ← hpv] at HPr
  have Hev := hidA hev
  have Hpv := hidA hpv
  clear hev hpv
  have HTy := hidA (fun (i : Nat) (h1 : i + 1 < q) (w' : World) (h : Ext w w') => by
    have h9 := HTz.out i h1 w' h
    rw [show stepF R (fun j => lf.getD j 0) Wn Hn (kOf X Y Wn (ps.getD i (0, 0))) (kOf X Y Wn (ps.getD (i + 1) (0, 0))) = Sf i by rw [hSf]] at h9
    exact h9)
  have HPz := hidA (fun i => show Pf (i + 1) = match Pf i with
    | none => none
    | some s => match Sf i with
      | none => none
      | some c => some (fadd s c) from by rw [hPf, hSf]; exact HP1.out i)
  have HBe : Hid (∀ i s, i < q → Pf i = some s → Bd 84 s ∧ 0 ≤ valI s) := hidA (fun i s h1 h => HBd.out i s h1 (by rw [hPf] at h; exact h))
  have HSe : Hid (∀ i c, i + 1 < q → Sf i = some c → Bd 56 c ∧ 2 ^ 149 ≤ valI c) := hidA (fun i c h1 h => HSb.out i c h1 (by rw [hSf] at h; exact h))
  have HSl : Hid (∀ i c, Sf i = some c → c < 4294967296) := hidA (fun i c h => by rw [hSf] at h; exact stepF_lt h)
  have HNz := hidA (fun i (h : Pf i = none) (h2 : i ≤ q - 1) => show Pf (q - 1) = none from by rw [hPf] at h ⊢; exact HPn.out i h h2)
  have hz := zero_eq
  have Hl := hidA hl
  have Hq6 := hidA hq6
  generalize grndE X Y Wn Hn lf R.gr R.wt R.br R.de R.sp m X' Y' W' H' l = ge at *
  clear hn hV hb hC hm hg hr hN hR hh hCo hin hin2 hkin hPf hSf hq hl hq6 hqd HBd HSb HPn HP1 HTz
  go_enter Try.func4, Try.ntmps4
  go_upto_region 1 with fail
  obtain ⟨w0, hw0⟩ : ∃ w0, w0 = (w.alloc (.cells #[.int .i64 X, .int .i64 Y, .int .i64 (Wn : Int), .int .i64 (Hn : Int), .slice A N c] 26)).alloc (.cells #[.float .f32 R.gr, .float .f32 R.wt, .float .f32 R.br, .float .f32 R.de, .int .i64 (R.sp : Int), .slice C m cc] 30) := ⟨_, rfl⟩
  have kF : Bk w0 w.heap.size 26 #[.int .i64 X, .int .i64 Y, .int .i64 (Wn : Int), .int .i64 (Hn : Int), .slice A N c] := by rw [hw0]; exact (Bk.new' rfl).alloc _
  have kR : Bk w0 (w.heap.size + 1) 30 #[.float .f32 R.gr, .float .f32 R.wt, .float .f32 R.br, .float .f32 R.de, .int .i64 (R.sp : Int), .slice C m cc] := by rw [hw0]; exact Bk.new' (by simp)
  have hx0 : Ext w w0 := by rw [hw0]; exact ((Ext.refl w).alloc _).alloc _
  rw [← hw0]
  clear hw0
  generalize w.heap.size + 1 = hr' at *
  generalize hfe : w.heap.size = hf at *
  clear hfe
  have f0 := kF.cell 0
  have f1 := kF.cell 1
  have f2 := kF.cell 2
  have f3 := kF.cell 3
  have f4 := kF.cell 4
  have r0 := kR.cell 0
  have r1 := kR.cell 1
  have r2 := kR.cell 2
  have r3 := kR.cell 3
  have r4 := kR.cell 4
  have r5 := kR.cell 5
  go_upto_region 3 with (first | (go_at_call 23; refine ((HPr _ hx0).out).mono ?_; rintro e w1 ⟨rfl, hx1⟩; have x0 := (kF.ext hx1).cell 0; have x1 := (kF.ext hx1).cell 1; have x2 := (kF.ext hx1).cell 2; have x3 := (kF.ext hx1).cell 3; have x4 := (kF.ext hx1).cell 4; have y0 := (kR.ext hx1).cell 0; have y1 := (kR.ext hx1).cell 1; have y2 := (kR.ext hx1).cell 2; have y3 := (kR.ext hx1).cell 3; have y4 := (kR.ext hx1).cell 4; have y5 := (kR.ext hx1).cell 5) | (go_at_call 18; refine ((HGE _ (hx0.trans hx1)).out).mono ?_; rintro e w2 ⟨rfl, hx2⟩) | (go_at_call 19; refine ((HWh _ _ _).out).mono ?_; rintro e w7 ⟨rfl, hw7⟩; subst hw7) | (go_at_call 17; refine ((HS3 _ _ _ _ _ (Rd.new (by first | rfl | simp) (by first | rfl | simp))).out).mono ?_; rintro e w8 ⟨rfl, hw8⟩; subst hw8))
  rw [wnt_form]
  generalize (if q = 0 then (10 : Int) else 0) = z1 at *
  generalize (if (65536 : Int) < (q : Int) then (4 : Int) else 0) = z2 at *
  have hx9 := (hx0.trans (hx1.trans hx2)).alloc (.cells #[.int .i64 ge, .int .i64 z1, .int .i64 z2] 33)
  have kF9 := ((kF.ext hx1).ext hx2).alloc (.cells #[.int .i64 ge, .int .i64 z1, .int .i64 z2] 33)
  have kR9 := ((kR.ext hx1).ext hx2).alloc (.cells #[.int .i64 ge, .int .i64 z1, .int .i64 z2] 33)
  clear f0 f1 f2 f3 f4 r0 r1 r2 r3 r4 r5 x0 x1 x2 x3 x4 y0 y1 y2 y3 y4 y5 kF kR hx0 hx1 hx2 HPr HGE HS3
  generalize w2.alloc (.cells #[.int .i64 ge, .int .i64 z1, .int .i64 z2] 33) = w3 at *
  generalize wnt ge q = u0 at *
  go_upto_region 4 with fail
  go_loopw [9, 38] (fun s9 s38 wr => ∃ i : Nat, i ≤ q ∧ s38 = .int .i64 i ∧ s9 = .int .i64 (wnI u0 (fun i => hasB X Y Wn Hn (ps.getD i (0, 0)).1 (ps.getD i (0, 0)).2) i) ∧ Ext w3 wr) (fun _ s38 _ => q - (intOf s38).toNat)
  case atStart => exact ⟨0, Nat.zero_le _, rfl, rfl, Ext.refl _⟩
  case round =>
    obtain ⟨i, hi, rfl, rfl, hx⟩ := hrel
    have hxw := hx9.trans hx
    by_cases hiq : i < q
    · obtain ⟨ad1, rfl, hb1, c0, c1⟩ := pt_at (hP.ext hxw) (k := i) (by have := Hl.out; omega)
      have Hst := hidA (show wnI u0 (fun i => hasB X Y Wn Hn (ps.getD i (0, 0)).1 (ps.getD i (0, 0)).2) (i + 1) = firstE [wnI u0 (fun i => hasB X Y Wn Hn (ps.getD i (0, 0)).1 (ps.getD i (0, 0)).2) i, if hasB X Y Wn Hn (ps.getD i (0, 0)).1 (ps.getD i (0, 0)).2 then 0 else 5] from rfl)
      generalize wnI u0 (fun i => hasB X Y Wn Hn (ps.getD i (0, 0)).1 (ps.getD i (0, 0)).2) i = v1 at *
      generalize (ps.getD i (0, 0)).1 = px at *
      generalize (ps.getD i (0, 0)).2 = py at *
      have HHq := fun w => HHa px py w
      obtain ⟨bb, hbb⟩ : ∃ bb, bb = hasB X Y Wn Hn px py := ⟨_, rfl⟩
      rw [← hbb] at HHq Hst
      have i0 : (0 : Int) ≤ i := by omega
      have i1 : (i : Int) < q := by omega
      have kF5 := kF9.ext hx
      have e0 := fun o => (kF5.alloc o).cell 0
      have e1 := fun o => (kF5.alloc o).cell 1
      have e2 := fun o => (kF5.alloc o).cell 2
      have e3 := fun o => (kF5.alloc o).cell 3
      have Hiq := hidA hiq
      have hqq : q ≤ 140737488351232 := (by have := Hq6.out; omega)
      clear hbb hi hiq HHa hb1 kF5
      go_wp2_with (first | (go_at_call 20; refine ((HHq _).out).mono ?_; rintro e w4 ⟨rfl, hx4⟩) | (go_at_call 19; refine ((HWh _ _ _).out).mono ?_; rintro e w7 ⟨rfl, hw7⟩; subst hw7) | (go_at_call 17; refine ((HS2 _ _ _ _ (Rd.new (by first | rfl | simp) (by first | rfl | simp))).out).mono ?_; rintro e w8 ⟨rfl, hw8⟩; subst hw8))
      go_roundw
      case rel => exact ⟨i + 1, Nat.succ_le_of_lt Hiq.out, (by first | rfl | go_num), (by rw [Hst.out]; cases bb <;> rfl), (by repeat (first | exact Ext.refl _ | assumption | refine Ext.setCell ?_ (by first | (simp; done) | (simp; omega)) _ | refine Ext.drewN ?_ _ | refine Ext.alloc ?_ _ | refine Ext.drew ?_ | refine Ext.trans ?_ (by assumption)))⟩
      case measure => exact nxt_q Hiq.out
    · obtain rfl : q = i := by omega
      have kF5 := kF9.ext hx
      have kR5 := kR9.ext hx
      rw [HF.out]
      clear HF HS2 HHa HWh kF9 kR9 hx9
      go_upto_region 12 with (go_at_call 15; refine ((HL _).out).mono ?_; rintro e w4 ⟨rfl, hx4⟩)
      have hxw4 := hxw.trans hx4
      have kF6 := kF5.ext hx4
      have kR6 := kR5.ext hx4
      clear hxw kF5 kR5 hx4 HL hx
      have hq1 : 1 ≤ q := Hq6.out.1
      have hqb : q ≤ 65536 := Hq6.out.2
      go_loopw [12, 13] (fun s12 s13 wq => ∃ i s : Nat, 1 ≤ i ∧ i ≤ q ∧ s13 = .int .i64 i ∧ s12 = .float .f32 s ∧ Pf (i - 1) = some s ∧ Ext w4 wq) (fun _ s13 _ => q - (intOf s13).toNat)
      case atStart => exact ⟨1, 0, Nat.le_refl _, hq1, rfl, rfl, hP0, Ext.refl _⟩
      case round =>
        obtain ⟨i, s, hi1, hi, rfl, rfl, hpf, hxq⟩ := hrel
        have hxw := hxw4.trans hxq
        have kF7 := kF6.ext hxq
        have kR7 := kR6.ext hxq
        by_cases hiq : i < q
        · obtain ⟨j, rfl⟩ : ∃ j, i = j + 1 := ⟨i - 1, by omega⟩
          rw [Nat.add_sub_cancel] at hpf
          obtain ⟨ad1, rfl, hb1, c0, c1⟩ := pt_at (hP.ext hxw) (k := j) (by have := Hl.out; omega)
          obtain ⟨ad2, e2, hb2, d0, d1⟩ := pt_at (hP.ext hxw) (k := j + 1) (by have := Hl.out; omega)
          injection e2 with e2
          subst e2
          have hSt := HTy.out j hiq
          have HTq := fun (w' : World) (h : Ext w w') => hidA (hSt w' h)
          clear hSt
          obtain ⟨px, py, hp1⟩ : ∃ px py, ps.getD j (0, 0) = (px, py) := ⟨_, _, rfl⟩
          obtain ⟨qx, qy, hp2⟩ : ∃ qx qy, ps.getD (j + 1) (0, 0) = (qx, qy) := ⟨_, _, rfl⟩
          rw [hp1] at c0 c1 HTq
          rw [hp2] at d0 d1 HTq
          dsimp only at c0 c1 d0 d1 HTq
          have i0 : (0 : Int) ≤ j := by omega
          have i1 : (j : Int) < q := by omega
          have i2 : ((j + 1 : Nat) : Int) < q := by omega
          have i3 : (0 : Int) ≤ (j : Int) + 1 := by omega
          have i5 : (j : Int) + 1 < q := by omega
          have i4 : IntKind.i64.wrap (j : Int) = (j : Int) := by rw [IntWalk.i64_in _ (by omega)]
          have HPi := hidA (HPz.out j)
          have HBi := hidA (HBe.out j s (by omega) hpf)
          have HSi := hidA (fun c => HSe.out j c hiq)
          have HSk := hidA (fun c => HSl.out j c)
          have HNi := hidA (fun h => HNz.out (j + 1) h (by omega))
          have Hiq := hidA hiq
          have Hpf := hidA hpf
          have c0' : ∀ w', Ext wr w' → w'.cell? (ad1.add (j * 2)) = some (.int .i64 px) := fun w' h => (h.cell _ (by rw [add_block]; omega)).trans c0
          have c1' : ∀ w', Ext wr w' → w'.cell? ⟨(ad1.add (j * 2)).block, (ad1.add (j * 2)).off + 1, none⟩ = some (.int .i64 py) := fun w' h => (h.cell ⟨(ad1.add (j * 2)).block, (ad1.add (j * 2)).off + 1, none⟩ (by show (ad1.add (j * 2)).block < _; rw [add_block]; omega)).trans c1
          have d0' : ∀ w', Ext wr w' → w'.cell? (ad1.add ((j + 1) * 2)) = some (.int .i64 qx) := fun w' h => (h.cell _ (by rw [add_block]; omega)).trans d0
          have d1' : ∀ w', Ext wr w' → w'.cell? ⟨(ad1.add ((j + 1) * 2)).block, (ad1.add ((j + 1) * 2)).off + 1, none⟩ = some (.int .i64 qy) := fun w' h => (h.cell ⟨(ad1.add ((j + 1) * 2)).block, (ad1.add ((j + 1) * 2)).off + 1, none⟩ (by show (ad1.add ((j + 1) * 2)).block < _; rw [add_block]; omega)).trans d1
          have f0 : ∀ w', Ext wr w' → w'.cell? ⟨hf, 0, none⟩ = some (.int .i64 X) := fun w' h => (kF7.ext h).cell 0
          have f1 : ∀ w', Ext wr w' → w'.cell? ⟨hf, 1, none⟩ = some (.int .i64 Y) := fun w' h => (kF7.ext h).cell 1
          have f2 : ∀ w', Ext wr w' → w'.cell? ⟨hf, 2, none⟩ = some (.int .i64 (Wn : Int)) := fun w' h => (kF7.ext h).cell 2
          have f3 : ∀ w', Ext wr w' → w'.cell? ⟨hf, 3, none⟩ = some (.int .i64 (Hn : Int)) := fun w' h => (kF7.ext h).cell 3
          have f4 : ∀ w', Ext wr w' → w'.cell? ⟨hf, 4, none⟩ = some (.slice A N c) := fun w' h => (kF7.ext h).cell 4
          have r0 : ∀ w', Ext wr w' → w'.cell? ⟨hr', 0, none⟩ = some (.float .f32 R.gr) := fun w' h => (kR7.ext h).cell 0
          have r1 : ∀ w', Ext wr w' → w'.cell? ⟨hr', 1, none⟩ = some (.float .f32 R.wt) := fun w' h => (kR7.ext h).cell 1
          have r2 : ∀ w', Ext wr w' → w'.cell? ⟨hr', 2, none⟩ = some (.float .f32 R.br) := fun w' h => (kR7.ext h).cell 2
          have r3 : ∀ w', Ext wr w' → w'.cell? ⟨hr', 3, none⟩ = some (.float .f32 R.de) := fun w' h => (kR7.ext h).cell 3
          have r4 : ∀ w', Ext wr w' → w'.cell? ⟨hr', 4, none⟩ = some (.int .i64 (R.sp : Int)) := fun w' h => (kR7.ext h).cell 4
          have r5 : ∀ w', Ext wr w' → w'.cell? ⟨hr', 5, none⟩ = some (.slice C m cc) := fun w' h => (kR7.ext h).cell 5
          clear c0 c1 d0 d1 hb1 hb2 hp1 hp2 hi1 hi hiq hpf kF7 kR7
          go_upto_region 14 with fail
          refine wp_region_noPanic ?_
          refine wp_region_held_drew (S := fun w' => Ext wr w') (by kernel_rfl) ?_ (fun hHeld => ?_)
          · (repeat (first | exact Ext.refl _ | assumption | refine Ext.setCell ?_ (by first | (simp; done) | (simp; omega)) _ | refine Ext.drewN ?_ _ | refine Ext.alloc ?_ _ | refine Ext.drew ?_ | refine Ext.trans ?_ (by assumption)))
          refine wpAnyH_take (i := 0) (oi := ?o1x0) (v := ?v1x0) ?hi1x0 (by kernel_rfl) ?hf1x0 ?hr1x0 (fun _ _ _ h => h) ?hy1x0 (by assumption) ?rest1x0
          case hi1x0 => (simp only [List.getElem?_toArray, List.getElem?_cons_zero]; exact rfl)
          case hf1x0 => kernel_rfl
          case hr1x0 => kernel_rfl
          case hy1x0 => (refine Or.inl ⟨by rfl, ?_⟩; intro w hSw; (try dsimp only at hSw); go_simp; try with_reducible rfl)
          simp only [put_mk, List.set_cons_succ, List.set_cons_zero]
          refine wpAnyH_take (i := 1) (oi := ?o1x1) (v := ?v1x1) ?hi1x1 (by kernel_rfl) ?hf1x1 ?hr1x1 (fun _ _ _ h => h) ?hy1x1 (by assumption) ?rest1x1
          case hi1x1 => (simp only [List.getElem?_toArray, List.getElem?_cons_succ, List.getElem?_cons_zero]; exact rfl)
          case hf1x1 => kernel_rfl
          case hr1x1 => kernel_rfl
          case hy1x1 => (refine Or.inl ⟨by rfl, ?_⟩; intro w hSw; (try dsimp only at hSw); go_simp; try with_reducible rfl)
          simp only [put_mk, List.set_cons_succ, List.set_cons_zero]
          refine wpAnyH_take (i := 2) (oi := ?o1x2) (v := ?v1x2) ?hi1x2 (by kernel_rfl) ?hf1x2 ?hr1x2 (fun _ _ _ h => h) ?hy1x2 (by assumption) ?rest1x2
          case hi1x2 => (simp only [List.getElem?_toArray, List.getElem?_cons_succ, List.getElem?_cons_zero]; exact rfl)
          case hf1x2 => kernel_rfl
          case hr1x2 => kernel_rfl
          case hy1x2 => (refine Or.inl ⟨by rfl, ?_⟩; intro w hSw; (try dsimp only at hSw); go_simp; try with_reducible rfl)
          simp only [put_mk, List.set_cons_succ, List.set_cons_zero]
          refine wpAnyH_take (i := 3) (oi := ?o1x3) (v := ?v1x3) ?hi1x3 (by kernel_rfl) ?hf1x3 ?hr1x3 (fun _ _ _ h => h) ?hy1x3 (by assumption) ?rest1x3
          case hi1x3 => (simp only [List.getElem?_toArray, List.getElem?_cons_succ, List.getElem?_cons_zero]; exact rfl)
          case hf1x3 => kernel_rfl
          case hr1x3 => kernel_rfl
          case hy1x3 => (refine Or.inl ⟨by rfl, ?_⟩; intro w hSw; (try dsimp only at hSw); go_simp; try with_reducible rfl)
          simp only [put_mk, List.set_cons_succ, List.set_cons_zero]
          refine wpAnyH_take (i := 4) (oi := ?o1x4) (v := ?v1x4) ?hi1x4 (by kernel_rfl) ?hf1x4 ?hr1x4 (fun _ _ _ h => h) ?hy1x4 (by assumption) ?rest1x4
          case hi1x4 => (simp only [List.getElem?_toArray, List.getElem?_cons_succ, List.getElem?_cons_zero]; exact rfl)
          case hf1x4 => kernel_rfl
          case hr1x4 => kernel_rfl
          case hy1x4 => (refine Or.inl ⟨by rfl, ?_⟩; intro w hSw; (try dsimp only at hSw); go_simp; try with_reducible rfl)
          simp only [put_mk, List.set_cons_succ, List.set_cons_zero]
          refine wpAnyH_take (i := 5) (oi := ?o1x5) (v := ?v1x5) ?hi1x5 (by kernel_rfl) ?hf1x5 ?hr1x5 (fun _ _ _ h => h) ?hy1x5 (by assumption) ?rest1x5
          case hi1x5 => (simp only [List.getElem?_toArray, List.getElem?_cons_succ, List.getElem?_cons_zero]; exact rfl)
          case hf1x5 => kernel_rfl
          case hr1x5 => kernel_rfl
          case hy1x5 => (refine Or.inl ⟨by rfl, ?_⟩; intro w hSw; (try dsimp only at hSw); go_simp; try with_reducible rfl)
          simp only [put_mk, List.set_cons_succ, List.set_cons_zero]
          refine wpAnyH_take (i := 6) (oi := ?o1x6) (v := ?v1x6) ?hi1x6 (by kernel_rfl) ?hf1x6 ?hr1x6 (fun _ _ _ h => h) ?hy1x6 (by assumption) ?rest1x6
          case hi1x6 => (simp only [List.getElem?_toArray, List.getElem?_cons_succ, List.getElem?_cons_zero]; exact rfl)
          case hf1x6 => kernel_rfl
          case hr1x6 => kernel_rfl
          case hy1x6 => (refine Or.inl ⟨by rfl, ?_⟩; intro w hSw; (try dsimp only at hSw); go_simp; try with_reducible rfl)
          simp only [put_mk, List.set_cons_succ, List.set_cons_zero]
          refine wpAnyH_take (i := 7) (oi := ?o1x7) (v := ?v1x7) ?hi1x7 (by kernel_rfl) ?hf1x7 ?hr1x7 (fun _ _ _ h => h) ?hy1x7 (by assumption) ?rest1x7
          case hi1x7 => (simp only [List.getElem?_toArray, List.getElem?_cons_succ, List.getElem?_cons_zero]; exact rfl)
          case hf1x7 => kernel_rfl
          case hr1x7 => kernel_rfl
          case hy1x7 => (refine Or.inl ⟨by rfl, ?_⟩; intro w hSw; (try dsimp only at hSw); go_simp; try with_reducible rfl)
          simp only [put_mk, List.set_cons_succ, List.set_cons_zero]
          refine wpAnyH_take (i := 8) (oi := ?o1x8) (v := ?v1x8) ?hi1x8 (by kernel_rfl) ?hf1x8 ?hr1x8 (fun _ _ _ h => h) ?hy1x8 (by assumption) ?rest1x8
          case hi1x8 => (simp only [List.getElem?_toArray, List.getElem?_cons_succ, List.getElem?_cons_zero]; exact rfl)
          case hf1x8 => kernel_rfl
          case hr1x8 => kernel_rfl
          case hy1x8 => (refine Or.inl ⟨by rfl, ?_⟩; intro w hSw; (try dsimp only at hSw); go_simp; try with_reducible rfl)
          simp only [put_mk, List.set_cons_succ, List.set_cons_zero]
          refine wpAnyH_take (i := 9) (oi := ?o1x9) (v := ?v1x9) ?hi1x9 (by kernel_rfl) ?hf1x9 ?hr1x9 (fun _ _ _ h => h) ?hy1x9 (by assumption) ?rest1x9
          case hi1x9 => (simp only [List.getElem?_toArray, List.getElem?_cons_succ, List.getElem?_cons_zero]; exact rfl)
          case hf1x9 => kernel_rfl
          case hr1x9 => kernel_rfl
          case hy1x9 => (refine Or.inl ⟨by rfl, ?_⟩; intro w hSw; (try dsimp only at hSw); go_simp; try with_reducible rfl)
          simp only [put_mk, List.set_cons_succ, List.set_cons_zero]
          refine wpAnyH_take (i := 10) (oi := ?o1x10) (v := ?v1x10) ?hi1x10 (by kernel_rfl) ?hf1x10 ?hr1x10 (fun _ _ _ h => h) ?hy1x10 (by assumption) ?rest1x10
          case hi1x10 => (simp only [List.getElem?_toArray, List.getElem?_cons_succ, List.getElem?_cons_zero]; exact rfl)
          case hf1x10 => kernel_rfl
          case hr1x10 => kernel_rfl
          case hy1x10 => (refine Or.inl ⟨by rfl, ?_⟩; intro w hSw; (try dsimp only at hSw); go_simp; try with_reducible rfl)
          simp only [put_mk, List.set_cons_succ, List.set_cons_zero]
          refine wpAnyH_ready (rs := [11]) (by kernel_rfl) (by simp) ?_
          refine AllReadyH.cons (o := ?o1x11) ?hi1x11 (fun K hK => ?_) AllReadyH.nil
          case hi1x11 => (simp only [List.getElem?_toArray, List.getElem?_cons_succ, List.getElem?_cons_zero]; exact rfl)
          go_simp
          refine ((HTq _ (hxw.trans hHeld)).out).mono ?_
          rintro e w9 ⟨rfl, hx9⟩
          refine hK.out _ _ ?_ (fun hHeld => ?_)
          · (repeat (first | exact Ext.refl _ | assumption | refine Ext.setCell ?_ (by first | (simp; done) | (simp; omega)) _ | refine Ext.drewN ?_ _ | refine Ext.alloc ?_ _ | refine Ext.drew ?_ | refine Ext.trans ?_ (by assumption)))
          clear hK K
          refine wpAnyH_take (i := 12) (oi := ?o1x12) (v := ?v1x12) ?hi1x12 (by kernel_rfl) ?hf1x12 ?hr1x12 (fun _ _ _ h => h) ?hy1x12 (by assumption) ?rest1x12
          case hi1x12 => (simp only [List.getElem?_toArray, List.getElem?_cons_succ, List.getElem?_cons_zero]; exact rfl)
          case hf1x12 => kernel_rfl
          case hr1x12 => kernel_rfl
          case hy1x12 => (refine Or.inl ⟨by rfl, ?_⟩; intro w hSw; (try dsimp only at hSw); go_simp; try with_reducible rfl)
          simp only [put_mk, List.set_cons_succ, List.set_cons_zero]
          refine wpAnyH_take (i := 13) (oi := ?o1x13) (v := ?v1x13) ?hi1x13 (by kernel_rfl) ?hf1x13 ?hr1x13 (fun _ _ _ h => h) ?hy1x13 (by assumption) ?rest1x13
          case hi1x13 => (simp only [List.getElem?_toArray, List.getElem?_cons_succ, List.getElem?_cons_zero]; exact rfl)
          case hf1x13 => kernel_rfl
          case hr1x13 => kernel_rfl
          case hy1x13 => (refine Or.inl ⟨by rfl, ?_⟩; intro w hSw; (try dsimp only at hSw); go_simp; try with_reducible rfl)
          simp only [put_mk, List.set_cons_succ, List.set_cons_zero]
          refine wpAnyH_take (i := 14) (oi := ?o1x14) (v := ?v1x14) ?hi1x14 (by kernel_rfl) ?hf1x14 ?hr1x14 (fun _ _ _ h => h) ?hy1x14 (by assumption) ?rest1x14
          case hi1x14 => (simp only [List.getElem?_toArray, List.getElem?_cons_succ, List.getElem?_cons_zero]; exact rfl)
          case hf1x14 => kernel_rfl
          case hr1x14 => kernel_rfl
          case hy1x14 => (refine Or.inl ⟨by rfl, ?_⟩; intro w hSw; (try dsimp only at hSw); go_simp; try with_reducible rfl)
          simp only [put_mk, List.set_cons_succ, List.set_cons_zero]
          refine wpAnyH_take (i := 15) (oi := ?o1x15) (v := ?v1x15) ?hi1x15 (by kernel_rfl) ?hf1x15 ?hr1x15 (fun _ _ _ h => h) ?hy1x15 (by assumption) ?rest1x15
          case hi1x15 => (simp only [List.getElem?_toArray, List.getElem?_cons_succ, List.getElem?_cons_zero]; exact rfl)
          case hf1x15 => kernel_rfl
          case hr1x15 => kernel_rfl
          case hy1x15 => (refine Or.inl ⟨by rfl, ?_⟩; intro w hSw; (try dsimp only at hSw); go_simp; try with_reducible rfl)
          simp only [put_mk, List.set_cons_succ, List.set_cons_zero]
          refine wpAnyH_take (i := 16) (oi := ?o1x16) (v := ?v1x16) ?hi1x16 (by kernel_rfl) ?hf1x16 ?hr1x16 (fun _ _ _ h => h) ?hy1x16 (by assumption) ?rest1x16
          case hi1x16 => (simp only [List.getElem?_toArray, List.getElem?_cons_succ, List.getElem?_cons_zero]; exact rfl)
          case hf1x16 => kernel_rfl
          case hr1x16 => kernel_rfl
          case hy1x16 => (refine Or.inl ⟨by rfl, ?_⟩; intro w hSw; (try dsimp only at hSw); go_simp; try with_reducible rfl)
          simp only [put_mk, List.set_cons_succ, List.set_cons_zero]
          refine wpAnyH_done (by kernel_rfl) ?_ _
          refine NoPanic.normal ?_
          have hx9w := hxw.trans hHeld
          have hx94 := hxq.trans hHeld
          clear c0' c1' d0' d1' f0 f1 f2 f3 f4 r0 r1 r2 r3 r4 r5
          cases hS : Sf j with
          | none =>
            have hf := HNi.out (by rw [HPi.out, Hpf.out, hS])
            have hp0 : pv = 0 := by rw [Hpv.out, hf]; rfl
            have he0 : ev = 11 := by rw [Hev.out, hf]; rfl
            subst hp0 he0
            simp only [Option.getD_none, Option.isSome_none]
            clear hf HPi HBi HSi HSk HNi Hpf Hev Hpv
            go_wp2
            go_ret
            exact ⟨by first | rfl | simp, hx9w⟩
          | some cst =>
            have hpn : Pf (j + 1) = some (fadd s cst) := by rw [HPi.out, Hpf.out, hS]
            obtain ⟨s1, s2⟩ := HBi.out
            obtain ⟨t1, t2⟩ := HSi.out cst hS
            have hcl := HSk.out cst hS
            simp only [Option.getD_some, Option.isSome_some]
            have hqb2 := hidA (And.intro hqb Hiq.out)
            rcases Nat.eq_zero_or_pos j with rfl | hj
            · have hs0 : s = 0 := by have h := Hpf.out; rw [hP0] at h; injection h with h; exact h.symm
              rw [hs0, add0 t1 t2 hcl] at hpn
              have Hpn := hidA hpn
              clear s1 s2 t1 t2 hcl hpn HPi HBi HSi HSk HNi
              go_wp2
              go_roundw
              case rel => exact ⟨2, cst, by omega, Hiq.out, (by first | rfl | go_num), rfl, Hpn.out, hx94⟩
              case measure => exact nx_2 hqb2.out.2
            · have q1 := fun (w : World) => run_float_arith (P := Try.prog) w .add 27 .f32 _ _ _ (fadd_ok s1 (t1.mono (by omega)) (by omega)).1
              have Hpn := hidA hpn
              have hj1 : ¬ ((j + 1 : Nat) : Int) = 1 := by omega
              have hj2 : (((j + 1 : Nat) : Int) == 1) = false := by simp; omega
              have hj3 : (j == 0) = false := by simp; omega
              clear s1 s2 t1 t2 hcl hpn HPi HBi HSi HSk HNi
              generalize fadd s cst = sn at *
              go_wp2
              go_roundw
              case rel => exact ⟨j + 1 + 1, sn, by omega, Hiq.out, (by first | rfl | go_num), rfl, Hpn.out, hx94⟩
              case measure => exact nx_m hqb2.out.2
        · obtain rfl : q = i := by omega
          have hp0 : pv = s := by rw [Hpv.out, hpf]; rfl
          have he0 : ev = 0 := by rw [Hev.out, hpf]; rfl
          subst hp0 he0
          clear hpf Hev Hpv
          go_wp2_with (go_at_call 22; refine ((HBt _ _).out).mono ?_; rintro e w9 ⟨rfl, hw9⟩; subst hw9)
          go_ret
          exact ⟨by first | rfl | simp, hxw⟩
theorem prices_walk (X Y W H : Int) (A : Option Addr) (n c : Nat) (lf : List Nat) (gr wt br de : Nat) (sp : Int) (C : Option Addr) (m cc : Nat) (X' Y' W' H' : Int) (l : List Nat) (B : Option Addr) (q d : Nat) (ps : List (Int × Int)) (w : World) (hn : lf.length = n) (hV : Rd w A (flt lf)) (hb : n ≤ 140737488351232) (hC : CoP w C m X' Y' W' H' l) (hm : m ≤ 140737488351232) (hl : ps.length = q) (hP : Rd w B (ptv ps)) (hq : q ≤ 140737488351232) (hqd : q ≤ d) :
    Calls Try.prog 4 #[.agg #[.int .i64 X, .int .i64 Y, .int .i64 W, .int .i64 H, .slice A n c], .agg #[.float .f32 gr, .float .f32 wt, .float .f32 br, .float .f32 de, .int .i64 sp, .slice C m cc], .slice B q d] w fun e w' => e = .returned (.bool true) ∧ Ext w w' := by
  by_cases hg : grndE X Y W H lf gr wt br de sp m X' Y' W' H' l = 0
  · obtain ⟨Wn, Hn, R, rfl, rfl, hr, hlN, hh, rfl, rfl, rfl, rfl, rfl, hR, hCo, hm1⟩ := grnd_ok hg hC
    by_cases ha : amtE q = 0
    · by_cases hin : ∀ p, p ∈ ps → InR X Y Wn Hn p.1 p.2
      · exact prices_good X Y Wn Hn A n c R C m cc lf X' Y' W' H' l B q d ps w hr (by omega) (by rw [← hn, hlN]; exact hR) hn (by rw [← hn, hlN]; exact hh) hV hCo hC hm hg hl hP hqd ha hin
      · have hi : insE X Y Wn Hn ps = 5 := by
          unfold insE
          rw [if_neg]
          intro h9
          exact hin fun p hp => of_decide_eq_true (List.all_eq_true.1 h9 p hp)
        refine prices_bad X Y Wn Hn A n c lf R.gr R.wt R.br R.de R.sp C m cc X' Y' W' H' l B q d ps w hn hV hb hC hm hl hP hq 5 (by decide) ?_ (fun w' h => ?_)
        · have h0 : wnt (grndE X Y Wn Hn lf R.gr R.wt R.br R.de R.sp m X' Y' W' H' l) q = 0 := by
            rw [hg]
            unfold wnt
            unfold amtE at ha
            split at ha
            · cases ha
            · rename_i h8
              split at ha
              · cases ha
              · rename_i h7
                rw [if_neg h8, if_neg h7]
                rfl
          rw [h0, wnI_zero, if_neg]
          intro h9
          refine hin fun p hp => ?_
          obtain ⟨j, hj, rfl⟩ := List.mem_iff_getElem.1 hp
          have h6 := h9 j (by omega)
          rw [hasB_ok hr.ok] at h6
          have h5 := of_decide_eq_true h6
          rw [show ps.getD j (0, 0) = ps[j] by simp [List.getD_eq_getElem?_getD, hj]] at h5
          exact h5
        · have h9 := Price_bad3 X Y Wn Hn A n c lf R.gr R.wt R.br R.de R.sp C m cc X' Y' W' H' l B q d w' hn (hV.ext h) hb (hC.ext h) hm ps hr.ok hl (hP.ext h) hq hg ha (by rw [hi]; decide)
          rw [hi] at h9
          exact h9
    · refine prices_bad X Y Wn Hn A n c lf R.gr R.wt R.br R.de R.sp C m cc X' Y' W' H' l B q d ps w hn hV hb hC hm hl hP hq _ ha ?_ (fun w' h => hidA (Price_bad2 X Y Wn Hn A n c lf R.gr R.wt R.br R.de R.sp C m cc X' Y' W' H' l B q d w' hn (hV.ext h) hb (hC.ext h) hm hg ha))
      have h0 : wnt (grndE X Y Wn Hn lf R.gr R.wt R.br R.de R.sp m X' Y' W' H' l) q = amtE q := by
        rw [hg]
        unfold wnt amtE
        by_cases h8 : q = 0
        · rw [if_pos h8, if_pos h8]; rfl
        · rw [if_neg h8, if_neg h8]
          by_cases h7 : 65536 < q
          · rw [if_pos h7]; rfl
          · rw [if_neg h7]; rfl
      rw [h0, wnI_ne ha]
  · refine prices_bad X Y W H A n c lf gr wt br de sp C m cc X' Y' W' H' l B q d ps w hn hV hb hC hm hl hP hq _ hg ?_ (fun w' h => hidA (Price_bad1 X Y W H A n c lf gr wt br de sp C m cc X' Y' W' H' l B q d w' hn (hV.ext h) hb (hC.ext h) hm hg))
    have h0 : wnt (grndE X Y W H lf gr wt br de sp m X' Y' W' H' l) q = grndE X Y W H lf gr wt br de sp m X' Y' W' H' l := by
      unfold wnt firstE
      rw [if_neg hg]
    rw [h0, wnI_ne hg]
end Go.Proofs.Ytpgdinpckolfpaa
