/- Contract: ground.step: what a step between two cells costs. -/
import Derived.Test.YtpgdinpckolfpaaRdJ
import Derived.Test.YtpgdinpckolfpaaGridB
import Derived.Test.YtpgdinpckolfpaaPlaces
namespace Go.Proofs.Ytpgdinpckolfpaa
open Go.RowKit
attribute [local go_sem ↓] Go.wp_at_zero Go.wp_at_succ
attribute [local go_sem] run_max4

/-- the greatest height between -/
def topN (V : Nat → Nat) (Wn Hn k d : Nat) : Nat → Nat
  | 0 => 3380609024
  | n + 1 => maxF (topN V Wn Hn k d n) (V ((besK Wn Hn k d (n + 1)).getD 0))
theorem topN_bd {V : Nat → Nat} {Wn Hn N k d : Nat} (hV : ∀ j, j < N → Bd 20 (V j)) (h0 : 0 < N) (hN : N = Wn * Hn) : ∀ n, Bd 20 (topN V Wn Hn k d n)
  | 0 => by unfold topN Bd; decide
  | n + 1 => by
    rw [topN]
    refine max_bd (topN_bd hV h0 hN n) (hV _ ?_)
    cases h : besK Wn Hn k d (n + 1) with
    | none => exact h0
    | some t => rw [hN]; exact besK_lt h
/-- columns and rows between two cells -/
def dX (Wn k t : Nat) : Int := ((t % Wn : Nat) : Int) - ((k % Wn : Nat) : Int)
def dY (Wn k t : Nat) : Int := ((t / Wn : Nat) : Int) - ((k / Wn : Nat) : Int)
/-- what the step from k to t costs -/
def stepF (R : RlR) (V : Nat → Nat) (Wn Hn k t : Nat) : Option Nat := match leapO (dX Wn k t) (dY Wn k t) with
  | none => none
  | some (d, n) => if n ≤ spanN R then costF R V k t d n (topN V Wn Hn k d (n - 1)) else none
def stV (o : Option Nat) : Value := .tuple #[.float .f32 (o.getD 0), .bool o.isSome]
theorem sgn_between {a s Wn : Int} {i n : Int} (hs : s = -1 ∨ s = 0 ∨ s = 1) (h1 : 0 ≤ a) (h2 : a < Wn) (h3 : 0 ≤ a + n * s) (h4 : a + n * s < Wn) (hi : 0 ≤ i) (hin : i ≤ n) : 0 ≤ a + i * s ∧ a + i * s < Wn := by
  rcases hs with rfl | rfl | rfl <;> omega
theorem leap_grid {Wn Hn k t d n : Nat} (hW : 1 ≤ Wn) (hk : k < Wn * Hn) (ht : t < Wn * Hn) (h : leapO (dX Wn k t) (dY Wn k t) = some (d, n)) : d < 8 ∧ 1 ≤ n ∧ (∀ i, i ≤ n → ∃ m, besK Wn Hn k d i = some m) ∧ besK Wn Hn k d n = some t := by
  obtain ⟨hd, hn, hx, hy⟩ := leapO_spec h
  unfold dX at hx
  unfold dY at hy
  obtain ⟨k1, k2⟩ := grid_facts hW hk
  obtain ⟨t1, t2⟩ := grid_facts hW ht
  obtain ⟨s1, s2, s3, s4⟩ := step_bd d
  have hdm := Nat.div_add_mod t Wn
  rw [Nat.mul_comm] at hdm
  unfold besK
  refine ⟨hd, hn, ?_⟩
  clear h hk ht hd
  generalize k % Wn = a at *
  generalize k / Wn = b at *
  generalize t % Wn = e at *
  generalize t / Wn = f at *
  generalize stepX d = sx at *
  generalize stepY d = sy at *
  obtain ⟨px, hpx⟩ : ∃ px, px = (n : Int) * sx := ⟨_, rfl⟩
  obtain ⟨py, hpy⟩ : ∃ py, py = (n : Int) * sy := ⟨_, rfl⟩
  rw [← hpx] at hx ⊢
  rw [← hpy] at hy ⊢
  have ex : (a : Int) + px = (e : Int) := by omega
  have ey : (b : Int) + py = (f : Int) := by omega
  refine ⟨fun i hi => ?_, ?_⟩
  · have A := sgn_between (a := (a : Int)) (s := sx) (Wn := (Wn : Int)) (i := (i : Int)) (n := (n : Int)) (by clear hpx hpy hdm; omega) (by clear hpx hpy hdm; omega) (by clear hpx hpy hdm; omega) (by rw [← hpx, ex]; clear hpx hpy hdm; omega) (by rw [← hpx, ex]; clear hpx hpy hdm; omega) (by clear hpx hpy hdm; omega) (by clear hpx hpy hdm; omega)
    have B := sgn_between (a := (b : Int)) (s := sy) (Wn := (Hn : Int)) (i := (i : Int)) (n := (n : Int)) (by clear hpx hpy hdm; omega) (by clear hpx hpy hdm; omega) (by clear hpx hpy hdm; omega) (by rw [← hpy, ey]; clear hpx hpy hdm; omega) (by rw [← hpy, ey]; clear hpx hpy hdm; omega) (by clear hpx hpy hdm; omega) (by clear hpx hpy hdm; omega)
    exact ⟨_, if_pos ⟨A.1, A.2, B.1, B.2⟩⟩
  · rw [ex, ey, if_pos ⟨by clear hpx hpy hdm; omega, by clear hpx hpy hdm; omega, by clear hpx hpy hdm; omega, by clear hpx hpy hdm; omega⟩]
    rw [Int.toNat_natCast, Int.toNat_natCast, hdm]
theorem pt_bd {X : Int} {a Wn : Nat} (h : a < Wn) (h3 : -4194304 ≤ X) (h4 : X + Wn ≤ 4194304) : -16777216 ≤ X + (a : Int) ∧ X + (a : Int) ≤ 16777216 := by omega
set_option maxRecDepth 100000 in
set_option maxHeartbeats 6400000 in
theorem gstep_any (X Y : Int) (Wn Hn : Nat) (A : Option Addr) (N c : Nat) (R : RlR) (C : Option Addr) (m cc k t : Nat) (l : List Nat) (w : World)
    (hr : Reg X Y Wn Hn) (hN : N = Wn * Hn) (hR : RlOk R N) (hl : l.length = N) (hh : ∀ j, j < N → Bd 20 (l.getD j 0)) (hk : k < N) (ht : t < N) (hV : Rd w A (flt l)) (hC : CoR w C m R.co) :
    Calls Try.prog 65 #[.agg (gcells X Y Wn Hn A N c R C m cc), .agg #[.int .i64 (X + ((k % Wn : Nat) : Int)), .int .i64 (Y + ((k / Wn : Nat) : Int))], .agg #[.int .i64 (X + ((t % Wn : Nat) : Int)), .int .i64 (Y + ((t / Wn : Nat) : Int))]] w fun e w' => e = .returned (stV (stepF R (fun j => l.getD j 0) Wn Hn k t)) ∧ Ext w w' := by
  obtain ⟨k1, k2⟩ := grid_facts hr.w1 (by rw [← hN]; exact hk)
  obtain ⟨t1, t2⟩ := grid_facts hr.w1 (by rw [← hN]; exact ht)


  have z3 := hr.x1
  have z4 := hr.x2
  have z5 := hr.y1
  have z6 := hr.y2
  have HBt := fun (w : World) => hidA (between_any (X + ((k % Wn : Nat) : Int)) (Y + ((k / Wn : Nat) : Int)) (X + ((t % Wn : Nat) : Int)) (Y + ((t / Wn : Nat) : Int)) w (pt_bd k1 z3 z4) (pt_bd k2 z5 z6) (pt_bd t1 z3 z4) (pt_bd t2 z5 z6))
  have ex : (X + ((t % Wn : Nat) : Int)) - (X + ((k % Wn : Nat) : Int)) = dX Wn k t := by unfold dX; omega
  have ey : (Y + ((t / Wn : Nat) : Int)) - (Y + ((k / Wn : Nat) : Int)) = dY Wn k t := by unfold dY; omega
  rw [ex, ey] at HBt
  have hin : InR X Y Wn Hn (placeK X Y Wn k).1 (placeK X Y Wn k).2 := placeK_in hr.ok (n := N) (by rw [hN, Int.natCast_mul]) hk
  have HPl := fun (w : World) => place_in X Y Wn Hn _ _ w hr.ok hin
  rw [cell_place (by have := hr.w1; omega)] at HPl
  unfold placeK at HPl
  simp only [Int.toNat_natCast] at HPl
  have HPl2 := fun (w : World) => hidA (HPl w)
  have HB := fun (d n : Nat) (w : World) (h1 : d < 8) (h2 : n ≤ 12) => hidA (bes_any X Y Wn Hn A N c R C m cc k d n w hr (by rw [← hN]; exact hk) h1 h2)
  have HCo := fun (d n top : Nat) (w : World) (h1 : d < 8) (h2 : 1 ≤ n) (h3 : n ≤ 12) (hV : Rd w A (flt l)) (hC : CoR w C m R.co) => hidA (cost_any X Y Wn Hn A N c R C m cc k t d n top l w hR hl hV hh hC hk ht h1 h2 h3)
  have HLg := hidA (fun d n => leap_grid (d := d) (n := n) hr.w1 (by rw [← hN]; exact hk) (by rw [← hN]; exact ht))
  have HTb := hidA (fun d n => topN_bd (V := fun j => l.getD j 0) (Wn := Wn) (Hn := Hn) (N := N) (k := k) (d := d) hh (by omega) hN n)
  have hst : stepF R (fun j => l.getD j 0) Wn Hn k t = match leapO (dX Wn k t) (dY Wn k t) with
    | none => none
    | some (d, n) => if n ≤ spanN R then costF R (fun j => l.getD j 0) k t d n (topN (fun j => l.getD j 0) Wn Hn k d (n - 1)) else none := rfl
  have HH := hidA hh
  have HN := hidA hN
  have Hl := hidA hl
  have hmx : (if (R.sp : Int) < 1 then (1 : Int) else (R.sp : Int)) = (spanN R : Int) := by unfold spanN; split <;> omega
  have Hsp := hidA (show 1 ≤ spanN R ∧ spanN R ≤ 12 from by have := hR.sp; unfold spanN; omega)
  have Ht := hidA ht
  generalize stepF R (fun j => l.getD j 0) Wn Hn k t = res at *
  have Hst := hidA hst
  clear hst HPl ex ey hin hr hN hR hl hh hk ht k1 k2 t1 t2 z3 z4 z5 z6
  generalize X + ((k % Wn : Nat) : Int) = px at *
  generalize Y + ((k / Wn : Nat) : Int) = py at *
  generalize X + ((t % Wn : Nat) : Int) = qx at *
  generalize Y + ((t / Wn : Nat) : Int) = qy at *
  unfold gcells at *
  go_enter Try.func65, Try.ntmps65
  go_upto_region 1 with fail
  obtain ⟨w0, hw0⟩ : ∃ w0, w0 = ((w.alloc (.cells #[.int .i64 X, .int .i64 Y, .int .i64 (Wn : Int), .int .i64 (Hn : Int), .slice A N c, .float .f32 R.gr, .float .f32 R.wt, .float .f32 R.br, .float .f32 R.de, .int .i64 (R.sp : Int), .slice C m cc] 115)).alloc (.cells #[.int .i64 px, .int .i64 py] 32)).alloc (.cells #[.int .i64 qx, .int .i64 qy] 32) := ⟨_, rfl⟩
  have kG : Bk w0 w.heap.size 115 #[.int .i64 X, .int .i64 Y, .int .i64 (Wn : Int), .int .i64 (Hn : Int), .slice A N c, .float .f32 R.gr, .float .f32 R.wt, .float .f32 R.br, .float .f32 R.de, .int .i64 (R.sp : Int), .slice C m cc] := by rw [hw0]; exact ((Bk.new' rfl).alloc _).alloc _
  have kA : Bk w0 (w.heap.size + 1) 32 #[.int .i64 px, .int .i64 py] := by rw [hw0]; exact (Bk.new' (by simp)).alloc _
  have kB : Bk w0 (w.heap.size + 1 + 1) 32 #[.int .i64 qx, .int .i64 qy] := by rw [hw0]; exact Bk.new' (by simp)
  have hx0 : Ext w w0 := by rw [hw0]; exact (((Ext.refl w).alloc _).alloc _).alloc _
  rw [← hw0]
  clear hw0
  generalize w.heap.size + 1 + 1 = h2 at *
  generalize w.heap.size + 1 = h1 at *
  generalize hge : w.heap.size = h0 at *
  clear hge
  have a0 := kA.cell 0
  have a1 := kA.cell 1
  have b0 := kB.cell 0
  have b1 := kB.cell 1
  have g9 := kG.cell 9
  cases hlp : leapO (dX Wn k t) (dY Wn k t) with
  | none =>
    have hres : Hid (res = none) := by have h := Hst.out; rw [hlp] at h; exact h
    unfold btV at HBt
    rw [hlp] at HBt
    simp only [] at HBt
    clear hlp
    go_wp2_with (go_at_call 78; refine ((HBt _).out).mono ?_; rintro e w3 ⟨rfl, hx3⟩)
    go_ret2
    exact ⟨by rw [hres.out]; rfl, hx0.trans (by repeat (first | exact Ext.refl _ | assumption | refine Ext.setCell ?_ (by first | (simp; done) | (simp; omega)) _ | refine Ext.drewN ?_ _ | refine Ext.alloc ?_ _ | refine Ext.drew ?_ | refine Ext.trans ?_ (by assumption)))⟩
  | some p =>
    obtain ⟨d, n⟩ := p
    have hres : Hid (res = if n ≤ spanN R then costF R (fun j => l.getD j 0) k t d n (topN (fun j => l.getD j 0) Wn Hn k d (n - 1)) else none) := by have h := Hst.out; rw [hlp] at h; exact h
    obtain ⟨hd8, hn1, hall, hbn⟩ := HLg.out d n hlp
    unfold btV at HBt
    rw [hlp] at HBt
    simp only [] at HBt
    clear hlp Hst HLg
    have dn : ¬ (d : Int) = -1 := by omega
    have db : ((d : Int) == -1) = false := by simp
    by_cases hns : n ≤ spanN R
    · have Hres := hidA (hres.out.trans (if_pos hns))
      have hns2 : ¬ (spanN R : Int) < (n : Int) := by omega
      have hns3 : ¬ spanN R < n := by omega
      have h12 : n ≤ 12 := by have := Hsp.out; omega
      have Hall := hidA hall
      have Hbn := hidA hbn
      clear hres hall hbn
      have KG := hidA kG
      go_upto_region 4 with (go_at_call 78; refine ((HBt _).out).mono ?_; rintro e w3 ⟨rfl, hx3⟩; have c9 := (KG.out.ext hx3).cell 9; have c0 := (KG.out.ext hx3).cell 0; have c1 := (KG.out.ext hx3).cell 1; have c2 := (KG.out.ext hx3).cell 2; have c3 := (KG.out.ext hx3).cell 3; have e0 := (kA.ext hx3).cell 0; have e1 := (kA.ext hx3).cell 1)
      go_upto_region 5 with (go_at_call 71; refine ((HPl2 _).out).mono ?_; rintro e w4 ⟨rfl, hx4⟩)
      have hx5 := (hx0.trans hx3).trans hx4
      have kG4 := (KG.out.ext hx3).ext hx4
      clear HBt HPl2 KG kA kB a0 a1 b0 b1 g9 hx3 hx4 hx0 kG e0 e1 c0 c1 c2 c3 c9 hns2 dn
      go_wp2
      go_loopw [12, 13] (fun s12 s13 wr => ∃ i : Nat, 1 ≤ i ∧ i ≤ n ∧ s13 = .int .i64 i ∧ s12 = .float .f32 (topN (fun j => l.getD j 0) Wn Hn k d (i - 1)) ∧ Ext w4 wr) (fun _ s13 _ => n - (intOf s13).toNat)
      case atStart => exact ⟨1, Nat.le_refl _, hn1, rfl, rfl, Ext.refl _⟩
      case round =>
        obtain ⟨i, hi1, hin, rfl, rfl, hx⟩ := hrel
        have kG5 := kG4.ext hx
        have g0 := kG5.cell 0
        have g1 := kG5.cell 1
        have g2 := kG5.cell 2
        have g3 := kG5.cell 3
        have g4 := kG5.cell 4
        have g5 := kG5.cell 5
        have g6 := kG5.cell 6
        have g7 := kG5.cell 7
        have g8 := kG5.cell 8
        have g9 := kG5.cell 9
        have g10 := kG5.cell 10
        by_cases hlt : i < n
        · have hi12 : i ≤ 12 := by omega
          have HBq := fun w => HB d i w hd8 hi12
          obtain ⟨m, hm⟩ := Hall.out i (by omega)
          have hmN : m < N := by rw [HN.out]; exact besK_lt hm
          have Hm := hidA hm
          rw [hm] at HBq
          simp only [nbV, Option.getD_some, Option.isSome_some] at HBq
          have hvt := HH.out m hmN
          have htop := HTb.out d (i - 1)
          have Htn := hidA (show topN (fun j => l.getD j 0) Wn Hn k d (i + 1 - 1) = maxF (topN (fun j => l.getD j 0) Wn Hn k d (i - 1)) (l.getD m 0) from by
            rw [Nat.add_sub_cancel, show i = (i - 1) + 1 by omega, topN, show i - 1 + 1 = i by omega, Hm.out]
            rfl)
          generalize topN (fun j => l.getD j 0) Wn Hn k d (i - 1) = top at *
          obtain ⟨ad, hA, hbk, cT⟩ := flt_at (hV.ext (hx5.trans hx)) (k := m) (by rw [Hl.out]; exact hmN)
          subst hA
          obtain ⟨vt, hv0⟩ : ∃ vt, vt = l.getD m 0 := ⟨_, rfl⟩
          rw [← hv0] at hvt cT Htn
          have hord : FloatKind.f32.format.order top vt = some (compare (valI top) (valI vt)) := by
            have h := ord_valI (bd_Fin htop (by omega)) (bd_Fin hvt (by omega))
            rw [← ord_def] at h
            exact h
          have qm := fun (ts : Array TypeId) (ty : TypeId) (w : World) => run_max_flo hord ts ty w
          have t0 : (0 : Int) ≤ m := by omega
          have t1 : (m : Int) < N := by omega
          have Hi1 := hidA hi1
          have Hlt := hidA hlt
          have kG6 := hidA kG5
          clear hm hord hvt hv0 htop hi1 hi12 hin hmN kG5
          go_upto_region 10 with (go_at_call 105; refine ((HBq _).out).mono ?_; rintro e w6 ⟨rfl, hx6⟩)
          have f4 := (kG6.out.ext hx6).cell 4
          have cT6 : w6.cell? (ad.add m) = some (.float .f32 vt) := by rw [← hx6.cell _ (by rw [add_block]; exact hbk)] at cT; exact cT
          clear g0 g1 g2 g3 g4 g5 g6 g7 g8 g9 g10 cT
          go_wp2
          go_roundw
          case rel => exact ⟨i + 1, by omega, Hlt.out, by go_num, by rw [Htn.out], hx.trans hx6⟩
          case measure => have := Hlt.out; simp [intOf]; omega
        · have hin2 : n = i := by omega
          subst hin2
          have hn12 : n ≤ 12 := h12
          have HBq := fun w => HB d n w hd8 hn12
          rw [Hbn.out] at HBq
          simp only [nbV, Option.getD_some, Option.isSome_some] at HBq
          have HCq := fun (w : World) (hx : Ext w4 w) => HCo d n (topN (fun j => l.getD j 0) Wn Hn k d (n - 1)) w hd8 hn1 hn12 (hV.ext (hx5.trans hx)) (hC.ext (hx5.trans hx))
          have KG := hidA kG5
          have Hhx := hidA hx
          clear kG5 hx hlt
          go_upto_region 13 with (first | (go_at_call 105; refine ((HBq _).out).mono ?_; rintro e w6 ⟨rfl, hx6⟩; have kG6 := KG.out.ext hx6; have e0 := kG6.cell 0; have e1 := kG6.cell 1; have e2 := kG6.cell 2; have e3 := kG6.cell 3; have e4 := kG6.cell 4; have e5 := kG6.cell 5; have e6 := kG6.cell 6; have e7 := kG6.cell 7; have e8 := kG6.cell 8; have e9 := kG6.cell 9; have e10 := kG6.cell 10) | (go_at_call 106; refine ((HCq _ (Hhx.out.trans hx6)).out).mono ?_; rintro e w7 ⟨v, b, rfl, hcf, hx7⟩))
          have Hcf := hidA (Hres.out.trans hcf)
          have hxe := hx5.trans (Hhx.out.trans (hx6.trans hx7))
          clear hcf
          cases b
          · go_wp2
            go_ret2
            exact ⟨by rw [Hcf.out]; rfl, hxe⟩
          · go_wp2
            go_ret2
            exact ⟨by rw [Hcf.out]; rfl, hxe⟩
    · have Hres := hidA (hres.out.trans (if_neg hns))
      have hns2 : (spanN R : Int) < (n : Int) := by omega
      have KG := hidA kG
      clear hres hall hbn hns
      go_wp2_with (go_at_call 78; refine ((HBt _).out).mono ?_; rintro e w3 ⟨rfl, hx3⟩; have c9 := (KG.out.ext hx3).cell 9)
      go_ret2
      exact ⟨by rw [Hres.out]; rfl, hx0.trans (by repeat (first | exact Ext.refl _ | assumption | refine Ext.setCell ?_ (by first | (simp; done) | (simp; omega)) _ | refine Ext.drewN ?_ _ | refine Ext.alloc ?_ _ | refine Ext.drew ?_ | refine Ext.trans ?_ (by assumption)))⟩
end Go.Proofs.Ytpgdinpckolfpaa
