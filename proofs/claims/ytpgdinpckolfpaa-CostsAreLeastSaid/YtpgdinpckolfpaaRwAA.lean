/- Contracts: road.StepCost. -/
import Derived.Test.YtpgdinpckolfpaaRdTA
import Derived.Test.YtpgdinpckolfpaaRdV
import Derived.RegionTactic
import Derived.BigRegion
import Derived.Deep.QuietTactic
import Derived.Test.YtpgdinpckolfpaaRdS
import Derived.Test.YtpgdinpckolfpaaRdT
namespace Go.Proofs.Ytpgdinpckolfpaa
open Go.RowKit
attribute [local go_sem ↓] Go.wp_at_zero Go.wp_at_succ

theorem cellK {X Y : Int} {Wn Hn N k : Nat} (hr : Reg X Y Wn Hn) (hN : N = Wn * Hn) (hk : k < N) (w : World) :
    Calls Try.prog 66 #[.agg #[.int .i64 X, .int .i64 Y, .int .i64 (Wn : Int), .int .i64 (Hn : Int)], .int .i64 (X + ((k % Wn : Nat) : Int)), .int .i64 (Y + ((k / Wn : Nat) : Int))] w fun e w' => e = .returned (.int .i64 (k : Int)) ∧ Ext w w' := by
  have hin : InR X Y Wn Hn (placeK X Y Wn k).1 (placeK X Y Wn k).2 := placeK_in hr.ok (n := N) (by rw [hN, Int.natCast_mul]) hk
  have h := cell_any X Y Wn Hn _ _ w hr.ok hin
  rw [cell_place (by have := hr.w1; omega)] at h
  unfold placeK at h
  simp only [Int.toNat_natCast] at h
  exact h
theorem geq_ltR {x y : Nat} (h : Fin x) (h2 : Fin y) : (FloatKind.f32.format.order x y == some .gt || FloatKind.f32.format.order x y == some .eq) = !lt x y := by
  have e := ord_valI h h2
  rw [← ord_def] at e
  rw [lt_val h h2, e]
  rcases Int.lt_trichotomy (valI x) (valI y) with h1 | h1 | h1
  · rw [Int.compare_eq_lt.2 h1, decide_eq_true h1]; rfl
  · rw [Int.compare_eq_eq.2 h1, decide_eq_false (by omega)]; rfl
  · rw [Int.compare_eq_gt.2 h1, decide_eq_false (by omega)]; rfl
theorem next_i {i n : Nat} (h : n ≤ 12) (h1 : i < n) : wrap64 ((i : Int) + 1) = ((i + 1 : Nat) : Int) := by
  rw [IntWalk.wrap64_in _ ⟨by omega, by omega⟩]; omega
theorem next_m {i n : Nat} (h : n ≤ 12) (h1 : i < n) : n - (intOf (.int .i64 (wrap64 ((i : Int) + 1)))).toNat < n - (intOf (.int .i64 (i : Int))).toNat := by
  rw [next_i h h1]
  simp [intOf]
  omega
theorem mul_sgn2 {n : Nat} {s : Int} (hn : n ≤ 12) (h1 : -1 ≤ s) (h2 : s ≤ 1) : -12 ≤ (n : Int) * s ∧ (n : Int) * s ≤ 12 := by
  have hs : s = -1 ∨ s = 0 ∨ s = 1 := by omega
  rcases hs with rfl | rfl | rfl <;> omega
set_option maxRecDepth 100000 in
set_option maxHeartbeats 6400000 in
theorem Toll_any (X Y : Int) (Wn Hn : Nat) (A : Option Addr) (N c : Nat) (R : RlR) (C : Option Addr) (m cc k t : Nat) (l : List Nat) (w : World)
    (hr : Reg X Y Wn Hn) (hN : N = Wn * Hn) (hR : RlOk R N) (hl : l.length = N) (hh : ∀ j, j < N → Bd 20 (l.getD j 0)) (hk : k < N) (ht : t < N) (hV : Rd w A (flt l)) (hC : CoR w C m R.co) :
    Calls Try.prog 21 #[.agg #[.int .i64 X, .int .i64 Y, .int .i64 (Wn : Int), .int .i64 (Hn : Int), .slice A N c], .agg #[.float .f32 R.gr, .float .f32 R.wt, .float .f32 R.br, .float .f32 R.de, .int .i64 (R.sp : Int), .slice C m cc], .agg #[.int .i64 (X + ((k % Wn : Nat) : Int)), .int .i64 (Y + ((k / Wn : Nat) : Int))], .agg #[.int .i64 (X + ((t % Wn : Nat) : Int)), .int .i64 (Y + ((t / Wn : Nat) : Int))]] w fun e w' => e = .returned (stV (stepF R (fun j => l.getD j 0) Wn Hn k t)) ∧ Ext w w' := by
  obtain ⟨k1, k2⟩ := grid_facts hr.w1 (by rw [← hN]; exact hk)
  obtain ⟨t1, t2⟩ := grid_facts hr.w1 (by rw [← hN]; exact ht)
  have z3 := hr.x1
  have z4 := hr.x2
  have z5 := hr.y1
  have z6 := hr.y2
  have HLp := fun (w : World) => hidA (Leap_any (X + ((k % Wn : Nat) : Int)) (Y + ((k / Wn : Nat) : Int)) (X + ((t % Wn : Nat) : Int)) (Y + ((t / Wn : Nat) : Int)) w (pt_bd k1 z3 z4) (pt_bd k2 z5 z6) (pt_bd t1 z3 z4) (pt_bd t2 z5 z6))
  have ex : (X + ((t % Wn : Nat) : Int)) - (X + ((k % Wn : Nat) : Int)) = dX Wn k t := by unfold dX; omega
  have ey : (Y + ((t / Wn : Nat) : Int)) - (Y + ((k / Wn : Nat) : Int)) = dY Wn k t := by unfold dY; omega
  rw [ex, ey] at HLp
  have HCk := fun (w : World) => hidA (cellK hr hN hk w)
  have HCt := fun (w : World) => hidA (cellK hr hN ht w)
  have HCb := hidA (fun (d i mm : Nat) (h : besK Wn Hn k d i = some mm) (w : World) => by
    have h1 := bes_cell (X := X) (Y := Y) h
    have h2 := cell_any X Y Wn Hn _ _ w hr.ok h1.1
    rw [h1.2] at h2
    exact h2)
  have HRe := fun (d n : Nat) (w : World) (h1 : d < 8) (h2 : 1 ≤ n) (h3 : n ≤ 12) => hidA (reachR_any d n w h1 h2 h3)
  have HSt := fun (d : Nat) (w : World) (h : d < 8) => hidA (step_any d w (by omega) (by omega))
  have HAb := fun (b : Nat) (w : World) (h : b < 4294967296) => hidA (refAbs_any b w h)
  have HLg := hidA (fun d n => leap_grid (d := d) (n := n) hr.w1 (by rw [← hN]; exact hk) (by rw [← hN]; exact ht))
  have HGe := hidA (fun d n j => top_ge (V := fun j => l.getD j 0) (Wn := Wn) (Hn := Hn) (N := N) (k := k) (d := d) hh (by omega) hN n j)
  have HLt := hidA (fun d x n => top_lt (V := fun j => l.getD j 0) (Wn := Wn) (Hn := Hn) (N := N) (k := k) (d := d) (x := x) hh (by omega) hN n)
  have HTb := hidA (fun d n => topN_bd (V := fun j => l.getD j 0) (Wn := Wn) (Hn := Hn) (N := N) (k := k) (d := d) hh (by omega) hN n)
  have hst : stepF R (fun j => l.getD j 0) Wn Hn k t = match leapO (dX Wn k t) (dY Wn k t) with
    | none => none
    | some (d, n) => if n ≤ spanN R then costF R (fun j => l.getD j 0) k t d n (topN (fun j => l.getD j 0) Wn Hn k d (n - 1)) else none := rfl
  have HG := hidA (fun long (h1 : Ge1 long) (h2 : long < 2147483648) => gr_ok (hh k hk) (hh t ht) h1 h2)
  have Hkv := hidA (hh k hk)
  have Htv := hidA (hh t ht)
  have HH := hidA hh
  have HN := hidA hN
  have Hl := hidA hl
  have Hsp := hidA (show 1 ≤ spanN R ∧ spanN R ≤ 12 from by have := hR.sp; unfold spanN; omega)
  have Hsv := hidA (show spanN R = max R.sp 1 from rfl)
  have Hlo := hidA (show valI 3380609024 ≤ valI 3380609024 from Int.le_refl _)
  have HR := hidA hR
  have Ht := hidA ht
  have Hk := hidA hk
  have Hpl := hidA (show (-16777216 ≤ X + ((k % Wn : Nat) : Int) ∧ X + ((k % Wn : Nat) : Int) ≤ 16777216) ∧ -16777216 ≤ Y + ((k / Wn : Nat) : Int) ∧ Y + ((k / Wn : Nat) : Int) ≤ 16777216 from ⟨pt_bd k1 z3 z4, pt_bd k2 z5 z6⟩)
  have k0 : (0 : Int) ≤ k := by omega
  have kN : (k : Int) < N := by omega
  have t0 : (0 : Int) ≤ t := by omega
  have tN : (t : Int) < N := by omega
  have hgf : ∀ d n, costF R (fun j => l.getD j 0) k t d n (topN (fun j => l.getD j 0) Wn Hn k d (n - 1)) = if gt (grF (l.getD k 0) (l.getD t 0) (lenR d n)) R.gr = true then none
      else if 1 < n then if lt (topN (fun j => l.getD j 0) Wn Hn k d (n - 1)) (l.getD k 0) = true ∧ lt (topN (fun j => l.getD j 0) Wn Hn k d (n - 1)) (l.getD t 0) = true then some (costB R (lenR d n)) else none
      else some (costC R (costN R (lenR d n) (grF (l.getD k 0) (l.getD t 0) (lenR d n))) t) := fun d n => rfl
  have HCf := hidA hgf
  have HS1 := hidA (fun (s : Nat) (h1 : Bd 24 s) (h2 : 0 ≤ valI s) hg => steep_ok (s := s) hR h1 h2 hg)
  have HC1 := hidA (fun (l' : List Nat) (cN : Nat) (h : R.co = some l') (b5 : Bd 40 cN) (b6 : 2 ^ 149 ≤ valI cN) => costC_ok (c := cN) (t := t) hR h ht b5 b6)
  have HCR := hidA hC
  generalize stepF R (fun j => l.getD j 0) Wn Hn k t = res at *
  have Hst := hidA hst
  obtain ⟨adA, rfl, hbA, ca⟩ := flt_at hV (k := k) (by omega)
  obtain ⟨adA', eA, _, cb⟩ := flt_at hV (k := t) (by omega)
  injection eA with eA
  subst eA
  have HVA := hidA hV
  have ca' : ∀ w', Ext w w' → w'.cell? (adA.add k) = some (.float .f32 (l.getD k 0)) := fun w' h => (h.cell _ (by rw [add_block]; exact hbA)).trans ca
  have cb' : ∀ w', Ext w w' → w'.cell? (adA.add t) = some (.float .f32 (l.getD t 0)) := fun w' h => (h.cell _ (by rw [add_block]; exact hbA)).trans cb
  clear hst hgf ca cb ex ey hr hN hR hl hh hk ht k1 k2 t1 t2 z3 z4 z5 z6 hV hC hbA
  generalize hva : l.getD k 0 = va at *
  generalize hvb : l.getD t 0 = vb at *
  have Hva := hidA hva
  have Hvb := hidA hvb
  clear hva hvb
  clear Hlo
  generalize X + ((k % Wn : Nat) : Int) = px at *
  generalize Y + ((k / Wn : Nat) : Int) = py at *
  generalize X + ((t % Wn : Nat) : Int) = qx at *
  generalize Y + ((t / Wn : Nat) : Int) = qy at *
  go_enter Try.func21, Try.ntmps21
  go_upto_region 1 with fail
  obtain ⟨w0, hw0⟩ : ∃ w0, w0 = (((w.alloc (.cells #[.int .i64 X, .int .i64 Y, .int .i64 (Wn : Int), .int .i64 (Hn : Int), .slice (some adA) N c] 26)).alloc (.cells #[.float .f32 R.gr, .float .f32 R.wt, .float .f32 R.br, .float .f32 R.de, .int .i64 (R.sp : Int), .slice C m cc] 30)).alloc (.cells #[.int .i64 px, .int .i64 py] 32)).alloc (.cells #[.int .i64 qx, .int .i64 qy] 32) := ⟨_, rfl⟩
  have kF : Bk w0 w.heap.size 26 #[.int .i64 X, .int .i64 Y, .int .i64 (Wn : Int), .int .i64 (Hn : Int), .slice (some adA) N c] := by rw [hw0]; exact (((Bk.new' rfl).alloc _).alloc _).alloc _
  have kR : Bk w0 (w.heap.size + 1) 30 #[.float .f32 R.gr, .float .f32 R.wt, .float .f32 R.br, .float .f32 R.de, .int .i64 (R.sp : Int), .slice C m cc] := by rw [hw0]; exact ((Bk.new' (by simp)).alloc _).alloc _
  have kA : Bk w0 (w.heap.size + 1 + 1) 32 #[.int .i64 px, .int .i64 py] := by rw [hw0]; exact (Bk.new' (by simp)).alloc _
  have kB : Bk w0 (w.heap.size + 1 + 1 + 1) 32 #[.int .i64 qx, .int .i64 qy] := by rw [hw0]; exact Bk.new' (by simp)
  have hx0 : Ext w w0 := by rw [hw0]; exact ((((Ext.refl w).alloc _).alloc _).alloc _).alloc _
  rw [← hw0]
  clear hw0
  generalize w.heap.size + 1 + 1 + 1 = hb at *
  generalize w.heap.size + 1 + 1 = ha at *
  generalize w.heap.size + 1 = hr at *
  generalize hge : w.heap.size = hf at *
  clear hge
  have KF := hidA kF
  have KR := hidA kR
  have KA := hidA kA
  have KB := hidA kB
  have a0 := kA.cell 0
  have a1 := kA.cell 1
  have b0 := kB.cell 0
  have b1 := kB.cell 1
  clear kF kR kA kB
  cases hlp : leapO (dX Wn k t) (dY Wn k t) with
  | none =>
    have hres : Hid (res = none) := by have h := Hst.out; rw [hlp] at h; exact h
    unfold lpV at HLp
    rw [hlp] at HLp
    simp only [] at HLp
    clear hlp
    go_wp2_with (go_at_call 36; refine ((HLp _).out).mono ?_; rintro e w3 ⟨rfl, hx3⟩)
    go_ret2
    exact ⟨by rw [hres.out]; rfl, hx0.trans (by repeat (first | exact Ext.refl _ | assumption | refine Ext.setCell ?_ (by first | (simp; done) | (simp; omega)) _ | refine Ext.drewN ?_ _ | refine Ext.alloc ?_ _ | refine Ext.drew ?_ | refine Ext.trans ?_ (by assumption)))⟩
  | some p =>
    obtain ⟨d, n⟩ := p
    have hres : Hid (res = if n ≤ spanN R then costF R (fun j => l.getD j 0) k t d n (topN (fun j => l.getD j 0) Wn Hn k d (n - 1)) else none) := by have h := Hst.out; rw [hlp] at h; exact h
    obtain ⟨hd8, hn1, hall, hbn⟩ := HLg.out d n hlp
    unfold lpV at HLp
    rw [hlp] at HLp
    simp only [] at HLp
    clear hlp Hst HLg hbn
    have Hall := hidA hall
    clear hall
    by_cases hns : n ≤ spanN R
    · have h12 : n ≤ 12 := by have := Hsp.out; omega
      have HT := hidA ((hres.out.trans (if_pos hns)).trans (HCf.out d n))
      have HRq := fun (w : World) => HRe d n w hd8 hn1 h12
      obtain ⟨l1, l2, l3⟩ := len_ok (d := d) hn1 h12
      have l4 := len_val (d := d) hn1 h12
      obtain ⟨g1, g2, g3, g4, g5⟩ := HG.out _ l1 l3
      have B1 := hidA (costB_ok HR.out l2 l4)
      have S1 := hidA (fun hg => HS1.out _ g4 g5 hg)
      have N1 := hidA (fun hs => costN_ok (s := grF va vb (lenR d n)) HR.out l2 l4 hs g5)
      have hab : fsub vb va < 4294967296 := bits_lt g1 (by simp)
      have HAq := fun (w : World) => HAb _ w hab
      have q1 := fun (w : World) => run_float_arith (P := Try.prog) w .sub 27 .f32 _ _ _ g1
      have q2 := fun (w : World) => run_float_arith (P := Try.prog) w .quo 27 .f32 _ _ _ g3
      have Hd8 := hidA hd8
      have H12 := hidA h12
      have Hnsp := hidA (show 1 < n → n ≤ R.sp from fun h => by have := Hsv.out; omega)
      clear hres g1 g2 g3 g4 g5 l1 l2 l3 l4 hab HAb HG HS1 HRe HCf hns h12 hd8
      generalize hst : grF va vb (lenR d n) = st at *
      generalize hlo : lenR d n = long at *
      clear hst hlo
      generalize absB (fsub vb va) = dab at *
      generalize fsub vb va = dif at *
      rcases Nat.lt_or_ge 1 n with hnn | hnn
      · -- a bridge
        have hn' : (1 : Int) < n := by omega
        have hn0 : ¬ (n : Int) = 0 := by omega
        have hnb : ((n : Int) == 0) = false := by simp; omega
        have hsp' : ¬ (R.sp : Int) < n := by have := Hnsp.out hnn; omega
        have hd1 : decide ((1 : Int) < n) = true := by simpa using hn'
        have hd2 : decide ((R.sp : Int) < n) = false := by simpa using hsp'
        go_upto_region 4 with (go_at_call 36; refine ((HLp _).out).mono ?_; rintro e w1 ⟨rfl, hx1⟩; have r4 := (KR.out.ext hx1).cell 4)
        clear a0 a1 b0 b1 HLp r4
        have hx01 := hx0.trans hx1
        have KF1 := hidA (KF.out.ext hx1)
        have KR1 := hidA (KR.out.ext hx1)
        have KA1 := hidA (KA.out.ext hx1)
        have e0 : ∀ w', Ext w1 w' → w'.cell? ⟨hf, 0, none⟩ = some (.int .i64 X) := fun w' h => (KF1.out.ext h).cell 0
        have e1 : ∀ w', Ext w1 w' → w'.cell? ⟨hf, 1, none⟩ = some (.int .i64 Y) := fun w' h => (KF1.out.ext h).cell 1
        have e2 : ∀ w', Ext w1 w' → w'.cell? ⟨hf, 2, none⟩ = some (.int .i64 (Wn : Int)) := fun w' h => (KF1.out.ext h).cell 2
        have e3 : ∀ w', Ext w1 w' → w'.cell? ⟨hf, 3, none⟩ = some (.int .i64 (Hn : Int)) := fun w' h => (KF1.out.ext h).cell 3
        have e4 : ∀ w', Ext w1 w' → w'.cell? ⟨ha, 0, none⟩ = some (.int .i64 px) := fun w' h => (KA1.out.ext h).cell 0
        have e5 : ∀ w', Ext w1 w' → w'.cell? ⟨ha, 1, none⟩ = some (.int .i64 py) := fun w' h => (KA1.out.ext h).cell 1
        have e6 : ∀ w', Ext w1 w' → w'.cell? ⟨hb, 0, none⟩ = some (.int .i64 qx) := fun w' h => ((KB.out.ext hx1).ext h).cell 0
        have e7 : ∀ w', Ext w1 w' → w'.cell? ⟨hb, 1, none⟩ = some (.int .i64 qy) := fun w' h => ((KB.out.ext hx1).ext h).cell 1
        clear KF KR KA
        go_cut [12, 13] from 28 to 53 (fun s12 s13 wx => s12 = Value.int .i64 (k : Int) ∧ s13 = Value.int .i64 (t : Int) ∧ Ext w1 wx)
        case first =>
          refine wp_region_noPanic ?_
          refine wp_region_held_drew (S := fun w' => Ext w1 w') (by kernel_rfl) ?_ (fun hHeld => ?_)
          · (repeat (first | exact Ext.refl _ | assumption | refine Ext.setCell ?_ (by first | (simp; done) | (simp; omega)) _ | refine Ext.drewN ?_ _ | refine Ext.alloc ?_ _ | refine Ext.drew ?_ | refine Ext.trans ?_ (by assumption)))
          refine wpAnyH_take (i := 0) (oi := ?o3x0) (v := ?v3x0) ?hi3x0 (by kernel_rfl) ?hf3x0 ?hr3x0 (fun _ _ _ h => h) ?hy3x0 (by assumption) ?rest3x0
          case hi3x0 => (simp only [List.getElem?_toArray, List.getElem?_cons_zero]; exact rfl)
          case hf3x0 => kernel_rfl
          case hr3x0 => kernel_rfl
          case hy3x0 => (refine Or.inl ⟨by rfl, ?_⟩; intro w hSw; (try dsimp only at hSw); go_simp; try with_reducible rfl)
          simp only [put_mk, List.set_cons_succ, List.set_cons_zero]
          refine wpAnyH_take (i := 1) (oi := ?o4x1) (v := ?v4x1) ?hi4x1 (by kernel_rfl) ?hf4x1 ?hr4x1 (fun _ _ _ h => h) ?hy4x1 (by assumption) ?rest4x1
          case hi4x1 => (simp only [List.getElem?_toArray, List.getElem?_cons_succ, List.getElem?_cons_zero]; exact rfl)
          case hf4x1 => kernel_rfl
          case hr4x1 => kernel_rfl
          case hy4x1 => (refine Or.inl ⟨by rfl, ?_⟩; intro w hSw; (try dsimp only at hSw); go_simp; try with_reducible rfl)
          simp only [put_mk, List.set_cons_succ, List.set_cons_zero]
          refine wpAnyH_take (i := 2) (oi := ?o5x2) (v := ?v5x2) ?hi5x2 (by kernel_rfl) ?hf5x2 ?hr5x2 (fun _ _ _ h => h) ?hy5x2 (by assumption) ?rest5x2
          case hi5x2 => (simp only [List.getElem?_toArray, List.getElem?_cons_succ, List.getElem?_cons_zero]; exact rfl)
          case hf5x2 => kernel_rfl
          case hr5x2 => kernel_rfl
          case hy5x2 => (refine Or.inl ⟨by rfl, ?_⟩; intro w hSw; (try dsimp only at hSw); go_simp; try with_reducible rfl)
          simp only [put_mk, List.set_cons_succ, List.set_cons_zero]
          refine wpAnyH_take (i := 3) (oi := ?o6x3) (v := ?v6x3) ?hi6x3 (by kernel_rfl) ?hf6x3 ?hr6x3 (fun _ _ _ h => h) ?hy6x3 (by assumption) ?rest6x3
          case hi6x3 => (simp only [List.getElem?_toArray, List.getElem?_cons_succ, List.getElem?_cons_zero]; exact rfl)
          case hf6x3 => kernel_rfl
          case hr6x3 => kernel_rfl
          case hy6x3 => (refine Or.inl ⟨by rfl, ?_⟩; intro w hSw; (try dsimp only at hSw); go_simp; try with_reducible rfl)
          simp only [put_mk, List.set_cons_succ, List.set_cons_zero]
          refine wpAnyH_take (i := 4) (oi := ?o7x4) (v := ?v7x4) ?hi7x4 (by kernel_rfl) ?hf7x4 ?hr7x4 (fun _ _ _ h => h) ?hy7x4 (by assumption) ?rest7x4
          case hi7x4 => (simp only [List.getElem?_toArray, List.getElem?_cons_succ, List.getElem?_cons_zero]; exact rfl)
          case hf7x4 => kernel_rfl
          case hr7x4 => kernel_rfl
          case hy7x4 => (refine Or.inl ⟨by rfl, ?_⟩; intro w hSw; (try dsimp only at hSw); go_simp; try with_reducible rfl)
          simp only [put_mk, List.set_cons_succ, List.set_cons_zero]
          refine wpAnyH_take (i := 5) (oi := ?o8x5) (v := ?v8x5) ?hi8x5 (by kernel_rfl) ?hf8x5 ?hr8x5 (fun _ _ _ h => h) ?hy8x5 (by assumption) ?rest8x5
          case hi8x5 => (simp only [List.getElem?_toArray, List.getElem?_cons_succ, List.getElem?_cons_zero]; exact rfl)
          case hf8x5 => kernel_rfl
          case hr8x5 => kernel_rfl
          case hy8x5 => (refine Or.inl ⟨by rfl, ?_⟩; intro w hSw; (try dsimp only at hSw); go_simp; try with_reducible rfl)
          simp only [put_mk, List.set_cons_succ, List.set_cons_zero]
          refine wpAnyH_take (i := 7) (oi := ?o9x7) (v := ?v9x7) ?hi9x7 (by kernel_rfl) ?hf9x7 ?hr9x7 (fun _ _ _ h => h) ?hy9x7 (by assumption) ?rest9x7
          case hi9x7 => (simp only [List.getElem?_toArray, List.getElem?_cons_succ, List.getElem?_cons_zero]; exact rfl)
          case hf9x7 => kernel_rfl
          case hr9x7 => kernel_rfl
          case hy9x7 => (refine Or.inl ⟨by rfl, ?_⟩; intro w hSw; (try dsimp only at hSw); go_simp; try with_reducible rfl)
          simp only [put_mk, List.set_cons_succ, List.set_cons_zero]
          refine wpAnyH_take (i := 8) (oi := ?o10x8) (v := ?v10x8) ?hi10x8 (by kernel_rfl) ?hf10x8 ?hr10x8 (fun _ _ _ h => h) ?hy10x8 (by assumption) ?rest10x8
          case hi10x8 => (simp only [List.getElem?_toArray, List.getElem?_cons_succ, List.getElem?_cons_zero]; exact rfl)
          case hf10x8 => kernel_rfl
          case hr10x8 => kernel_rfl
          case hy10x8 => (refine Or.inl ⟨by rfl, ?_⟩; intro w hSw; (try dsimp only at hSw); go_simp; try with_reducible rfl)
          simp only [put_mk, List.set_cons_succ, List.set_cons_zero]
          refine wpAnyH_take (i := 9) (oi := ?o11x9) (v := ?v11x9) ?hi11x9 (by kernel_rfl) ?hf11x9 ?hr11x9 (fun _ _ _ h => h) ?hy11x9 (by assumption) ?rest11x9
          case hi11x9 => (simp only [List.getElem?_toArray, List.getElem?_cons_succ, List.getElem?_cons_zero]; exact rfl)
          case hf11x9 => kernel_rfl
          case hr11x9 => kernel_rfl
          case hy11x9 => (refine Or.inl ⟨by rfl, ?_⟩; intro w hSw; (try dsimp only at hSw); go_simp; try with_reducible rfl)
          simp only [put_mk, List.set_cons_succ, List.set_cons_zero]
          refine wpAnyH_take (i := 10) (oi := ?o12x10) (v := ?v12x10) ?hi12x10 (by kernel_rfl) ?hf12x10 ?hr12x10 (fun _ _ _ h => h) ?hy12x10 (by assumption) ?rest12x10
          case hi12x10 => (simp only [List.getElem?_toArray, List.getElem?_cons_succ, List.getElem?_cons_zero]; exact rfl)
          case hf12x10 => kernel_rfl
          case hr12x10 => kernel_rfl
          case hy12x10 => (refine Or.inl ⟨by rfl, ?_⟩; intro w hSw; (try dsimp only at hSw); go_simp; try with_reducible rfl)
          simp only [put_mk, List.set_cons_succ, List.set_cons_zero]
          refine wpAnyH_take (i := 11) (oi := ?o13x11) (v := ?v13x11) ?hi13x11 (by kernel_rfl) ?hf13x11 ?hr13x11 (fun _ _ _ h => h) ?hy13x11 (by assumption) ?rest13x11
          case hi13x11 => (simp only [List.getElem?_toArray, List.getElem?_cons_succ, List.getElem?_cons_zero]; exact rfl)
          case hf13x11 => kernel_rfl
          case hr13x11 => kernel_rfl
          case hy13x11 => (refine Or.inl ⟨by rfl, ?_⟩; intro w hSw; (try dsimp only at hSw); go_simp; try with_reducible rfl)
          simp only [put_mk, List.set_cons_succ, List.set_cons_zero]
          refine wpAnyH_take (i := 12) (oi := ?o14x12) (v := ?v14x12) ?hi14x12 (by kernel_rfl) ?hf14x12 ?hr14x12 (fun _ _ _ h => h) ?hy14x12 (by assumption) ?rest14x12
          case hi14x12 => (simp only [List.getElem?_toArray, List.getElem?_cons_succ, List.getElem?_cons_zero]; exact rfl)
          case hf14x12 => kernel_rfl
          case hr14x12 => kernel_rfl
          case hy14x12 => (refine Or.inl ⟨by rfl, ?_⟩; intro w hSw; (try dsimp only at hSw); go_simp; try with_reducible rfl)
          simp only [put_mk, List.set_cons_succ, List.set_cons_zero]
          refine wpAnyH_ready (rs := [6]) (by kernel_rfl) (by simp) ?_
          refine AllReadyH.cons (o := ?o15x6) ?hi15x6 (fun K hK => ?_) AllReadyH.nil
          case hi15x6 => (simp only [List.getElem?_toArray, List.getElem?_cons_succ, List.getElem?_cons_zero]; exact rfl)
          go_simp
          refine ((HCk _).out).mono ?_
          rintro e wk ⟨rfl, hxk⟩
          refine hK.out _ _ ?_ (fun hHeld => ?_)
          · (repeat (first | exact Ext.refl _ | assumption | refine Ext.setCell ?_ (by first | (simp; done) | (simp; omega)) _ | refine Ext.drewN ?_ _ | refine Ext.alloc ?_ _ | refine Ext.drew ?_ | refine Ext.trans ?_ (by assumption)))
          clear hK K
          refine wpAnyH_ready (rs := [13]) (by kernel_rfl) (by simp) ?_
          refine AllReadyH.cons (o := ?o16x13) ?hi16x13 (fun K hK => ?_) AllReadyH.nil
          case hi16x13 => (simp only [List.getElem?_toArray, List.getElem?_cons_succ, List.getElem?_cons_zero]; exact rfl)
          go_simp
          refine ((HCt _).out).mono ?_
          rintro e wk ⟨rfl, hxk⟩
          refine hK.out _ _ ?_ (fun hHeld => ?_)
          · (repeat (first | exact Ext.refl _ | assumption | refine Ext.setCell ?_ (by first | (simp; done) | (simp; omega)) _ | refine Ext.drewN ?_ _ | refine Ext.alloc ?_ _ | refine Ext.drew ?_ | refine Ext.trans ?_ (by assumption)))
          clear hK K
          refine wpAnyH_take (i := 14) (oi := ?o17x14) (v := ?v17x14) ?hi17x14 (by kernel_rfl) ?hf17x14 ?hr17x14 (fun _ _ _ h => h) ?hy17x14 (by assumption) ?rest17x14
          case hi17x14 => (simp only [List.getElem?_toArray, List.getElem?_cons_succ, List.getElem?_cons_zero]; exact rfl)
          case hf17x14 => kernel_rfl
          case hr17x14 => kernel_rfl
          case hy17x14 => (refine Or.inl ⟨by rfl, ?_⟩; intro w hSw; (try dsimp only at hSw); go_simp; try with_reducible rfl)
          simp only [put_mk, List.set_cons_succ, List.set_cons_zero]
          refine wpAnyH_take (i := 15) (oi := ?o18x15) (v := ?v18x15) ?hi18x15 (by kernel_rfl) ?hf18x15 ?hr18x15 (fun _ _ _ h => h) ?hy18x15 (by assumption) ?rest18x15
          case hi18x15 => (simp only [List.getElem?_toArray, List.getElem?_cons_succ, List.getElem?_cons_zero]; exact rfl)
          case hf18x15 => kernel_rfl
          case hr18x15 => kernel_rfl
          case hy18x15 => (refine Or.inl ⟨by rfl, ?_⟩; intro w hSw; (try dsimp only at hSw); go_simp; try with_reducible rfl)
          simp only [put_mk, List.set_cons_succ, List.set_cons_zero]
          refine wpAnyH_done (by kernel_rfl) ?_ _
          refine NoPanic.normal ?_
          go_wp2_with fail
          go_meet
          case rel => exact ⟨rfl, rfl, (by assumption)⟩
        case rest =>
          obtain ⟨rfl, rfl, hx2⟩ := hcut
          have hx02 := hx01.trans hx2
          have KF2 := hidA (KF1.out.ext hx2)
          have KR2 := hidA (KR1.out.ext hx2)
          have KA2 := hidA (KA1.out.ext hx2)
          clear e0 e1 e2 e3 e4 e5 e6 e7 HCk HCt KB KF1 KR1 KA1 hx01 hx0 hx1 hx2
          have f4 := KF2.out.cell 4
          have c0 := ca' _ hx02
          have c1 := cb' _ hx02
          go_upto_region 6 with (go_at_call 67; refine ((HRq _).out).mono ?_; rintro e w3 ⟨rfl, hw⟩; subst hw)
          go_quiet ((go_at_call 52; exact Calls.quiet_of_same (HAq _).out))
          have hx3 := hx02.drewN nq
          have KF3 := hidA (KF2.out.ext ((Ext.refl w3).drewN nq))
          have KR3 := hidA (KR2.out.ext ((Ext.refl w3).drewN nq))
          have KA3 := hidA (KA2.out.ext ((Ext.refl w3).drewN nq))
          clear f4 c0 c1 q1 q2 KF2 KR2 KA2 hx02 HRq HAq
          generalize w3.drewN nq = w5 at *
          have r0 := KR3.out.cell 0
          cases hg : gt st R.gr
          · have hg' : (FloatKind.f32.format.order st R.gr == some .gt) = false := hg
            have hst := S1.out hg
            rw [hg] at HT
            clear S1 hg
            have hd8 := Hd8.out
            have HSq := fun (w : World) => HSt d w hd8
            clear HSt N1 HC1 HCR
            go_upto_region 11 with (go_at_call 37; refine ((HSq _).out).mono ?_; rintro e w4 ⟨rfl, hx4⟩)
            have hx34 := hx3.trans hx4
            have KF4 := hidA (KF3.out.ext hx4)
            have KR4 := hidA (KR3.out.ext hx4)
            have KA4 := hidA (KA3.out.ext hx4)
            have Hca := hidA ca'
            have Hcb := hidA cb'
            clear r0 KF3 KR3 KA3 hg' HSq hst ca' cb'
            have Hnn := hidA hnn
            obtain ⟨sx, hsx⟩ : ∃ sx, sx = stepX (d : Int) := ⟨_, rfl⟩
            obtain ⟨sy, hsy⟩ : ∃ sy, sy = stepY (d : Int) := ⟨_, rfl⟩
            have hsb := step_bd (d : Int)
            rw [← hsx, ← hsy] at hsb ⊢
            have HCq := hidA (fun (i mm : Nat) (h : besK Wn Hn k d i = some mm) (w : World) => by
              have h1 := HCb.out d i mm h w
              rw [← hsx, ← hsy] at h1
              exact h1)
            have Hsb := hidA hsb
            clear hsx hsy HCb hsb hnb hsp' hd1 hd2 hn0
            have HT2 := hidA ((HT.out.trans (if_neg (by simp))).trans (if_pos Hnn.out))
            have Htop := hidA (bd_Fin (HTb.out d (n - 1)) (by omega))
            have Hin1 := hidA (show 1 ≤ n - 1 from by have := Hnn.out; omega)
            have HLtq := hidA (fun x => HLt.out d x (n - 1) Hin1.out)
            have HGeq := hidA (fun j => HGe.out d (n - 1) j)
            clear HT HLt HGe HTb
            go_wp2
            go_loopw [18] (fun s18 wr => ∃ i : Nat, 1 ≤ i ∧ i ≤ n ∧ s18 = .int .i64 i ∧ (∀ j, 1 ≤ j → j < i → valI (btwV (fun j => l.getD j 0) Wn Hn k d j) < valI va ∧ valI (btwV (fun j => l.getD j 0) Wn Hn k d j) < valI vb) ∧ Ext w4 wr) (fun s18 _ => n - (intOf s18).toNat)
            case atStart => exact ⟨1, Nat.le_refl _, by omega, rfl, fun j h1 h2 => by omega, Ext.refl _⟩
            case round =>
              obtain ⟨i, hi1, hin, rfl, hall, hx⟩ := hrel
              have HAll := hidA hall
              clear hall
              by_cases hlt : i < n
              · obtain ⟨mm, hmm⟩ := Hall.out i (by omega)
                have hmN : mm < N := by rw [HN.out]; exact besK_lt hmm
                have HCm := fun (w : World) => hidA (HCq.out i mm hmm w)
                obtain ⟨ad2, eA, hbk, cT⟩ := flt_at (HVA.out.ext (hx34.trans hx)) (k := mm) (by rw [Hl.out]; exact hmN)
                injection eA with eA
                subst eA
                obtain ⟨vt, hv0⟩ : ∃ vt, vt = l.getD mm 0 := ⟨_, rfl⟩
                have Hbt := hidA (show btwV (fun j => l.getD j 0) Wn Hn k d i = vt from by unfold btwV; rw [hmm, hv0]; rfl)
                rw [← hv0] at cT
                have hvt : Bd 20 vt := by rw [hv0]; exact HH.out mm hmN
                obtain ⟨p1, p2, p3, p4⟩ := Hpl.out |> fun h => (⟨h.1.1, h.1.2, h.2.1, h.2.2⟩ : _ ∧ _ ∧ _ ∧ _)
                obtain ⟨s1, s2, s3, s4⟩ := Hsb.out
                have hi12 : i ≤ 12 := by have := H12.out; omega
                have m1 := mul_sgn2 (n := i) (s := sx) hi12 (by omega) (by omega)
                have m2 := mul_sgn2 (n := i) (s := sy) hi12 (by omega) (by omega)
                obtain ⟨mx, hmx⟩ : ∃ mx, mx = (i : Int) * sx := ⟨_, rfl⟩
                obtain ⟨my, hmy⟩ : ∃ my, my = (i : Int) * sy := ⟨_, rfl⟩
                rw [← hmx] at m1
                rw [← hmy] at m2
                obtain ⟨ux, hux⟩ : ∃ ux, ux = px + mx := ⟨_, rfl⟩
                obtain ⟨uy, huy⟩ : ∃ uy, uy = py + my := ⟨_, rfl⟩
                rw [← hmx, ← hmy, ← hux, ← huy] at HCm
                have v1 := hidA (show IntKind.i64.wrap ((i : Int) * sx) = mx from by rw [← hmx]; exact IntWalk.i64_in _ (by omega))
                have v2 := hidA (show IntKind.i64.wrap ((i : Int) * sy) = my from by rw [← hmy]; exact IntWalk.i64_in _ (by omega))
                have v3 := hidA (show IntKind.i64.wrap (px + mx) = ux from by rw [← hux]; exact IntWalk.i64_in _ (by omega))
                have v4 := hidA (show IntKind.i64.wrap (py + my) = uy from by rw [← huy]; exact IntWalk.i64_in _ (by omega))
                clear hmx hmy hux huy
                have t0' : (0 : Int) ≤ mm := by omega
                have tN' : (mm : Int) < N := by omega
                have hlti : (i : Int) < n := by omega
                have KF5 := hidA (KF4.out.ext hx)
                have KA5 := hidA (KA4.out.ext hx)
                have hct : ∀ w', Ext wr w' → w'.cell? (adA.add mm) = some (.float .f32 vt) := fun w' h => (h.cell _ (by rw [add_block]; exact hbk)).trans cT
                have e0 : ∀ w', Ext wr w' → w'.cell? ⟨hf, 0, none⟩ = some (.int .i64 X) := fun w' h => (KF5.out.ext h).cell 0
                have e1 : ∀ w', Ext wr w' → w'.cell? ⟨hf, 1, none⟩ = some (.int .i64 Y) := fun w' h => (KF5.out.ext h).cell 1
                have e2 : ∀ w', Ext wr w' → w'.cell? ⟨hf, 2, none⟩ = some (.int .i64 (Wn : Int)) := fun w' h => (KF5.out.ext h).cell 2
                have e3 : ∀ w', Ext wr w' → w'.cell? ⟨hf, 3, none⟩ = some (.int .i64 (Hn : Int)) := fun w' h => (KF5.out.ext h).cell 3
                have e4 : ∀ w', Ext wr w' → w'.cell? ⟨hf, 4, none⟩ = some (.slice (some adA) N c) := fun w' h => (KF5.out.ext h).cell 4
                have e5 : ∀ w', Ext wr w' → w'.cell? ⟨ha, 0, none⟩ = some (.int .i64 px) := fun w' h => (KA5.out.ext h).cell 0
                have e6 : ∀ w', Ext wr w' → w'.cell? ⟨ha, 1, none⟩ = some (.int .i64 py) := fun w' h => (KA5.out.ext h).cell 1
                have Hi1 := hidA hi1
                have Hlt := hidA hlt
                have HvT := hidA hvt
                clear hmm hv0 cT hbk hvt p1 p2 p3 p4 s1 s2 s3 s4 hi12 m1 m2 hi1 hin hmN hlt
                go_upto_region 14 with fail
                refine wp_region_noPanic ?_
                refine wp_region_held_drew (S := fun w' => Ext wr w') (by kernel_rfl) ?_ (fun hHeld => ?_)
                · (repeat (first | exact Ext.refl _ | assumption | refine Ext.setCell ?_ (by first | (simp; done) | (simp; omega)) _ | refine Ext.drewN ?_ _ | refine Ext.alloc ?_ _ | refine Ext.drew ?_ | refine Ext.trans ?_ (by assumption)))
                refine wpAnyH_take (i := 0) (oi := ?o1x0) (v := ?v1x0) ?hi1x0 (by kernel_rfl) ?hf1x0 ?hr1x0 (fun _ _ _ h => h) ?hy1x0 (by assumption) ?rest1x0
                case hi1x0 => (simp only [List.getElem?_toArray, List.getElem?_cons_zero]; exact rfl)
                case hf1x0 => kernel_rfl
                case hr1x0 => kernel_rfl
                case hy1x0 => (refine Or.inl ⟨by rfl, ?_⟩; intro w hSw; (try dsimp only at hSw); go_simp; try with_reducible rfl)
                simp only [put_mk, List.set_cons_succ, List.set_cons_zero]
                refine wpAnyH_take (i := 1) (oi := ?o1x1) (v := ?v1x1) ?hi1x1 (by kernel_rfl) ?hf1x1 ?hr1x1 (fun _ _ _ h => h) ?hy1x1 (by assumption) ?rest1x1
                case hi1x1 => (simp only [List.getElem?_toArray, List.getElem?_cons_succ, List.getElem?_cons_zero]; exact rfl)
                case hf1x1 => kernel_rfl
                case hr1x1 => kernel_rfl
                case hy1x1 => (refine Or.inl ⟨by rfl, ?_⟩; intro w hSw; (try dsimp only at hSw); go_simp; try with_reducible rfl)
                simp only [put_mk, List.set_cons_succ, List.set_cons_zero]
                refine wpAnyH_take (i := 2) (oi := ?o1x2) (v := ?v1x2) ?hi1x2 (by kernel_rfl) ?hf1x2 ?hr1x2 (fun _ _ _ h => h) ?hy1x2 (by assumption) ?rest1x2
                case hi1x2 => (simp only [List.getElem?_toArray, List.getElem?_cons_succ, List.getElem?_cons_zero]; exact rfl)
                case hf1x2 => kernel_rfl
                case hr1x2 => kernel_rfl
                case hy1x2 => (refine Or.inl ⟨by rfl, ?_⟩; intro w hSw; (try dsimp only at hSw); go_simp; try with_reducible rfl)
                simp only [put_mk, List.set_cons_succ, List.set_cons_zero]
                refine wpAnyH_take (i := 3) (oi := ?o1x3) (v := ?v1x3) ?hi1x3 (by kernel_rfl) ?hf1x3 ?hr1x3 (fun _ _ _ h => h) ?hy1x3 (by assumption) ?rest1x3
                case hi1x3 => (simp only [List.getElem?_toArray, List.getElem?_cons_succ, List.getElem?_cons_zero]; exact rfl)
                case hf1x3 => kernel_rfl
                case hr1x3 => kernel_rfl
                case hy1x3 => (refine Or.inl ⟨by rfl, ?_⟩; intro w hSw; (try dsimp only at hSw); go_simp; try with_reducible rfl)
                simp only [put_mk, List.set_cons_succ, List.set_cons_zero]
                refine wpAnyH_take (i := 4) (oi := ?o1x4) (v := ?v1x4) ?hi1x4 (by kernel_rfl) ?hf1x4 ?hr1x4 (fun _ _ _ h => h) ?hy1x4 (by assumption) ?rest1x4
                case hi1x4 => (simp only [List.getElem?_toArray, List.getElem?_cons_succ, List.getElem?_cons_zero]; exact rfl)
                case hf1x4 => kernel_rfl
                case hr1x4 => kernel_rfl
                case hy1x4 => (refine Or.inl ⟨by rfl, ?_⟩; intro w hSw; (try dsimp only at hSw); go_simp; try with_reducible rfl)
                simp only [put_mk, List.set_cons_succ, List.set_cons_zero]
                refine wpAnyH_take (i := 5) (oi := ?o1x5) (v := ?v1x5) ?hi1x5 (by kernel_rfl) ?hf1x5 ?hr1x5 (fun _ _ _ h => h) ?hy1x5 (by assumption) ?rest1x5
                case hi1x5 => (simp only [List.getElem?_toArray, List.getElem?_cons_succ, List.getElem?_cons_zero]; exact rfl)
                case hf1x5 => kernel_rfl
                case hr1x5 => kernel_rfl
                case hy1x5 => (refine Or.inl ⟨by rfl, ?_⟩; intro w hSw; (try dsimp only at hSw); go_simp; try with_reducible rfl)
                simp only [put_mk, List.set_cons_succ, List.set_cons_zero]
                refine wpAnyH_take (i := 6) (oi := ?o1x6) (v := ?v1x6) ?hi1x6 (by kernel_rfl) ?hf1x6 ?hr1x6 (fun _ _ _ h => h) ?hy1x6 (by assumption) ?rest1x6
                case hi1x6 => (simp only [List.getElem?_toArray, List.getElem?_cons_succ, List.getElem?_cons_zero]; exact rfl)
                case hf1x6 => kernel_rfl
                case hr1x6 => kernel_rfl
                case hy1x6 => (refine Or.inl ⟨by rfl, ?_⟩; intro w hSw; (try dsimp only at hSw); go_simp; try with_reducible rfl)
                simp only [put_mk, List.set_cons_succ, List.set_cons_zero]
                refine wpAnyH_take (i := 7) (oi := ?o1x7) (v := ?v1x7) ?hi1x7 (by kernel_rfl) ?hf1x7 ?hr1x7 (fun _ _ _ h => h) ?hy1x7 (by assumption) ?rest1x7
                case hi1x7 => (simp only [List.getElem?_toArray, List.getElem?_cons_succ, List.getElem?_cons_zero]; exact rfl)
                case hf1x7 => kernel_rfl
                case hr1x7 => kernel_rfl
                case hy1x7 => (refine Or.inl ⟨by rfl, ?_⟩; intro w hSw; (try dsimp only at hSw); go_simp; try with_reducible rfl)
                simp only [put_mk, List.set_cons_succ, List.set_cons_zero]
                refine wpAnyH_take (i := 8) (oi := ?o1x8) (v := ?v1x8) ?hi1x8 (by kernel_rfl) ?hf1x8 ?hr1x8 (fun _ _ _ h => h) ?hy1x8 (by assumption) ?rest1x8
                case hi1x8 => (simp only [List.getElem?_toArray, List.getElem?_cons_succ, List.getElem?_cons_zero]; exact rfl)
                case hf1x8 => kernel_rfl
                case hr1x8 => kernel_rfl
                case hy1x8 => (refine Or.inl ⟨by rfl, ?_⟩; intro w hSw; (try dsimp only at hSw); go_simp; try with_reducible rfl)
                simp only [put_mk, List.set_cons_succ, List.set_cons_zero]
                refine wpAnyH_take (i := 9) (oi := ?o1x9) (v := ?v1x9) ?hi1x9 (by kernel_rfl) ?hf1x9 ?hr1x9 (fun _ _ _ h => h) ?hy1x9 (by assumption) ?rest1x9
                case hi1x9 => (simp only [List.getElem?_toArray, List.getElem?_cons_succ, List.getElem?_cons_zero]; exact rfl)
                case hf1x9 => kernel_rfl
                case hr1x9 => kernel_rfl
                case hy1x9 => (refine Or.inl ⟨by rfl, ?_⟩; intro w hSw; (try dsimp only at hSw); go_simp; try with_reducible rfl)
                simp only [put_mk, List.set_cons_succ, List.set_cons_zero]
                refine wpAnyH_take (i := 10) (oi := ?o1x10) (v := ?v1x10) ?hi1x10 (by kernel_rfl) ?hf1x10 ?hr1x10 (fun _ _ _ h => h) ?hy1x10 (by assumption) ?rest1x10
                case hi1x10 => (simp only [List.getElem?_toArray, List.getElem?_cons_succ, List.getElem?_cons_zero]; exact rfl)
                case hf1x10 => kernel_rfl
                case hr1x10 => kernel_rfl
                case hy1x10 => (refine Or.inl ⟨by rfl, ?_⟩; intro w hSw; (try dsimp only at hSw); go_simp; try with_reducible rfl)
                simp only [put_mk, List.set_cons_succ, List.set_cons_zero]
                refine wpAnyH_take (i := 11) (oi := ?o1x11) (v := ?v1x11) ?hi1x11 (by kernel_rfl) ?hf1x11 ?hr1x11 (fun _ _ _ h => h) ?hy1x11 (by assumption) ?rest1x11
                case hi1x11 => (simp only [List.getElem?_toArray, List.getElem?_cons_succ, List.getElem?_cons_zero]; exact rfl)
                case hf1x11 => kernel_rfl
                case hr1x11 => kernel_rfl
                case hy1x11 => (refine Or.inl ⟨by rfl, ?_⟩; intro w hSw; (try dsimp only at hSw); go_simp; try with_reducible rfl)
                simp only [put_mk, List.set_cons_succ, List.set_cons_zero]
                refine wpAnyH_take (i := 12) (oi := ?o1x12) (v := ?v1x12) ?hi1x12 (by kernel_rfl) ?hf1x12 ?hr1x12 (fun _ _ _ h => h) ?hy1x12 (by assumption) ?rest1x12
                case hi1x12 => (simp only [List.getElem?_toArray, List.getElem?_cons_succ, List.getElem?_cons_zero]; exact rfl)
                case hf1x12 => kernel_rfl
                case hr1x12 => kernel_rfl
                case hy1x12 => (refine Or.inl ⟨by rfl, ?_⟩; intro w hSw; (try dsimp only at hSw); go_simp; try with_reducible rfl)
                simp only [put_mk, List.set_cons_succ, List.set_cons_zero]
                refine wpAnyH_take (i := 13) (oi := ?o1x13) (v := ?v1x13) ?hi1x13 (by kernel_rfl) ?hf1x13 ?hr1x13 (fun _ _ _ h => h) ?hy1x13 (by assumption) ?rest1x13
                case hi1x13 => (simp only [List.getElem?_toArray, List.getElem?_cons_succ, List.getElem?_cons_zero]; exact rfl)
                case hf1x13 => kernel_rfl
                case hr1x13 => kernel_rfl
                case hy1x13 => (refine Or.inl ⟨by rfl, ?_⟩; intro w hSw; (try dsimp only at hSw); go_simp; try with_reducible rfl)
                simp only [put_mk, List.set_cons_succ, List.set_cons_zero]
                refine wpAnyH_take (i := 14) (oi := ?o1x14) (v := ?v1x14) ?hi1x14 (by kernel_rfl) ?hf1x14 ?hr1x14 (fun _ _ _ h => h) ?hy1x14 (by assumption) ?rest1x14
                case hi1x14 => (simp only [List.getElem?_toArray, List.getElem?_cons_succ, List.getElem?_cons_zero]; exact rfl)
                case hf1x14 => kernel_rfl
                case hr1x14 => kernel_rfl
                case hy1x14 => (refine Or.inl ⟨by rfl, ?_⟩; intro w hSw; (try dsimp only at hSw); go_simp; try with_reducible rfl)
                simp only [put_mk, List.set_cons_succ, List.set_cons_zero]
                refine wpAnyH_take (i := 15) (oi := ?o1x15) (v := ?v1x15) ?hi1x15 (by kernel_rfl) ?hf1x15 ?hr1x15 (fun _ _ _ h => h) ?hy1x15 (by assumption) ?rest1x15
                case hi1x15 => (simp only [List.getElem?_toArray, List.getElem?_cons_succ, List.getElem?_cons_zero]; exact rfl)
                case hf1x15 => kernel_rfl
                case hr1x15 => kernel_rfl
                case hy1x15 => (refine Or.inl ⟨by rfl, ?_⟩; intro w hSw; (try dsimp only at hSw); go_simp; try with_reducible rfl)
                simp only [put_mk, List.set_cons_succ, List.set_cons_zero]
                refine wpAnyH_ready (rs := [16]) (by kernel_rfl) (by simp) ?_
                refine AllReadyH.cons (o := ?o1x16) ?hi1x16 (fun K hK => ?_) AllReadyH.nil
                case hi1x16 => (simp only [List.getElem?_toArray, List.getElem?_cons_succ, List.getElem?_cons_zero]; exact rfl)
                go_simp
                rw [v1.out, v2.out, v3.out, v4.out]
                refine ((HCm _).out).mono ?_
                rintro e wk ⟨rfl, hxk⟩
                refine hK.out _ _ ?_ (fun hHeld => ?_)
                · (repeat (first | exact Ext.refl _ | assumption | refine Ext.setCell ?_ (by first | (simp; done) | (simp; omega)) _ | refine Ext.drewN ?_ _ | refine Ext.alloc ?_ _ | refine Ext.drew ?_ | refine Ext.trans ?_ (by assumption)))
                clear hK K
                refine wpAnyH_take (i := 17) (oi := ?o1x17) (v := ?v1x17) ?hi1x17 (by kernel_rfl) ?hf1x17 ?hr1x17 (fun _ _ _ h => h) ?hy1x17 (by assumption) ?rest1x17
                case hi1x17 => (simp only [List.getElem?_toArray, List.getElem?_cons_succ, List.getElem?_cons_zero]; exact rfl)
                case hf1x17 => kernel_rfl
                case hr1x17 => kernel_rfl
                case hy1x17 => (refine Or.inl ⟨by rfl, ?_⟩; intro w hSw; (try dsimp only at hSw); go_simp; try with_reducible rfl)
                simp only [put_mk, List.set_cons_succ, List.set_cons_zero]
                refine wpAnyH_take (i := 18) (oi := ?o1x18) (v := ?v1x18) ?hi1x18 (by kernel_rfl) ?hf1x18 ?hr1x18 (fun _ _ _ h => h) ?hy1x18 (by assumption) ?rest1x18
                case hi1x18 => (simp only [List.getElem?_toArray, List.getElem?_cons_succ, List.getElem?_cons_zero]; exact rfl)
                case hf1x18 => kernel_rfl
                case hr1x18 => kernel_rfl
                case hy1x18 => (refine Or.inl ⟨by rfl, ?_⟩; intro w hSw; (try dsimp only at hSw); go_simp; try with_reducible rfl)
                simp only [put_mk, List.set_cons_succ, List.set_cons_zero]
                refine wpAnyH_take (i := 19) (oi := ?o1x19) (v := ?v1x19) ?hi1x19 (by kernel_rfl) ?hf1x19 ?hr1x19 (fun _ _ _ h => h) ?hy1x19 (by assumption) ?rest1x19
                case hi1x19 => (simp only [List.getElem?_toArray, List.getElem?_cons_succ, List.getElem?_cons_zero]; exact rfl)
                case hf1x19 => kernel_rfl
                case hr1x19 => kernel_rfl
                case hy1x19 => (refine Or.inl ⟨by rfl, ?_⟩; intro w hSw; (try dsimp only at hSw); go_simp; try with_reducible rfl)
                simp only [put_mk, List.set_cons_succ, List.set_cons_zero]
                refine wpAnyH_done (by kernel_rfl) ?_ _
                refine NoPanic.normal ?_
                have hx5 := hx34.trans (hx.trans hHeld)
                have f4 := (KF5.out.ext hHeld).cell 4
                have cva := Hca.out _ hx5
                have cvb := Hcb.out _ hx5
                have hx6 := hx.trans hHeld
                have Ga := geq_ltR (bd_Fin HvT.out (by omega)) (bd_Fin Hkv.out (by omega))
                have Gb := geq_ltR (bd_Fin HvT.out (by omega)) (bd_Fin Htv.out (by omega))
                rw [lt_val (bd_Fin HvT.out (by omega)) (bd_Fin Hkv.out (by omega))] at Ga
                rw [lt_val (bd_Fin HvT.out (by omega)) (bd_Fin Htv.out (by omega))] at Gb
                have Hle := hidA (show valI vt ≤ valI (topN (fun j => l.getD j 0) Wn Hn k d (n - 1)) from by have h := HGeq.out i Hi1.out (by have := Hlt.out; omega); rwa [Hbt.out] at h)
                have NoA := hidA (fun (h : valI va ≤ valI vt) => show res = none from by
                  rw [HT2.out, if_neg]
                  rintro ⟨h9, _⟩
                  rw [lt_val Htop.out (bd_Fin Hkv.out (by omega))] at h9
                  have h8 := of_decide_eq_true h9
                  have := Hle.out
                  omega)
                have NoB := hidA (fun (h : valI vb ≤ valI vt) => show res = none from by
                  rw [HT2.out, if_neg]
                  rintro ⟨_, h9⟩
                  rw [lt_val Htop.out (bd_Fin Htv.out (by omega))] at h9
                  have h8 := of_decide_eq_true h9
                  have := Hle.out
                  omega)
                have HNx := hidA (fun (h1 : valI vt < valI va) (h2 : valI vt < valI vb) => show ∀ j, 1 ≤ j → j < i + 1 → valI (btwV (fun j => l.getD j 0) Wn Hn k d j) < valI va ∧ valI (btwV (fun j => l.getD j 0) Wn Hn k d j) < valI vb from fun j h3 h4 => by
                  by_cases e : j = i
                  · subst e; rw [Hbt.out]; exact ⟨h1, h2⟩
                  · exact HAll.out j h3 (by omega))
                clear e0 e1 e2 e3 e4 e5 e6 hct HCm v1 v2 v3 v4 hHeld hx KF5 KA5 Hle HT2 Htop
                rcases (by omega : valI vt < valI va ∨ valI va ≤ valI vt) with h2 | h2
                · rw [decide_eq_true h2] at Ga
                  rcases (by omega : valI vt < valI vb ∨ valI vb ≤ valI vt) with h4 | h4
                  · rw [decide_eq_true h4] at Gb
                    have HN1 := hidA (HNx.out h2 h4)
                    clear h2 h4 NoA NoB HNx
                    have ga : (FloatKind.f32.format.order vt va == some .gt || FloatKind.f32.format.order vt va == some .eq) = false := Ga
                    have gb : (FloatKind.f32.format.order vt vb == some .gt || FloatKind.f32.format.order vt vb == some .eq) = false := Gb
                    clear Ga Gb
                    go_wp2
                    go_roundw
                    case rel => exact ⟨i + 1, Nat.le_add_left 1 i, Hlt.out, congrArg (Value.int IntKind.i64) (next_i H12.out Hlt.out), HN1.out, hx6⟩
                    case measure => exact next_m H12.out Hlt.out
                  · rw [decide_eq_false (by omega)] at Gb
                    have Hf := hidA (NoB.out h4)
                    clear h2 h4 NoA NoB HNx
                    have ga : (FloatKind.f32.format.order vt va == some .gt || FloatKind.f32.format.order vt va == some .eq) = false := Ga
                    have gb : (FloatKind.f32.format.order vt vb == some .gt || FloatKind.f32.format.order vt vb == some .eq) = true := Gb
                    clear Ga Gb
                    go_wp2
                    go_ret2
                    exact ⟨by rw [Hf.out]; rfl, hx5⟩
                · rw [decide_eq_false (by omega)] at Ga
                  have Hf := hidA (NoA.out h2)
                  clear h2 NoA NoB HNx Gb
                  have ga : (FloatKind.f32.format.order vt va == some .gt || FloatKind.f32.format.order vt va == some .eq) = true := Ga
                  clear Ga
                  go_wp2
                  go_ret2
                  exact ⟨by rw [Hf.out]; rfl, hx5⟩
              · have hin2 : n = i := by omega
                subst hin2
                have Htt : Hid (lt (topN (fun j => l.getD j 0) Wn Hn k d (n - 1)) va = true ∧ lt (topN (fun j => l.getD j 0) Wn Hn k d (n - 1)) vb = true) := by
                  refine ⟨?_, ?_⟩
                  · rw [lt_val Htop.out (bd_Fin Hkv.out (by omega))]
                    exact decide_eq_true (HLtq.out _ fun j h1 h2 => (HAll.out j h1 (by have := Hin1.out; omega)).1)
                  · rw [lt_val Htop.out (bd_Fin Htv.out (by omega))]
                    exact decide_eq_true (HLtq.out _ fun j h1 h2 => (HAll.out j h1 (by have := Hin1.out; omega)).2)
                have Hf : Hid (res = some (costB R long)) := HT2.out.trans (if_pos Htt.out)
                obtain ⟨b1, b2, _, _⟩ := B1.out
                have q1 := fun (w : World) => run_float_arith (P := Try.prog) w .mul 27 .f32 _ _ _ b1
                have q2 := fun (w : World) => run_float_arith (P := Try.prog) w .add 27 .f32 _ _ _ b2
                have hnl : ¬ (n : Int) < n := by omega
                have r2 := (KR4.out.ext hx).cell 2
                have r3 := (KR4.out.ext hx).cell 3
                clear HT2 Htt B1 b1 b2
                generalize costB R long = z at *
                generalize fmul long R.br = y at *
                go_wp2
                go_ret2
                exact ⟨by rw [Hf.out]; rfl, hx34.trans hx⟩
          · have hg' : (FloatKind.f32.format.order st R.gr == some .gt) = true := hg
            have Hf : Hid (res = none) := by show res = none; rw [HT.out, if_pos hg]
            clear hg S1 B1 N1 HT
            go_wp2
            go_ret2
            exact ⟨by rw [Hf.out]; rfl, hx3⟩
      · obtain rfl : n = 1 := by omega
        go_upto_region 4 with (go_at_call 36; refine ((HLp _).out).mono ?_; rintro e w1 ⟨rfl, hx1⟩; have r4 := (KR.out.ext hx1).cell 4)
        clear a0 a1 b0 b1 HLp r4
        have hx01 := hx0.trans hx1
        have KF1 := hidA (KF.out.ext hx1)
        have KR1 := hidA (KR.out.ext hx1)
        have KA1 := hidA (KA.out.ext hx1)
        have e0 : ∀ w', Ext w1 w' → w'.cell? ⟨hf, 0, none⟩ = some (.int .i64 X) := fun w' h => (KF1.out.ext h).cell 0
        have e1 : ∀ w', Ext w1 w' → w'.cell? ⟨hf, 1, none⟩ = some (.int .i64 Y) := fun w' h => (KF1.out.ext h).cell 1
        have e2 : ∀ w', Ext w1 w' → w'.cell? ⟨hf, 2, none⟩ = some (.int .i64 (Wn : Int)) := fun w' h => (KF1.out.ext h).cell 2
        have e3 : ∀ w', Ext w1 w' → w'.cell? ⟨hf, 3, none⟩ = some (.int .i64 (Hn : Int)) := fun w' h => (KF1.out.ext h).cell 3
        have e4 : ∀ w', Ext w1 w' → w'.cell? ⟨ha, 0, none⟩ = some (.int .i64 px) := fun w' h => (KA1.out.ext h).cell 0
        have e5 : ∀ w', Ext w1 w' → w'.cell? ⟨ha, 1, none⟩ = some (.int .i64 py) := fun w' h => (KA1.out.ext h).cell 1
        have e6 : ∀ w', Ext w1 w' → w'.cell? ⟨hb, 0, none⟩ = some (.int .i64 qx) := fun w' h => ((KB.out.ext hx1).ext h).cell 0
        have e7 : ∀ w', Ext w1 w' → w'.cell? ⟨hb, 1, none⟩ = some (.int .i64 qy) := fun w' h => ((KB.out.ext hx1).ext h).cell 1
        clear KF KR KA
        go_cut [12, 13] from 28 to 53 (fun s12 s13 wx => s12 = Value.int .i64 (k : Int) ∧ s13 = Value.int .i64 (t : Int) ∧ Ext w1 wx)
        case first =>
          refine wp_region_noPanic ?_
          refine wp_region_held_drew (S := fun w' => Ext w1 w') (by kernel_rfl) ?_ (fun hHeld => ?_)
          · (repeat (first | exact Ext.refl _ | assumption | refine Ext.setCell ?_ (by first | (simp; done) | (simp; omega)) _ | refine Ext.drewN ?_ _ | refine Ext.alloc ?_ _ | refine Ext.drew ?_ | refine Ext.trans ?_ (by assumption)))
          refine wpAnyH_take (i := 0) (oi := ?o20x0) (v := ?v20x0) ?hi20x0 (by kernel_rfl) ?hf20x0 ?hr20x0 (fun _ _ _ h => h) ?hy20x0 (by assumption) ?rest20x0
          case hi20x0 => (simp only [List.getElem?_toArray, List.getElem?_cons_zero]; exact rfl)
          case hf20x0 => kernel_rfl
          case hr20x0 => kernel_rfl
          case hy20x0 => (refine Or.inl ⟨by rfl, ?_⟩; intro w hSw; (try dsimp only at hSw); go_simp; try with_reducible rfl)
          simp only [put_mk, List.set_cons_succ, List.set_cons_zero]
          refine wpAnyH_take (i := 1) (oi := ?o21x1) (v := ?v21x1) ?hi21x1 (by kernel_rfl) ?hf21x1 ?hr21x1 (fun _ _ _ h => h) ?hy21x1 (by assumption) ?rest21x1
          case hi21x1 => (simp only [List.getElem?_toArray, List.getElem?_cons_succ, List.getElem?_cons_zero]; exact rfl)
          case hf21x1 => kernel_rfl
          case hr21x1 => kernel_rfl
          case hy21x1 => (refine Or.inl ⟨by rfl, ?_⟩; intro w hSw; (try dsimp only at hSw); go_simp; try with_reducible rfl)
          simp only [put_mk, List.set_cons_succ, List.set_cons_zero]
          refine wpAnyH_take (i := 2) (oi := ?o22x2) (v := ?v22x2) ?hi22x2 (by kernel_rfl) ?hf22x2 ?hr22x2 (fun _ _ _ h => h) ?hy22x2 (by assumption) ?rest22x2
          case hi22x2 => (simp only [List.getElem?_toArray, List.getElem?_cons_succ, List.getElem?_cons_zero]; exact rfl)
          case hf22x2 => kernel_rfl
          case hr22x2 => kernel_rfl
          case hy22x2 => (refine Or.inl ⟨by rfl, ?_⟩; intro w hSw; (try dsimp only at hSw); go_simp; try with_reducible rfl)
          simp only [put_mk, List.set_cons_succ, List.set_cons_zero]
          refine wpAnyH_take (i := 3) (oi := ?o23x3) (v := ?v23x3) ?hi23x3 (by kernel_rfl) ?hf23x3 ?hr23x3 (fun _ _ _ h => h) ?hy23x3 (by assumption) ?rest23x3
          case hi23x3 => (simp only [List.getElem?_toArray, List.getElem?_cons_succ, List.getElem?_cons_zero]; exact rfl)
          case hf23x3 => kernel_rfl
          case hr23x3 => kernel_rfl
          case hy23x3 => (refine Or.inl ⟨by rfl, ?_⟩; intro w hSw; (try dsimp only at hSw); go_simp; try with_reducible rfl)
          simp only [put_mk, List.set_cons_succ, List.set_cons_zero]
          refine wpAnyH_take (i := 4) (oi := ?o24x4) (v := ?v24x4) ?hi24x4 (by kernel_rfl) ?hf24x4 ?hr24x4 (fun _ _ _ h => h) ?hy24x4 (by assumption) ?rest24x4
          case hi24x4 => (simp only [List.getElem?_toArray, List.getElem?_cons_succ, List.getElem?_cons_zero]; exact rfl)
          case hf24x4 => kernel_rfl
          case hr24x4 => kernel_rfl
          case hy24x4 => (refine Or.inl ⟨by rfl, ?_⟩; intro w hSw; (try dsimp only at hSw); go_simp; try with_reducible rfl)
          simp only [put_mk, List.set_cons_succ, List.set_cons_zero]
          refine wpAnyH_take (i := 5) (oi := ?o25x5) (v := ?v25x5) ?hi25x5 (by kernel_rfl) ?hf25x5 ?hr25x5 (fun _ _ _ h => h) ?hy25x5 (by assumption) ?rest25x5
          case hi25x5 => (simp only [List.getElem?_toArray, List.getElem?_cons_succ, List.getElem?_cons_zero]; exact rfl)
          case hf25x5 => kernel_rfl
          case hr25x5 => kernel_rfl
          case hy25x5 => (refine Or.inl ⟨by rfl, ?_⟩; intro w hSw; (try dsimp only at hSw); go_simp; try with_reducible rfl)
          simp only [put_mk, List.set_cons_succ, List.set_cons_zero]
          refine wpAnyH_take (i := 7) (oi := ?o26x7) (v := ?v26x7) ?hi26x7 (by kernel_rfl) ?hf26x7 ?hr26x7 (fun _ _ _ h => h) ?hy26x7 (by assumption) ?rest26x7
          case hi26x7 => (simp only [List.getElem?_toArray, List.getElem?_cons_succ, List.getElem?_cons_zero]; exact rfl)
          case hf26x7 => kernel_rfl
          case hr26x7 => kernel_rfl
          case hy26x7 => (refine Or.inl ⟨by rfl, ?_⟩; intro w hSw; (try dsimp only at hSw); go_simp; try with_reducible rfl)
          simp only [put_mk, List.set_cons_succ, List.set_cons_zero]
          refine wpAnyH_take (i := 8) (oi := ?o27x8) (v := ?v27x8) ?hi27x8 (by kernel_rfl) ?hf27x8 ?hr27x8 (fun _ _ _ h => h) ?hy27x8 (by assumption) ?rest27x8
          case hi27x8 => (simp only [List.getElem?_toArray, List.getElem?_cons_succ, List.getElem?_cons_zero]; exact rfl)
          case hf27x8 => kernel_rfl
          case hr27x8 => kernel_rfl
          case hy27x8 => (refine Or.inl ⟨by rfl, ?_⟩; intro w hSw; (try dsimp only at hSw); go_simp; try with_reducible rfl)
          simp only [put_mk, List.set_cons_succ, List.set_cons_zero]
          refine wpAnyH_take (i := 9) (oi := ?o28x9) (v := ?v28x9) ?hi28x9 (by kernel_rfl) ?hf28x9 ?hr28x9 (fun _ _ _ h => h) ?hy28x9 (by assumption) ?rest28x9
          case hi28x9 => (simp only [List.getElem?_toArray, List.getElem?_cons_succ, List.getElem?_cons_zero]; exact rfl)
          case hf28x9 => kernel_rfl
          case hr28x9 => kernel_rfl
          case hy28x9 => (refine Or.inl ⟨by rfl, ?_⟩; intro w hSw; (try dsimp only at hSw); go_simp; try with_reducible rfl)
          simp only [put_mk, List.set_cons_succ, List.set_cons_zero]
          refine wpAnyH_take (i := 10) (oi := ?o29x10) (v := ?v29x10) ?hi29x10 (by kernel_rfl) ?hf29x10 ?hr29x10 (fun _ _ _ h => h) ?hy29x10 (by assumption) ?rest29x10
          case hi29x10 => (simp only [List.getElem?_toArray, List.getElem?_cons_succ, List.getElem?_cons_zero]; exact rfl)
          case hf29x10 => kernel_rfl
          case hr29x10 => kernel_rfl
          case hy29x10 => (refine Or.inl ⟨by rfl, ?_⟩; intro w hSw; (try dsimp only at hSw); go_simp; try with_reducible rfl)
          simp only [put_mk, List.set_cons_succ, List.set_cons_zero]
          refine wpAnyH_take (i := 11) (oi := ?o30x11) (v := ?v30x11) ?hi30x11 (by kernel_rfl) ?hf30x11 ?hr30x11 (fun _ _ _ h => h) ?hy30x11 (by assumption) ?rest30x11
          case hi30x11 => (simp only [List.getElem?_toArray, List.getElem?_cons_succ, List.getElem?_cons_zero]; exact rfl)
          case hf30x11 => kernel_rfl
          case hr30x11 => kernel_rfl
          case hy30x11 => (refine Or.inl ⟨by rfl, ?_⟩; intro w hSw; (try dsimp only at hSw); go_simp; try with_reducible rfl)
          simp only [put_mk, List.set_cons_succ, List.set_cons_zero]
          refine wpAnyH_take (i := 12) (oi := ?o31x12) (v := ?v31x12) ?hi31x12 (by kernel_rfl) ?hf31x12 ?hr31x12 (fun _ _ _ h => h) ?hy31x12 (by assumption) ?rest31x12
          case hi31x12 => (simp only [List.getElem?_toArray, List.getElem?_cons_succ, List.getElem?_cons_zero]; exact rfl)
          case hf31x12 => kernel_rfl
          case hr31x12 => kernel_rfl
          case hy31x12 => (refine Or.inl ⟨by rfl, ?_⟩; intro w hSw; (try dsimp only at hSw); go_simp; try with_reducible rfl)
          simp only [put_mk, List.set_cons_succ, List.set_cons_zero]
          refine wpAnyH_ready (rs := [6]) (by kernel_rfl) (by simp) ?_
          refine AllReadyH.cons (o := ?o32x6) ?hi32x6 (fun K hK => ?_) AllReadyH.nil
          case hi32x6 => (simp only [List.getElem?_toArray, List.getElem?_cons_succ, List.getElem?_cons_zero]; exact rfl)
          go_simp
          refine ((HCk _).out).mono ?_
          rintro e wk ⟨rfl, hxk⟩
          refine hK.out _ _ ?_ (fun hHeld => ?_)
          · (repeat (first | exact Ext.refl _ | assumption | refine Ext.setCell ?_ (by first | (simp; done) | (simp; omega)) _ | refine Ext.drewN ?_ _ | refine Ext.alloc ?_ _ | refine Ext.drew ?_ | refine Ext.trans ?_ (by assumption)))
          clear hK K
          refine wpAnyH_ready (rs := [13]) (by kernel_rfl) (by simp) ?_
          refine AllReadyH.cons (o := ?o33x13) ?hi33x13 (fun K hK => ?_) AllReadyH.nil
          case hi33x13 => (simp only [List.getElem?_toArray, List.getElem?_cons_succ, List.getElem?_cons_zero]; exact rfl)
          go_simp
          refine ((HCt _).out).mono ?_
          rintro e wk ⟨rfl, hxk⟩
          refine hK.out _ _ ?_ (fun hHeld => ?_)
          · (repeat (first | exact Ext.refl _ | assumption | refine Ext.setCell ?_ (by first | (simp; done) | (simp; omega)) _ | refine Ext.drewN ?_ _ | refine Ext.alloc ?_ _ | refine Ext.drew ?_ | refine Ext.trans ?_ (by assumption)))
          clear hK K
          refine wpAnyH_take (i := 14) (oi := ?o34x14) (v := ?v34x14) ?hi34x14 (by kernel_rfl) ?hf34x14 ?hr34x14 (fun _ _ _ h => h) ?hy34x14 (by assumption) ?rest34x14
          case hi34x14 => (simp only [List.getElem?_toArray, List.getElem?_cons_succ, List.getElem?_cons_zero]; exact rfl)
          case hf34x14 => kernel_rfl
          case hr34x14 => kernel_rfl
          case hy34x14 => (refine Or.inl ⟨by rfl, ?_⟩; intro w hSw; (try dsimp only at hSw); go_simp; try with_reducible rfl)
          simp only [put_mk, List.set_cons_succ, List.set_cons_zero]
          refine wpAnyH_take (i := 15) (oi := ?o35x15) (v := ?v35x15) ?hi35x15 (by kernel_rfl) ?hf35x15 ?hr35x15 (fun _ _ _ h => h) ?hy35x15 (by assumption) ?rest35x15
          case hi35x15 => (simp only [List.getElem?_toArray, List.getElem?_cons_succ, List.getElem?_cons_zero]; exact rfl)
          case hf35x15 => kernel_rfl
          case hr35x15 => kernel_rfl
          case hy35x15 => (refine Or.inl ⟨by rfl, ?_⟩; intro w hSw; (try dsimp only at hSw); go_simp; try with_reducible rfl)
          simp only [put_mk, List.set_cons_succ, List.set_cons_zero]
          refine wpAnyH_done (by kernel_rfl) ?_ _
          refine NoPanic.normal ?_
          go_wp2_with fail
          go_meet
          case rel => exact ⟨rfl, rfl, (by assumption)⟩
        case rest =>
          obtain ⟨rfl, rfl, hx2⟩ := hcut
          have hx02 := hx01.trans hx2
          have KF2 := hidA (KF1.out.ext hx2)
          have KR2 := hidA (KR1.out.ext hx2)
          have KA2 := hidA (KA1.out.ext hx2)
          clear e0 e1 e2 e3 e4 e5 e6 e7 HCk HCt KB KF1 KR1 KA1 hx01 hx0 hx1 hx2
          have f4 := KF2.out.cell 4
          have c0 := ca' _ hx02
          have c1 := cb' _ hx02
          go_upto_region 6 with (go_at_call 67; refine ((HRq _).out).mono ?_; rintro e w3 ⟨rfl, hw⟩; subst hw)
          go_quiet ((go_at_call 52; exact Calls.quiet_of_same (HAq _).out))
          have hx3 := hx02.drewN nq
          have KF3 := hidA (KF2.out.ext ((Ext.refl w3).drewN nq))
          have KR3 := hidA (KR2.out.ext ((Ext.refl w3).drewN nq))
          have KA3 := hidA (KA2.out.ext ((Ext.refl w3).drewN nq))
          clear f4 c0 c1 q1 q2 KF2 KR2 KA2 hx02 HRq HAq
          generalize w3.drewN nq = w5 at *
          have r0 := KR3.out.cell 0
          cases hg : gt st R.gr
          · have hg' : (FloatKind.f32.format.order st R.gr == some .gt) = false := hg
            have hst := S1.out hg
            rw [hg] at HT
            clear S1 hg
            obtain ⟨b1, b2, b3, b4, b5, b6⟩ := N1.out hst
            have q1 := fun (w : World) => run_float_arith (P := Try.prog) w .mul 27 .f32 _ _ _ b1
            have q2 := fun (w : World) => run_float_arith (P := Try.prog) w .mul 27 .f32 _ _ _ b2
            have q3 := fun (w : World) => run_float_arith (P := Try.prog) w .add 27 .f32 _ _ _ b3
            have q4 := fun (w : World) => run_float_arith (P := Try.prog) w .mul 27 .f32 _ _ _ b4
            have hco : (R.co = none ∧ m = 0) ∨ ∃ l', R.co = some l' ∧ m = 1 := by
              have h := HCR.out
              cases hc : R.co with
              | none => rw [hc] at h; exact .inl ⟨rfl, h⟩
              | some l' => rw [hc] at h; exact .inr ⟨l', rfl, h.1⟩
            have Hf : Hid (res = some (costC R (costN R long st) t)) := by show res = _; rw [HT.out, if_neg (by simp), if_neg (by omega)]
            have r1 := KR3.out.cell 1
            have r5 := KR3.out.cell 5
            clear HT B1 N1 b1 b2 b3 b4
            rcases hco with ⟨h1, h2⟩ | ⟨l', hc1, hm1⟩
            · have Hf2 : Hid (res = some (costN R long st)) := by show res = _; rw [Hf.out]; unfold costC; rw [h1]
              subst h2
              clear Hf h1 b5 b6
              generalize costN R long st = cN at *
              generalize fadd 1065353216 (fmul (fmul R.wt st) st) = x3 at *
              generalize fmul (fmul R.wt st) st = x2 at *
              generalize fmul R.wt st = x1 at *
              go_wp2
              go_ret2
              exact ⟨by rw [Hf2.out]; rfl, hx3⟩
            · subst hm1
              obtain ⟨e1, e2, _, _⟩ := HC1.out l' _ hc1 b5 b6
              have hCC := HCR.out
              rw [hc1] at hCC
              obtain ⟨_, X', Y', W', H', B, c', rr1, rr2⟩ := hCC
              have hl' := HR.out.len l' hc1
              have htl : t < l'.length := by rw [hl']; exact Ht.out
              obtain ⟨adB, rfl, hbB, cB⟩ := flt_at (rr2.ext hx3) htl
              obtain ⟨adC, rfl, hbC, cC⟩ := (rr1.ext hx3) (by simp)
              have d4 := cC 4 _ rfl
              rw [add_pos _ (by omega)] at d4
              have q5 := fun (w : World) => run_float_arith (P := Try.prog) w .add 27 .f32 _ _ _ e1
              have q6 := fun (w : World) => run_float_arith (P := Try.prog) w .mul 27 .f32 _ _ _ e2
              clear e1 e2 b5 b6 rr1 rr2 cC hl' hbB hbC
              generalize costC R (costN R long st) t = cF at *
              generalize costN R long st = cN at *
              generalize fadd 1065353216 (fmul (fmul R.wt st) st) = x3 at *
              generalize fmul (fmul R.wt st) st = x2 at *
              generalize fmul R.wt st = x1 at *
              generalize fadd 1065353216 (l'.getD t 0) = x5 at *
              generalize l'.getD t 0 = x4 at *
              generalize l'.length = L at *
              have t1 : (t : Int) < L := by omega
              clear htl
              go_wp2
              go_ret2
              exact ⟨by rw [Hf.out]; rfl, hx3⟩
          · have hg' : (FloatKind.f32.format.order st R.gr == some .gt) = true := hg
            have Hf : Hid (res = none) := by show res = none; rw [HT.out, if_pos hg]
            clear hg S1 B1 N1 HT
            go_wp2
            go_ret2
            exact ⟨by rw [Hf.out]; rfl, hx3⟩
    · have hn2 : 1 < n ∧ R.sp < n := by have := Hsv.out; omega
      have Hres := hidA (hres.out.trans (if_neg hns))
      have hn' : (1 : Int) < n := by omega
      have hn0 : ¬ (n : Int) = 0 := by omega
      have hnb : ((n : Int) == 0) = false := by simp; omega
      have hsp' : (R.sp : Int) < n := by omega
      have hd1 : decide ((1 : Int) < n) = true := by simpa using hn'
      have hd2 : decide ((R.sp : Int) < n) = true := by simpa using hsp'
      clear hns hn2 hres
      go_wp2_with (go_at_call 36; refine ((HLp _).out).mono ?_; rintro e w3 ⟨rfl, hx3⟩; have r4 := (KR.out.ext hx3).cell 4)
      go_ret2
      exact ⟨by rw [Hres.out]; rfl, hx0.trans (by repeat (first | exact Ext.refl _ | assumption | refine Ext.setCell ?_ (by first | (simp; done) | (simp; omega)) _ | refine Ext.drewN ?_ _ | refine Ext.alloc ?_ _ | refine Ext.drew ?_ | refine Ext.trans ?_ (by assumption)))⟩
end Go.Proofs.Ytpgdinpckolfpaa

namespace Go.Proofs.Ytpgdinpckolfpaa
open Go.RowKit
attribute [local go_sem ↓] Go.wp_at_zero Go.wp_at_succ
attribute [local go_sem] run_store_float

set_option maxRecDepth 100000 in
set_option maxHeartbeats 6400000 in
theorem RulesError_any (gr wt br de : Nat) (sp : Int) (C : Option Addr) (m cc : Nat) (X' Y' W' H' : Int) (l : List Nat) (w : World) (hC : CoP w C m X' Y' W' H' l) (hm : m ≤ 140737488351232) :
    Calls Try.prog 16 #[.agg #[.float .f32 gr, .float .f32 wt, .float .f32 br, .float .f32 de, .int .i64 sp, .slice C m cc]] w fun e w' => e = .returned (.int .i64 (rulesE gr wt br de sp m X' Y' W' H' l)) ∧ Ext w w' := by
  have HHe := fun (w' : World) (A : Option Addr) (h : Rd w' A (flt [gr, wt, br, de])) => hidA (numberError_any A 4 4 [gr, wt, br, de] w' rfl h (by omega))
  have HC := hidA hC
  have hE : Hid (rulesE gr wt br de sp m X' Y' W' H' l = if numE [gr, wt, br, de] ≠ 0 then numE [gr, wt, br, de]
    else if outB gr = true ∨ outB wt = true ∨ outB de = true then 3
    else if lt br 1065353216 = true ∨ gt br 1149239296 = true ∨ spanB sp = true then 3
    else coE m X' Y' W' H' l) := rfl
  generalize rulesE gr wt br de sp m X' Y' W' H' l = E at *
  generalize numE [gr, wt, br, de] = ne at *
  clear hC
  go_enter Try.func16, Try.ntmps16
  go_upto_region 1 with fail
  have kR : Bk (w.alloc (.cells #[.float .f32 gr, .float .f32 wt, .float .f32 br, .float .f32 de, .int .i64 sp, .slice C m cc] 30)) w.heap.size 30 #[.float .f32 gr, .float .f32 wt, .float .f32 br, .float .f32 de, .int .i64 sp, .slice C m cc] := Bk.new' rfl
  have hx0 : Ext w (w.alloc (.cells #[.float .f32 gr, .float .f32 wt, .float .f32 br, .float .f32 de, .int .i64 sp, .slice C m cc] 30)) := (Ext.refl w).alloc _
  generalize w.alloc (.cells #[.float .f32 gr, .float .f32 wt, .float .f32 br, .float .f32 de, .int .i64 sp, .slice C m cc] 30) = w0 at *
  generalize w.heap.size = hr at *
  have r0 := kR.cell 0
  have r1 := kR.cell 1
  have r2 := kR.cell 2
  have r3 := kR.cell 3
  go_upto_region 2 with (go_at_call 32; refine ((HHe _ _ (Rd.new rfl rfl)).out).mono ?_; rintro e w1 ⟨rfl, hw1⟩)
  have hx1 : Ext w w1 := by rw [← hw1]; exact hx0.alloc _
  have kR1 : Bk w1 hr 30 #[.float .f32 gr, .float .f32 wt, .float .f32 br, .float .f32 de, .int .i64 sp, .slice C m cc] := by rw [← hw1]; exact kR.alloc _
  clear hw1 HHe kR hx0 r0 r1 r2 r3
  have r0 := kR1.cell 0
  have r1 := kR1.cell 1
  have r2 := kR1.cell 2
  have r3 := kR1.cell 3
  have r4 := kR1.cell 4
  have r5 := kR1.cell 5
  by_cases hne : ne = 0
  · have bne : (ne != 0) = false := by simpa using hne
    have hE2 := hE.out
    rw [if_neg (by simpa using hne)] at hE2
    have HE2 := hidA hE2
    clear hE hE2 hne
    go_upto_region 5 with fail
    obtain ⟨w2, hw2⟩ : ∃ w2, w2 = w1.alloc (.cells #[.float .f32 gr, .float .f32 wt, .float .f32 de] 27) := ⟨_, rfl⟩
    have kT : Bk w2 w1.heap.size 27 #[.float .f32 gr, .float .f32 wt, .float .f32 de] := by rw [hw2]; exact Bk.new' rfl
    have kR2 : Bk w2 hr 30 #[.float .f32 gr, .float .f32 wt, .float .f32 br, .float .f32 de, .int .i64 sp, .slice C m cc] := by rw [hw2]; exact kR1.alloc _
    have hx2 : Ext w w2 := by rw [hw2]; exact hx1.alloc _
    rw [← hw2]
    clear hw2 r0 r1 r2 r3 r4 r5 kR1 hx1
    have r2 := kR2.cell 2
    have r4 := kR2.cell 4
    have r5 := kR2.cell 5
    have t0 := kT.cell 0
    have t1 := kT.cell 1
    have t2 := kT.cell 2
    have kR1 := kR2
    have hx1 := hx2
    go_loopw [32, 5] (fun s29 _ wr => ∃ k : Nat, k ≤ 3 ∧ s29 = .int .i64 k ∧ (1 ≤ k → outB gr = false) ∧ (2 ≤ k → outB wt = false) ∧ (3 ≤ k → outB de = false) ∧ wr = w2) (fun s29 _ _ => 3 - (intOf s29).toNat)
    case atStart => exact ⟨0, by omega, rfl, fun h => by omega, fun h => by omega, fun h => by omega, rfl⟩
    case round =>
      obtain ⟨k, hk, rfl, h1, h2, h3, rfl⟩ := hrel
      rcases (by omega : k = 0 ∨ k = 1 ∨ k = 2 ∨ k = 3) with rfl | rfl | rfl | rfl
      · obtain ⟨p, hp⟩ : ∃ p, lt gr 0 = p := ⟨_, rfl⟩
        obtain ⟨q, hq⟩ : ∃ q, gt gr 1149239296 = q := ⟨_, rfl⟩
        have ho : Hid (outB gr = (p || q)) := by show _ = _; unfold outB; rw [hp, hq]
        have g1 : (FloatKind.f32.format.order gr 0 == some .lt) = p := hp
        have g2 : (FloatKind.f32.format.order gr 1149239296 == some .gt) = q := hq
        have H1 := hidA h1
        have H2 := hidA h2
        have H3 := hidA h3
        have HEt := hidA (show outB gr = true → E = 3 from fun h => by rw [HE2.out, if_pos (by simp [h])])
        clear hp hq h1 h2 h3
        cases p
        · cases q
          · have Ho := hidA (show outB gr = false from ho.out)
            go_wp2
            go_roundw
            case rel => exact ⟨0+1, by omega, rfl, fun _ => Ho.out, fun h => by omega, fun h => by omega, trivial⟩
            case measure => decide
          · have hE9 := HEt.out ho.out
            subst hE9
            go_wp2
            go_ret
            exact ⟨rfl, hx1⟩
        · have hE9 := HEt.out (by rw [ho.out]; rfl)
          subst hE9
          go_wp2
          go_ret
          exact ⟨rfl, hx1⟩
      · obtain ⟨p, hp⟩ : ∃ p, lt wt 0 = p := ⟨_, rfl⟩
        obtain ⟨q, hq⟩ : ∃ q, gt wt 1149239296 = q := ⟨_, rfl⟩
        have ho : Hid (outB wt = (p || q)) := by show _ = _; unfold outB; rw [hp, hq]
        have g1 : (FloatKind.f32.format.order wt 0 == some .lt) = p := hp
        have g2 : (FloatKind.f32.format.order wt 1149239296 == some .gt) = q := hq
        have H1 := hidA h1
        have H2 := hidA h2
        have H3 := hidA h3
        have HEt := hidA (show outB wt = true → E = 3 from fun h => by rw [HE2.out, if_pos (by simp [h])])
        clear hp hq h1 h2 h3
        cases p
        · cases q
          · have Ho := hidA (show outB wt = false from ho.out)
            go_wp2
            go_roundw
            case rel => exact ⟨1+1, by omega, rfl, fun _ => H1.out (by omega), fun _ => Ho.out, fun h => by omega, trivial⟩
            case measure => decide
          · have hE9 := HEt.out ho.out
            subst hE9
            go_wp2
            go_ret
            exact ⟨rfl, hx1⟩
        · have hE9 := HEt.out (by rw [ho.out]; rfl)
          subst hE9
          go_wp2
          go_ret
          exact ⟨rfl, hx1⟩
      · obtain ⟨p, hp⟩ : ∃ p, lt de 0 = p := ⟨_, rfl⟩
        obtain ⟨q, hq⟩ : ∃ q, gt de 1149239296 = q := ⟨_, rfl⟩
        have ho : Hid (outB de = (p || q)) := by show _ = _; unfold outB; rw [hp, hq]
        have g1 : (FloatKind.f32.format.order de 0 == some .lt) = p := hp
        have g2 : (FloatKind.f32.format.order de 1149239296 == some .gt) = q := hq
        have H1 := hidA h1
        have H2 := hidA h2
        have H3 := hidA h3
        have HEt := hidA (show outB de = true → E = 3 from fun h => by rw [HE2.out, if_pos (by simp [h])])
        clear hp hq h1 h2 h3
        cases p
        · cases q
          · have Ho := hidA (show outB de = false from ho.out)
            go_wp2
            go_roundw
            case rel => exact ⟨2+1, by omega, rfl, fun _ => H1.out (by omega), fun _ => H2.out (by omega), fun _ => Ho.out, trivial⟩
            case measure => decide
          · have hE9 := HEt.out ho.out
            subst hE9
            go_wp2
            go_ret
            exact ⟨rfl, hx1⟩
        · have hE9 := HEt.out (by rw [ho.out]; rfl)
          subst hE9
          go_wp2
          go_ret
          exact ⟨rfl, hx1⟩
      · have o1 := h1 (by omega)
        have o2 := h2 (by omega)
        have o3 := h3 (by omega)
        have hE3 := HE2.out
        rw [if_neg (by simp [o1, o2, o3])] at hE3
        have HE3 := hidA hE3
        clear hE3 HE2 h1 h2 h3 o1 o2 o3
        obtain ⟨p, hp⟩ : ∃ p, lt br 1065353216 = p := ⟨_, rfl⟩
        obtain ⟨q, hq⟩ : ∃ q, gt br 1149239296 = q := ⟨_, rfl⟩
        have g1 : (FloatKind.f32.format.order br 1065353216 == some .lt) = p := hp
        have g2 : (FloatKind.f32.format.order br 1149239296 == some .gt) = q := hq
        have HEt := hidA (show (p = true ∨ q = true ∨ spanB sp = true) → E = 3 from fun h => by rw [HE3.out, hp, hq, if_pos h])
        have HE4 := hidA (show p = false → q = false → spanB sp = false → E = coE m X' Y' W' H' l from fun h1 h2 h3 => by rw [HE3.out, hp, hq, if_neg (by simp [h1, h2, h3])])
        clear hp hq
        cases p
        case true =>
          have hE9 := HEt.out (.inl rfl)
          subst hE9
          go_wp2
          go_ret
          exact ⟨rfl, hx1⟩
        cases q
        case true =>
          have hE9 := HEt.out (.inr (.inl rfl))
          subst hE9
          go_wp2
          go_ret
          exact ⟨rfl, hx1⟩
        have HE4 := hidA (HE4.out rfl rfl)
        rcases (by omega : sp = 0 ∨ (¬ sp = 0 ∧ sp < 2) ∨ (¬ sp = 0 ∧ ¬ sp < 2 ∧ 12 < sp) ∨ (¬ sp = 0 ∧ ¬ sp < 2 ∧ ¬ 12 < sp)) with rfl | ⟨e1, e2⟩ | ⟨e1, e2, e3⟩ | ⟨e1, e2, e3⟩
        · have b1 : ((0 : Int) != 0) = false := rfl
          have HE5 := hidA (HE4.out (by first | (unfold spanB; simp; done) | (unfold spanB; simp; omega)))
          go_upto_region 12 with fail
          clear g1 g2 HE3 HE4 HEt
          by_cases hm1 : 1 < m
          · have hm2 : (1 : Int) < m := by omega
            have HE6 := hidA (show E = 4 from by rw [HE5.out]; unfold coE; rw [if_pos hm1])
            clear hm1 HE5
            go_wp2
            go_ret
            exact ⟨ret_i HE6.out.symm, hx1⟩
          · have hm2 : ¬ (1 : Int) < m := by omega
            have hmle : m ≤ 1 := by omega
            have HE6 := hidA (show E = if m = 0 then 0 else if fieldE X' Y' W' H' l ≠ 0 then fieldE X' Y' W' H' l else if l.any outB = true then 3 else 0 from by rw [HE5.out]; unfold coE; rw [if_neg hm1])
            rcases (by omega : m = 0 ∨ m = 1) with rfl | rfl
            · have HE7 := hidA (HE6.out.trans (if_pos rfl))
              clear hm1 HE5 HE6
              go_upto_region 15 with fail
              have hx5 := Ext.refl wr
              go_loopw [73] (fun s75 wx => s75 = .int .i64 0 ∧ Ext wr wx) (fun _ _ => 0)
              case atStart => exact ⟨rfl, Ext.refl _⟩
              case round =>
                obtain ⟨rfl, hx⟩ := hrel
                go_wp2
                go_ret
                exact ⟨ret_i HE7.out.symm, (hx1.trans hx5).trans hx⟩
            · have HE7 := hidA (HE6.out.trans (if_neg (by omega)))
              clear hm1 HE5 HE6
              obtain ⟨B, c', q1, q2, q3⟩ := HC.out.one rfl
              have HFE := fun (w' : World) (h : Ext w w') => hidA (fieldError_any X' Y' W' H' B l.length c' l w' rfl (q2.ext h) q3)
              go_upto_region 15 with fail
              have hx5 := Ext.refl wr
              obtain ⟨ad, rfl, hbk, hc⟩ := q1 (by simp)
              have d0 := hc 0 _ rfl
              have d1 := hc 1 _ rfl
              have d2 := hc 2 _ rfl
              have d3 := hc 3 _ rfl
              have d4 := hc 4 _ rfl
              rw [show ad.add 0 = ad from rfl] at d0
              rw [add_pos _ (by omega)] at d1 d2 d3 d4
              go_loopw [73] (fun s75 wx => ∃ k : Nat, k ≤ 1 ∧ s75 = .int .i64 k ∧ (k = 1 → E = 0) ∧ Ext w wx) (fun s75 _ => 1 - (intOf s75).toNat)
              case atStart => exact ⟨0, by omega, rfl, fun h => by omega, hx1⟩
              case round =>
                obtain ⟨k, hk, rfl, hz, hx⟩ := hrel
                rcases (by omega : k = 0 ∨ k = 1) with rfl | rfl
                · have D0 := (hx.cell ad hbk).trans d0
                  have D1 := (hx.cell ⟨ad.block, ad.off + 1, none⟩ hbk).trans d1
                  have D2 := (hx.cell ⟨ad.block, ad.off + 2, none⟩ hbk).trans d2
                  have D3 := (hx.cell ⟨ad.block, ad.off + 3, none⟩ hbk).trans d3
                  have D4 := (hx.cell ⟨ad.block, ad.off + 4, none⟩ hbk).trans d4
                  clear d0 d1 d2 d3 d4 hz
                  go_upto_region 17 with fail
                  have kF : Bk (wr.alloc (.cells #[.int .i64 X', .int .i64 Y', .int .i64 W', .int .i64 H', .slice B l.length c'] 26)) wr.heap.size 26 #[.int .i64 X', .int .i64 Y', .int .i64 W', .int .i64 H', .slice B l.length c'] := Bk.new' rfl
                  have f0 := kF.cell 0
                  have f1 := kF.cell 1
                  have f2 := kF.cell 2
                  have f3 := kF.cell 3
                  have f4 := kF.cell 4
                  have HFE2 := fun (w' : World) (h : Ext wr w') => HFE w' (hx.trans h)
                  by_cases hfe : fieldE X' Y' W' H' l = 0
                  · have HE8 := hidA (HE7.out.trans (if_neg (by simp [hfe])))
                    have hlen := fieldE_len0 hfe
                    simp only [hfe] at HFE2
                    clear HE7 hfe HFE
                    go_upto_region 18 with (go_at_call 49; refine ((HFE2 _ (by repeat (first | exact Ext.refl _ | assumption | refine Ext.setCell ?_ (by first | (simp; done) | (simp; omega)) _ | refine Ext.drewN ?_ _ | refine Ext.alloc ?_ _ | refine Ext.drew ?_ | refine Ext.trans ?_ (by assumption)))).out).mono ?_; rintro e w7 ⟨rfl, hx7⟩)
                    have kF7 := kF.ext hx7
                    have f4 := kF7.cell 4
                    have hx8 : Ext w w7 := (by repeat (first | exact Ext.refl _ | assumption | refine Ext.setCell ?_ (by first | (simp; done) | (simp; omega)) _ | refine Ext.drewN ?_ _ | refine Ext.alloc ?_ _ | refine Ext.drew ?_ | refine Ext.trans ?_ (by assumption)))
                    have hB := q2.ext hx8
                    clear f0 f1 f2 f3 D0 D1 D2 D3 D4 HFE2
                    go_upto_region 21 with fail
                    go_loopw [85] (fun s85 wx => ∃ j : Nat, j ≤ l.length ∧ s85 = .int .i64 j ∧ (∀ i, i < j → outB (l.getD i 0) = false) ∧ wx = w7) (fun s85 _ => l.length - (intOf s85).toNat)
                    case atStart => exact ⟨0, Nat.zero_le _, rfl, fun i hi => by omega, rfl⟩
                    case round =>
                      obtain ⟨j, hj, rfl, hall, rfl⟩ := hrel
                      have Hall := hidA hall
                      clear hall
                      by_cases hjl : j < l.length
                      · obtain ⟨ad2, hB2, hb2, hcell⟩ := flt_at hB hjl
                        subst hB2
                        obtain ⟨b, hb⟩ : ∃ b, l.getD j 0 = b := ⟨_, rfl⟩
                        rw [hb] at hcell
                        obtain ⟨p, hp⟩ : ∃ p, lt b 0 = p := ⟨_, rfl⟩
                        obtain ⟨q, hq⟩ : ∃ q, gt b 1149239296 = q := ⟨_, rfl⟩
                        have Ho : Hid (outB b = (p || q)) := by show _ = _; unfold outB; rw [hp, hq]
                        have g1 : (FloatKind.f32.format.order b 0 == some .lt) = p := hp
                        have g2 : (FloatKind.f32.format.order b 1149239296 == some .gt) = q := hq
                        have Hb := hidA hb
                        clear hp hq hb
                        by_cases hpq : p = false ∧ q = false
                        · obtain ⟨rfl, rfl⟩ := hpq
                          go_wp2_with fail
                          go_roundw
                          case rel => exact ⟨j + 1, by omega, by go_num, fun i hi => by
                            rcases (by omega : i < j ∨ i = j) with h | rfl
                            · exact Hall.out i h
                            · rw [Hb.out, Ho.out]; rfl, by trivial⟩
                          case measure => simp [intOf]; omega
                        · have Hpq : Hid (l.any outB = true) := hidA (by
                            refine List.any_eq_true.mpr ⟨b, ?_, by rw [Ho.out]; cases p <;> cases q <;> simp_all⟩
                            have h1 := Hb.out
                            rw [show l.getD j 0 = l[j] by simp [List.getD_eq_getElem?_getD, hjl]] at h1
                            rw [← h1]; exact List.getElem_mem hjl)
                          have HE9 := hidA (HE8.out.trans (if_pos Hpq.out))
                          clear HE8
                          cases p
                          · cases q
                            · exact absurd ⟨rfl, rfl⟩ hpq
                            · clear hpq
                              go_wp2_with fail
                              go_ret
                              exact ⟨ret_i HE9.out.symm, hx8⟩
                          · clear hpq
                            go_wp2_with fail
                            go_ret
                            exact ⟨ret_i HE9.out.symm, hx8⟩
                      · have Hno : Hid (l.any outB = false) := hidA (by
                          rw [List.any_eq_false]
                          intro v hv
                          obtain ⟨i, hi, rfl⟩ := List.getElem_of_mem hv
                          have := Hall.out i (by omega)
                          rw [show l.getD i 0 = l[i] by simp [List.getD_eq_getElem?_getD, hi]] at this
                          simp [this])
                        have HE9 := hidA (HE8.out.trans (if_neg (by rw [Hno.out]; decide)))
                        clear HE8
                        go_wp2_with fail
                        go_roundw
                        case rel => exact ⟨1, by omega, rfl, fun _ => HE9.out, hx8⟩
                        case measure => decide
                  · have bfe : (fieldE X' Y' W' H' l != 0) = true := by simpa using hfe
                    have HE8 := hidA (HE7.out.trans (if_pos hfe))
                    clear HE7 hfe HFE
                    go_wp2_with (go_at_call 49; refine ((HFE2 _ (by repeat (first | exact Ext.refl _ | assumption | refine Ext.setCell ?_ (by first | (simp; done) | (simp; omega)) _ | refine Ext.drewN ?_ _ | refine Ext.alloc ?_ _ | refine Ext.drew ?_ | refine Ext.trans ?_ (by assumption)))).out).mono ?_; rintro e w7 ⟨rfl, hx7⟩)
                    go_ret
                    exact ⟨ret_i HE8.out.symm, (by repeat (first | exact Ext.refl _ | assumption | refine Ext.setCell ?_ (by first | (simp; done) | (simp; omega)) _ | refine Ext.drewN ?_ _ | refine Ext.alloc ?_ _ | refine Ext.drew ?_ | refine Ext.trans ?_ (by assumption)))⟩
                · have hz0 := hz rfl
                  subst hz0
                  clear hz
                  go_wp2
                  go_ret
                  exact ⟨rfl, hx⟩
        · have b1 : (sp != 0) = true := by simpa using e1
          have hE9 := HEt.out (.inr (.inr (by unfold spanB; simp; omega)))
          subst hE9
          go_wp2
          go_ret
          exact ⟨rfl, hx1⟩
        · have b1 : (sp != 0) = true := by simpa using e1
          have hE9 := HEt.out (.inr (.inr (by unfold spanB; simp; omega)))
          subst hE9
          go_wp2
          go_ret
          exact ⟨rfl, hx1⟩
        · have b1 : (sp != 0) = true := by simpa using e1
          have HE5 := hidA (HE4.out (by first | (unfold spanB; simp; done) | (unfold spanB; simp; omega)))
          go_upto_region 12 with fail
          clear g1 g2 HE3 HE4 HEt
          by_cases hm1 : 1 < m
          · have hm2 : (1 : Int) < m := by omega
            have HE6 := hidA (show E = 4 from by rw [HE5.out]; unfold coE; rw [if_pos hm1])
            clear hm1 HE5
            go_wp2
            go_ret
            exact ⟨ret_i HE6.out.symm, hx1⟩
          · have hm2 : ¬ (1 : Int) < m := by omega
            have hmle : m ≤ 1 := by omega
            have HE6 := hidA (show E = if m = 0 then 0 else if fieldE X' Y' W' H' l ≠ 0 then fieldE X' Y' W' H' l else if l.any outB = true then 3 else 0 from by rw [HE5.out]; unfold coE; rw [if_neg hm1])
            rcases (by omega : m = 0 ∨ m = 1) with rfl | rfl
            · have HE7 := hidA (HE6.out.trans (if_pos rfl))
              clear hm1 HE5 HE6
              go_upto_region 15 with fail
              have hx5 := Ext.refl wr
              go_loopw [73] (fun s75 wx => s75 = .int .i64 0 ∧ Ext wr wx) (fun _ _ => 0)
              case atStart => exact ⟨rfl, Ext.refl _⟩
              case round =>
                obtain ⟨rfl, hx⟩ := hrel
                go_wp2
                go_ret
                exact ⟨ret_i HE7.out.symm, (hx1.trans hx5).trans hx⟩
            · have HE7 := hidA (HE6.out.trans (if_neg (by omega)))
              clear hm1 HE5 HE6
              obtain ⟨B, c', q1, q2, q3⟩ := HC.out.one rfl
              have HFE := fun (w' : World) (h : Ext w w') => hidA (fieldError_any X' Y' W' H' B l.length c' l w' rfl (q2.ext h) q3)
              go_upto_region 15 with fail
              have hx5 := Ext.refl wr
              obtain ⟨ad, rfl, hbk, hc⟩ := q1 (by simp)
              have d0 := hc 0 _ rfl
              have d1 := hc 1 _ rfl
              have d2 := hc 2 _ rfl
              have d3 := hc 3 _ rfl
              have d4 := hc 4 _ rfl
              rw [show ad.add 0 = ad from rfl] at d0
              rw [add_pos _ (by omega)] at d1 d2 d3 d4
              go_loopw [73] (fun s75 wx => ∃ k : Nat, k ≤ 1 ∧ s75 = .int .i64 k ∧ (k = 1 → E = 0) ∧ Ext w wx) (fun s75 _ => 1 - (intOf s75).toNat)
              case atStart => exact ⟨0, by omega, rfl, fun h => by omega, hx1⟩
              case round =>
                obtain ⟨k, hk, rfl, hz, hx⟩ := hrel
                rcases (by omega : k = 0 ∨ k = 1) with rfl | rfl
                · have D0 := (hx.cell ad hbk).trans d0
                  have D1 := (hx.cell ⟨ad.block, ad.off + 1, none⟩ hbk).trans d1
                  have D2 := (hx.cell ⟨ad.block, ad.off + 2, none⟩ hbk).trans d2
                  have D3 := (hx.cell ⟨ad.block, ad.off + 3, none⟩ hbk).trans d3
                  have D4 := (hx.cell ⟨ad.block, ad.off + 4, none⟩ hbk).trans d4
                  clear d0 d1 d2 d3 d4 hz
                  go_upto_region 17 with fail
                  have kF : Bk (wr.alloc (.cells #[.int .i64 X', .int .i64 Y', .int .i64 W', .int .i64 H', .slice B l.length c'] 26)) wr.heap.size 26 #[.int .i64 X', .int .i64 Y', .int .i64 W', .int .i64 H', .slice B l.length c'] := Bk.new' rfl
                  have f0 := kF.cell 0
                  have f1 := kF.cell 1
                  have f2 := kF.cell 2
                  have f3 := kF.cell 3
                  have f4 := kF.cell 4
                  have HFE2 := fun (w' : World) (h : Ext wr w') => HFE w' (hx.trans h)
                  by_cases hfe : fieldE X' Y' W' H' l = 0
                  · have HE8 := hidA (HE7.out.trans (if_neg (by simp [hfe])))
                    have hlen := fieldE_len0 hfe
                    simp only [hfe] at HFE2
                    clear HE7 hfe HFE
                    go_upto_region 18 with (go_at_call 49; refine ((HFE2 _ (by repeat (first | exact Ext.refl _ | assumption | refine Ext.setCell ?_ (by first | (simp; done) | (simp; omega)) _ | refine Ext.drewN ?_ _ | refine Ext.alloc ?_ _ | refine Ext.drew ?_ | refine Ext.trans ?_ (by assumption)))).out).mono ?_; rintro e w7 ⟨rfl, hx7⟩)
                    have kF7 := kF.ext hx7
                    have f4 := kF7.cell 4
                    have hx8 : Ext w w7 := (by repeat (first | exact Ext.refl _ | assumption | refine Ext.setCell ?_ (by first | (simp; done) | (simp; omega)) _ | refine Ext.drewN ?_ _ | refine Ext.alloc ?_ _ | refine Ext.drew ?_ | refine Ext.trans ?_ (by assumption)))
                    have hB := q2.ext hx8
                    clear f0 f1 f2 f3 D0 D1 D2 D3 D4 HFE2
                    go_upto_region 21 with fail
                    go_loopw [85] (fun s85 wx => ∃ j : Nat, j ≤ l.length ∧ s85 = .int .i64 j ∧ (∀ i, i < j → outB (l.getD i 0) = false) ∧ wx = w7) (fun s85 _ => l.length - (intOf s85).toNat)
                    case atStart => exact ⟨0, Nat.zero_le _, rfl, fun i hi => by omega, rfl⟩
                    case round =>
                      obtain ⟨j, hj, rfl, hall, rfl⟩ := hrel
                      have Hall := hidA hall
                      clear hall
                      by_cases hjl : j < l.length
                      · obtain ⟨ad2, hB2, hb2, hcell⟩ := flt_at hB hjl
                        subst hB2
                        obtain ⟨b, hb⟩ : ∃ b, l.getD j 0 = b := ⟨_, rfl⟩
                        rw [hb] at hcell
                        obtain ⟨p, hp⟩ : ∃ p, lt b 0 = p := ⟨_, rfl⟩
                        obtain ⟨q, hq⟩ : ∃ q, gt b 1149239296 = q := ⟨_, rfl⟩
                        have Ho : Hid (outB b = (p || q)) := by show _ = _; unfold outB; rw [hp, hq]
                        have g1 : (FloatKind.f32.format.order b 0 == some .lt) = p := hp
                        have g2 : (FloatKind.f32.format.order b 1149239296 == some .gt) = q := hq
                        have Hb := hidA hb
                        clear hp hq hb
                        by_cases hpq : p = false ∧ q = false
                        · obtain ⟨rfl, rfl⟩ := hpq
                          go_wp2_with fail
                          go_roundw
                          case rel => exact ⟨j + 1, by omega, by go_num, fun i hi => by
                            rcases (by omega : i < j ∨ i = j) with h | rfl
                            · exact Hall.out i h
                            · rw [Hb.out, Ho.out]; rfl, by trivial⟩
                          case measure => simp [intOf]; omega
                        · have Hpq : Hid (l.any outB = true) := hidA (by
                            refine List.any_eq_true.mpr ⟨b, ?_, by rw [Ho.out]; cases p <;> cases q <;> simp_all⟩
                            have h1 := Hb.out
                            rw [show l.getD j 0 = l[j] by simp [List.getD_eq_getElem?_getD, hjl]] at h1
                            rw [← h1]; exact List.getElem_mem hjl)
                          have HE9 := hidA (HE8.out.trans (if_pos Hpq.out))
                          clear HE8
                          cases p
                          · cases q
                            · exact absurd ⟨rfl, rfl⟩ hpq
                            · clear hpq
                              go_wp2_with fail
                              go_ret
                              exact ⟨ret_i HE9.out.symm, hx8⟩
                          · clear hpq
                            go_wp2_with fail
                            go_ret
                            exact ⟨ret_i HE9.out.symm, hx8⟩
                      · have Hno : Hid (l.any outB = false) := hidA (by
                          rw [List.any_eq_false]
                          intro v hv
                          obtain ⟨i, hi, rfl⟩ := List.getElem_of_mem hv
                          have := Hall.out i (by omega)
                          rw [show l.getD i 0 = l[i] by simp [List.getD_eq_getElem?_getD, hi]] at this
                          simp [this])
                        have HE9 := hidA (HE8.out.trans (if_neg (by rw [Hno.out]; decide)))
                        clear HE8
                        go_wp2_with fail
                        go_roundw
                        case rel => exact ⟨1, by omega, rfl, fun _ => HE9.out, hx8⟩
                        case measure => decide
                  · have bfe : (fieldE X' Y' W' H' l != 0) = true := by simpa using hfe
                    have HE8 := hidA (HE7.out.trans (if_pos hfe))
                    clear HE7 hfe HFE
                    go_wp2_with (go_at_call 49; refine ((HFE2 _ (by repeat (first | exact Ext.refl _ | assumption | refine Ext.setCell ?_ (by first | (simp; done) | (simp; omega)) _ | refine Ext.drewN ?_ _ | refine Ext.alloc ?_ _ | refine Ext.drew ?_ | refine Ext.trans ?_ (by assumption)))).out).mono ?_; rintro e w7 ⟨rfl, hx7⟩)
                    go_ret
                    exact ⟨ret_i HE8.out.symm, (by repeat (first | exact Ext.refl _ | assumption | refine Ext.setCell ?_ (by first | (simp; done) | (simp; omega)) _ | refine Ext.drewN ?_ _ | refine Ext.alloc ?_ _ | refine Ext.drew ?_ | refine Ext.trans ?_ (by assumption)))⟩
                · have hz0 := hz rfl
                  subst hz0
                  clear hz
                  go_wp2
                  go_ret
                  exact ⟨rfl, hx⟩
  · have bne : (ne != 0) = true := by simpa using hne
    have HE2 := hidA (hE.out.trans (if_pos hne))
    clear hE hne
    go_wp2
    go_ret
    exact ⟨ret_i (by rw [HE2.out]), hx1⟩
end Go.Proofs.Ytpgdinpckolfpaa

namespace Go.Proofs.Ytpgdinpckolfpaa
open Go.RowKit
attribute [local go_sem ↓] Go.wp_at_zero Go.wp_at_succ

set_option maxRecDepth 100000 in
set_option maxHeartbeats 6400000 in
theorem GroundError_any (X Y W H : Int) (A : Option Addr) (n c : Nat) (lf : List Nat) (gr wt br de : Nat) (sp : Int) (C : Option Addr) (m cc : Nat) (X' Y' W' H' : Int) (l : List Nat) (w : World) (hn : lf.length = n) (hV : Rd w A (flt lf)) (hb : n ≤ 140737488351232) (hC : CoP w C m X' Y' W' H' l) (hm : m ≤ 140737488351232) :
    Calls Try.prog 18 #[.agg #[.int .i64 X, .int .i64 Y, .int .i64 W, .int .i64 H, .slice A n c], .agg #[.float .f32 gr, .float .f32 wt, .float .f32 br, .float .f32 de, .int .i64 sp, .slice C m cc]] w fun e w' => e = .returned (.int .i64 (grndE X Y W H lf gr wt br de sp m X' Y' W' H' l)) ∧ Ext w w' := by
  have HF := fun (w' : World) (h : Ext w w') => hidA (fieldError_any X Y W H A n c lf w' hn (hV.ext h) hb)
  have HR := fun (w' : World) (h : Ext w w') => hidA (RulesError_any gr wt br de sp C m cc X' Y' W' H' l w' (hC.ext h) hm)
  have hE : Hid (grndE X Y W H lf gr wt br de sp m X' Y' W' H' l = if fieldE X Y W H lf ≠ 0 then fieldE X Y W H lf else if rulesE gr wt br de sp m X' Y' W' H' l ≠ 0 then rulesE gr wt br de sp m X' Y' W' H' l
    else if m = 1 ∧ ¬ (X' = X ∧ Y' = Y ∧ W' = W ∧ H' = H) then 5 else 0) := rfl
  have Hm1 := hidA (fun h => rulesE_m (gr := gr) (wt := wt) (br := br) (de := de) (sp := sp) (m := m) (X' := X') (Y' := Y') (W' := W') (H' := H') (l := l) h)
  generalize grndE X Y W H lf gr wt br de sp m X' Y' W' H' l = E at *
  generalize rulesE gr wt br de sp m X' Y' W' H' l = re at *
  generalize fieldE X Y W H lf = fe at *
  have HC := hidA hC
  clear hC hn hV hb hm
  go_enter Try.func18, Try.ntmps18
  go_upto_region 1 with fail
  have kF : Bk ((w.alloc (.cells #[.int .i64 X, .int .i64 Y, .int .i64 W, .int .i64 H, .slice A n c] 26)).alloc (.cells #[.float .f32 gr, .float .f32 wt, .float .f32 br, .float .f32 de, .int .i64 sp, .slice C m cc] 30)) w.heap.size 26 #[.int .i64 X, .int .i64 Y, .int .i64 W, .int .i64 H, .slice A n c] := (Bk.new' rfl).alloc _
  have kR : Bk ((w.alloc (.cells #[.int .i64 X, .int .i64 Y, .int .i64 W, .int .i64 H, .slice A n c] 26)).alloc (.cells #[.float .f32 gr, .float .f32 wt, .float .f32 br, .float .f32 de, .int .i64 sp, .slice C m cc] 30)) (w.heap.size + 1) 30 #[.float .f32 gr, .float .f32 wt, .float .f32 br, .float .f32 de, .int .i64 sp, .slice C m cc] := Bk.new' (by simp)
  have hx0 : Ext w ((w.alloc (.cells #[.int .i64 X, .int .i64 Y, .int .i64 W, .int .i64 H, .slice A n c] 26)).alloc (.cells #[.float .f32 gr, .float .f32 wt, .float .f32 br, .float .f32 de, .int .i64 sp, .slice C m cc] 30)) := ((Ext.refl w).alloc _).alloc _
  generalize (w.alloc (.cells #[.int .i64 X, .int .i64 Y, .int .i64 W, .int .i64 H, .slice A n c] 26)).alloc (.cells #[.float .f32 gr, .float .f32 wt, .float .f32 br, .float .f32 de, .int .i64 sp, .slice C m cc] 30) = w0 at *
  generalize w.heap.size + 1 = hr at *
  generalize w.heap.size = hf at *
  have f0 := kF.cell 0
  have f1 := kF.cell 1
  have f2 := kF.cell 2
  have f3 := kF.cell 3
  have f4 := kF.cell 4
  by_cases hfe : fe = 0
  · have b0 : (fe != 0) = false := by simpa using hfe
    have HE2 := hidA (hE.out.trans (if_neg (by simpa using hfe)))
    clear hE hfe
    go_upto_region 4 with (go_at_call 49; refine ((HF _ hx0).out).mono ?_; rintro e w1 ⟨rfl, hx1⟩)
    have kR1 := kR.ext hx1
    have kF1 := kF.ext hx1
    clear f0 f1 f2 f3 f4 kR kF b0 HF
    have r0 := kR1.cell 0
    have r1 := kR1.cell 1
    have r2 := kR1.cell 2
    have r3 := kR1.cell 3
    have r4 := kR1.cell 4
    have r5 := kR1.cell 5
    by_cases hre : re = 0
    · have b1 : (re != 0) = false := by simpa using hre
      have HE3 := hidA (HE2.out.trans (if_neg (by simpa using hre)))
      have hm1 := Hm1.out hre
      clear HE2 hre Hm1
      go_upto_region 7 with (go_at_call 16; refine ((HR _ (hx0.trans hx1)).out).mono ?_; rintro e w2 ⟨rfl, hx2⟩)
      have kF2 := kF1.ext hx2
      have r5' := (kR1.ext hx2).cell 5
      have hxx := (hx0.trans hx1).trans hx2
      clear r0 r1 r2 r3 r4 r5 kR1 kF1 b1 HR hx0 hx1 hx2
      have f0 := kF2.cell 0
      have f1 := kF2.cell 1
      have f2 := kF2.cell 2
      have f3 := kF2.cell 3
      have f4 := kF2.cell 4
      rcases (by omega : m = 0 ∨ m = 1) with rfl | rfl
      · have HE4 := hidA (HE3.out.trans (if_neg (by omega)))
        clear HE3
        go_upto_region 7 with fail
        refine wp_region_noPanic ?_
        refine wp_region_held_drew (S := fun w' => Ext w w' ∧ w'.cell? ⟨hr, 5, none⟩ = some (.slice C 0 cc)) (by kernel_rfl) ?_ (fun hHeld => ?_)
        · exact ⟨(by repeat (first | exact Ext.refl _ | assumption | refine Ext.setCell ?_ (by first | (simp; done) | (simp; omega)) _ | refine Ext.drewN ?_ _ | refine Ext.alloc ?_ _ | refine Ext.drew ?_ | refine Ext.trans ?_ (by assumption))), r5'⟩
        refine wpAnyH_take (i := 0) (oi := ?o1x0) (v := ?v1x0) ?hi1x0 (by kernel_rfl) ?hf1x0 ?hr1x0 (fun _ _ _ h => h) ?hy1x0 (by assumption) ?rest1x0
        case hi1x0 => (simp only [List.getElem?_toArray, List.getElem?_cons_zero]; exact rfl)
        case hf1x0 => kernel_rfl
        case hr1x0 => kernel_rfl
        case hy1x0 => (refine Or.inl ⟨by rfl, ?_⟩; intro w hSw; (try dsimp only at hSw); go_simp; try with_reducible rfl)
        simp only [put_mk, List.set_cons_succ, List.set_cons_zero]
        refine wpAnyH_take (i := 1) (oi := ?o1x1) (v := ?v1x1) ?hi1x1 (by kernel_rfl) ?hf1x1 ?hr1x1 (fun _ _ _ h => h) ?hy1x1 (by assumption) ?rest1x1
        case hi1x1 => (simp only [List.getElem?_toArray, List.getElem?_cons_succ, List.getElem?_cons_zero]; exact rfl)
        case hf1x1 => kernel_rfl
        case hr1x1 => kernel_rfl
        case hy1x1 => (refine Or.inl ⟨by rfl, ?_⟩; intro w hSw; (try dsimp only at hSw); go_simp; try with_reducible rfl)
        simp only [put_mk, List.set_cons_succ, List.set_cons_zero]
        refine wpAnyH_take (i := 2) (oi := ?o1x2) (v := ?v1x2) ?hi1x2 (by kernel_rfl) ?hf1x2 ?hr1x2 (fun _ _ _ h => h) ?hy1x2 (by assumption) ?rest1x2
        case hi1x2 => (simp only [List.getElem?_toArray, List.getElem?_cons_succ, List.getElem?_cons_zero]; exact rfl)
        case hf1x2 => kernel_rfl
        case hr1x2 => kernel_rfl
        case hy1x2 => (refine Or.inl ⟨by rfl, ?_⟩; intro w hSw; (try dsimp only at hSw); go_simp; try with_reducible rfl)
        simp only [put_mk, List.set_cons_succ, List.set_cons_zero]
        refine wpAnyH_take (i := 3) (oi := ?o1x3) (v := ?v1x3) ?hi1x3 (by kernel_rfl) ?hf1x3 ?hr1x3 (fun _ _ _ h => h) ?hy1x3 (by assumption) ?rest1x3
        case hi1x3 => (simp only [List.getElem?_toArray, List.getElem?_cons_succ, List.getElem?_cons_zero]; exact rfl)
        case hf1x3 => kernel_rfl
        case hr1x3 => kernel_rfl
        case hy1x3 => (refine Or.inl ⟨by rfl, ?_⟩; intro w hSw; (try dsimp only at hSw); go_simp; try with_reducible rfl)
        simp only [put_mk, List.set_cons_succ, List.set_cons_zero]
        refine wpAnyH_take (i := 4) (oi := ?o1x4) (v := ?v1x4) ?hi1x4 (by kernel_rfl) ?hf1x4 ?hr1x4 (fun _ _ _ h => h) ?hy1x4 (by assumption) ?rest1x4
        case hi1x4 => (simp only [List.getElem?_toArray, List.getElem?_cons_succ, List.getElem?_cons_zero]; exact rfl)
        case hf1x4 => kernel_rfl
        case hr1x4 => kernel_rfl
        case hy1x4 => (refine Or.inl ⟨by rfl, ?_⟩; intro w hSw; (try dsimp only at hSw); go_simp; try with_reducible rfl)
        simp only [put_mk, List.set_cons_succ, List.set_cons_zero]
        refine wpAnyH_take (i := 5) (oi := ?o1x5) (v := undef) ?hi1x5 (by kernel_rfl) ?hf1x5 ?hr1x5 (fun _ _ _ h => h) ?hy1x5 (by assumption) ?rest1x5
        case hi1x5 => (simp only [List.getElem?_toArray, List.getElem?_cons_succ, List.getElem?_cons_zero]; exact rfl)
        case hf1x5 => kernel_rfl
        case hr1x5 => kernel_rfl
        case hy1x5 => exact Or.inr ⟨by rfl, rfl⟩
        simp only [put_mk, List.set_cons_succ, List.set_cons_zero]
        refine wpAnyH_take (i := 6) (oi := ?o1x6) (v := undef) ?hi1x6 (by kernel_rfl) ?hf1x6 ?hr1x6 (fun _ _ _ h => h) ?hy1x6 (by assumption) ?rest1x6
        case hi1x6 => (simp only [List.getElem?_toArray, List.getElem?_cons_succ, List.getElem?_cons_zero]; exact rfl)
        case hf1x6 => kernel_rfl
        case hr1x6 => kernel_rfl
        case hy1x6 => exact Or.inr ⟨by rfl, rfl⟩
        simp only [put_mk, List.set_cons_succ, List.set_cons_zero]
        refine wpAnyH_take (i := 7) (oi := ?o1x7) (v := undef) ?hi1x7 (by kernel_rfl) ?hf1x7 ?hr1x7 (fun _ _ _ h => h) ?hy1x7 (by assumption) ?rest1x7
        case hi1x7 => (simp only [List.getElem?_toArray, List.getElem?_cons_succ, List.getElem?_cons_zero]; exact rfl)
        case hf1x7 => kernel_rfl
        case hr1x7 => kernel_rfl
        case hy1x7 => exact Or.inr ⟨by rfl, rfl⟩
        simp only [put_mk, List.set_cons_succ, List.set_cons_zero]
        refine wpAnyH_take (i := 8) (oi := ?o1x8) (v := undef) ?hi1x8 (by kernel_rfl) ?hf1x8 ?hr1x8 (fun _ _ _ h => h) ?hy1x8 (by assumption) ?rest1x8
        case hi1x8 => (simp only [List.getElem?_toArray, List.getElem?_cons_succ, List.getElem?_cons_zero]; exact rfl)
        case hf1x8 => kernel_rfl
        case hr1x8 => kernel_rfl
        case hy1x8 => exact Or.inr ⟨by rfl, rfl⟩
        simp only [put_mk, List.set_cons_succ, List.set_cons_zero]
        refine wpAnyH_take (i := 9) (oi := ?o1x9) (v := undef) ?hi1x9 (by kernel_rfl) ?hf1x9 ?hr1x9 (fun _ _ _ h => h) ?hy1x9 (by assumption) ?rest1x9
        case hi1x9 => (simp only [List.getElem?_toArray, List.getElem?_cons_succ, List.getElem?_cons_zero]; exact rfl)
        case hf1x9 => kernel_rfl
        case hr1x9 => kernel_rfl
        case hy1x9 => exact Or.inr ⟨by rfl, rfl⟩
        simp only [put_mk, List.set_cons_succ, List.set_cons_zero]
        refine wpAnyH_take (i := 10) (oi := ?o1x10) (v := undef) ?hi1x10 (by kernel_rfl) ?hf1x10 ?hr1x10 (fun _ _ _ h => h) ?hy1x10 (by assumption) ?rest1x10
        case hi1x10 => (simp only [List.getElem?_toArray, List.getElem?_cons_succ, List.getElem?_cons_zero]; exact rfl)
        case hf1x10 => kernel_rfl
        case hr1x10 => kernel_rfl
        case hy1x10 => exact Or.inr ⟨by rfl, rfl⟩
        simp only [put_mk, List.set_cons_succ, List.set_cons_zero]
        refine wpAnyH_take (i := 11) (oi := ?o1x11) (v := undef) ?hi1x11 (by kernel_rfl) ?hf1x11 ?hr1x11 (fun _ _ _ h => h) ?hy1x11 (by assumption) ?rest1x11
        case hi1x11 => (simp only [List.getElem?_toArray, List.getElem?_cons_succ, List.getElem?_cons_zero]; exact rfl)
        case hf1x11 => kernel_rfl
        case hr1x11 => kernel_rfl
        case hy1x11 => exact Or.inr ⟨by rfl, rfl⟩
        simp only [put_mk, List.set_cons_succ, List.set_cons_zero]
        refine wpAnyH_take (i := 12) (oi := ?o1x12) (v := undef) ?hi1x12 (by kernel_rfl) ?hf1x12 ?hr1x12 (fun _ _ _ h => h) ?hy1x12 (by assumption) ?rest1x12
        case hi1x12 => (simp only [List.getElem?_toArray, List.getElem?_cons_succ, List.getElem?_cons_zero]; exact rfl)
        case hf1x12 => kernel_rfl
        case hr1x12 => kernel_rfl
        case hy1x12 => exact Or.inr ⟨by rfl, rfl⟩
        simp only [put_mk, List.set_cons_succ, List.set_cons_zero]
        refine wpAnyH_take (i := 13) (oi := ?o1x13) (v := ?v1x13) ?hi1x13 (by kernel_rfl) ?hf1x13 ?hr1x13 (fun _ _ _ h => h) ?hy1x13 (by assumption) ?rest1x13
        case hi1x13 => (simp only [List.getElem?_toArray, List.getElem?_cons_succ, List.getElem?_cons_zero]; exact rfl)
        case hf1x13 => kernel_rfl
        case hr1x13 => kernel_rfl
        case hy1x13 => (refine Or.inl ⟨by rfl, ?_⟩; intro w hSw; (try dsimp only at hSw); go_simp; try with_reducible rfl)
        simp only [put_mk, List.set_cons_succ, List.set_cons_zero]
        refine wpAnyH_done (by kernel_rfl) ?_ _
        refine NoPanic.normal ?_
        go_wp2
        go_ret
        exact ⟨ret_i HE4.out.symm, hHeld.1⟩
      · obtain ⟨B, c', q1, q2, q3⟩ := HC.out.one rfl
        obtain ⟨ad, rfl, hbk, hc⟩ := q1 (by simp)
        have d0 := hc 0 _ rfl
        have d1 := hc 1 _ rfl
        have d2 := hc 2 _ rfl
        have d3 := hc 3 _ rfl
        have d4 := hc 4 _ rfl
        rw [show ad.add 0 = ad from rfl] at d0
        rw [add_pos _ (by omega)] at d1 d2 d3 d4
        have D0 := (hxx.cell ad hbk).trans d0
        have D1 := (hxx.cell ⟨ad.block, ad.off + 1, none⟩ hbk).trans d1
        have D2 := (hxx.cell ⟨ad.block, ad.off + 2, none⟩ hbk).trans d2
        have D3 := (hxx.cell ⟨ad.block, ad.off + 3, none⟩ hbk).trans d3
        have D4 := (hxx.cell ⟨ad.block, ad.off + 4, none⟩ hbk).trans d4
        clear d0 d1 d2 d3 d4
        go_upto_region 7 with fail
        by_cases hx : X' = X
        · by_cases hy : Y' = Y
          · by_cases hw : W' = W
            · by_cases hh : H' = H
              · have HE4 := hidA (HE3.out.trans (if_neg (by simp [hx, hy, hw, hh])))
                subst hx hy hw hh
                clear HE3
                go_region_held3 (fun w' => Ext w w' ∧ w'.cell? ⟨hr, 5, none⟩ = some (.slice (some ad) 1 cc) ∧ w'.cell? ad = some (.int .i64 X') ∧ w'.cell? ⟨ad.block, ad.off + 1, none⟩ = some (.int .i64 Y') ∧ w'.cell? ⟨ad.block, ad.off + 2, none⟩ = some (.int .i64 W') ∧ w'.cell? ⟨ad.block, ad.off + 3, none⟩ = some (.int .i64 H') ∧ w'.cell? ⟨hf, 0, none⟩ = some (.int .i64 X') ∧ w'.cell? ⟨hf, 1, none⟩ = some (.int .i64 Y') ∧ w'.cell? ⟨hf, 2, none⟩ = some (.int .i64 W') ∧ w'.cell? ⟨hf, 3, none⟩ = some (.int .i64 H')) (first | (go_keep; done) | (exact ⟨(by repeat (first | exact Ext.refl _ | assumption | refine Ext.setCell ?_ (by first | (simp; done) | (simp; omega)) _ | refine Ext.drewN ?_ _ | refine Ext.alloc ?_ _ | refine Ext.drew ?_ | refine Ext.trans ?_ (by assumption))), r5', D0, D1, D2, D3, f0, f1, f2, f3⟩)) (first | fail)
                go_wp2
                all_goals first
                  | (go_ret; go_split_ands; exact ⟨ret_i HE4.out.symm, (by assumption)⟩)
                  | (exfalso; simp_all; done)
              · have HE4 := hidA (HE3.out.trans (if_pos ⟨rfl, by simp [hh]⟩))
                subst hx hy hw
                have bh : (H' == H) = false := by simpa using hh
                clear HE3
                go_region_held3 (fun w' => Ext w w' ∧ w'.cell? ⟨hr, 5, none⟩ = some (.slice (some ad) 1 cc) ∧ w'.cell? ad = some (.int .i64 X') ∧ w'.cell? ⟨ad.block, ad.off + 1, none⟩ = some (.int .i64 Y') ∧ w'.cell? ⟨ad.block, ad.off + 2, none⟩ = some (.int .i64 W') ∧ w'.cell? ⟨ad.block, ad.off + 3, none⟩ = some (.int .i64 H') ∧ w'.cell? ⟨hf, 0, none⟩ = some (.int .i64 X') ∧ w'.cell? ⟨hf, 1, none⟩ = some (.int .i64 Y') ∧ w'.cell? ⟨hf, 2, none⟩ = some (.int .i64 W') ∧ w'.cell? ⟨hf, 3, none⟩ = some (.int .i64 H)) (first | (go_keep; done) | (exact ⟨(by repeat (first | exact Ext.refl _ | assumption | refine Ext.setCell ?_ (by first | (simp; done) | (simp; omega)) _ | refine Ext.drewN ?_ _ | refine Ext.alloc ?_ _ | refine Ext.drew ?_ | refine Ext.trans ?_ (by assumption))), r5', D0, D1, D2, D3, f0, f1, f2, f3⟩)) (first | fail)
                go_wp2
                all_goals first
                  | (go_ret; go_split_ands; exact ⟨ret_i HE4.out.symm, (by assumption)⟩)
                  | (exfalso; simp_all; done)
            · have HE4 := hidA (HE3.out.trans (if_pos ⟨rfl, by simp [hw]⟩))
              subst hx hy
              have bh : (W' == W) = false := by simpa using hw
              clear HE3
              go_region_held3 (fun w' => Ext w w' ∧ w'.cell? ⟨hr, 5, none⟩ = some (.slice (some ad) 1 cc) ∧ w'.cell? ad = some (.int .i64 X') ∧ w'.cell? ⟨ad.block, ad.off + 1, none⟩ = some (.int .i64 Y') ∧ w'.cell? ⟨ad.block, ad.off + 2, none⟩ = some (.int .i64 W') ∧ w'.cell? ⟨ad.block, ad.off + 3, none⟩ = some (.int .i64 H') ∧ w'.cell? ⟨hf, 0, none⟩ = some (.int .i64 X') ∧ w'.cell? ⟨hf, 1, none⟩ = some (.int .i64 Y') ∧ w'.cell? ⟨hf, 2, none⟩ = some (.int .i64 W) ∧ w'.cell? ⟨hf, 3, none⟩ = some (.int .i64 H)) (first | (go_keep; done) | (exact ⟨(by repeat (first | exact Ext.refl _ | assumption | refine Ext.setCell ?_ (by first | (simp; done) | (simp; omega)) _ | refine Ext.drewN ?_ _ | refine Ext.alloc ?_ _ | refine Ext.drew ?_ | refine Ext.trans ?_ (by assumption))), r5', D0, D1, D2, D3, f0, f1, f2, f3⟩)) (first | fail)
              go_wp2
              all_goals first
                | (go_ret; go_split_ands; exact ⟨ret_i HE4.out.symm, (by assumption)⟩)
                | (exfalso; simp_all; done)
          · have HE4 := hidA (HE3.out.trans (if_pos ⟨rfl, by simp [hy]⟩))
            subst hx
            have bh : (Y' == Y) = false := by simpa using hy
            clear HE3
            go_region_held3 (fun w' => Ext w w' ∧ w'.cell? ⟨hr, 5, none⟩ = some (.slice (some ad) 1 cc) ∧ w'.cell? ad = some (.int .i64 X') ∧ w'.cell? ⟨ad.block, ad.off + 1, none⟩ = some (.int .i64 Y') ∧ w'.cell? ⟨ad.block, ad.off + 2, none⟩ = some (.int .i64 W') ∧ w'.cell? ⟨ad.block, ad.off + 3, none⟩ = some (.int .i64 H') ∧ w'.cell? ⟨hf, 0, none⟩ = some (.int .i64 X') ∧ w'.cell? ⟨hf, 1, none⟩ = some (.int .i64 Y) ∧ w'.cell? ⟨hf, 2, none⟩ = some (.int .i64 W) ∧ w'.cell? ⟨hf, 3, none⟩ = some (.int .i64 H)) (first | (go_keep; done) | (exact ⟨(by repeat (first | exact Ext.refl _ | assumption | refine Ext.setCell ?_ (by first | (simp; done) | (simp; omega)) _ | refine Ext.drewN ?_ _ | refine Ext.alloc ?_ _ | refine Ext.drew ?_ | refine Ext.trans ?_ (by assumption))), r5', D0, D1, D2, D3, f0, f1, f2, f3⟩)) (first | fail)
            go_wp2
            all_goals first
              | (go_ret; go_split_ands; exact ⟨ret_i HE4.out.symm, (by assumption)⟩)
              | (exfalso; simp_all; done)
        · have HE4 := hidA (HE3.out.trans (if_pos ⟨rfl, by simp [hx]⟩))
          have bh : (X' == X) = false := by simpa using hx
          clear HE3
          go_region_held3 (fun w' => Ext w w' ∧ w'.cell? ⟨hr, 5, none⟩ = some (.slice (some ad) 1 cc) ∧ w'.cell? ad = some (.int .i64 X') ∧ w'.cell? ⟨ad.block, ad.off + 1, none⟩ = some (.int .i64 Y') ∧ w'.cell? ⟨ad.block, ad.off + 2, none⟩ = some (.int .i64 W') ∧ w'.cell? ⟨ad.block, ad.off + 3, none⟩ = some (.int .i64 H') ∧ w'.cell? ⟨hf, 0, none⟩ = some (.int .i64 X) ∧ w'.cell? ⟨hf, 1, none⟩ = some (.int .i64 Y) ∧ w'.cell? ⟨hf, 2, none⟩ = some (.int .i64 W) ∧ w'.cell? ⟨hf, 3, none⟩ = some (.int .i64 H)) (first | (go_keep; done) | (exact ⟨(by repeat (first | exact Ext.refl _ | assumption | refine Ext.setCell ?_ (by first | (simp; done) | (simp; omega)) _ | refine Ext.drewN ?_ _ | refine Ext.alloc ?_ _ | refine Ext.drew ?_ | refine Ext.trans ?_ (by assumption))), r5', D0, D1, D2, D3, f0, f1, f2, f3⟩)) (first | fail)
          go_wp2
          all_goals first
            | (go_ret; go_split_ands; exact ⟨ret_i HE4.out.symm, (by assumption)⟩)
            | (exfalso; simp_all; done)
    · have b1 : (re != 0) = true := by simpa using hre
      have HE3 := hidA (HE2.out.trans (if_pos (by simpa using hre)))
      clear HE2 hre Hm1
      go_wp2_with (go_at_call 16; refine ((HR _ (hx0.trans hx1)).out).mono ?_; rintro e w2 ⟨rfl, hx2⟩)
      go_ret
      exact ⟨ret_i HE3.out.symm, (hx0.trans hx1).trans hx2⟩
  · have b0 : (fe != 0) = true := by simpa using hfe
    have HE2 := hidA (hE.out.trans (if_pos (by simpa using hfe)))
    clear hE hfe
    go_wp2_with (go_at_call 49; refine ((HF _ hx0).out).mono ?_; rintro e w1 ⟨rfl, hx1⟩)
    go_ret
    exact ⟨ret_i HE2.out.symm, hx0.trans hx1⟩
end Go.Proofs.Ytpgdinpckolfpaa

namespace Go.Proofs.Ytpgdinpckolfpaa
open Go.RowKit

theorem field_zero {x y w h : Int} {l : List Nat} (e : fieldE x y w h l = 0) : regE x y w h = 0 ∧ (l.length : Int) = w * h ∧ numE l = 0 := by
  unfold fieldE at e
  split at e
  · rename_i h1; exact absurd e h1
  · rename_i h1
    split at e
    · cases e
    · rename_i h2
      exact ⟨by simpa using h1, by simpa using h2, e⟩
theorem zero_f : valI 0 = 0 := by decide +kernel
theorem k10_f : valI 1149239296 = 2 ^ 159 := by decide +kernel
theorem outB_no {b : Nat} (hb : Fin b) (h : outB b = false) : Bd 10 b ∧ 0 ≤ valI b ∧ valI b ≤ 2 ^ 159 := by
  unfold outB at h
  rw [lt_val hb (by unfold Fin; omega), gt_val hb (by unfold Fin; omega), zero_f, k10_f] at h
  simp only [Bool.or_eq_false_iff, decide_eq_false_iff_not] at h
  refine ⟨?_, by omega, by omega⟩
  rw [bd_valI (by omega)]
  omega
set_option maxRecDepth 10000 in
theorem grnd_ok {X Y W H : Int} {lf : List Nat} {gr wt br de : Nat} {sp : Int} {m : Nat} {X' Y' W' H' : Int} {l : List Nat} {C : Option Addr} {w : World} (h : grndE X Y W H lf gr wt br de sp m X' Y' W' H' l = 0) (hC : CoP w C m X' Y' W' H' l) :
    ∃ (Wn Hn : Nat) (R : RlR), W = Wn ∧ H = Hn ∧ Reg X Y Wn Hn ∧ lf.length = Wn * Hn ∧ (∀ j, j < Wn * Hn → Bd 20 (lf.getD j 0)) ∧ R.gr = gr ∧ R.wt = wt ∧ R.br = br ∧ R.de = de ∧ (R.sp : Int) = sp ∧ RlOk R (Wn * Hn) ∧ CoR w C m R.co ∧ m ≤ 1 := by
  have hm := grnd_m h
  unfold grndE at h
  split at h
  · rename_i h1; exact absurd h h1
  · rename_i hf
    have hf' : fieldE X Y W H lf = 0 := by simpa using hf
    split at h
    · rename_i h1; exact absurd h h1
    · rename_i hr
      have hr' : rulesE gr wt br de sp m X' Y' W' H' l = 0 := by simpa using hr
      split at h
      · cases h
      · rename_i hp
        obtain ⟨f1, f2, f3⟩ := field_zero hf'
        obtain ⟨Wn, Hn, rfl, rfl, hg⟩ := Reg.of_zero f1
        have hlen : lf.length = Wn * Hn := by have h9 : (lf.length : Int) = ((Wn * Hn : Nat) : Int) := by rw [f2, Int.natCast_mul]
                                              omega
        have hn4 : ∀ b ∈ lf, Bd 20 b := fun b hb => hgt_bd ((numE_zero f3).2 b hb)
        unfold rulesE at hr'
        split at hr'
        · rename_i h1; exact absurd hr' h1
        · rename_i hnm
          have hnm' : numE [gr, wt, br, de] = 0 := by simpa using hnm
          have hb4 := fun b hb => hgt_bd ((numE_zero hnm').2 b hb)
          have b1 := hb4 gr (by simp)
          have b2 := hb4 wt (by simp)
          have b3 := hb4 br (by simp)
          have b4 := hb4 de (by simp)
          split at hr'
          · cases hr'
          · rename_i ho
            split at hr'
            · cases hr'
            · rename_i hbr
              have o1 := outB_no (bd_Fin b1 (by omega)) (by simpa using fun e => ho (.inl e))
              have o2 := outB_no (bd_Fin b2 (by omega)) (by simpa using fun e => ho (.inr (.inl e)))
              have o4 := outB_no (bd_Fin b4 (by omega)) (by simpa using fun e => ho (.inr (.inr e)))
              have hlt : lt br 1065353216 = false := by simpa using fun e => hbr (.inl e)
              have hgt : gt br 1149239296 = false := by simpa using fun e => hbr (.inr (.inl e))
              have hsp : spanB sp = false := by simpa using fun e => hbr (.inr (.inr e))
              rw [lt_val (bd_Fin b3 (by omega)) (by unfold Fin; omega), one_val] at hlt
              rw [gt_val (bd_Fin b3 (by omega)) (by unfold Fin; omega), k10_f] at hgt
              simp only [decide_eq_false_iff_not] at hlt hgt
              have hs : 0 ≤ sp ∧ sp ≤ 12 := by
                unfold spanB at hsp
                simp at hsp
                omega
              have hco : m = 1 → l.length = Wn * Hn ∧ ∀ j, j < Wn * Hn → Bd 10 (l.getD j 0) ∧ 0 ≤ valI (l.getD j 0) := fun hm1 => by
                unfold coE at hr'
                rw [if_neg (by omega), if_neg (by omega)] at hr'
                split at hr'
                · rename_i h1; exact absurd hr' h1
                · rename_i hf2
                  split at hr'
                  · cases hr'
                  · rename_i hany
                    obtain ⟨g1, g2, g3⟩ := field_zero (show fieldE X' Y' W' H' l = 0 by simpa using hf2)
                    have hreg : X' = X ∧ Y' = Y ∧ W' = (Wn : Int) ∧ H' = (Hn : Int) := by
                      rcases Classical.em (X' = X ∧ Y' = Y ∧ W' = (Wn : Int) ∧ H' = (Hn : Int)) with h8 | h8
                      · exact h8
                      · exact absurd ⟨hm1, h8⟩ hp
                    obtain ⟨_, _, e3, e4⟩ := hreg
                    have hl2 : l.length = Wn * Hn := by
                      have h9 : (l.length : Int) = ((Wn * Hn : Nat) : Int) := by rw [g2, e3, e4, Int.natCast_mul]
                      omega
                    refine ⟨hl2, fun j hj => ?_⟩
                    have hjl : j < l.length := by rw [hl2]; exact hj
                    have hmem : l.getD j 0 ∈ l := by
                      rw [show l.getD j 0 = l[j] by simp [List.getD_eq_getElem?_getD, hjl]]
                      exact List.getElem_mem hjl
                    have hb5 := hgt_bd ((numE_zero g3).2 _ hmem)
                    have h9 := outB_no (bd_Fin hb5 (by omega)) (by
                      cases he : outB (l.getD j 0) with
                      | false => rfl
                      | true => exact absurd (List.any_eq_true.2 ⟨_, hmem, he⟩) hany)
                    exact ⟨h9.1, h9.2.1⟩
              refine ⟨Wn, Hn, ⟨gr, wt, br, de, sp.toNat, if m = 1 then some l else none⟩, rfl, rfl, hg, hlen, fun j hj => ?_, rfl, rfl, rfl, rfl, by show ((sp.toNat : Nat) : Int) = sp; omega, ?_, ?_, hm⟩
              · have hjl : j < lf.length := by rw [hlen]; exact hj
                refine hn4 _ ?_
                rw [show lf.getD j 0 = lf[j] by simp [List.getD_eq_getElem?_getD, hjl]]
                exact List.getElem_mem hjl
              · constructor
                · exact b1
                · exact o1.2.2
                · exact o2.1
                · exact o2.2.1
                · show Bd 10 br
                  rw [bd_valI (by omega)]
                  omega
                · show 2 ^ 149 ≤ valI br
                  omega
                · exact o4.1
                · exact o4.2.1
                · show sp.toNat ≤ 12
                  omega
                · intro l' hl'
                  dsimp only at hl'
                  split at hl'
                  · rename_i hm1
                    injection hl' with e
                    rw [← e]
                    exact (hco hm1).1
                  · cases hl'
                · intro l' hl'
                  dsimp only at hl'
                  split at hl'
                  · rename_i hm1
                    injection hl' with e
                    rw [← e]
                    exact (hco hm1).2
                  · cases hl'
              · show CoR w C m (if m = 1 then some l else none)
                by_cases hm1 : m = 1
                · rw [if_pos hm1]
                  obtain ⟨B, c', q1, q2, _⟩ := hC.one hm1
                  exact ⟨hm1, X', Y', W', H', B, c', q1, q2⟩
                · rw [if_neg hm1]
                  show m = 0
                  omega
end Go.Proofs.Ytpgdinpckolfpaa

namespace Go.Proofs.Ytpgdinpckolfpaa
open Go.RowKit
attribute [local go_sem ↓] Go.wp_at_zero Go.wp_at_succ
attribute [local go_sem] run_store_float

theorem inR_cell {X Y x y : Int} {Wn Hn : Nat} (h : InR X Y Wn Hn x y) : ∃ k, k < Wn * Hn ∧ x = X + ((k % Wn : Nat) : Int) ∧ y = Y + ((k / Wn : Nat) : Int) := by
  unfold InR at h
  obtain ⟨a, ha⟩ := Int.eq_ofNat_of_zero_le (show 0 ≤ x - X by omega)
  obtain ⟨b, hb⟩ := Int.eq_ofNat_of_zero_le (show 0 ≤ y - Y by omega)
  have h1 : a < Wn := by omega
  have h2 : b < Hn := by omega
  refine ⟨b * Wn + a, ?_, ?_, ?_⟩
  · calc b * Wn + a < b * Wn + Wn := by omega
      _ = (b + 1) * Wn := by rw [Nat.add_mul, Nat.one_mul]
      _ ≤ Hn * Wn := Nat.mul_le_mul_right _ h2
      _ = Wn * Hn := Nat.mul_comm _ _
  · rw [Nat.mul_comm, Nat.mul_add_mod, Nat.mod_eq_of_lt h1]; omega
  · rw [Nat.mul_comm, Nat.mul_add_div (by omega), Nat.div_eq_of_lt h1]; omega
set_option maxRecDepth 100000 in
set_option maxHeartbeats 6400000 in
theorem StepCost_bad (X Y W H : Int) (A : Option Addr) (n c : Nat) (lf : List Nat) (gr wt br de : Nat) (sp : Int) (C : Option Addr) (m cc : Nat) (X' Y' W' H' : Int) (l : List Nat) (ax ay bx by' : Int) (w : World) (hn : lf.length = n) (hV : Rd w A (flt lf)) (hb : n ≤ 140737488351232) (hC : CoP w C m X' Y' W' H' l) (hm : m ≤ 140737488351232) (hE : grndE X Y W H lf gr wt br de sp m X' Y' W' H' l ≠ 0) :
    Calls Try.prog 14 #[.agg #[.int .i64 X, .int .i64 Y, .int .i64 W, .int .i64 H, .slice A n c], .agg #[.float .f32 gr, .float .f32 wt, .float .f32 br, .float .f32 de, .int .i64 sp, .slice C m cc], .agg #[.int .i64 ax, .int .i64 ay], .agg #[.int .i64 bx, .int .i64 by']] w fun e w' => e = .returned (.tuple #[.float .f32 0, .bool false, .int .i64 (grndE X Y W H lf gr wt br de sp m X' Y' W' H' l)]) ∧ Ext w w' := by
  have HC := fun (w' : World) (h : Ext w w') => hidA (chk_any X Y W H A n c lf gr wt br de sp C m cc X' Y' W' H' l w' hn (hV.ext h) hb (hC.ext h) hm)
  have hne : (grndE X Y W H lf gr wt br de sp m X' Y' W' H' l != 0) = true := by simpa using hE
  generalize grndE X Y W H lf gr wt br de sp m X' Y' W' H' l = E at *
  clear hn hV hb hC hm hE
  go_enter Try.func14, Try.ntmps14
  go_upto_region 1 with fail
  obtain ⟨w0, hw0⟩ : ∃ w0, w0 = (((w.alloc (.cells #[.int .i64 X, .int .i64 Y, .int .i64 W, .int .i64 H, .slice A n c] 26)).alloc (.cells #[.float .f32 gr, .float .f32 wt, .float .f32 br, .float .f32 de, .int .i64 sp, .slice C m cc] 30)).alloc (.cells #[.int .i64 ax, .int .i64 ay] 32)).alloc (.cells #[.int .i64 bx, .int .i64 by'] 32) := ⟨_, rfl⟩
  have kF : Bk w0 w.heap.size 26 #[.int .i64 X, .int .i64 Y, .int .i64 W, .int .i64 H, .slice A n c] := by rw [hw0]; exact (((Bk.new' rfl).alloc _).alloc _).alloc _
  have kR : Bk w0 (w.heap.size + 1) 30 #[.float .f32 gr, .float .f32 wt, .float .f32 br, .float .f32 de, .int .i64 sp, .slice C m cc] := by rw [hw0]; exact ((Bk.new' (by simp)).alloc _).alloc _
  have kA : Bk w0 (w.heap.size + 1 + 1) 32 #[.int .i64 ax, .int .i64 ay] := by rw [hw0]; exact (Bk.new' (by simp)).alloc _
  have kB : Bk w0 (w.heap.size + 1 + 1 + 1) 32 #[.int .i64 bx, .int .i64 by'] := by rw [hw0]; exact Bk.new' (by simp)
  have hx0 : Ext w w0 := by rw [hw0]; exact ((((Ext.refl w).alloc _).alloc _).alloc _).alloc _
  rw [← hw0]
  clear hw0
  generalize w.heap.size + 1 + 1 + 1 = hb at *
  generalize w.heap.size + 1 + 1 = ha at *
  generalize w.heap.size + 1 = hr at *
  generalize hfe : w.heap.size = hf at *
  clear hfe
  have f0 := kF.cell 0
  have f1 := kF.cell 1
  have f2 := kF.cell 2
  have f3 := kF.cell 3
  have f4 := kF.cell 4
  have r0 := kR.cell 0
  have r1 := kR.cell 1
  have r2 := kR.cell 2
  have r3 := kR.cell 3
  have r4 := kR.cell 4
  have r5 := kR.cell 5
  clear kF kR kA kB
  go_wp2_with (go_at_call 63; refine ((HC _ hx0).out).mono ?_; rintro e w1 ⟨rfl, hx1⟩)
  go_ret3
  exact ⟨rfl, hx0.trans hx1⟩
set_option maxRecDepth 100000 in
set_option maxHeartbeats 6400000 in
theorem StepCost_out (X Y : Int) (Wn Hn : Nat) (A : Option Addr) (N c : Nat) (lf : List Nat) (gr wt br de : Nat) (sp : Int) (C : Option Addr) (m cc : Nat) (X' Y' W' H' : Int) (l : List Nat) (ax ay bx by' : Int) (w : World) (hr : Reg X Y Wn Hn) (hn : lf.length = N) (hV : Rd w A (flt lf)) (hb : N ≤ 140737488351232) (hC : CoP w C m X' Y' W' H' l) (hm : m ≤ 140737488351232) (hE : grndE X Y Wn Hn lf gr wt br de sp m X' Y' W' H' l = 0) (hi : insE X Y Wn Hn [(ax, ay), (bx, by')] ≠ 0) :
    Calls Try.prog 14 #[.agg #[.int .i64 X, .int .i64 Y, .int .i64 (Wn : Int), .int .i64 (Hn : Int), .slice A N c], .agg #[.float .f32 gr, .float .f32 wt, .float .f32 br, .float .f32 de, .int .i64 sp, .slice C m cc], .agg #[.int .i64 ax, .int .i64 ay], .agg #[.int .i64 bx, .int .i64 by']] w fun e w' => e = .returned (.tuple #[.float .f32 0, .bool false, .int .i64 (insE X Y Wn Hn [(ax, ay), (bx, by')])]) ∧ Ext w w' := by
  have HC := fun (w' : World) (h : Ext w w') => hidA (chk_any X Y Wn Hn A N c lf gr wt br de sp C m cc X' Y' W' H' l w' hn (hV.ext h) hb (hC.ext h) hm)
  rw [hE] at HC
  have HI := fun (w' : World) (B : Option Addr) (h : Rd w' B (ptv [(ax, ay), (bx, by')])) => hidA (inside_any X Y Wn Hn A B N c 2 2 [(ax, ay), (bx, by')] w' hr.ok rfl h (by omega))
  have hne : (insE X Y Wn Hn [(ax, ay), (bx, by')] != 0) = true := by simpa using hi
  generalize insE X Y Wn Hn [(ax, ay), (bx, by')] = E at *
  clear hn hV hb hC hm hE hi hr
  go_enter Try.func14, Try.ntmps14
  go_upto_region 1 with fail
  obtain ⟨w0, hw0⟩ : ∃ w0, w0 = (((w.alloc (.cells #[.int .i64 X, .int .i64 Y, .int .i64 (Wn : Int), .int .i64 (Hn : Int), .slice A N c] 26)).alloc (.cells #[.float .f32 gr, .float .f32 wt, .float .f32 br, .float .f32 de, .int .i64 sp, .slice C m cc] 30)).alloc (.cells #[.int .i64 ax, .int .i64 ay] 32)).alloc (.cells #[.int .i64 bx, .int .i64 by'] 32) := ⟨_, rfl⟩
  have kF : Bk w0 w.heap.size 26 #[.int .i64 X, .int .i64 Y, .int .i64 (Wn : Int), .int .i64 (Hn : Int), .slice A N c] := by rw [hw0]; exact (((Bk.new' rfl).alloc _).alloc _).alloc _
  have kR : Bk w0 (w.heap.size + 1) 30 #[.float .f32 gr, .float .f32 wt, .float .f32 br, .float .f32 de, .int .i64 sp, .slice C m cc] := by rw [hw0]; exact ((Bk.new' (by simp)).alloc _).alloc _
  have kA : Bk w0 (w.heap.size + 1 + 1) 32 #[.int .i64 ax, .int .i64 ay] := by rw [hw0]; exact (Bk.new' (by simp)).alloc _
  have kB : Bk w0 (w.heap.size + 1 + 1 + 1) 32 #[.int .i64 bx, .int .i64 by'] := by rw [hw0]; exact Bk.new' (by simp)
  have hx0 : Ext w w0 := by rw [hw0]; exact ((((Ext.refl w).alloc _).alloc _).alloc _).alloc _
  rw [← hw0]
  clear hw0
  generalize w.heap.size + 1 + 1 + 1 = hb at *
  generalize w.heap.size + 1 + 1 = ha at *
  generalize w.heap.size + 1 = hr at *
  generalize hfe : w.heap.size = hf at *
  clear hfe
  have f0 := kF.cell 0
  have f1 := kF.cell 1
  have f2 := kF.cell 2
  have f3 := kF.cell 3
  have f4 := kF.cell 4
  have r0 := kR.cell 0
  have r1 := kR.cell 1
  have r2 := kR.cell 2
  have r3 := kR.cell 3
  have r4 := kR.cell 4
  have r5 := kR.cell 5
  go_upto_region 4 with (go_at_call 63; refine ((HC _ hx0).out).mono ?_; rintro e w1 ⟨rfl, hx1⟩)
  have kF1 := kF.ext hx1
  have kA1 := kA.ext hx1
  have kB1 := kB.ext hx1
  have hxa := hx0.trans hx1
  clear f0 f1 f2 f3 f4 r0 r1 r2 r3 r4 r5 kF kR kA kB hx0 hx1 HC
  have f0 := kF1.cell 0
  have f1 := kF1.cell 1
  have f2 := kF1.cell 2
  have f3 := kF1.cell 3
  have f4 := kF1.cell 4
  have a0 := kA1.cell 0
  have a1 := kA1.cell 1
  have b0 := kB1.cell 0
  have b1 := kB1.cell 1
  go_wp2_with (go_at_call 64; refine ((HI _ _ (Rd.new rfl rfl)).out).mono ?_; rintro e w2 ⟨rfl, hx2⟩)
  go_ret3
  exact ⟨rfl, hxa.trans (by repeat (first | exact Ext.refl _ | assumption | refine Ext.setCell ?_ (by first | (simp; done) | (simp; omega)) _ | refine Ext.drewN ?_ _ | refine Ext.alloc ?_ _ | refine Ext.drew ?_ | refine Ext.trans ?_ (by assumption)))⟩
set_option maxRecDepth 100000 in
set_option maxHeartbeats 6400000 in
theorem StepCost_ok (X Y : Int) (Wn Hn : Nat) (A : Option Addr) (N c : Nat) (R : RlR) (C : Option Addr) (m cc k t : Nat) (l : List Nat) (X' Y' W' H' : Int) (lc : List Nat) (w : World)
    (hr : Reg X Y Wn Hn) (hN : N = Wn * Hn) (hR : RlOk R N) (hl : l.length = N) (hh : ∀ j, j < N → Bd 20 (l.getD j 0)) (hk : k < N) (ht : t < N) (hV : Rd w A (flt l)) (hC : CoR w C m R.co) (hP : CoP w C m X' Y' W' H' lc) (hg : grndE X Y Wn Hn l R.gr R.wt R.br R.de R.sp m X' Y' W' H' lc = 0) :
    Calls Try.prog 14 #[.agg #[.int .i64 X, .int .i64 Y, .int .i64 (Wn : Int), .int .i64 (Hn : Int), .slice A N c], .agg #[.float .f32 R.gr, .float .f32 R.wt, .float .f32 R.br, .float .f32 R.de, .int .i64 (R.sp : Int), .slice C m cc], .agg #[.int .i64 (X + ((k % Wn : Nat) : Int)), .int .i64 (Y + ((k / Wn : Nat) : Int))], .agg #[.int .i64 (X + ((t % Wn : Nat) : Int)), .int .i64 (Y + ((t / Wn : Nat) : Int))]] w fun e w' => e = .returned (.tuple #[.float .f32 ((stepF R (fun j => l.getD j 0) Wn Hn k t).getD 0), .bool (stepF R (fun j => l.getD j 0) Wn Hn k t).isSome, .int .i64 0]) ∧ Ext w w' := by
  have hm := grnd_m hg
  have hN6 : N ≤ 65536 := by rw [hN]; exact hr.n
  have HC := fun (w' : World) (h : Ext w w') => hidA (chk_any X Y Wn Hn A N c l R.gr R.wt R.br R.de R.sp C m cc X' Y' W' H' lc w' hl (hV.ext h) (by omega) (hP.ext h) (by omega))
  rw [hg] at HC
  have hi1 := cpt_in hr hN hk
  have hi2 := cpt_in hr hN ht
  have HS := fun (w' : World) (h : Ext w w') => hidA (gstep_any X Y Wn Hn A N c R C m cc k t l w' hr hN hR hl hh hk ht (hV.ext h) (hC.ext h))
  unfold gcells stV at HS
  generalize (stepF R (fun j => l.getD j 0) Wn Hn k t).getD 0 = sv at *
  generalize (stepF R (fun j => l.getD j 0) Wn Hn k t).isSome = sb at *
  generalize X + ((k % Wn : Nat) : Int) = ax at *
  generalize Y + ((k / Wn : Nat) : Int) = ay at *
  generalize X + ((t % Wn : Nat) : Int) = bx at *
  generalize Y + ((t / Wn : Nat) : Int) = by' at *
  have HI := fun (w' : World) (B : Option Addr) (h : Rd w' B (ptv [(ax, ay), (bx, by')])) => hidA (inside_any X Y Wn Hn A B N c 2 2 [(ax, ay), (bx, by')] w' hr.ok rfl h (by omega))
  have hi0 : insE X Y Wn Hn [(ax, ay), (bx, by')] = 0 := by
    unfold insE
    rw [if_pos]
    simpa using And.intro hi1 hi2
  rw [hi0] at HI
  clear hm hN6 hi1 hi2 hi0 hr hN hR hl hh hk ht hV hC hP hg
  go_enter Try.func14, Try.ntmps14
  go_upto_region 1 with fail
  obtain ⟨w0, hw0⟩ : ∃ w0, w0 = (((w.alloc (.cells #[.int .i64 X, .int .i64 Y, .int .i64 (Wn : Int), .int .i64 (Hn : Int), .slice A N c] 26)).alloc (.cells #[.float .f32 R.gr, .float .f32 R.wt, .float .f32 R.br, .float .f32 R.de, .int .i64 (R.sp : Int), .slice C m cc] 30)).alloc (.cells #[.int .i64 ax, .int .i64 ay] 32)).alloc (.cells #[.int .i64 bx, .int .i64 by'] 32) := ⟨_, rfl⟩
  have kF : Bk w0 w.heap.size 26 #[.int .i64 X, .int .i64 Y, .int .i64 (Wn : Int), .int .i64 (Hn : Int), .slice A N c] := by rw [hw0]; exact (((Bk.new' rfl).alloc _).alloc _).alloc _
  have kR : Bk w0 (w.heap.size + 1) 30 #[.float .f32 R.gr, .float .f32 R.wt, .float .f32 R.br, .float .f32 R.de, .int .i64 (R.sp : Int), .slice C m cc] := by rw [hw0]; exact ((Bk.new' (by simp)).alloc _).alloc _
  have kA : Bk w0 (w.heap.size + 1 + 1) 32 #[.int .i64 ax, .int .i64 ay] := by rw [hw0]; exact (Bk.new' (by simp)).alloc _
  have kB : Bk w0 (w.heap.size + 1 + 1 + 1) 32 #[.int .i64 bx, .int .i64 by'] := by rw [hw0]; exact Bk.new' (by simp)
  have hx0 : Ext w w0 := by rw [hw0]; exact ((((Ext.refl w).alloc _).alloc _).alloc _).alloc _
  rw [← hw0]
  clear hw0
  generalize w.heap.size + 1 + 1 + 1 = hb at *
  generalize w.heap.size + 1 + 1 = ha at *
  generalize w.heap.size + 1 = hr at *
  generalize hfe : w.heap.size = hf at *
  clear hfe
  have f0 := kF.cell 0
  have f1 := kF.cell 1
  have f2 := kF.cell 2
  have f3 := kF.cell 3
  have f4 := kF.cell 4
  have r0 := kR.cell 0
  have r1 := kR.cell 1
  have r2 := kR.cell 2
  have r3 := kR.cell 3
  have r4 := kR.cell 4
  have r5 := kR.cell 5
  go_upto_region 4 with (go_at_call 63; refine ((HC _ hx0).out).mono ?_; rintro e w1 ⟨rfl, hx1⟩)
  have kF1 := kF.ext hx1
  have kR1 := kR.ext hx1
  have kA1 := kA.ext hx1
  have kB1 := kB.ext hx1
  have hxa := hx0.trans hx1
  clear f0 f1 f2 f3 f4 r0 r1 r2 r3 r4 r5 kF kR kA kB hx0 hx1 HC
  have f0 := kF1.cell 0
  have f1 := kF1.cell 1
  have f2 := kF1.cell 2
  have f3 := kF1.cell 3
  have f4 := kF1.cell 4
  have a0 := kA1.cell 0
  have a1 := kA1.cell 1
  have b0 := kB1.cell 0
  have b1 := kB1.cell 1
  go_upto_region 7 with (go_at_call 64; refine ((HI _ _ (Rd.new rfl rfl)).out).mono ?_; rintro e w2 ⟨rfl, hx2⟩)
  have kF2 := (kF1.alloc (.cells #[.int .i64 ax, .int .i64 ay, .int .i64 bx, .int .i64 by'] 32)).ext hx2
  have kR2 := (kR1.alloc (.cells #[.int .i64 ax, .int .i64 ay, .int .i64 bx, .int .i64 by'] 32)).ext hx2
  have kA2 := (kA1.alloc (.cells #[.int .i64 ax, .int .i64 ay, .int .i64 bx, .int .i64 by'] 32)).ext hx2
  have kB2 := (kB1.alloc (.cells #[.int .i64 ax, .int .i64 ay, .int .i64 bx, .int .i64 by'] 32)).ext hx2
  have hxb := (hxa.alloc (.cells #[.int .i64 ax, .int .i64 ay, .int .i64 bx, .int .i64 by'] 32)).trans hx2
  clear f0 f1 f2 f3 f4 a0 a1 b0 b1 kF1 kR1 kA1 kB1 hxa hx2 HI
  have f0 := kF2.cell 0
  have f1 := kF2.cell 1
  have f2 := kF2.cell 2
  have f3 := kF2.cell 3
  have f4 := kF2.cell 4
  have r0 := kR2.cell 0
  have r1 := kR2.cell 1
  have r2 := kR2.cell 2
  have r3 := kR2.cell 3
  have r4 := kR2.cell 4
  have r5 := kR2.cell 5
  have a0 := kA2.cell 0
  have a1 := kA2.cell 1
  have b0 := kB2.cell 0
  have b1 := kB2.cell 1
  have HSq := HS w2 hxb
  clear HS
  go_wp2_with (go_at_call 65; refine (HSq.out).mono ?_; rintro e w3 ⟨rfl, hx3⟩)
  go_ret3
  exact ⟨rfl, hxb.trans hx3⟩
end Go.Proofs.Ytpgdinpckolfpaa
