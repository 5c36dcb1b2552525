/- Contracts: road.check, road.inside, road.amount. -/
import Derived.Test.YtpgdinpckolfpaaRdQ
namespace Go.Proofs.Ytpgdinpckolfpaa
open Go.RowKit
attribute [local go_sem ↓] Go.wp_at_zero Go.wp_at_succ
attribute [local go_sem] run_store_float

/-- the error of a field with rules -/
def grndE (X Y W H : Int) (lf : List Nat) (gr wt br de : Nat) (sp : Int) (m : Nat) (X' Y' W' H' : Int) (l : List Nat) : Int :=
  if fieldE X Y W H lf ≠ 0 then fieldE X Y W H lf else if rulesE gr wt br de sp m X' Y' W' H' l ≠ 0 then rulesE gr wt br de sp m X' Y' W' H' l
  else if m = 1 ∧ ¬ (X' = X ∧ Y' = Y ∧ W' = W ∧ H' = H) then 5 else 0
theorem rulesE_m {gr wt br de : Nat} {sp : Int} {m : Nat} {X' Y' W' H' : Int} {l : List Nat} (h : rulesE gr wt br de sp m X' Y' W' H' l = 0) : m ≤ 1 := by
  unfold rulesE at h
  split at h
  · rename_i h1; exact absurd h h1
  · split at h
    · cases h
    · split at h
      · cases h
      · unfold coE at h
        split at h
        · cases h
        · omega
set_option maxRecDepth 100000 in
set_option maxHeartbeats 6400000 in
theorem chk_any (X Y W H : Int) (A : Option Addr) (n c : Nat) (lf : List Nat) (gr wt br de : Nat) (sp : Int) (C : Option Addr) (m cc : Nat) (X' Y' W' H' : Int) (l : List Nat) (w : World) (hn : lf.length = n) (hV : Rd w A (flt lf)) (hb : n ≤ 140737488351232) (hC : CoP w C m X' Y' W' H' l) (hm : m ≤ 140737488351232) :
    Calls Try.prog 63 #[.agg #[.int .i64 X, .int .i64 Y, .int .i64 W, .int .i64 H, .slice A n c], .agg #[.float .f32 gr, .float .f32 wt, .float .f32 br, .float .f32 de, .int .i64 sp, .slice C m cc]] w fun e w' => e = .returned (.int .i64 (grndE X Y W H lf gr wt br de sp m X' Y' W' H' l)) ∧ Ext w w' := by
  have HF := fun (w' : World) (h : Ext w w') => hidA (check_any X Y W H A n c lf w' hn (hV.ext h) hb)
  have HR := fun (w' : World) (h : Ext w w') => hidA (CheckRules_any gr wt br de sp C m cc X' Y' W' H' l w' (hC.ext h) hm)
  have hE : Hid (grndE X Y W H lf gr wt br de sp m X' Y' W' H' l = if fieldE X Y W H lf ≠ 0 then fieldE X Y W H lf else if rulesE gr wt br de sp m X' Y' W' H' l ≠ 0 then rulesE gr wt br de sp m X' Y' W' H' l
    else if m = 1 ∧ ¬ (X' = X ∧ Y' = Y ∧ W' = W ∧ H' = H) then 5 else 0) := rfl
  have Hm1 := hidA (fun h => rulesE_m (gr := gr) (wt := wt) (br := br) (de := de) (sp := sp) (m := m) (X' := X') (Y' := Y') (W' := W') (H' := H') (l := l) h)
  generalize grndE X Y W H lf gr wt br de sp m X' Y' W' H' l = E at *
  generalize rulesE gr wt br de sp m X' Y' W' H' l = re at *
  generalize fieldE X Y W H lf = fe at *
  have HC := hidA hC
  clear hC hn hV hb hm
  go_enter Try.func63, Try.ntmps63
  go_upto_region 1 with fail
  have kF : Bk ((w.alloc (.cells #[.int .i64 X, .int .i64 Y, .int .i64 W, .int .i64 H, .slice A n c] 26)).alloc (.cells #[.float .f32 gr, .float .f32 wt, .float .f32 br, .float .f32 de, .int .i64 sp, .slice C m cc] 30)) w.heap.size 26 #[.int .i64 X, .int .i64 Y, .int .i64 W, .int .i64 H, .slice A n c] := (Bk.new' rfl).alloc _
  have kR : Bk ((w.alloc (.cells #[.int .i64 X, .int .i64 Y, .int .i64 W, .int .i64 H, .slice A n c] 26)).alloc (.cells #[.float .f32 gr, .float .f32 wt, .float .f32 br, .float .f32 de, .int .i64 sp, .slice C m cc] 30)) (w.heap.size + 1) 30 #[.float .f32 gr, .float .f32 wt, .float .f32 br, .float .f32 de, .int .i64 sp, .slice C m cc] := Bk.new' (by simp)
  have hx0 : Ext w ((w.alloc (.cells #[.int .i64 X, .int .i64 Y, .int .i64 W, .int .i64 H, .slice A n c] 26)).alloc (.cells #[.float .f32 gr, .float .f32 wt, .float .f32 br, .float .f32 de, .int .i64 sp, .slice C m cc] 30)) := ((Ext.refl w).alloc _).alloc _
  generalize (w.alloc (.cells #[.int .i64 X, .int .i64 Y, .int .i64 W, .int .i64 H, .slice A n c] 26)).alloc (.cells #[.float .f32 gr, .float .f32 wt, .float .f32 br, .float .f32 de, .int .i64 sp, .slice C m cc] 30) = w0 at *
  generalize w.heap.size + 1 = hr at *
  generalize w.heap.size = hf at *
  have f0 := kF.cell 0
  have f1 := kF.cell 1
  have f2 := kF.cell 2
  have f3 := kF.cell 3
  have f4 := kF.cell 4
  by_cases hfe : fe = 0
  · have b0 : (fe != 0) = false := by simpa using hfe
    have HE2 := hidA (hE.out.trans (if_neg (by simpa using hfe)))
    clear hE hfe
    go_upto_region 4 with (go_at_call 103; refine ((HF _ hx0).out).mono ?_; rintro e w1 ⟨rfl, hx1⟩)
    have kR1 := kR.ext hx1
    have kF1 := kF.ext hx1
    clear f0 f1 f2 f3 f4 kR kF b0 HF
    have r0 := kR1.cell 0
    have r1 := kR1.cell 1
    have r2 := kR1.cell 2
    have r3 := kR1.cell 3
    have r4 := kR1.cell 4
    have r5 := kR1.cell 5
    by_cases hre : re = 0
    · have b1 : (re != 0) = false := by simpa using hre
      have HE3 := hidA (HE2.out.trans (if_neg (by simpa using hre)))
      have hm1 := Hm1.out hre
      clear HE2 hre Hm1
      go_upto_region 7 with (go_at_call 13; refine ((HR _ (hx0.trans hx1)).out).mono ?_; rintro e w2 ⟨rfl, hx2⟩)
      have kF2 := kF1.ext hx2
      have r5' := (kR1.ext hx2).cell 5
      have hxx := (hx0.trans hx1).trans hx2
      clear r0 r1 r2 r3 r4 r5 kR1 kF1 b1 HR hx0 hx1 hx2
      go_upto_region 8 with fail
      rcases (by omega : m = 0 ∨ m = 1) with rfl | rfl
      · have HE4 := hidA (HE3.out.trans (if_neg (by omega)))
        clear HE3
        go_loopw [22] (fun s22 wx => s22 = .int .i64 0 ∧ Ext w wx) (fun _ _ => 0)
        case atStart => exact ⟨rfl, hxx⟩
        case round =>
          obtain ⟨rfl, hx⟩ := hrel
          go_wp2
          go_ret
          exact ⟨ret_i HE4.out.symm, hx⟩
      · obtain ⟨B, c', q1, q2, q3⟩ := HC.out.one rfl
        obtain ⟨ad, rfl, hbk, hc⟩ := q1 (by simp)
        have d0 := hc 0 _ rfl
        have d1 := hc 1 _ rfl
        have d2 := hc 2 _ rfl
        have d3 := hc 3 _ rfl
        have d4 := hc 4 _ rfl
        rw [show ad.add 0 = ad from rfl] at d0
        rw [add_pos _ (by omega)] at d1 d2 d3 d4
        by_cases hreg : X' = X ∧ Y' = Y ∧ W' = W ∧ H' = H
        · have HE4 := hidA (HE3.out.trans (if_neg (by simp [hreg])))
          obtain ⟨rfl, rfl, rfl, rfl⟩ := hreg
          clear HE3
          go_loopw [22] (fun s22 wx => ∃ k : Nat, k ≤ 1 ∧ s22 = .int .i64 k ∧ Ext w wx ∧ Bk wx hf 26 #[.int .i64 X', .int .i64 Y', .int .i64 W', .int .i64 H', .slice A n c]) (fun s22 _ => 1 - (intOf s22).toNat)
          case atStart => exact ⟨0, by omega, rfl, hxx, kF2⟩
          case round =>
            obtain ⟨k, hk, rfl, hx, kF3⟩ := hrel
            rcases (by omega : k = 0 ∨ k = 1) with rfl | rfl
            · have D0 := (hx.cell ad hbk).trans d0
              have D1 := (hx.cell ⟨ad.block, ad.off + 1, none⟩ hbk).trans d1
              have D2 := (hx.cell ⟨ad.block, ad.off + 2, none⟩ hbk).trans d2
              have D3 := (hx.cell ⟨ad.block, ad.off + 3, none⟩ hbk).trans d3
              have D4 := (hx.cell ⟨ad.block, ad.off + 4, none⟩ hbk).trans d4
              have e0 := fun o => (kF3.alloc o).cell 0
              have e1 := fun o => (kF3.alloc o).cell 1
              have e2 := fun o => (kF3.alloc o).cell 2
              have e3 := fun o => (kF3.alloc o).cell 3
              have KF3 := hidA (kF3.alloc (.cells #[.int .i64 X', .int .i64 Y', .int .i64 W', .int .i64 H', .slice B l.length c'] 26))
              clear d0 d1 d2 d3 d4 kF3
              go_wp2
              go_roundw
              case rel => exact ⟨1, by omega, rfl, (by repeat (first | exact Ext.refl _ | assumption | refine Ext.setCell ?_ (by first | (simp; done) | (simp; omega)) _ | refine Ext.drewN ?_ _ | refine Ext.alloc ?_ _ | refine Ext.drew ?_ | refine Ext.trans ?_ (by assumption))), KF3.out⟩
              case measure => decide
            · go_wp2
              go_ret
              exact ⟨ret_i HE4.out.symm, hx⟩
        · have HE4 := hidA (HE3.out.trans (if_pos ⟨rfl, hreg⟩))
          have Hreg := hidA hreg
          clear HE3 hreg
          go_loopw [22] (fun s22 wx => s22 = .int .i64 0 ∧ Ext w wx ∧ Bk wx hf 26 #[.int .i64 X, .int .i64 Y, .int .i64 W, .int .i64 H, .slice A n c]) (fun s22 _ => 1 - (intOf s22).toNat)
          case atStart => exact ⟨rfl, hxx, kF2⟩
          case round =>
            obtain ⟨rfl, hx, kF3⟩ := hrel
            have D0 := (hx.cell ad hbk).trans d0
            have D1 := (hx.cell ⟨ad.block, ad.off + 1, none⟩ hbk).trans d1
            have D2 := (hx.cell ⟨ad.block, ad.off + 2, none⟩ hbk).trans d2
            have D3 := (hx.cell ⟨ad.block, ad.off + 3, none⟩ hbk).trans d3
            have D4 := (hx.cell ⟨ad.block, ad.off + 4, none⟩ hbk).trans d4
            have e0 := fun o => (kF3.alloc o).cell 0
            have e1 := fun o => (kF3.alloc o).cell 1
            have e2 := fun o => (kF3.alloc o).cell 2
            have e3 := fun o => (kF3.alloc o).cell 3
            clear d0 d1 d2 d3 d4 kF3
            go_wp2
            all_goals first | (go_ret; exact ⟨ret_i HE4.out.symm, (by repeat (first | exact Ext.refl _ | assumption | refine Ext.setCell ?_ (by first | (simp; done) | (simp; omega)) _ | refine Ext.drewN ?_ _ | refine Ext.alloc ?_ _ | refine Ext.drew ?_ | refine Ext.trans ?_ (by assumption)))⟩) | (exfalso; have h9 := Hreg.out; clear HE4 Hreg; simp_all)
    · have b1 : (re != 0) = true := by simpa using hre
      have HE3 := hidA (HE2.out.trans (if_pos hre))
      clear HE2 hre Hm1
      go_wp2_with (go_at_call 13; refine ((HR _ (hx0.trans hx1)).out).mono ?_; rintro e w2 ⟨rfl, hx2⟩)
      go_ret
      exact ⟨ret_i HE3.out.symm, (hx0.trans hx1).trans hx2⟩
  · have b0 : (fe != 0) = true := by simpa using hfe
    have HE2 := hidA (hE.out.trans (if_pos hfe))
    clear hE hfe
    go_wp2_with (go_at_call 103; refine ((HF _ hx0).out).mono ?_; rintro e w1 ⟨rfl, hx1⟩)
    go_ret
    exact ⟨ret_i HE2.out.symm, hx0.trans hx1⟩

/-- the error of places in a field -/
def insE (X Y W H : Int) (l : List (Int × Int)) : Int := if l.all (fun p => decide (InR X Y W H p.1 p.2)) = true then 0 else 5
set_option maxRecDepth 100000 in
set_option maxHeartbeats 6400000 in
theorem inside_any (X Y W H : Int) (A B : Option Addr) (n c m d : Nat) (l : List (Int × Int)) (w : World) (hr : RegOk X Y W H) (hl : l.length = m) (hP : Rd w B (ptv l)) (hm : m ≤ 140737488351232) :
    Calls Try.prog 64 #[.agg #[.int .i64 X, .int .i64 Y, .int .i64 W, .int .i64 H, .slice A n c], .slice B m d] w fun e w' => e = .returned (.int .i64 (insE X Y W H l)) ∧ Ext w w' := by
  have HI := fun (x y : Int) (w : World) (h : InR X Y W H x y) => hidA (place_in X Y W H x y w hr h)
  have HO := fun (x y : Int) (w : World) (h : ¬ InR X Y W H x y) => hidA (place_out X Y W H x y w hr h)
  have Hl := hidA hl
  clear hl hr
  go_enter Try.func64, Try.ntmps64
  go_upto_region 2 with fail
  have kF : Bk (w.alloc (.cells #[.int .i64 X, .int .i64 Y, .int .i64 W, .int .i64 H, .slice A n c] 26)) w.heap.size 26 #[.int .i64 X, .int .i64 Y, .int .i64 W, .int .i64 H, .slice A n c] := Bk.new' rfl
  have hx0 : Ext w (w.alloc (.cells #[.int .i64 X, .int .i64 Y, .int .i64 W, .int .i64 H, .slice A n c] 26)) := (Ext.refl w).alloc _
  generalize w.alloc (.cells #[.int .i64 X, .int .i64 Y, .int .i64 W, .int .i64 H, .slice A n c] 26) = w0 at *
  generalize w.heap.size = hf at *
  go_loopw [11] (fun s11 wx => ∃ k : Nat, k ≤ m ∧ s11 = .int .i64 k ∧ (∀ j, j < k → InR X Y W H (l.getD j (0, 0)).1 (l.getD j (0, 0)).2) ∧ Ext w0 wx) (fun s11 _ => m - (intOf s11).toNat)
  case atStart => exact ⟨0, Nat.zero_le _, rfl, fun j hj => by omega, Ext.refl _⟩
  case round =>
    obtain ⟨k, hk, rfl, hall, hx⟩ := hrel
    have Hall := hidA hall
    clear hall
    by_cases hkm : k < m
    · have hkl : k < l.length := by have := Hl.out; omega
      have hPr := hP.ext (hx0.trans hx)
      obtain ⟨ad, rfl, hbk, hc⟩ := hPr (by rintro e; have := ptv_length l; rw [e] at this; simp at this; omega)
      have d0 := hc _ _ (ptv_get hkl).1
      have d1 := hc _ _ (ptv_get hkl).2
      have ek : l.getD k (0, 0) = l[k] := by simp [List.getD_eq_getElem?_getD, hkl]
      have kF2 := (kF.ext hx).alloc (.cells #[.int .i64 l[k].1, .int .i64 l[k].2] 32)
      have f0 := kF2.cell 0
      have f1 := kF2.cell 1
      have f2 := kF2.cell 2
      have f3 := kF2.cell 3
      have i0 : (0 : Int) ≤ k := by omega
      have i1 : (k : Int) < m := by omega
      by_cases hin : InR X Y W H l[k].1 l[k].2
      · have Hnx := hidA (show ∀ j, j < k + 1 → InR X Y W H (l.getD j (0, 0)).1 (l.getD j (0, 0)).2 from fun j hj => by
          by_cases e : j = k
          · subst e; rw [ek]; exact hin
          · exact Hall.out j (by omega))
        have HI1 := fun w => HI l[k].1 l[k].2 w hin
        clear hc ek hin hPr kF2
        rw [show ad.add (k * 2 + 1) = ⟨(ad.add (k * 2)).block, (ad.add (k * 2)).off + 1, none⟩ from (add_off ad (k * 2) (by omega)).symm] at d1
        generalize l[k].1 = px at *
        generalize l[k].2 = py at *
        go_wp2_with (go_at_call 71; refine ((HI1 _).out).mono ?_; rintro e w3 ⟨rfl, hx3⟩)
        go_roundw
        case rel => exact ⟨k + 1, by omega, by go_num, Hnx.out, (by repeat (first | exact Ext.refl _ | assumption | refine Ext.setCell ?_ (by first | (simp; done) | (simp; omega)) _ | refine Ext.drewN ?_ _ | refine Ext.alloc ?_ _ | refine Ext.drew ?_ | refine Ext.trans ?_ (by assumption)))⟩
        case measure => simp [intOf]; omega
      · have HE : Hid (insE X Y W H l = 5) := by
          show _ = _
          unfold insE
          rw [if_neg]
          intro h
          have h2 := List.all_eq_true.1 h l[k] (List.getElem_mem hkl)
          exact hin (by simpa using h2)
        have HO1 := fun w => HO l[k].1 l[k].2 w hin
        clear hc ek hin hPr kF2
        rw [show ad.add (k * 2 + 1) = ⟨(ad.add (k * 2)).block, (ad.add (k * 2)).off + 1, none⟩ from (add_off ad (k * 2) (by omega)).symm] at d1
        generalize l[k].1 = px at *
        generalize l[k].2 = py at *
        go_wp2_with (go_at_call 71; refine ((HO1 _).out).mono ?_; rintro e w3 ⟨rfl, hx3⟩)
        go_ret
        exact ⟨ret_i HE.out.symm, hx0.trans (hx.trans (by repeat (first | exact Ext.refl _ | assumption | refine Ext.setCell ?_ (by first | (simp; done) | (simp; omega)) _ | refine Ext.drewN ?_ _ | refine Ext.alloc ?_ _ | refine Ext.drew ?_ | refine Ext.trans ?_ (by assumption))))⟩
    · have hkn : m = k := by omega
      subst hkn
      have HE : Hid (insE X Y W H l = 0) := by
        show _ = _
        unfold insE
        rw [if_pos]
        refine List.all_eq_true.2 fun p hp => ?_
        obtain ⟨j, hj, rfl⟩ := List.mem_iff_getElem.1 hp
        have h2 := Hall.out j (by have := Hl.out; omega)
        have ek : l.getD j (0, 0) = l[j] := by simp [List.getD_eq_getElem?_getD, hj]
        rw [ek] at h2
        simpa using h2
      go_wp2
      go_ret
      exact ⟨ret_i HE.out.symm, hx0.trans hx⟩
theorem amount_any (B : Option Addr) (m d : Nat) (w : World) :
    Calls Try.prog 69 #[.slice B m d] w fun e w' => e = .returned (.int .i64 (if m = 0 then 10 else if 65536 < m then 4 else 0)) ∧ w = w' := by
  go_enter Try.func69, Try.ntmps69
  by_cases h0 : m = 0
  · subst h0
    go_wp2
    go_ret
    exact ⟨rfl, rfl⟩
  · have h1 : ¬ (m : Int) = 0 := by omega
    by_cases h2 : 65536 < m
    · have h3 : (65536 : Int) < m := by omega
      go_wp2
      go_ret
      exact ⟨rfl, rfl⟩
    · have h3 : ¬ (65536 : Int) < m := by omega
      go_wp2
      go_ret
      exact ⟨rfl, rfl⟩
end Go.Proofs.Ytpgdinpckolfpaa
