/- The walk of the law ShowersArePlaces. -/
import Derived.Test.YtinohfgokpbcdaaDsAM
import Derived.Test.YtinohfgokpbcdaaDsAO
import Derived.RegionTactic
import Derived.Deep.DeepCutAuto
import Derived.Test.YtinohfgokpbcdaaDsAG
namespace Go.Proofs.Ytinohfgokpbcdaa
open Go.RowKit
attribute [local go_sem ↓] Go.wp_at_zero Go.wp_at_succ
attribute [local go_sem] run_store_float

theorem enters_drain : ∀ args w, (callFunc 154 args).run Try.prog w = .ok (.enter 154 args) w := enters_of Try.func154 (by kernel_rfl) rfl
set_option maxRecDepth 100000 in
set_option maxHeartbeats 6400000 in
theorem drain_any (X Y : Int) (Wn Hn N : Nat) (A : Option Addr) (c : Nat) (l : List Nat) (w : World) (hrg : Reg X Y Wn Hn) (hN : N = Wn * Hn) (hl : l.length = N) (hV : Rd w A (flt l)) (hh : ∀ x ∈ l, Bd 20 x) :
    Calls Try.prog 126 #[.agg #[.int .i64 X, .int .i64 Y, .int .i64 (Wn : Int), .int .i64 (Hn : Int), .slice A N c]] w fun e w' => ∃ gd v, e = .returned (.slice (some ⟨gd, 0, none⟩) N N) ∧ LeastG Wn Hn (fun k => l.getD k 0) 0 (fun k => valI (v k)) ∧ (∀ k, k < N → Bd 20 (v k)) ∧ Bk w' gd 3 (intB N (drnV v (rkV v Wn Hn (N - 1)) Wn Hn)) ∧ w.heap.size ≤ gd ∧ Ext w w' := by
  have hN6 : N ≤ 65536 := by rw [hN]; exact hrg.n
  have hN1 : 1 ≤ N := by rw [hN]; exact Nat.mul_pos hrg.w1 hrg.h1
  have hhk : ∀ k, k < Wn * Hn → Bd 20 (l.getD k 0) := fun k hk => by
    have hkl : k < l.length := by omega
    have e : l.getD k 0 = l[k] := by simp [List.getD_eq_getElem?_getD, hkl]
    rw [e]
    exact hh _ (List.getElem_mem hkl)
  have HFi := hidA (fun (w : World) (h : Rd w A (flt l)) => filled_any X Y Wn Hn N A c 0 l w hrg hN hl h hh (zero_bd.mono (by omega)) (by rw [val_zero]; exact Int.le_refl _))
  have HN := hidA hN
  have Hrg := hidA hrg
  have Hhk := hidA hhk
  have HBo := fun (k : Nat) (w : World) (hk : k < N) => hidA (border_any X Y Wn Hn k w hrg (by rw [← hN]; exact hk))
  unfold rgv at HBo
  have HM1 := hidA hN1
  have HStp := hidA (fun (A : Option Addr) (l : List Nat) (w : World) (h1 : l.length = N) (h2 : Rd w A (flt l)) (h3 : ∀ j, j < N → Bd 20 (l.getD j 0)) => steepA_any X Y Wn Hn N A N l w hrg hN h1 h2 h3)
  have HRnk := hidA (fun (A : Option Addr) (gd : Nat) (l : List Nat) (w : World) (K : Nat → Int) (h1 : l.length = N) (h2 : Rd w A (flt l)) (h3 : ∀ j, j < N → Bd 20 (l.getD j 0)) => ranks_any X Y Wn Hn N A N gd l w K hrg hN h1 h2 h3)
  clear hN hl hrg hhk hh hN1
  go_enter Try.func126, Try.ntmps126
  go_upto_region 1 with fail
  have kF : Bk (w.alloc (.cells #[.int .i64 X, .int .i64 Y, .int .i64 (Wn : Int), .int .i64 (Hn : Int), .slice A N c] 26)) w.heap.size 26 #[.int .i64 X, .int .i64 Y, .int .i64 (Wn : Int), .int .i64 (Hn : Int), .slice A N c] := Bk.new' rfl
  have hx1 : Ext w (w.alloc (.cells #[.int .i64 X, .int .i64 Y, .int .i64 (Wn : Int), .int .i64 (Hn : Int), .slice A N c] 26)) := (Ext.refl w).alloc _
  generalize w.alloc (.cells #[.int .i64 X, .int .i64 Y, .int .i64 (Wn : Int), .int .i64 (Hn : Int), .slice A N c] 26) = w1 at *
  generalize hh0 : w.heap.size = h0 at *
  have hs1 : h0 ≤ w1.heap.size := by rw [← hh0]; exact hx1.size
  have e0 : ∀ w', Ext w1 w' → w'.cell? ⟨h0, 0, none⟩ = some (.int .i64 X) := fun w' h => (kF.ext h).cell 0
  have e1 : ∀ w', Ext w1 w' → w'.cell? ⟨h0, 1, none⟩ = some (.int .i64 Y) := fun w' h => (kF.ext h).cell 1
  have e2 : ∀ w', Ext w1 w' → w'.cell? ⟨h0, 2, none⟩ = some (.int .i64 (Wn : Int)) := fun w' h => (kF.ext h).cell 2
  have e3 : ∀ w', Ext w1 w' → w'.cell? ⟨h0, 3, none⟩ = some (.int .i64 (Hn : Int)) := fun w' h => (kF.ext h).cell 3
  have e4 : ∀ w', Ext w1 w' → w'.cell? ⟨h0, 4, none⟩ = some (.slice A N c) := fun w' h => (kF.ext h).cell 4
  go_cut [3] (fun s3 wx => ∃ (hf gv : Nat) (out : Nat → Nat), s3 = Value.pointer (some ⟨hf, 0, none⟩) ∧ Bk wx hf 26 #[.int .i64 X, .int .i64 Y, .int .i64 (Wn : Int), .int .i64 (Hn : Int), .slice (some ⟨gv, 0, none⟩) N N] ∧ Bk wx gv 27 (flo N out) ∧ LeastG Wn Hn (fun k => l.getD k 0) 0 (fun k => valI (out k)) ∧ (∀ k, k < N → Bd 36 (out k)) ∧ h0 ≤ gv ∧ Ext w1 wx)
  case first =>
    refine wp_region_noPanic ?_
    refine wp_region_held_drew (S := fun w' => Ext w1 w') (by kernel_rfl) ?_ (fun hHeld => ?_)
    · (repeat (first | exact Ext.refl _ | assumption | refine Ext.setCell ?_ (by first | (simp; done) | (simp; omega)) _ | refine Ext.drewN ?_ _ | refine Ext.alloc ?_ _ | refine Ext.drew ?_ | refine Ext.trans ?_ (by assumption)))
    refine wpAnyH_take (i := 0) (oi := ?o2x0) (v := ?v2x0) ?hi2x0 (by kernel_rfl) ?hf2x0 ?hr2x0 (fun _ _ _ h => h) ?hy2x0 (by assumption) ?rest2x0
    case hi2x0 => (simp only [List.getElem?_toArray, List.getElem?_cons_zero]; exact rfl)
    case hf2x0 => kernel_rfl
    case hr2x0 => kernel_rfl
    case hy2x0 => (refine Or.inl ⟨by rfl, ?_⟩; intro w hSw; (try dsimp only at hSw); go_simp; try with_reducible rfl)
    simp only [put_mk, List.set_cons_succ, List.set_cons_zero]
    refine wpAnyH_take (i := 1) (oi := ?o3x1) (v := ?v3x1) ?hi3x1 (by kernel_rfl) ?hf3x1 ?hr3x1 (fun _ _ _ h => h) ?hy3x1 (by assumption) ?rest3x1
    case hi3x1 => (simp only [List.getElem?_toArray, List.getElem?_cons_succ, List.getElem?_cons_zero]; exact rfl)
    case hf3x1 => kernel_rfl
    case hr3x1 => kernel_rfl
    case hy3x1 => (refine Or.inl ⟨by rfl, ?_⟩; intro w hSw; (try dsimp only at hSw); go_simp; try with_reducible rfl)
    simp only [put_mk, List.set_cons_succ, List.set_cons_zero]
    refine wpAnyH_take (i := 2) (oi := ?o4x2) (v := ?v4x2) ?hi4x2 (by kernel_rfl) ?hf4x2 ?hr4x2 (fun _ _ _ h => h) ?hy4x2 (by assumption) ?rest4x2
    case hi4x2 => (simp only [List.getElem?_toArray, List.getElem?_cons_succ, List.getElem?_cons_zero]; exact rfl)
    case hf4x2 => kernel_rfl
    case hr4x2 => kernel_rfl
    case hy4x2 => (refine Or.inl ⟨by rfl, ?_⟩; intro w hSw; (try dsimp only at hSw); go_simp; try with_reducible rfl)
    simp only [put_mk, List.set_cons_succ, List.set_cons_zero]
    refine wpAnyH_ready (rs := [3, 5]) (by kernel_rfl) (by simp) ?_
    refine (AllReadyH.cons (o := ?o5x3) ?hi5x3 (fun K hK => ?_) (AllReadyH.cons (o := ?o5x5) ?hi5x5 (fun K hK => ?_) AllReadyH.nil))
    case hi5x3 => (simp only [List.getElem?_toArray, List.getElem?_cons_succ, List.getElem?_cons_zero]; exact rfl)
    case hi5x5 => (simp only [List.getElem?_toArray, List.getElem?_cons_succ, List.getElem?_cons_zero]; exact rfl)
    · go_simp
      refine (HFi.out _ (hV.ext (hx1.trans (by repeat (first | exact Ext.refl _ | assumption | refine Ext.setCell ?_ (by first | (simp; done) | (simp; omega)) _ | refine Ext.drewN ?_ _ | refine Ext.alloc ?_ _ | refine Ext.drew ?_ | refine Ext.trans ?_ (by assumption)))))).mono ?_
      rintro e w3 ⟨gv, out, rfl, hg, hB3, hL, h36, hx3⟩
      refine hK.out _ _ ?_ (fun hHeld => ?_)
      · (repeat (first | exact Ext.refl _ | assumption | refine Ext.setCell ?_ (by first | (simp; done) | (simp; omega)) _ | refine Ext.drewN ?_ _ | refine Ext.alloc ?_ _ | refine Ext.drew ?_ | refine Ext.trans ?_ (by assumption)))
      clear hK K
      refine wpAnyH_take (i := 4) (oi := ?o6x4) (v := ?v6x4) ?hi6x4 (by kernel_rfl) ?hf6x4 ?hr6x4 (fun _ _ _ h => h) ?hy6x4 (by assumption) ?rest6x4
      case hi6x4 => (simp only [List.getElem?_toArray, List.getElem?_cons_succ, List.getElem?_cons_zero]; exact rfl)
      case hf6x4 => kernel_rfl
      case hr6x4 => kernel_rfl
      case hy6x4 => (refine Or.inl ⟨by rfl, ?_⟩; intro w hSw; (try dsimp only at hSw); go_simp; try with_reducible rfl)
      simp only [put_mk, List.set_cons_succ, List.set_cons_zero]
      refine wpAnyH_ready (rs := [5]) (by kernel_rfl) (by simp) ?_
      refine AllReadyH.cons (o := ?o7x5) ?hi7x5 (fun K hK => ?_) AllReadyH.nil
      case hi7x5 => (simp only [List.getElem?_toArray, List.getElem?_cons_succ, List.getElem?_cons_zero]; exact rfl)
      go_simp
      refine hK.out _ _ ?_ (fun hHeld => ?_)
      · (repeat (first | exact Ext.refl _ | assumption | refine Ext.setCell ?_ (by first | (simp; done) | (simp; omega)) _ | refine Ext.drewN ?_ _ | refine Ext.alloc ?_ _ | refine Ext.drew ?_ | refine Ext.trans ?_ (by assumption)))
      clear hK K
      refine wpAnyH_ready (rs := [6]) (by kernel_rfl) (by simp) ?_
      refine AllReadyH.cons (o := ?o8x6) ?hi8x6 (fun K hK => ?_) AllReadyH.nil
      case hi8x6 => (simp only [List.getElem?_toArray, List.getElem?_cons_succ, List.getElem?_cons_zero]; exact rfl)
      go_simp
      refine hK.out _ _ ?_ (fun hHeld => ?_)
      · (repeat (first | exact Ext.refl _ | assumption | refine Ext.setCell ?_ (by first | (simp; done) | (simp; omega)) _ | refine Ext.drewN ?_ _ | refine Ext.alloc ?_ _ | refine Ext.drew ?_ | refine Ext.trans ?_ (by assumption)))
      clear hK K
      refine wpAnyH_done (by kernel_rfl) ?_ _
      refine NoPanic.normal ?_
      go_wp2_with fail
      go_meet
      case rel => exact ⟨_, gv, out, rfl, Bk.drew (Bk.new' rfl), Bk.drew (hB3.alloc _), hL, h36, by have := hs1; simp at hg; omega, (by repeat (first | exact Ext.refl _ | assumption | refine Ext.setCell ?_ (by first | (simp; done) | (simp; omega)) _ | refine Ext.drewN ?_ _ | refine Ext.alloc ?_ _ | refine Ext.drew ?_ | refine Ext.trans ?_ (by assumption)))⟩
    · go_simp
      refine hK.out _ _ ?_ (fun hHeld => ?_)
      · (repeat (first | exact Ext.refl _ | assumption | refine Ext.setCell ?_ (by first | (simp; done) | (simp; omega)) _ | refine Ext.drewN ?_ _ | refine Ext.alloc ?_ _ | refine Ext.drew ?_ | refine Ext.trans ?_ (by assumption)))
      clear hK K
      refine wpAnyH_ready (rs := [3]) (by kernel_rfl) (by simp) ?_
      refine AllReadyH.cons (o := ?o9x3) ?hi9x3 (fun K hK => ?_) AllReadyH.nil
      case hi9x3 => (simp only [List.getElem?_toArray, List.getElem?_cons_succ, List.getElem?_cons_zero]; exact rfl)
      go_simp
      refine (HFi.out _ (hV.ext (hx1.trans (by repeat (first | exact Ext.refl _ | assumption | refine Ext.setCell ?_ (by first | (simp; done) | (simp; omega)) _ | refine Ext.drewN ?_ _ | refine Ext.alloc ?_ _ | refine Ext.drew ?_ | refine Ext.trans ?_ (by assumption)))))).mono ?_
      rintro e w3 ⟨gv, out, rfl, hg, hB3, hL, h36, hx3⟩
      have hG : Bk w3 w1.heap.size 26 #[.int .i64 0, .int .i64 0, .int .i64 0, .int .i64 0, .slice none 0 0] := by first | exact (Bk.new' (by simp)).ext hx3 | exact (Bk.new' (by simp)).drew.ext hx3
      have hgn : w1.heap.size ≠ gv := by simp at hg; omega
      have z0 := hG.cell 0
      have y0 := hG.frozen 0
      have z1 := hG.cell 1
      have y1 := hG.frozen 1
      have z2 := hG.cell 2
      have y2 := hG.frozen 2
      have z3 := hG.cell 3
      have y3 := hG.frozen 3
      have z4 := hG.cell 4
      have y4 := hG.frozen 4
      refine hK.out _ _ ?_ (fun hHeld => ?_)
      · (repeat (first | exact Ext.refl _ | assumption | refine Ext.setCell ?_ (by first | (simp; done) | (simp; omega)) _ | refine Ext.drewN ?_ _ | refine Ext.alloc ?_ _ | refine Ext.drew ?_ | refine Ext.trans ?_ (by assumption)))
      clear hK K
      refine wpAnyH_take (i := 4) (oi := ?o10x4) (v := ?v10x4) ?hi10x4 (by kernel_rfl) ?hf10x4 ?hr10x4 (fun _ _ _ h => h) ?hy10x4 (by assumption) ?rest10x4
      case hi10x4 => (simp only [List.getElem?_toArray, List.getElem?_cons_succ, List.getElem?_cons_zero]; exact rfl)
      case hf10x4 => kernel_rfl
      case hr10x4 => kernel_rfl
      case hy10x4 => (refine Or.inl ⟨by rfl, ?_⟩; intro w hSw; (try dsimp only at hSw); go_simp; try with_reducible rfl)
      simp only [put_mk, List.set_cons_succ, List.set_cons_zero]
      refine wpAnyH_ready (rs := [6]) (by kernel_rfl) (by simp) ?_
      refine AllReadyH.cons (o := ?o11x6) ?hi11x6 (fun K hK => ?_) AllReadyH.nil
      case hi11x6 => (simp only [List.getElem?_toArray, List.getElem?_cons_succ, List.getElem?_cons_zero]; exact rfl)
      go_simp
      refine hK.out _ _ ?_ (fun hHeld => ?_)
      · (repeat (first | exact Ext.refl _ | assumption | refine Ext.setCell ?_ (by first | (simp; done) | (simp; omega)) _ | refine Ext.drewN ?_ _ | refine Ext.alloc ?_ _ | refine Ext.drew ?_ | refine Ext.trans ?_ (by assumption)))
      clear hK K
      refine wpAnyH_done (by kernel_rfl) ?_ _
      refine NoPanic.normal ?_
      go_wp2_with fail
      go_meet
      case rel => exact ⟨w1.heap.size, gv, out, rfl, by simpa using (((((hG.set 0 (.int .i64 X)).set 1 (.int .i64 Y)).set 2 (.int .i64 (Wn : Int))).set 3 (.int .i64 (Hn : Int))).set 4 (.slice (some ⟨gv, 0, none⟩) N N)), by repeat (first | (with_reducible exact hB3) | (with_reducible refine Bk.drew ?_) | (with_reducible refine Bk.far ?_ (Ne.symm hgn) _)), hL, h36, by have := hs1; simp at hg; omega, (by repeat (first | exact Ext.refl _ | assumption | refine Ext.setCell ?_ (by first | (simp; done) | (simp; omega)) _ | refine Ext.drewN ?_ _ | refine Ext.alloc ?_ _ | refine Ext.drew ?_ | refine Ext.trans ?_ (by assumption)))⟩
  case rest =>
    obtain ⟨hf, gv, out, rfl, hFb, hVb, hL, h36, hgv, hx2⟩ := hcut
    have Hh0 := hidA hh0
    clear e0 e1 e2 e3 e4 hh0 kF HFi
    have hxw := hidA (hx1.trans hx2)
    have hs2 : h0 ≤ wc.heap.size := by have := hx2.size; omega
    obtain ⟨vL, hvl, hVR, hLv, hv20⟩ : ∃ vL : List Nat, vL.length = N ∧ Rd wc (some ⟨gv, 0, none⟩) (flt vL) ∧ LeastG Wn Hn (fun k => l.getD k 0) 0 (fun k => valI (vL.getD k 0)) ∧ ∀ k, k < N → Bd 20 (vL.getD k 0) := by
      have he : ∀ k, k < N → ((List.range N).map out).getD k 0 = out k := fun k hk => by simp [List.getD_eq_getElem?_getD, hk]
      refine ⟨(List.range N).map out, by simp, ?_, least_congr hL fun k hk => ?_, fun k hk => ?_⟩
      · have h := Rd.new_bk hVb
        rwa [flo_list] at h
      · rw [he k (by rw [HN.out]; exact hk)]
      · rw [he k hk]
        exact fill_bd Hhk.out hL k (by rw [← HN.out]; exact hk)
    obtain ⟨v, hvv⟩ : ∃ v : Nat → Nat, v = fun j => vL.getD j 0 := ⟨_, rfl⟩
    have HLv := hidA (show LeastG Wn Hn (fun k => l.getD k 0) 0 (fun k => valI (v k)) from by rw [hvv]; exact hLv)
    have Hv20 := hidA (show ∀ k, k < N → Bd 20 (v k) from by rw [hvv]; exact hv20)
    have hRk := Rk.of HN.out HM1.out (ranked Hrg.out.w1 HN.out HM1.out (fun k hk => Hhk.out k (by rw [← HN.out]; exact hk)) Hv20.out HLv.out)
    have HRk := hidA hRk
    have HSt := hidA (HStp.out (some ⟨gv, 0, none⟩) vL)
    have HRn := hidA (fun (gd : Nat) => HRnk.out (some ⟨gv, 0, none⟩) gd vL)
    have Hvv := hidA hvv
    have Hvl := hidA hvl
    have Hvb := hidA hv20
    clear hRk hLv hv20 h36 hL hVb HStp HRnk hvv hvl
    have c0 := hFb.cell 0
    have c1 := hFb.cell 1
    have c2 := hFb.cell 2
    have c3 := hFb.cell 3
    have c4 := hFb.cell 4
    go_upto_region 3 with (go_at_call 125; refine (HSt.out _ Hvl.out hVR Hvb.out).mono ?_; rintro e w5 ⟨gd, rfl, hD, hgd, hx5⟩)
    have hF5 := (hFb.ext hx5).alloc (.cells #[.slice (some ⟨gd, 0, none⟩) N N] 41)
    have hD5 := hD.alloc (.cells #[.slice (some ⟨gd, 0, none⟩) N N] 41)
    have hB5 : Bk (w5.alloc (.cells #[.slice (some ⟨gd, 0, none⟩) N N] 41)) w5.heap.size 41 #[.slice (some ⟨gd, 0, none⟩) N N] := Bk.new' rfl
    have hx6 : Ext wc (w5.alloc (.cells #[.slice (some ⟨gd, 0, none⟩) N N] 41)) := hx5.alloc _
    have hDl := hD.lt
    have hs6 : (w5.alloc (.cells #[.slice (some ⟨gd, 0, none⟩) N N] 41)).heap.size = w5.heap.size + 1 := by simp
    clear c0 c1 c2 c3 c4 hFb hx5 hD
    generalize w5.alloc (.cells #[.slice (some ⟨gd, 0, none⟩) N N] 41) = w6 at *
    generalize w5.heap.size = hd at *
    have c0 := hF5.cell 0
    have c1 := hF5.cell 1
    have c2 := hF5.cell 2
    have c3 := hF5.cell 3
    have c4 := hF5.cell 4
    have d0 := hB5.cell 0
    have HRa := hidA (HRn.out gd w6 (rkV v Wn Hn (N - 1)) Hvl.out (hVR.ext hx6) Hvb.out (by have h := HRk.out; rw [Hvv.out] at h ⊢; exact h) hD5)
    go_upto_region 4 with (go_at_call 153; refine (HRa.out).mono ?_; rintro e w7 ⟨gr, rfl, hG7, hgr, hx7⟩)
    have hS : DN wc (w7.alloc (.cells #[.slice (some ⟨gr, 0, none⟩) N N] 41)) hf w7.heap.size hd gr gd X Y Wn Hn N (some ⟨gv, 0, none⟩) N (rkV v Wn Hn (N - 1)) (fun k => (stp (fun j => vL.getD j 0) Wn Hn k 8).1) :=
      ⟨(hF5.ext hx7).alloc _, Bk.new' rfl, (hB5.ext hx7).alloc _, hG7.alloc _, (hD5.ext hx7).alloc _, (hx6.trans hx7).alloc _, hgd, by omega⟩
    have hK : DK v (rkV v Wn Hn (N - 1)) Wn Hn N 0 (fun k => (stp (fun j => vL.getD j 0) Wn Hn k 8).1) := ⟨fun j h => by omega, fun j _ _ => by rw [Hvv.out]⟩
    have HK := hidA hK
    clear hK c0 c1 c2 c3 c4 d0 HRa HRn HSt hF5 hB5 hD5 hx6 hG7 hx7
    generalize w7.alloc (.cells #[.slice (some ⟨gr, 0, none⟩) N N] 41) = w8 at *
    generalize w7.heap.size = hr at *
    have Hgg := hidA hgd
    clear hgd hgr hDl hs6
    obtain ⟨R, hRR⟩ : ∃ R : Nat → Int, R = rkV v Wn Hn (N - 1) := ⟨_, rfl⟩
    rw [← hRR] at hS HK HRk
    have HRR := hidA hRR
    clear hRR
    have b0 := hS.db.cell 0
    go_wp2_with fail
    clear b0
    go_loopw [21] (fun s21 wr => ∃ (k : Nat) (I : Nat → Int), k ≤ N ∧ s21 = .int .i64 k ∧ DN wc wr hf hr hd gr gd X Y Wn Hn N (some ⟨gv, 0, none⟩) N R I ∧ DK v R Wn Hn N k I) (fun s21 _ => N - (intOf s21).toNat)
    case atStart => exact ⟨0, _, Nat.zero_le _, rfl, hS, HK.out⟩
    case round =>
      clear hS HK
      obtain ⟨k, I, hk, rfl, hS, hK⟩ := hrel
      have HK := hidA hK
      clear hK
      by_cases hkN : k < N
      · have i1 : (0 : Int) ≤ k := by omega
        have i2 : (k : Int) < N := by omega
        have q0 := hS.ib.cell k
        rw [intB_get _ hkN, HK.out.rest k (Nat.le_refl _) hkN] at q0
        have HBk := fun w => HBo k w hkN
        by_cases hd1 : (stp v Wn Hn k 8).1 = -1
        · rw [hd1] at q0
          have Hd1 := hidA hd1
          clear hd1
          cases hbr : brd Wn Hn k with
          | true =>
            have HBr := hidA hbr
            have HK2 := hidA (HK.out.skip hkN (.inr hbr))
            clear hbr
            have hSa := hS.step ((Ext.refl wr).alloc (.cells #[.int .i64 (k : Int)] 3))
            go_upto_region 7 with fail
            have b0 := hSa.fb.cell 0
            have b1 := hSa.fb.cell 1
            have b2 := hSa.fb.cell 2
            have b3 := hSa.fb.cell 3
            go_upto_region 10 with (go_at_call 131; refine ((HBk _).out).mono ?_; rintro e w5 ⟨rfl, hx5⟩; rw [HBr.out])
            clear b0 b1 b2 b3
            go_wp2_with fail
            go_roundw
            case rel => exact ⟨k + 1, I, by omega, by go_num, hSa.step hx5, HK2.out⟩
            case measure => simp [intOf]; omega
          | false =>
            have HBr := hidA hbr
            clear hbr
            have hSa := hS.step ((Ext.refl wr).alloc (.cells #[.int .i64 (k : Int)] 3))
            have hKa : Bk (wr.alloc (.cells #[.int .i64 (k : Int)] 3)) wr.heap.size 3 #[.int .i64 (k : Int)] := Bk.new' rfl
            go_upto_region 7 with fail
            have b0 := hSa.fb.cell 0
            have b1 := hSa.fb.cell 1
            have b2 := hSa.fb.cell 2
            have b3 := hSa.fb.cell 3
            go_upto_region 8 with (go_at_call 131; refine ((HBk _).out).mono ?_; rintro e w5 ⟨rfl, hx5⟩; rw [HBr.out])
            have hS5 := hSa.step hx5
            have hK5 := hKa.ext hx5
            have hw5 : Ext wr w5 := ((Ext.refl wr).alloc (.cells #[.int .i64 (k : Int)] 3)).trans hx5
            have hl5 := hK5.lt
            clear b0 b1 b2 b3 q0 hSa hKa hx5
            have d0 := hS5.db.cell 0
            go_upto_region 9 with fail
            have hM := hidA (hS.more (w' := w5.alloc (.cells #[.int .i64 ((N : Int) + 1)] 3)) (hk := wr.heap.size) (hl := w5.heap.size) (k := k) (z := (N : Int) + 1) (hw5.alloc _) (Nat.le_refl _) hw5.size (by omega) (hK5.alloc _) (Bk.new' rfl))
            clear d0 hS5 hK5 hw5 hl5 hS
            generalize w5.alloc (.cells #[.int .i64 ((N : Int) + 1)] 3) = w6 at *
            generalize w5.heap.size = hl at *
            generalize wr.heap.size = hk at *
            have HI := hidA (nbs_any 154 #[.pointer (some ⟨hf, 0, none⟩), .pointer (some ⟨hk, 0, none⟩), .pointer (some ⟨hr, 0, none⟩), .pointer (some ⟨hl, 0, none⟩), .pointer (some ⟨hd, 0, none⟩)] enters_drain X Y Wn Hn k Hrg.out (by rw [← HN.out]; exact hkN)
              (fun d w' => ∃ I, XM wc w' hf hk hr hl hd gr gd X Y Wn Hn N (some ⟨gv, 0, none⟩) N k R I (lstZ N (bstD v R Wn Hn k d).1) ∧ DD v R Wn Hn N k d I)
              (fun d wa wb ⟨I, h1, h2⟩ hx => ⟨I, h1.step hx, h2⟩)
              (fun d n wa hd8 hnb ⟨I, h1, h2⟩ => by
                have hnN : n < N := by rw [HN.out]; exact nbr_lt hnb
                have hRn := HRk.out.pos n hnN
                refine (drain1_any wc wa hf hk hr hl hd gr gd X Y Wn Hn N _ N k R I _ vL n d h1 Hvl.out hVR hkN hnN (Hvb.out k hkN) (Hvb.out n hnN)).mono ?_
                have ev : ∀ j, vL.getD j 0 = v j := fun j => by rw [Hvv.out]
                rw [ev, ev]
                rintro e wb ⟨rfl, hreg, ⟨hv, hz, h5⟩ | ⟨hno, h5⟩⟩
                · exact ⟨rfl, ⟨_, by rw [bst_take hnb hRn.1 hv hz, lst_nonneg hRn.1]; exact h5, h2.take hnb hRn.1 hv hz⟩, hreg⟩
                · exact ⟨rfl, ⟨_, by rw [bst_keep hnb hRn.2 hno]; exact h5, h2.same hnb hRn.2 hno⟩, hreg⟩)
              (fun d wa hd8 hnb ⟨I, h1, h2⟩ => ⟨I, by rw [bst_none hnb]; exact h1, h2.none hnb⟩)
              w6 ⟨I, hM.out, HK.out.into hkN Hd1.out⟩)
            unfold rgv at HI
            have c0 := hM.out.fb.cell 0
            have c1 := hM.out.fb.cell 1
            have c2 := hM.out.fb.cell 2
            have c3 := hM.out.fb.cell 3
            have k0 := hM.out.kb.cell 0
            go_wp2_with (go_at_call 128; refine HI.out.mono ?_; rintro e w9 ⟨rfl, I9, hX9, hD9⟩)
            have HX9 := hidA hX9.less
            have HD9 := hidA (hD9.out Hd1.out HBr.out)
            clear hX9 hD9 c0 c1 c2 c3 k0
            go_wp2_with fail
            go_roundw
            case rel => exact ⟨k + 1, I9, by omega, by go_num, HX9.out, HD9.out⟩
            case measure => simp [intOf]; omega
        · have HK2 := hidA (HK.out.skip hkN (.inl hd1))
          have hne : ((stp v Wn Hn k 8).1 != -1) = true := by simpa using hd1
          generalize (stp v Wn Hn k 8).1 = z at q0 hne hd1
          have hSa := hS.step ((Ext.refl wr).alloc (.cells #[.int .i64 (k : Int)] 3))
          go_upto_region 7 with fail
          go_upto_region 10 with fail
          go_wp2_with fail
          go_roundw
          case rel => exact ⟨k + 1, I, by omega, by go_num, hSa, HK2.out⟩
          case measure => simp [intOf]; omega
      · obtain rfl : N = k := by omega
        have hib := hS.ib
        have hxe := hidA (hxw.out.trans hS.ext)
        have e : intB N I = intB N (drnV v R Wn Hn) := by unfold intB; congr 1; refine List.map_congr_left fun k hk => ?_; rw [HK.out.done k (List.mem_range.1 hk)]
        rw [e, HRR.out] at hib
        have Hib := hidA hib
        have d0 := hS.db.cell 0
        clear hib e hS HK
        go_wp2
        go_ret
        exact ⟨gd, v, rfl, HLv.out, Hv20.out, Hib.out, by have := Hgg.out; have := Hh0.out; omega, hxe.out⟩
end Go.Proofs.Ytinohfgokpbcdaa
namespace Go.Proofs.Ytinohfgokpbcdaa
open Go.RowKit
attribute [local go_sem ↓] Go.wp_at_zero Go.wp_at_succ
attribute [local go_sem] run_store_float

set_option maxHeartbeats 1600000 in
theorem eqFlo_same (A B : Option Addr) (n c d : Nat) (a b : List Nat) (w : World) (hn : a.length = n) (hn2 : b.length = n) (ha : Rd w A (flt a)) (hb : Rd w B (flt b)) (hnb : n ≤ 4000000) (he : ∀ k (h1 : k < a.length) (h2 : k < b.length), (FloatKind.f32.format.order a[k] b[k] == some .eq) = true) :
    Calls Try.prog 24 #[.slice A n c, .slice B n d] w fun e w' => e = .returned (.bool true) ∧ Ext w w' := by
  have Hn := hidA hn
  have Hn2 := hidA hn2
  have He := hidA he
  clear hn hn2 he
  go_enter Try.func24, Try.ntmps24
  go_wp2
  go_loopw [13] (fun i wr => ∃ k m : Nat, k ≤ n ∧ i = .int .i64 k ∧ wr = w.drewN m) (fun i _ => n - (intOf i).toNat)
  case atStart => exact ⟨0, 0, Nat.zero_le _, rfl, rfl⟩
  case round =>
    obtain ⟨k, m, hk, rfl, rfl⟩ := hrel
    by_cases hlt : k < n
    · have hkl : k < a.length := by have := Hn.out; omega
      have hkl2 : k < b.length := by have := Hn2.out; omega
      obtain ⟨ad, rfl, hbk, hc⟩ := ha.at (k := k) (by simpa [flt] using hkl)
      obtain ⟨ad2, rfl, hbk2, hc2⟩ := hb.at (k := k) (by simpa [flt] using hkl2)
      have e0 := hc k _ (flt_get hkl)
      have e2 := hc2 k _ (flt_get hkl2)
      have C1 : FloatKind.f32.format.order a[k] b[k] = some .eq := by have := He.out k hkl hkl2; simpa using this
      generalize a[k] = va at *
      generalize b[k] = vb at *
      have k0 : (0 : Int) ≤ k := by omega
      have k1 : (k : Int) < n := by omega
      clear ha hb hc hc2
      go_wp2
      go_quiet (fail)
      go_wp2
      go_roundw
      case rel => exact ⟨k + 1, _, by omega, by go_num, rfl⟩
      case measure => simp [intOf]; omega
    · obtain rfl : k = n := by omega
      go_wp2
      go_ret
      exact ⟨rfl, (by repeat (first | exact Ext.refl _ | assumption | refine Ext.setCell ?_ (by first | (simp; done) | (simp; omega)) _ | refine Ext.drewN ?_ _ | refine Ext.alloc ?_ _ | refine Ext.drew ?_ | refine Ext.trans ?_ (by assumption)))⟩

set_option maxHeartbeats 800000 in
theorem small_any (x y ww hh : Int) (A : Option Addr) (n c : Nat) (w : World) : Calls Try.prog 22 #[.agg #[.int .i64 x, .int .i64 y, .int .i64 ww, .int .i64 hh, .slice A n c]] w fun e w' => e = .returned (.bool (decide ((n : Int) ≤ 200))) ∧ Ext w w' := by
  go_enter Try.func22, Try.ntmps22
  go_wp2
  go_ret
  exact ⟨ret_b (by simp), (by repeat (first | (with_reducible exact Ext.refl _) | (with_reducible assumption) | (with_reducible refine Ext.setCell ?_ (by first | (simp; done) | (simp; omega)) _) | (with_reducible refine Ext.drewN ?_ _) | (with_reducible refine Ext.alloc ?_ _) | (with_reducible refine Ext.drew ?_) | (with_reducible refine Ext.trans ?_ (by assumption))))⟩
/-- the third error of Filled -/
def rangeE (s : Nat) : Int := if (lt s 0 || gt s 1149239296) = true then 3 else 0
theorem first3 (a b c : Int) : firstE [a, b, c] = if a ≠ 0 then a else if b ≠ 0 then b else c := by
  by_cases ha : a = 0
  · by_cases hb : b = 0
    · by_cases hc : c = 0 <;> simp [firstE, ha, hb, hc]
    · simp [firstE, ha, hb]
  · simp [firstE, ha]
theorem fillE_first (x y ww hh : Int) (l : List Nat) (s : Nat) : firstE [fieldE x y ww hh l, numE [s], rangeE s] = fillE x y ww hh l s := by
  rw [first3]
  unfold fillE slopeE rangeE
  simp only [Bool.or_eq_true]
theorem field_reg {x y ww hh : Int} {l : List Nat} (h : fieldE x y ww hh l = 0) : regE x y ww hh = 0 ∧ (l.length : Int) = ww * hh ∧ numE l = 0 := by
  have h1 : regE x y ww hh = 0 := by
    unfold fieldE at h
    split at h
    · rename_i h2; exact absurd h h2
    · rename_i h2; simpa using h2
  have h2 : (l.length : Int) = ww * hh := Classical.byContradiction fun h3 => by
    rw [fieldE_len h1 h3] at h
    cases h
  exact ⟨h1, h2, by rw [← h, fieldE_num h1 h2]⟩
/-- what the law has found ahead of its tests -/
def Wants (x y ww hh : Int) (l : List Nat) (s : Nat) : Int := fillE x y ww hh l s

set_option maxRecDepth 100000 in
set_option maxHeartbeats 3200000 in
theorem filled_bad (x y ww hh : Int) (A : Option Addr) (n c s : Nat) (l : List Nat) (w : World) (hn : l.length = n) (hd : Rd w A (flt l)) (hb : n ≤ 140737488351232) (hE : fillE x y ww hh l s ≠ 0) :
    Calls Try.prog 3 #[.agg #[.int .i64 x, .int .i64 y, .int .i64 ww, .int .i64 hh, .slice A n c], .float .f32 s] w fun e w' => e = .returned (.bool true) ∧ Ext w w' := by
  have HF := fun (w : World) (h : Rd w A (flt l)) => hidA (Filled_bad x y ww hh A n c s l w hn h hb hE)
  have HE := fun (w : World) (h : Rd w A (flt l)) => hidA (fieldError_any x y ww hh A n c l w hn h hb)
  have HN := fun (B : Option Addr) (w : World) (h : Rd w B (flt [s])) => hidA (numberError_any B 1 1 [s] w rfl h (by omega))
  have HS := fun (B : Option Addr) (w : World) (h : Rd w B ([fieldE x y ww hh l, numE [s], rangeE s].map (.int .i64))) => hidA (first_any B 3 3 [fieldE x y ww hh l, numE [s], rangeE s] w rfl h (by omega))
  rw [fillE_first] at HS
  have HZ := fun (w : World) => hidA (empty_zero w)
  have HW := fun (w : World) => hidA (flows_any w)
  have hE' : (fillE x y ww hh l s != 0) = true := by simpa using hE
  have hr : rangeE s = if (lt s 0 || gt s 1149239296) = true then 3 else 0 := rfl
  generalize fillE x y ww hh l s = E at *
  generalize fieldE x y ww hh l = f1 at *
  generalize numE [s] = f2 at *
  have HWh := fun (b : Bool) (w : World) => hidA (when_any b 3 w)
  have Hr := hidA hr
  clear hr hn hb hE
  generalize rangeE s = f3 at *
  have hc : (FloatKind.f32.format.order s 0 == some .lt) = lt s 0 := rfl
  have hc2 : (FloatKind.f32.format.order s 1149239296 == some .gt) = gt s 1149239296 := rfl
  cases h1 : lt s 0
  · cases h2 : gt s 1149239296
    · have hf : f3 = 0 := by rw [Hr.out, h1, h2]; rfl
      subst hf
      rw [h1] at hc
      rw [h2] at hc2
      clear h1 h2 Hr
      go_enter Try.func3, Try.ntmps3
      go_wp2_with fail
      refine ((HF _ (hd.ext (by repeat (first | (with_reducible exact Ext.refl _) | (with_reducible assumption) | (with_reducible refine Ext.setCell ?_ (by first | (simp; done) | (simp; omega)) _) | (with_reducible refine Ext.drewN ?_ _) | (with_reducible refine Ext.alloc ?_ _) | (with_reducible refine Ext.drew ?_) | (with_reducible refine Ext.trans ?_ (by assumption)))))).out).mono ?_
      rintro e w1 ⟨rfl, hx1⟩
      have kF : Bk w1 w.heap.size 26 #[.int .i64 x, .int .i64 y, .int .i64 ww, .int .i64 hh, .slice A n c] := (Bk.new' rfl).ext hx1
      have c0 := kF.cell 0
      have c1 := kF.cell 1
      have c2 := kF.cell 2
      have c3 := kF.cell 3
      have c4 := kF.cell 4
      have kl := kF.lt
      go_wp2_with fail
      refine ((HE _ (hd.ext (by repeat (first | (with_reducible exact Ext.refl _) | (with_reducible assumption) | (with_reducible refine Ext.setCell ?_ (by first | (simp; done) | (simp; omega)) _) | (with_reducible refine Ext.drewN ?_ _) | (with_reducible refine Ext.alloc ?_ _) | (with_reducible refine Ext.drew ?_) | (with_reducible refine Ext.trans ?_ (by assumption)))))).out).mono ?_
      rintro e w2 ⟨rfl, hx2⟩
      have kG : Bk w2 w1.heap.size 26 #[.int .i64 0, .int .i64 0, .int .i64 0, .int .i64 0, .slice none 0 0] := (Bk.new' rfl).ext hx2
      clear c0 c1 c2 c3 c4
      go_wp2_with fail
      refine ((HN _ _ (Rd.new rfl rfl)).out).mono ?_
      rintro e w3 ⟨rfl, rfl⟩
      go_wp2_with fail
      refine ((HWh _ _).out).mono ?_
      rintro e w4 ⟨rfl, rfl⟩
      go_wp2_with fail
      refine ((HS _ _ (Rd.new (by first | rfl | simp) (by first | rfl | simp))).out).mono ?_
      rintro e w5 ⟨rfl, hx5⟩
      have hg5 : Ext w2 w5 := by rw [← hx5]; (repeat (first | (with_reducible exact Ext.refl _) | (with_reducible assumption) | (with_reducible refine Ext.setCell ?_ (by first | (simp; done) | (simp; omega)) _) | (with_reducible refine Ext.drewN ?_ _) | (with_reducible refine Ext.alloc ?_ _) | (with_reducible refine Ext.drew ?_) | (with_reducible refine Ext.trans ?_ (by assumption))))
      clear hx5
      go_wp2_with fail
      refine ((HW _).out).mono ?_
      rintro e w6 ⟨rfl, hx6⟩
      go_wp2_with fail
      refine ((HW _).out).mono ?_
      rintro e w7 ⟨rfl, hx7⟩
      have kG7 := kG.ext (hg5.trans (hx6.trans hx7))
      have c0 := kG7.cell 0
      have c1 := kG7.cell 1
      have c2 := kG7.cell 2
      have c3 := kG7.cell 3
      have c4 := kG7.cell 4
      go_wp2_with fail
      refine ((HZ _).out).mono ?_
      rintro e w8 ⟨rfl, hx8⟩
      go_wp2_with fail
      go_ret
      exact ⟨by first | rfl | simp, (by repeat (first | (with_reducible exact Ext.refl _) | (with_reducible assumption) | (with_reducible refine Ext.setCell ?_ (by first | (simp; done) | (simp; omega)) _) | (with_reducible refine Ext.drewN ?_ _) | (with_reducible refine Ext.alloc ?_ _) | (with_reducible refine Ext.drew ?_) | (with_reducible refine Ext.trans ?_ (by assumption))))⟩
    · have hf : f3 = 3 := by rw [Hr.out, h1, h2]; rfl
      subst hf
      rw [h1] at hc
      rw [h2] at hc2
      clear h1 h2 Hr
      go_enter Try.func3, Try.ntmps3
      go_wp2_with fail
      refine ((HF _ (hd.ext (by repeat (first | (with_reducible exact Ext.refl _) | (with_reducible assumption) | (with_reducible refine Ext.setCell ?_ (by first | (simp; done) | (simp; omega)) _) | (with_reducible refine Ext.drewN ?_ _) | (with_reducible refine Ext.alloc ?_ _) | (with_reducible refine Ext.drew ?_) | (with_reducible refine Ext.trans ?_ (by assumption)))))).out).mono ?_
      rintro e w1 ⟨rfl, hx1⟩
      have kF : Bk w1 w.heap.size 26 #[.int .i64 x, .int .i64 y, .int .i64 ww, .int .i64 hh, .slice A n c] := (Bk.new' rfl).ext hx1
      have c0 := kF.cell 0
      have c1 := kF.cell 1
      have c2 := kF.cell 2
      have c3 := kF.cell 3
      have c4 := kF.cell 4
      have kl := kF.lt
      go_wp2_with fail
      refine ((HE _ (hd.ext (by repeat (first | (with_reducible exact Ext.refl _) | (with_reducible assumption) | (with_reducible refine Ext.setCell ?_ (by first | (simp; done) | (simp; omega)) _) | (with_reducible refine Ext.drewN ?_ _) | (with_reducible refine Ext.alloc ?_ _) | (with_reducible refine Ext.drew ?_) | (with_reducible refine Ext.trans ?_ (by assumption)))))).out).mono ?_
      rintro e w2 ⟨rfl, hx2⟩
      have kG : Bk w2 w1.heap.size 26 #[.int .i64 0, .int .i64 0, .int .i64 0, .int .i64 0, .slice none 0 0] := (Bk.new' rfl).ext hx2
      clear c0 c1 c2 c3 c4
      go_wp2_with fail
      refine ((HN _ _ (Rd.new rfl rfl)).out).mono ?_
      rintro e w3 ⟨rfl, rfl⟩
      go_wp2_with fail
      refine ((HWh _ _).out).mono ?_
      rintro e w4 ⟨rfl, rfl⟩
      go_wp2_with fail
      refine ((HS _ _ (Rd.new (by first | rfl | simp) (by first | rfl | simp))).out).mono ?_
      rintro e w5 ⟨rfl, hx5⟩
      have hg5 : Ext w2 w5 := by rw [← hx5]; (repeat (first | (with_reducible exact Ext.refl _) | (with_reducible assumption) | (with_reducible refine Ext.setCell ?_ (by first | (simp; done) | (simp; omega)) _) | (with_reducible refine Ext.drewN ?_ _) | (with_reducible refine Ext.alloc ?_ _) | (with_reducible refine Ext.drew ?_) | (with_reducible refine Ext.trans ?_ (by assumption))))
      clear hx5
      go_wp2_with fail
      refine ((HW _).out).mono ?_
      rintro e w6 ⟨rfl, hx6⟩
      go_wp2_with fail
      refine ((HW _).out).mono ?_
      rintro e w7 ⟨rfl, hx7⟩
      have kG7 := kG.ext (hg5.trans (hx6.trans hx7))
      have c0 := kG7.cell 0
      have c1 := kG7.cell 1
      have c2 := kG7.cell 2
      have c3 := kG7.cell 3
      have c4 := kG7.cell 4
      go_wp2_with fail
      refine ((HZ _).out).mono ?_
      rintro e w8 ⟨rfl, hx8⟩
      go_wp2_with fail
      go_ret
      exact ⟨by first | rfl | simp, (by repeat (first | (with_reducible exact Ext.refl _) | (with_reducible assumption) | (with_reducible refine Ext.setCell ?_ (by first | (simp; done) | (simp; omega)) _) | (with_reducible refine Ext.drewN ?_ _) | (with_reducible refine Ext.alloc ?_ _) | (with_reducible refine Ext.drew ?_) | (with_reducible refine Ext.trans ?_ (by assumption))))⟩
  · have hf : f3 = 3 := by rw [Hr.out, h1]; rfl
    subst hf
    rw [h1] at hc
    clear h1 hc2 Hr
    go_enter Try.func3, Try.ntmps3
    go_wp2_with fail
    refine ((HF _ (hd.ext (by repeat (first | (with_reducible exact Ext.refl _) | (with_reducible assumption) | (with_reducible refine Ext.setCell ?_ (by first | (simp; done) | (simp; omega)) _) | (with_reducible refine Ext.drewN ?_ _) | (with_reducible refine Ext.alloc ?_ _) | (with_reducible refine Ext.drew ?_) | (with_reducible refine Ext.trans ?_ (by assumption)))))).out).mono ?_
    rintro e w1 ⟨rfl, hx1⟩
    have kF : Bk w1 w.heap.size 26 #[.int .i64 x, .int .i64 y, .int .i64 ww, .int .i64 hh, .slice A n c] := (Bk.new' rfl).ext hx1
    have c0 := kF.cell 0
    have c1 := kF.cell 1
    have c2 := kF.cell 2
    have c3 := kF.cell 3
    have c4 := kF.cell 4
    have kl := kF.lt
    go_wp2_with fail
    refine ((HE _ (hd.ext (by repeat (first | (with_reducible exact Ext.refl _) | (with_reducible assumption) | (with_reducible refine Ext.setCell ?_ (by first | (simp; done) | (simp; omega)) _) | (with_reducible refine Ext.drewN ?_ _) | (with_reducible refine Ext.alloc ?_ _) | (with_reducible refine Ext.drew ?_) | (with_reducible refine Ext.trans ?_ (by assumption)))))).out).mono ?_
    rintro e w2 ⟨rfl, hx2⟩
    have kG : Bk w2 w1.heap.size 26 #[.int .i64 0, .int .i64 0, .int .i64 0, .int .i64 0, .slice none 0 0] := (Bk.new' rfl).ext hx2
    clear c0 c1 c2 c3 c4
    go_wp2_with fail
    refine ((HN _ _ (Rd.new rfl rfl)).out).mono ?_
    rintro e w3 ⟨rfl, rfl⟩
    go_wp2_with fail
    refine ((HWh _ _).out).mono ?_
    rintro e w4 ⟨rfl, rfl⟩
    go_wp2_with fail
    refine ((HS _ _ (Rd.new (by first | rfl | simp) (by first | rfl | simp))).out).mono ?_
    rintro e w5 ⟨rfl, hx5⟩
    have hg5 : Ext w2 w5 := by rw [← hx5]; (repeat (first | (with_reducible exact Ext.refl _) | (with_reducible assumption) | (with_reducible refine Ext.setCell ?_ (by first | (simp; done) | (simp; omega)) _) | (with_reducible refine Ext.drewN ?_ _) | (with_reducible refine Ext.alloc ?_ _) | (with_reducible refine Ext.drew ?_) | (with_reducible refine Ext.trans ?_ (by assumption))))
    clear hx5
    go_wp2_with fail
    refine ((HW _).out).mono ?_
    rintro e w6 ⟨rfl, hx6⟩
    go_wp2_with fail
    refine ((HW _).out).mono ?_
    rintro e w7 ⟨rfl, hx7⟩
    have kG7 := kG.ext (hg5.trans (hx6.trans hx7))
    have c0 := kG7.cell 0
    have c1 := kG7.cell 1
    have c2 := kG7.cell 2
    have c3 := kG7.cell 3
    have c4 := kG7.cell 4
    go_wp2_with fail
    refine ((HZ _).out).mono ?_
    rintro e w8 ⟨rfl, hx8⟩
    go_wp2_with fail
    go_ret
    exact ⟨by first | rfl | simp, (by repeat (first | (with_reducible exact Ext.refl _) | (with_reducible assumption) | (with_reducible refine Ext.setCell ?_ (by first | (simp; done) | (simp; omega)) _) | (with_reducible refine Ext.drewN ?_ _) | (with_reducible refine Ext.alloc ?_ _) | (with_reducible refine Ext.drew ?_) | (with_reducible refine Ext.trans ?_ (by assumption))))⟩

set_option maxRecDepth 100000 in
set_option maxHeartbeats 6400000 in
theorem filled_good (X Y : Int) (Wn Hn N : Nat) (A : Option Addr) (c s : Nat) (l : List Nat) (w : World) (hr : Reg X Y Wn Hn) (hN : N = Wn * Hn) (hn : l.length = N) (hd : Rd w A (flt l)) (hf : fieldE X Y Wn Hn l = 0) (hs : slopeE s = 0) :
    Calls Try.prog 3 #[.agg #[.int .i64 X, .int .i64 Y, .int .i64 (Wn : Int), .int .i64 (Hn : Int), .slice A N c], .float .f32 s] w fun e w' => e = .returned (.bool true) ∧ Ext w w' := by
  obtain ⟨s1, s2, s3, s4, s5⟩ := slope_ok hs
  have hN6 : N ≤ 65536 := by rw [hN]; exact hr.n
  have HNN := hidA hN
  have hh : ∀ x ∈ l, Bd 20 x := fun x hx => hgt_bd ((numE_zero (field_reg hf).2.2).2 x hx)
  have HF := fun (w : World) (h : Rd w A (flt l)) => hidA (Filled_ok X Y Wn Hn N A c s l w hr hN hn h hf hs)
  have HO := fun (w : World) (h : Rd w A (flt l)) => hidA (filledOf_any X Y Wn Hn N A c s l w hr hN hn h hh s1 s2)
  have HE := fun (w : World) (h : Rd w A (flt l)) => hidA (fieldError_any X Y Wn Hn A N c l w hn h (by omega))
  have HN := fun (B : Option Addr) (w : World) (h : Rd w B (flt [s])) => hidA (numberError_any B 1 1 [s] w rfl h (by omega))
  have HS := fun (B : Option Addr) (w : World) (h : Rd w B ([(0 : Int), 0, 0].map (.int .i64))) => hidA (first_any B 3 3 [0, 0, 0] w rfl h (by omega))
  have hS0 : firstE [(0 : Int), 0, 0] = 0 := rfl
  rw [hS0] at HS
  rw [hf] at HE
  rw [s3] at HN
  have HZ := fun (w : World) => hidA (empty_zero w)
  have HW := fun (w : World) => hidA (flows_any w)
  have HSm := fun (w : World) => hidA (small_any X Y Wn Hn A N c w)
  have HWh := fun (w : World) => hidA (when_any false 3 w)
  have hc : (FloatKind.f32.format.order s 0 == some .lt) = false := s4
  have hc2 : (FloatKind.f32.format.order s 1149239296 == some .gt) = false := s5
  clear hS0 s1 s2 s3 s4 s5 hh hr hf hs hn hN
  go_enter Try.func3, Try.ntmps3
  go_wp2_with fail
  refine ((HF _ (hd.ext (by repeat (first | (with_reducible exact Ext.refl _) | (with_reducible assumption) | (with_reducible refine Ext.setCell ?_ (by first | (simp; done) | (simp; omega)) _) | (with_reducible refine Ext.drewN ?_ _) | (with_reducible refine Ext.alloc ?_ _) | (with_reducible refine Ext.drew ?_) | (with_reducible refine Ext.trans ?_ (by assumption)))))).out).mono ?_
  rintro e w1 ⟨g, out, hg, hB, hL, h36, hx1, hor⟩
  obtain ⟨a, b, c', d, vA, vn, vc, ec, rfl, hrel⟩ : ∃ (a b c' d : Int) (vA : Option Addr) (vn vc : Nat) (ec : Int), e = .returned (.tuple #[.agg #[.int .i64 a, .int .i64 b, .int .i64 c', .int .i64 d, .slice vA vn vc], .int .i64 ec]) ∧ ResR X Y Wn Hn (.slice (some ⟨g, 0, none⟩) N N) ((List.range N).map out) a b c' d (.slice vA vn vc) ec := by
    rcases hor with ⟨h1, rfl⟩ | ⟨h1, rfl⟩
    · exact ⟨_, _, _, _, _, _, _, _, rfl, .inl ⟨h1, rfl, rfl, rfl, rfl, rfl, rfl⟩⟩
    · exact ⟨_, _, _, _, _, _, _, _, rfl, .inr ⟨h1, rfl, rfl, rfl, rfl, rfl, rfl⟩⟩
  have Hrel := hidA hrel
  have HL := hidA hL
  have H36 := hidA h36
  clear hor hrel hL h36
  have kF : Bk w1 w.heap.size 26 #[.int .i64 X, .int .i64 Y, .int .i64 (Wn : Int), .int .i64 (Hn : Int), .slice A N c] := (Bk.new' rfl).ext hx1
  have c0 := kF.cell 0
  have c1 := kF.cell 1
  have c2 := kF.cell 2
  have c3 := kF.cell 3
  have c4 := kF.cell 4
  have kl := kF.lt
  go_wp2_with fail
  refine ((HE _ (hd.ext (by repeat (first | (with_reducible exact Ext.refl _) | (with_reducible assumption) | (with_reducible refine Ext.setCell ?_ (by first | (simp; done) | (simp; omega)) _) | (with_reducible refine Ext.drewN ?_ _) | (with_reducible refine Ext.alloc ?_ _) | (with_reducible refine Ext.drew ?_) | (with_reducible refine Ext.trans ?_ (by assumption)))))).out).mono ?_
  rintro e w2 ⟨rfl, hx2⟩
  have kG : Bk w2 w1.heap.size 26 #[.int .i64 a, .int .i64 b, .int .i64 c', .int .i64 d, .slice vA vn vc] := (Bk.new' rfl).ext hx2
  have kF2 : Bk w2 w.heap.size 26 #[.int .i64 X, .int .i64 Y, .int .i64 (Wn : Int), .int .i64 (Hn : Int), .slice A N c] := (kF.alloc _).ext hx2
  have hB2 : Bk w2 g 27 (flo N out) := (hB.alloc _).ext hx2
  have hw2 : Ext w w2 := ((((Ext.refl w).alloc _).trans hx1).alloc _).trans hx2
  clear c0 c1 c2 c3 c4 kl hx2 hx1 kF hB
  go_wp2_with fail
  refine ((HN _ _ (Rd.new rfl rfl)).out).mono ?_
  rintro e w3 ⟨rfl, rfl⟩
  go_wp2_with fail
  refine ((HWh _).out).mono ?_
  rintro e w4 ⟨rfl, rfl⟩
  go_wp2_with fail
  refine ((HS _ _ (Rd.new (by first | rfl | simp) (by first | rfl | simp))).out).mono ?_
  rintro e w5 ⟨rfl, hx5⟩
  have hg5 : Ext w2 w5 := by rw [← hx5]; (repeat (first | (with_reducible exact Ext.refl _) | (with_reducible assumption) | (with_reducible refine Ext.setCell ?_ (by first | (simp; done) | (simp; omega)) _) | (with_reducible refine Ext.drewN ?_ _) | (with_reducible refine Ext.alloc ?_ _) | (with_reducible refine Ext.drew ?_) | (with_reducible refine Ext.trans ?_ (by assumption))))
  clear hx5
  go_wp2_with fail
  refine ((HW _).out).mono ?_
  rintro e w6 ⟨rfl, hx6⟩
  have hg6 := hg5.trans hx6
  clear hg5 hx6
  have kF6 := kF2.ext hg6
  have c0 := kF6.cell 0
  have c1 := kF6.cell 1
  have c2 := kF6.cell 2
  have c3 := kF6.cell 3
  have c4 := kF6.cell 4
  go_wp2_with fail
  refine ((HSm _).out).mono ?_
  rintro e w7 ⟨rfl, hx7⟩
  have hg7 := hg6.trans hx7
  clear hg6 hx7 c0 c1 c2 c3 c4 kF6
  have kF7 := kF2.ext hg7
  have c0 := kF7.cell 0
  have c1 := kF7.cell 1
  have c2 := kF7.cell 2
  have c3 := kF7.cell 3
  have c4 := kF7.cell 4
  by_cases hsm : (N : Int) ≤ 200
  · go_wp2_with fail
    refine ((HO _ ((hd.ext hw2).ext (hg7.trans (by repeat (first | (with_reducible exact Ext.refl _) | (with_reducible assumption) | (with_reducible refine Ext.setCell ?_ (by first | (simp; done) | (simp; omega)) _) | (with_reducible refine Ext.drewN ?_ _) | (with_reducible refine Ext.alloc ?_ _) | (with_reducible refine Ext.drew ?_) | (with_reducible refine Ext.trans ?_ (by assumption))))))).out).mono ?_
    rintro e w8 ⟨g2, out2, rfl, hgg, hB8, hL2, h362, hx8⟩
    have hv : ∀ k, k < N → valI (out2 k) = valI (out k) := fun k hk => hL2.unique HL.out (by rw [← HNN.out]; exact hk)
    have hall : ((List.range N).map out2).all hgtB = ((List.range N).map out).all hgtB := by
      rw [List.all_map, List.all_map, Bool.eq_iff_iff, List.all_eq_true, List.all_eq_true]
      constructor
      · intro h k hk
        rw [Function.comp_apply, ← hgt_val (hv k (List.mem_range.1 hk))]
        exact h k hk
      · intro h k hk
        rw [Function.comp_apply, hgt_val (hv k (List.mem_range.1 hk))]
        exact h k hk
    have hR8 : Rd w8 (some ⟨g2, 0, none⟩) (flt ((List.range N).map out2)) := by
      have h := Rd.new_bk hB8
      rwa [flo_list] at h
    have hg8 := hg7.trans hx8
    have hR8b : Rd w8 (some ⟨g, 0, none⟩) (flt ((List.range N).map out)) := by
      have h := Rd.new_bk (hB2.ext hg8)
      rwa [flo_list] at h
    have HNu := fun (w : World) (h : Rd w (some ⟨g2, 0, none⟩) (flt ((List.range N).map out2))) => hidA (numberError_any (some ⟨g2, 0, none⟩) N N ((List.range N).map out2) w (by simp) h (by omega))
    have HEq := fun (w : World) (h1 : Rd w (some ⟨g, 0, none⟩) (flt ((List.range N).map out))) (h2 : Rd w (some ⟨g2, 0, none⟩) (flt ((List.range N).map out2))) => hidA (eqFlo_same (some ⟨g, 0, none⟩) (some ⟨g2, 0, none⟩) N N N ((List.range N).map out) ((List.range N).map out2) w (by simp) (by simp) h1 h2 (by omega) (fun k k1 k2 => by
      have hk : k < N := by simpa using k1
      simp only [List.getElem_map, List.getElem_range]
      have h9 := (eq_val (bd_Fin (H36.out k hk) (by omega)) (bd_Fin (h362 k hk) (by omega))).2 (hv k hk).symm
      rw [ord_def, h9]
      rfl))
    have hnum : ((List.range N).map out2).all hgtB = true ∧ numE ((List.range N).map out2) = 0 ∨ ((List.range N).map out2).all hgtB = false ∧ numE ((List.range N).map out2) ≠ 0 := by
      cases hb : ((List.range N).map out2).all hgtB
      · exact .inr ⟨rfl, numE_not hb⟩
      · exact .inl ⟨rfl, numE_all hb⟩
    rw [hall] at hnum
    generalize numE ((List.range N).map out2) = nE at *
    have Hnum := hidA hnum
    have kF8 := kF2.ext hg8
    have kG8 := kG.ext hg8
    clear hnum hall hv hL2 h362 hB8 hgg hx8 hg7 c0 c1 c2 c3 c4 kF7 HO HF HE HN HS HSm HWh HW
    have c0 := kF8.cell 0
    have c1 := kF8.cell 1
    have c2 := kF8.cell 2
    have c3 := kF8.cell 3
    have d0 := kG8.cell 0
    have d1 := kG8.cell 1
    have d2 := kG8.cell 2
    have d3 := kG8.cell 3
    have d4 := kG8.cell 4
    go_wp2_with fail
    refine ((HNu _ hR8).out).mono ?_
    rintro e w9 ⟨rfl, rfl⟩
    rcases Hnum.out with ⟨hb, rfl⟩ | ⟨hb, hne⟩
    · rcases Hrel.out with ⟨_, rfl, rfl, rfl, rfl, h6, rfl⟩ | ⟨h1, _⟩
      · injection h6 with e1 e2 e3
        subst e1
        subst e2
        subst e3
        clear hb
        go_wp2_with fail
        refine ((HEq _ hR8b hR8).out).mono ?_
        rintro e w10 ⟨rfl, hx10⟩
        go_wp2_with fail
        go_ret
        exact ⟨by first | rfl | simp, hw2.trans (hg8.trans hx10)⟩
      · rw [hb] at h1; cases h1
    · rcases Hrel.out with ⟨h1, _⟩ | ⟨_, rfl, rfl, rfl, rfl, h6, rfl⟩
      · rw [hb] at h1; cases h1
      · injection h6 with e1 e2 e3
        subst e1
        subst e2
        subst e3
        have hne' : (nE != 0) = true := by simpa using hne
        clear hb hne
        go_wp2_with fail
        refine ((HZ _).out).mono ?_
        rintro e w10 ⟨rfl, hx10⟩
        go_wp2_with fail
        go_ret
        exact ⟨by first | rfl | simp, hw2.trans (hg8.trans hx10)⟩
  · have hsm2 : (200 : Int) < N := by omega
    have hsm3 : decide ((N : Int) ≤ 200) = false := by simpa using hsm2
    clear hsm
    go_wp2_with fail
    go_ret
    exact ⟨by first | rfl | simp, hw2.trans hg7⟩

theorem filled_walk (x y ww hh : Int) (A : Option Addr) (n c : Nat) (l : List Nat) (s : Nat) (w : World) (hn : l.length = n) (hd : Rd w A (flt l)) (hb : n ≤ 140737488351232) :
    Calls Try.prog 3 #[.agg #[.int .i64 x, .int .i64 y, .int .i64 ww, .int .i64 hh, .slice A n c], .float .f32 s] w fun e w' => e = .returned (.bool true) ∧ Ext w w' := by
  by_cases hE : fillE x y ww hh l s = 0
  · have hf : fieldE x y ww hh l = 0 := Classical.byContradiction fun h => by
      unfold fillE at hE
      rw [if_pos h] at hE
      exact h hE
    have hs : slopeE s = 0 := by
      unfold fillE at hE
      rwa [if_neg (fun h => h hf)] at hE
    obtain ⟨h1, h2, _⟩ := field_reg hf
    obtain ⟨Wn, Hn, rfl, rfl, hr⟩ := Reg.of_zero h1
    have hN : n = Wn * Hn := by
      rw [hn, ← Int.natCast_mul] at h2
      exact Int.ofNat.inj h2
    exact filled_good x y Wn Hn n A c s l w hr hN hn hd hf hs
  · exact filled_bad x y ww hh A n c s l w hn hd hb hE
end Go.Proofs.Ytinohfgokpbcdaa
namespace Go.Proofs.Ytinohfgokpbcdaa
open Go.RowKit
attribute [local go_sem ↓] Go.wp_at_zero Go.wp_at_succ

def intL (l : List Int) : List Value := l.map (.int .i64)
theorem Rd.reads {w : World} {ad : Addr} {xs : List Value} (h : Rd w (some ad) xs) : ∀ j u, xs[j]? = some u → w.cell? (ad.add j) = some u := fun j u hu => by
  obtain ⟨ad', e, _, hc⟩ := h (by rintro e; rw [e] at hu; simp at hu)
  injection e with e
  subst e
  exact hc j u hu
set_option maxRecDepth 100000 in
set_option maxHeartbeats 1600000 in
theorem eqInts_same (A B : Option Addr) (n c d : Nat) (q : List Int) (w : World) (hn : q.length = n) (ha : Rd w A (intL q)) (hb : Rd w B (intL q)) (hnb : n ≤ 4000000) :
    Calls Try.prog 30 #[.slice A n c, .slice B n d] w fun e w' => e = .returned (.bool true) ∧ Ext w w' := by
  have Hn := hidA hn
  clear hn
  go_enter Try.func30, Try.ntmps30
  go_wp2
  go_loopw [13] (fun i wr => ∃ k m : Nat, k ≤ n ∧ i = .int .i64 k ∧ wr = w.drewN m) (fun i _ => n - (intOf i).toNat)
  case atStart => exact ⟨0, 0, Nat.zero_le _, rfl, rfl⟩
  case round =>
    obtain ⟨k, m, hk, rfl, rfl⟩ := hrel
    by_cases hlt : k < n
    · have hkl : k < q.length := by have := Hn.out; omega
      obtain ⟨ad, rfl, hbk, _⟩ := ha.at (k := k) (by simpa [intL] using hkl)
      obtain ⟨ad2, rfl, hbk2, _⟩ := hb.at (k := k) (by simpa [intL] using hkl)
      have e0 := ha.reads k (.int .i64 q[k]) (by simp [intL, hkl])
      have e2 := hb.reads k (.int .i64 q[k]) (by simp [intL, hkl])
      generalize q[k] = v at *
      have k0 : (0 : Int) ≤ k := by omega
      have k1 : (k : Int) < n := by omega
      clear ha hb
      go_wp2
      go_quiet (fail)
      go_wp2
      go_roundw
      case rel => exact ⟨k + 1, _, by omega, by go_num, rfl⟩
      case measure => simp [intOf]; omega
    · obtain rfl : k = n := by omega
      go_wp2
      go_ret
      exact ⟨rfl, (by repeat (first | exact Ext.refl _ | assumption | refine Ext.setCell ?_ (by first | (simp; done) | (simp; omega)) _ | refine Ext.drewN ?_ _ | refine Ext.alloc ?_ _ | refine Ext.drew ?_ | refine Ext.trans ?_ (by assumption)))⟩

theorem first2 (a b : Int) : firstE [a, b] = if a ≠ 0 then a else b := by
  by_cases ha : a = 0
  · by_cases hb : b = 0 <;> simp [firstE, ha, hb]
  · simp [firstE, ha]
def withB (most : Int) : Bool := decide (0 ≤ most) && decide (most ≤ 1048576)
theorem showE_first (x y ww hh most : Int) : firstE [regE x y ww hh, if (!withB most) = true then 3 else 0] = showE x y ww hh most := by
  rw [first2]
  unfold showE withB
  by_cases h : most < 0 ∨ 1048576 < most
  · rw [if_pos h]
    have : (!(decide (0 ≤ most) && decide (most ≤ 1048576))) = true := by simp; omega
    rw [if_pos this]
  · rw [if_neg h]
    have : ¬ (!(decide (0 ≤ most) && decide (most ≤ 1048576))) = true := by simp; omega
    rw [if_neg this]

set_option maxRecDepth 100000 in
set_option maxHeartbeats 3200000 in
theorem showers_bad (x y ww hh s most : Int) (w : World) (hE : showE x y ww hh most ≠ 0) :
    Calls Try.prog 4 #[.agg #[.int .i64 x, .int .i64 y, .int .i64 ww, .int .i64 hh], .int .u32 s, .int .i64 most] w fun e w' => e = .returned (.bool true) ∧ Ext w w' := by
  have HF := fun (w : World) => hidA (Shower_bad x y ww hh s most w hE)
  have HE := fun (w : World) => hidA (regionError_any x y ww hh w)
  have HB := fun (w : World) => hidA (within_any most 0 1048576 w)
  have HWh := fun (b : Bool) (w : World) => hidA (when_any b 3 w)
  have HS := fun (B : Option Addr) (w : World) (h : Rd w B ([regE x y ww hh, if (!withB most) = true then 3 else 0].map (.int .i64))) => hidA (first_any B 2 2 [regE x y ww hh, if (!withB most) = true then 3 else 0] w rfl h (by omega))
  rw [showE_first] at HS
  have HW := fun (w : World) => hidA (flows_any w)
  have hE' : (showE x y ww hh most != 0) = true := by simpa using hE
  have hwb : (decide (0 ≤ most) && decide (most ≤ 1048576)) = withB most := rfl
  simp only [hwb] at HB
  clear hE hwb
  generalize showE x y ww hh most = E at *
  generalize regE x y ww hh = f1 at *
  generalize withB most = b at *
  go_enter Try.func4, Try.ntmps4
  go_wp2_with fail
  refine ((HF _).out).mono ?_
  rintro e w1 ⟨rfl, hx1⟩
  have kF : Bk w1 w.heap.size 23 #[.int .i64 x, .int .i64 y, .int .i64 ww, .int .i64 hh] := (Bk.new' rfl).ext hx1
  have c0 := kF.cell 0
  have c1 := kF.cell 1
  have c2 := kF.cell 2
  have c3 := kF.cell 3
  go_wp2_with fail
  refine ((HE _).out).mono ?_
  rintro e w2 ⟨rfl, hx2⟩
  have hx3 : Ext w w2 := (((Ext.refl w).alloc _).trans hx1).trans hx2
  clear c0 c1 c2 c3 kF hx1 hx2
  go_wp2_with fail
  refine ((HB _).out).mono ?_
  rintro e w3 ⟨rfl, rfl⟩
  cases b
  all_goals
    go_wp2_with fail
    refine ((HWh _ _).out).mono ?_
    rintro e w4 ⟨rfl, rfl⟩
    go_wp2_with fail
    refine ((HS _ _ (Rd.new (by first | rfl | simp) (by first | rfl | simp))).out).mono ?_
    rintro e w5 ⟨rfl, hx5⟩
    have hg5 : Ext w2 w5 := by rw [← hx5]; (repeat (first | (with_reducible exact Ext.refl _) | (with_reducible assumption) | (with_reducible refine Ext.setCell ?_ (by first | (simp; done) | (simp; omega)) _) | (with_reducible refine Ext.drewN ?_ _) | (with_reducible refine Ext.alloc ?_ _) | (with_reducible refine Ext.drew ?_) | (with_reducible refine Ext.trans ?_ (by assumption))))
    clear hx5
    go_wp2_with fail
    refine ((HW _).out).mono ?_
    rintro e w6 ⟨rfl, hx6⟩
    go_wp2_with fail
    refine ((HW _).out).mono ?_
    rintro e w7 ⟨rfl, hx7⟩
    go_wp2_with fail
    go_ret
    exact ⟨by first | rfl | simp, hx3.trans (hg5.trans (hx6.trans hx7))⟩

/-- a list of integers of the call's own -/
def OwnI (w : World) (base : Nat) (v : Value) (q : List Int) : Prop := w.ownsRow base 3 1 v q.length (intL q)
theorem OwnI.form {w : World} {base : Nat} {v : Value} {q : List Int} (h : OwnI w base v q) : ∃ A cap, v = .slice A q.length cap := by
  rcases h.2 with ⟨h1, h2⟩ | ⟨g, cap, cur, hv, _⟩
  · exact ⟨none, 0, by rw [h1]; simp [h2]⟩
  · exact ⟨_, cap, hv⟩
theorem OwnI.ext {w w' : World} {base : Nat} {v : Value} {xs : List Int} (h : OwnI w base v xs) (hx : Ext w w') : OwnI w' base v xs := World.ownsRow.kept h (grown_ext hx none) (by cases h : v.ownBlock <;> simp)

set_option maxRecDepth 100000 in
set_option maxHeartbeats 6400000 in
theorem showers_good (X Y s most : Int) (Wn Hn N : Nat) (w : World) (hr : Reg X Y Wn Hn) (hN : N = Wn * Hn) (hr0 : regE X Y Wn Hn = 0) (h0 : 0 ≤ most) (h1 : most ≤ 1048576) :
    Calls Try.prog 4 #[.agg #[.int .i64 X, .int .i64 Y, .int .i64 (Wn : Int), .int .i64 (Hn : Int)], .int .u32 s, .int .i64 most] w fun e w' => e = .returned (.bool true) ∧ Ext w w' := by
  have hN6 : N ≤ 65536 := by rw [hN]; exact hr.n
  have HF := fun (w : World) => hidA (Shower_ok X Y s most Wn Hn N w hr hN hr0 h0 h1)
  unfold rgv at HF
  have HE := fun (w : World) => hidA (regionError_any X Y Wn Hn w)
  rw [hr0] at HE
  have HB := fun (w : World) => hidA (within_any most 0 1048576 w)
  have hwb : (decide (0 ≤ most) && decide (most ≤ 1048576)) = true := by simp; omega
  rw [hwb] at HB
  have HWh := fun (w : World) => hidA (when_any false 3 w)
  have HS := fun (B : Option Addr) (w : World) (h : Rd w B ([(0 : Int), 0].map (.int .i64))) => hidA (first_any B 2 2 [0, 0] w rfl h (by omega))
  have hS0 : firstE [(0 : Int), 0] = 0 := rfl
  rw [hS0] at HS
  have HW := fun (w : World) => hidA (flows_any w)
  have HP := fun (k : Nat) (w : World) (h : k < N) => hidA (Place_any X Y Wn Hn k w hr.ok (by omega))
  have W1 : wrap64 ((Wn : Int) * (Hn : Int)) = (N : Int) := by rw [← Int.natCast_mul, ← hN]; exact IntWalk.wrap64_in _ ⟨by omega, by omega⟩
  have W2 : (Wn : Int) * (Hn : Int) = (N : Int) := by rw [← Int.natCast_mul, ← hN]
  obtain ⟨i0, hi0, hz0, hz1, hz2⟩ := info_parts infoInt
  clear hr hr0 hwb hS0 hN
  go_enter Try.func4, Try.ntmps4
  go_wp2_with fail
  refine ((HF _).out).mono ?_
  rintro e w1 ⟨g, rfl, kI, hx1⟩
  have kF : Bk w1 w.heap.size 23 #[.int .i64 X, .int .i64 Y, .int .i64 (Wn : Int), .int .i64 (Hn : Int)] := (Bk.new' rfl).ext hx1
  have c0 := kF.cell 0
  have c1 := kF.cell 1
  have c2 := kF.cell 2
  have c3 := kF.cell 3
  go_wp2_with fail
  refine ((HE _).out).mono ?_
  rintro e w2 ⟨rfl, hx2⟩
  have hx3 : Ext w w2 := (((Ext.refl w).alloc _).trans hx1).trans hx2
  have kF2 := kF.ext hx2
  have kI2 := kI.ext hx2
  clear c0 c1 c2 c3 kF hx1 hx2 kI
  go_wp2_with fail
  refine ((HB _).out).mono ?_
  rintro e w3 ⟨rfl, rfl⟩
  go_wp2_with fail
  refine ((HWh _).out).mono ?_
  rintro e w4 ⟨rfl, rfl⟩
  go_wp2_with fail
  refine ((HS _ _ (Rd.new (by first | rfl | simp) (by first | rfl | simp))).out).mono ?_
  rintro e w5 ⟨rfl, hx5⟩
  have hg5 : Ext w2 w5 := by rw [← hx5]; (repeat (first | (with_reducible exact Ext.refl _) | (with_reducible assumption) | (with_reducible refine Ext.setCell ?_ (by first | (simp; done) | (simp; omega)) _) | (with_reducible refine Ext.drewN ?_ _) | (with_reducible refine Ext.alloc ?_ _) | (with_reducible refine Ext.drew ?_) | (with_reducible refine Ext.trans ?_ (by assumption))))
  clear hx5
  go_wp2_with fail
  refine ((HW _).out).mono ?_
  rintro e w6 ⟨rfl, hx6⟩
  have hg6 := hg5.trans hx6
  have kF6 := kF2.ext hg6
  have c2 := kF6.cell 2
  have c3 := kF6.cell 3
  clear hg5 hx6 HF HE HB HS HW HWh
  go_wp2_with fail
  clear c2 c3
  have hx6 := hx3.trans hg6
  have kI6 := kI2.ext hg6
  have hs6 := hx6.size
  go_loopw [10, 51] (fun s10 s51 wr => ∃ k : Nat, k ≤ N ∧ s51 = .int .i64 k ∧ OwnI wr w6.heap.size s10 ((List.range k).map (rainK X Y Wn s most)) ∧ Ext w6 wr) (fun _ s51 _ => N - (intOf s51).toNat)
  case atStart => exact ⟨0, Nat.zero_le _, rfl, World.ownsRow_nil w6 _ _ 1, Ext.refl _⟩
  case round =>
    obtain ⟨k, hk, rfl, hO, hx⟩ := hrel
    by_cases hkN : k < N
    · have c0 := (kF6.ext hx).cell 0
      have c1 := (kF6.ext hx).cell 1
      have c2 := (kF6.ext hx).cell 2
      have c3 := (kF6.ext hx).cell 3
      have HPk := fun (w : World) => HP k w hkN
      have hpl : placeK X Y Wn k = (colK X Wn k, rowK Y Wn k) := rfl
      rw [hpl] at HPk
      dsimp only at HPk
      obtain ⟨m1, m2⟩ := mixK_in s (colK X Wn k) (rowK Y Wn k) 2 3 (by omega)
      have HRn := hidA (show (List.range (k + 1)).map (rainK X Y Wn s most) = (List.range k).map (rainK X Y Wn s most) ++ [mixK s (colK X Wn k) (rowK Y Wn k) 2 3 % (most + 1)] from by rw [List.range_succ, List.map_append]; rfl)
      have HM := fun (w : World) => hidA (mixed_any s (colK X Wn k) (rowK Y Wn k) 2 w)
      generalize colK X Wn k = cx at *
      generalize rowK Y Wn k = cy at *
      generalize mixK s cx cy 2 3 = mx at *
      have hv : wrap64 (mx % (most + 1)) = mx % (most + 1) := IntWalk.wrap64_in _ ⟨by have := Int.emod_nonneg mx (show most + 1 ≠ 0 by omega); omega, by have := Int.emod_lt_of_pos mx (show 0 < most + 1 by omega); omega⟩
      have HO := hidA hO
      clear hO hpl
      go_upto_region 10 with (go_at_call 28; refine ((HPk _).out).mono ?_; rintro e w7 ⟨rfl, hx7⟩)
      clear c0 c1 c2 c3 HPk
      have hlk : ((List.range k).map (rainK X Y Wn s most)).length = k := by simp
      have u1 : mx % (most + 1) = mx % (most + 1) := rfl
      have Hlk := hidA hlk
      have Hm6 := hidA hx
      clear hlk hx u1
      go_upto_region 11 with (first | (go_at_call 29; refine ((HM _).out).mono ?_; rintro e w8 ⟨rfl, hx8⟩; have hO8 := hidA (((HO.out.ext hx7).ext hx8).ext ((Ext.refl w8).alloc (.cells #[.int .i64 (mx % (most + 1))] 3))); have hN8 := hidA (World.news_of_block (w := w8.alloc (.cells #[.int .i64 (mx % (most + 1))] 3)) (cs := #[.int .i64 (mx % (most + 1))]) (t := 3) (fr := (0, 0)) (heap_alloc_new w8 _)); have hs8 := hidA (show w6.heap.size ≤ (w8.alloc (.cells #[.int .i64 (mx % (most + 1))] 3)).heap.size from by have h1 := ((Hm6.out.trans hx7).trans hx8).size; simp; omega); have hx89 := hidA (((Hm6.out.trans hx7).trans hx8).alloc (.cells #[.int .i64 (mx % (most + 1))] 3)); clear hx7 hx8) | (at_builtin; (refine wpList_append_lies _ (by rfl) (.tmp 60) (.tmp 69) 41 (by rfl) w6.heap.size 3 i0 (.int .i64 0) 1 8 Try.underlying41 hi0 hz0 hz1 hz2 (by rfl) (by decide) _ _ _ (by rfl) hO8.out ⟨w8.heap.size, 0, none⟩ 1 1 [.int .i64 (mx % (most + 1))] (by rfl) (by rfl) hN8.out (by intro u hu; simp at hu; subst hu; rfl) (by decide) (by rw [Hlk.out]; unfold maxLen; omega) (by rw [Hlk.out]; omega) hs8.out (w8.heap.size + 1) (by simp) ?_; intro gg cap w9 hown hgrow hat hltg)))
      have hO9 : OwnI w9 w6.heap.size (.slice (some ⟨gg, 0, none⟩) (k + 1) cap) ((List.range (k + 1)).map (rainK X Y Wn s most)) := by
        rw [HRn.out]
        unfold OwnI intL
        rw [List.length_append, Hlk.out, List.map_append]
        rw [Hlk.out] at hown
        exact hown
      have hx9 : Ext w6 w9 := Ext.grown hx89.out hgrow (fun q he => (World.ownsRow.lt hO8.out q he).1)
      have HO9 := hidA hO9
      clear hO9 hown hgrow hat hltg hO8 hN8 hs8 hx89 HO HM hv
      go_wp2
      go_roundw
      case rel => exact ⟨k + 1, by omega, by go_num, HO9.out, hx9⟩
      case measure => simp [intOf]; omega
    · have hkN' : N = k := by omega
      subst hkN'
      have hq : ((List.range N).map (rainK X Y Wn s most)).length = N := by simp
      obtain ⟨A2, q2, h2⟩ := hO.form
      rw [hq] at h2
      subst h2
      have hR2 : Rd wr A2 (intL ((List.range N).map (rainK X Y Wn s most))) := by
        have h := hO
        unfold OwnI at h
        rw [hq] at h
        exact Rd.of_own h
      have hR1 : Rd wr (some ⟨g, 0, none⟩) (intL ((List.range N).map (rainK X Y Wn s most))) := by
        have h := Rd.new_bk (kI6.ext hx)
        rwa [intB_list] at h
      have HEq := hidA (eqInts_same (some ⟨g, 0, none⟩) A2 N N q2 _ wr hq hR1 hR2 (by omega))
      clear hO hR1 hR2 hq
      go_wp2_with (go_at_call 30; refine HEq.out.mono ?_; rintro e w7 ⟨rfl, hx7⟩)
      go_ret
      exact ⟨by first | rfl | simp, hx6.trans (hx.trans hx7)⟩

theorem showers_walk (x y ww hh s most : Int) (w : World) :
    Calls Try.prog 4 #[.agg #[.int .i64 x, .int .i64 y, .int .i64 ww, .int .i64 hh], .int .u32 s, .int .i64 most] w fun e w' => e = .returned (.bool true) ∧ Ext w w' := by
  by_cases hE : showE x y ww hh most = 0
  · unfold showE at hE
    by_cases h1 : regE x y ww hh = 0
    · rw [if_neg (fun h => h h1)] at hE
      by_cases h2 : most < 0 ∨ 1048576 < most
      · rw [if_pos h2] at hE; cases hE
      · obtain ⟨Wn, Hn, rfl, rfl, hr⟩ := Reg.of_zero h1
        exact showers_good x y s most Wn Hn (Wn * Hn) w hr rfl h1 (by omega) (by omega)
    · rw [if_pos h1] at hE; exact absurd hE h1
  · exact showers_bad x y ww hh s most w hE
end Go.Proofs.Ytinohfgokpbcdaa
