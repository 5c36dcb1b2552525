/- Contract: water.drain. -/
import Derived.Test.YtepgfplbkmhgbaaTdAI
import Derived.Test.YtepgfplbkmhgbaaTdAG
import Derived.RegionTactic
import Derived.Deep.DeepCutAuto
namespace Go.Proofs.Ytepgfplbkmhgbaa
open Go.RowKit
attribute [local go_sem ↓] Go.wp_at_zero Go.wp_at_succ
attribute [local go_sem] run_store_float

theorem enters_drain : ∀ args w, (callFunc 44 args).run Try.prog w = .ok (.enter 44 args) w := enters_of Try.func44 (by kernel_rfl) rfl
set_option maxRecDepth 100000 in
set_option maxHeartbeats 6400000 in
theorem drain_any (X Y : Int) (Wn Hn N : Nat) (A : Option Addr) (c : Nat) (l : List Nat) (w : World) (hrg : Reg X Y Wn Hn) (hN : N = Wn * Hn) (hl : l.length = N) (hV : Rd w A (flt l)) (hh : ∀ x ∈ l, Bd 20 x) :
    Calls Try.prog 21 #[.agg #[.int .i64 X, .int .i64 Y, .int .i64 (Wn : Int), .int .i64 (Hn : Int), .slice A N c]] w fun e w' => ∃ gd v, e = .returned (.slice (some ⟨gd, 0, none⟩) N N) ∧ LeastG Wn Hn (fun k => l.getD k 0) 0 (fun k => valI (v k)) ∧ (∀ k, k < N → Bd 20 (v k)) ∧ Bk w' gd 3 (intB N (drnV v (rkV v Wn Hn (N - 1)) Wn Hn)) ∧ w.heap.size ≤ gd ∧ Ext w w' := by
  have hN6 : N ≤ 65536 := by rw [hN]; exact hrg.n
  have hN1 : 1 ≤ N := by rw [hN]; exact Nat.mul_pos hrg.w1 hrg.h1
  have hhk : ∀ k, k < Wn * Hn → Bd 20 (l.getD k 0) := fun k hk => by
    have hkl : k < l.length := by omega
    have e : l.getD k 0 = l[k] := by simp [List.getD_eq_getElem?_getD, hkl]
    rw [e]
    exact hh _ (List.getElem_mem hkl)
  have HFi := hidA (fun (w : World) (h : Rd w A (flt l)) => filled_any X Y Wn Hn N A c 0 l w hrg hN hl h hh (zero_bd.mono (by omega)) (by rw [val_zero]; exact Int.le_refl _))
  have HN := hidA hN
  have Hrg := hidA hrg
  have Hhk := hidA hhk
  have HBo := fun (k : Nat) (w : World) (hk : k < N) => hidA (border_any X Y Wn Hn k w hrg (by rw [← hN]; exact hk))
  unfold rgv at HBo
  have HM1 := hidA hN1
  have HStp := hidA (fun (A : Option Addr) (l : List Nat) (w : World) (h1 : l.length = N) (h2 : Rd w A (flt l)) (h3 : ∀ j, j < N → Bd 20 (l.getD j 0)) => steepA_any X Y Wn Hn N A N l w hrg hN h1 h2 h3)
  have HRnk := hidA (fun (A : Option Addr) (gd : Nat) (l : List Nat) (w : World) (K : Nat → Int) (h1 : l.length = N) (h2 : Rd w A (flt l)) (h3 : ∀ j, j < N → Bd 20 (l.getD j 0)) => ranks_any X Y Wn Hn N A N gd l w K hrg hN h1 h2 h3)
  clear hN hl hrg hhk hh hN1
  go_enter Try.func21, Try.ntmps21
  go_upto_region 1 with fail
  have kF : Bk (w.alloc (.cells #[.int .i64 X, .int .i64 Y, .int .i64 (Wn : Int), .int .i64 (Hn : Int), .slice A N c] 26)) w.heap.size 26 #[.int .i64 X, .int .i64 Y, .int .i64 (Wn : Int), .int .i64 (Hn : Int), .slice A N c] := Bk.new' rfl
  have hx1 : Ext w (w.alloc (.cells #[.int .i64 X, .int .i64 Y, .int .i64 (Wn : Int), .int .i64 (Hn : Int), .slice A N c] 26)) := (Ext.refl w).alloc _
  generalize w.alloc (.cells #[.int .i64 X, .int .i64 Y, .int .i64 (Wn : Int), .int .i64 (Hn : Int), .slice A N c] 26) = w1 at *
  generalize hh0 : w.heap.size = h0 at *
  have hs1 : h0 ≤ w1.heap.size := by rw [← hh0]; exact hx1.size
  have e0 : ∀ w', Ext w1 w' → w'.cell? ⟨h0, 0, none⟩ = some (.int .i64 X) := fun w' h => (kF.ext h).cell 0
  have e1 : ∀ w', Ext w1 w' → w'.cell? ⟨h0, 1, none⟩ = some (.int .i64 Y) := fun w' h => (kF.ext h).cell 1
  have e2 : ∀ w', Ext w1 w' → w'.cell? ⟨h0, 2, none⟩ = some (.int .i64 (Wn : Int)) := fun w' h => (kF.ext h).cell 2
  have e3 : ∀ w', Ext w1 w' → w'.cell? ⟨h0, 3, none⟩ = some (.int .i64 (Hn : Int)) := fun w' h => (kF.ext h).cell 3
  have e4 : ∀ w', Ext w1 w' → w'.cell? ⟨h0, 4, none⟩ = some (.slice A N c) := fun w' h => (kF.ext h).cell 4
  go_cut [3] (fun s3 wx => ∃ (hf gv : Nat) (out : Nat → Nat), s3 = Value.pointer (some ⟨hf, 0, none⟩) ∧ Bk wx hf 26 #[.int .i64 X, .int .i64 Y, .int .i64 (Wn : Int), .int .i64 (Hn : Int), .slice (some ⟨gv, 0, none⟩) N N] ∧ Bk wx gv 31 (flo N out) ∧ LeastG Wn Hn (fun k => l.getD k 0) 0 (fun k => valI (out k)) ∧ (∀ k, k < N → Bd 36 (out k)) ∧ h0 ≤ gv ∧ Ext w1 wx)
  case first =>
    refine wp_region_noPanic ?_
    refine wp_region_held_drew (S := fun w' => Ext w1 w') (by kernel_rfl) ?_ (fun hHeld => ?_)
    · (repeat (first | exact Ext.refl _ | assumption | refine Ext.setCell ?_ (by first | (simp; done) | (simp; omega)) _ | refine Ext.drewN ?_ _ | refine Ext.alloc ?_ _ | refine Ext.drew ?_ | refine Ext.trans ?_ (by assumption)))
    refine wpAnyH_take (i := 0) (oi := ?o2x0) (v := ?v2x0) ?hi2x0 (by kernel_rfl) ?hf2x0 ?hr2x0 (fun _ _ _ h => h) ?hy2x0 (by assumption) ?rest2x0
    case hi2x0 => (simp only [List.getElem?_toArray, List.getElem?_cons_zero]; exact rfl)
    case hf2x0 => kernel_rfl
    case hr2x0 => kernel_rfl
    case hy2x0 => (refine Or.inl ⟨by rfl, ?_⟩; intro w hSw; (try dsimp only at hSw); go_simp; try with_reducible rfl)
    simp only [put_mk, List.set_cons_succ, List.set_cons_zero]
    refine wpAnyH_take (i := 1) (oi := ?o3x1) (v := ?v3x1) ?hi3x1 (by kernel_rfl) ?hf3x1 ?hr3x1 (fun _ _ _ h => h) ?hy3x1 (by assumption) ?rest3x1
    case hi3x1 => (simp only [List.getElem?_toArray, List.getElem?_cons_succ, List.getElem?_cons_zero]; exact rfl)
    case hf3x1 => kernel_rfl
    case hr3x1 => kernel_rfl
    case hy3x1 => (refine Or.inl ⟨by rfl, ?_⟩; intro w hSw; (try dsimp only at hSw); go_simp; try with_reducible rfl)
    simp only [put_mk, List.set_cons_succ, List.set_cons_zero]
    refine wpAnyH_take (i := 2) (oi := ?o4x2) (v := ?v4x2) ?hi4x2 (by kernel_rfl) ?hf4x2 ?hr4x2 (fun _ _ _ h => h) ?hy4x2 (by assumption) ?rest4x2
    case hi4x2 => (simp only [List.getElem?_toArray, List.getElem?_cons_succ, List.getElem?_cons_zero]; exact rfl)
    case hf4x2 => kernel_rfl
    case hr4x2 => kernel_rfl
    case hy4x2 => (refine Or.inl ⟨by rfl, ?_⟩; intro w hSw; (try dsimp only at hSw); go_simp; try with_reducible rfl)
    simp only [put_mk, List.set_cons_succ, List.set_cons_zero]
    refine wpAnyH_ready (rs := [3, 5]) (by kernel_rfl) (by simp) ?_
    refine (AllReadyH.cons (o := ?o5x3) ?hi5x3 (fun K hK => ?_) (AllReadyH.cons (o := ?o5x5) ?hi5x5 (fun K hK => ?_) AllReadyH.nil))
    case hi5x3 => (simp only [List.getElem?_toArray, List.getElem?_cons_succ, List.getElem?_cons_zero]; exact rfl)
    case hi5x5 => (simp only [List.getElem?_toArray, List.getElem?_cons_succ, List.getElem?_cons_zero]; exact rfl)
    · go_simp
      refine (HFi.out _ (hV.ext (hx1.trans (by repeat (first | exact Ext.refl _ | assumption | refine Ext.setCell ?_ (by first | (simp; done) | (simp; omega)) _ | refine Ext.drewN ?_ _ | refine Ext.alloc ?_ _ | refine Ext.drew ?_ | refine Ext.trans ?_ (by assumption)))))).mono ?_
      rintro e w3 ⟨gv, out, rfl, hg, hB3, hL, h36, hx3⟩
      refine hK.out _ _ ?_ (fun hHeld => ?_)
      · (repeat (first | exact Ext.refl _ | assumption | refine Ext.setCell ?_ (by first | (simp; done) | (simp; omega)) _ | refine Ext.drewN ?_ _ | refine Ext.alloc ?_ _ | refine Ext.drew ?_ | refine Ext.trans ?_ (by assumption)))
      clear hK K
      refine wpAnyH_take (i := 4) (oi := ?o6x4) (v := ?v6x4) ?hi6x4 (by kernel_rfl) ?hf6x4 ?hr6x4 (fun _ _ _ h => h) ?hy6x4 (by assumption) ?rest6x4
      case hi6x4 => (simp only [List.getElem?_toArray, List.getElem?_cons_succ, List.getElem?_cons_zero]; exact rfl)
      case hf6x4 => kernel_rfl
      case hr6x4 => kernel_rfl
      case hy6x4 => (refine Or.inl ⟨by rfl, ?_⟩; intro w hSw; (try dsimp only at hSw); go_simp; try with_reducible rfl)
      simp only [put_mk, List.set_cons_succ, List.set_cons_zero]
      refine wpAnyH_ready (rs := [5]) (by kernel_rfl) (by simp) ?_
      refine AllReadyH.cons (o := ?o7x5) ?hi7x5 (fun K hK => ?_) AllReadyH.nil
      case hi7x5 => (simp only [List.getElem?_toArray, List.getElem?_cons_succ, List.getElem?_cons_zero]; exact rfl)
      go_simp
      refine hK.out _ _ ?_ (fun hHeld => ?_)
      · (repeat (first | exact Ext.refl _ | assumption | refine Ext.setCell ?_ (by first | (simp; done) | (simp; omega)) _ | refine Ext.drewN ?_ _ | refine Ext.alloc ?_ _ | refine Ext.drew ?_ | refine Ext.trans ?_ (by assumption)))
      clear hK K
      refine wpAnyH_ready (rs := [6]) (by kernel_rfl) (by simp) ?_
      refine AllReadyH.cons (o := ?o8x6) ?hi8x6 (fun K hK => ?_) AllReadyH.nil
      case hi8x6 => (simp only [List.getElem?_toArray, List.getElem?_cons_succ, List.getElem?_cons_zero]; exact rfl)
      go_simp
      refine hK.out _ _ ?_ (fun hHeld => ?_)
      · (repeat (first | exact Ext.refl _ | assumption | refine Ext.setCell ?_ (by first | (simp; done) | (simp; omega)) _ | refine Ext.drewN ?_ _ | refine Ext.alloc ?_ _ | refine Ext.drew ?_ | refine Ext.trans ?_ (by assumption)))
      clear hK K
      refine wpAnyH_done (by kernel_rfl) ?_ _
      refine NoPanic.normal ?_
      go_wp2_with fail
      go_meet
      case rel => exact ⟨_, gv, out, rfl, Bk.drew (Bk.new' rfl), Bk.drew (hB3.alloc _), hL, h36, by have := hs1; simp at hg; omega, (by repeat (first | exact Ext.refl _ | assumption | refine Ext.setCell ?_ (by first | (simp; done) | (simp; omega)) _ | refine Ext.drewN ?_ _ | refine Ext.alloc ?_ _ | refine Ext.drew ?_ | refine Ext.trans ?_ (by assumption)))⟩
    · go_simp
      refine hK.out _ _ ?_ (fun hHeld => ?_)
      · (repeat (first | exact Ext.refl _ | assumption | refine Ext.setCell ?_ (by first | (simp; done) | (simp; omega)) _ | refine Ext.drewN ?_ _ | refine Ext.alloc ?_ _ | refine Ext.drew ?_ | refine Ext.trans ?_ (by assumption)))
      clear hK K
      refine wpAnyH_ready (rs := [3]) (by kernel_rfl) (by simp) ?_
      refine AllReadyH.cons (o := ?o9x3) ?hi9x3 (fun K hK => ?_) AllReadyH.nil
      case hi9x3 => (simp only [List.getElem?_toArray, List.getElem?_cons_succ, List.getElem?_cons_zero]; exact rfl)
      go_simp
      refine (HFi.out _ (hV.ext (hx1.trans (by repeat (first | exact Ext.refl _ | assumption | refine Ext.setCell ?_ (by first | (simp; done) | (simp; omega)) _ | refine Ext.drewN ?_ _ | refine Ext.alloc ?_ _ | refine Ext.drew ?_ | refine Ext.trans ?_ (by assumption)))))).mono ?_
      rintro e w3 ⟨gv, out, rfl, hg, hB3, hL, h36, hx3⟩
      have hG : Bk w3 w1.heap.size 26 #[.int .i64 0, .int .i64 0, .int .i64 0, .int .i64 0, .slice none 0 0] := by first | exact (Bk.new' (by simp)).ext hx3 | exact (Bk.new' (by simp)).drew.ext hx3
      have hgn : w1.heap.size ≠ gv := by simp at hg; omega
      have z0 := hG.cell 0
      have y0 := hG.frozen 0
      have z1 := hG.cell 1
      have y1 := hG.frozen 1
      have z2 := hG.cell 2
      have y2 := hG.frozen 2
      have z3 := hG.cell 3
      have y3 := hG.frozen 3
      have z4 := hG.cell 4
      have y4 := hG.frozen 4
      refine hK.out _ _ ?_ (fun hHeld => ?_)
      · (repeat (first | exact Ext.refl _ | assumption | refine Ext.setCell ?_ (by first | (simp; done) | (simp; omega)) _ | refine Ext.drewN ?_ _ | refine Ext.alloc ?_ _ | refine Ext.drew ?_ | refine Ext.trans ?_ (by assumption)))
      clear hK K
      refine wpAnyH_take (i := 4) (oi := ?o10x4) (v := ?v10x4) ?hi10x4 (by kernel_rfl) ?hf10x4 ?hr10x4 (fun _ _ _ h => h) ?hy10x4 (by assumption) ?rest10x4
      case hi10x4 => (simp only [List.getElem?_toArray, List.getElem?_cons_succ, List.getElem?_cons_zero]; exact rfl)
      case hf10x4 => kernel_rfl
      case hr10x4 => kernel_rfl
      case hy10x4 => (refine Or.inl ⟨by rfl, ?_⟩; intro w hSw; (try dsimp only at hSw); go_simp; try with_reducible rfl)
      simp only [put_mk, List.set_cons_succ, List.set_cons_zero]
      refine wpAnyH_ready (rs := [6]) (by kernel_rfl) (by simp) ?_
      refine AllReadyH.cons (o := ?o11x6) ?hi11x6 (fun K hK => ?_) AllReadyH.nil
      case hi11x6 => (simp only [List.getElem?_toArray, List.getElem?_cons_succ, List.getElem?_cons_zero]; exact rfl)
      go_simp
      refine hK.out _ _ ?_ (fun hHeld => ?_)
      · (repeat (first | exact Ext.refl _ | assumption | refine Ext.setCell ?_ (by first | (simp; done) | (simp; omega)) _ | refine Ext.drewN ?_ _ | refine Ext.alloc ?_ _ | refine Ext.drew ?_ | refine Ext.trans ?_ (by assumption)))
      clear hK K
      refine wpAnyH_done (by kernel_rfl) ?_ _
      refine NoPanic.normal ?_
      go_wp2_with fail
      go_meet
      case rel => exact ⟨w1.heap.size, gv, out, rfl, by simpa using (((((hG.set 0 (.int .i64 X)).set 1 (.int .i64 Y)).set 2 (.int .i64 (Wn : Int))).set 3 (.int .i64 (Hn : Int))).set 4 (.slice (some ⟨gv, 0, none⟩) N N)), by repeat (first | (with_reducible exact hB3) | (with_reducible refine Bk.drew ?_) | (with_reducible refine Bk.far ?_ (Ne.symm hgn) _)), hL, h36, by have := hs1; simp at hg; omega, (by repeat (first | exact Ext.refl _ | assumption | refine Ext.setCell ?_ (by first | (simp; done) | (simp; omega)) _ | refine Ext.drewN ?_ _ | refine Ext.alloc ?_ _ | refine Ext.drew ?_ | refine Ext.trans ?_ (by assumption)))⟩
  case rest =>
    obtain ⟨hf, gv, out, rfl, hFb, hVb, hL, h36, hgv, hx2⟩ := hcut
    have Hh0 := hidA hh0
    clear e0 e1 e2 e3 e4 hh0 kF HFi
    have hxw := hidA (hx1.trans hx2)
    have hs2 : h0 ≤ wc.heap.size := by have := hx2.size; omega
    obtain ⟨vL, hvl, hVR, hLv, hv20⟩ : ∃ vL : List Nat, vL.length = N ∧ Rd wc (some ⟨gv, 0, none⟩) (flt vL) ∧ LeastG Wn Hn (fun k => l.getD k 0) 0 (fun k => valI (vL.getD k 0)) ∧ ∀ k, k < N → Bd 20 (vL.getD k 0) := by
      have he : ∀ k, k < N → ((List.range N).map out).getD k 0 = out k := fun k hk => by simp [List.getD_eq_getElem?_getD, hk]
      refine ⟨(List.range N).map out, by simp, ?_, least_congr hL fun k hk => ?_, fun k hk => ?_⟩
      · have h := Rd.new_bk hVb
        rwa [flo_list] at h
      · rw [he k (by rw [HN.out]; exact hk)]
      · rw [he k hk]
        exact fill_bd Hhk.out hL k (by rw [← HN.out]; exact hk)
    obtain ⟨v, hvv⟩ : ∃ v : Nat → Nat, v = fun j => vL.getD j 0 := ⟨_, rfl⟩
    have HLv := hidA (show LeastG Wn Hn (fun k => l.getD k 0) 0 (fun k => valI (v k)) from by rw [hvv]; exact hLv)
    have Hv20 := hidA (show ∀ k, k < N → Bd 20 (v k) from by rw [hvv]; exact hv20)
    have hRk := Rk.of HN.out HM1.out (ranked Hrg.out.w1 HN.out HM1.out (fun k hk => Hhk.out k (by rw [← HN.out]; exact hk)) Hv20.out HLv.out)
    have HRk := hidA hRk
    have HSt := hidA (HStp.out (some ⟨gv, 0, none⟩) vL)
    have HRn := hidA (fun (gd : Nat) => HRnk.out (some ⟨gv, 0, none⟩) gd vL)
    have Hvv := hidA hvv
    have Hvl := hidA hvl
    have Hvb := hidA hv20
    clear hRk hLv hv20 h36 hL hVb HStp HRnk hvv hvl
    have c0 := hFb.cell 0
    have c1 := hFb.cell 1
    have c2 := hFb.cell 2
    have c3 := hFb.cell 3
    have c4 := hFb.cell 4
    go_upto_region 3 with (go_at_call 42; refine (HSt.out _ Hvl.out hVR Hvb.out).mono ?_; rintro e w5 ⟨gd, rfl, hD, hgd, hx5⟩)
    have hF5 := (hFb.ext hx5).alloc (.cells #[.slice (some ⟨gd, 0, none⟩) N N] 32)
    have hD5 := hD.alloc (.cells #[.slice (some ⟨gd, 0, none⟩) N N] 32)
    have hB5 : Bk (w5.alloc (.cells #[.slice (some ⟨gd, 0, none⟩) N N] 32)) w5.heap.size 32 #[.slice (some ⟨gd, 0, none⟩) N N] := Bk.new' rfl
    have hx6 : Ext wc (w5.alloc (.cells #[.slice (some ⟨gd, 0, none⟩) N N] 32)) := hx5.alloc _
    have hDl := hD.lt
    have hs6 : (w5.alloc (.cells #[.slice (some ⟨gd, 0, none⟩) N N] 32)).heap.size = w5.heap.size + 1 := by simp
    clear c0 c1 c2 c3 c4 hFb hx5 hD
    generalize w5.alloc (.cells #[.slice (some ⟨gd, 0, none⟩) N N] 32) = w6 at *
    generalize w5.heap.size = hd at *
    have c0 := hF5.cell 0
    have c1 := hF5.cell 1
    have c2 := hF5.cell 2
    have c3 := hF5.cell 3
    have c4 := hF5.cell 4
    have d0 := hB5.cell 0
    have HRa := hidA (HRn.out gd w6 (rkV v Wn Hn (N - 1)) Hvl.out (hVR.ext hx6) Hvb.out (by have h := HRk.out; rw [Hvv.out] at h ⊢; exact h) hD5)
    go_upto_region 4 with (go_at_call 43; refine (HRa.out).mono ?_; rintro e w7 ⟨gr, rfl, hG7, hgr, hx7⟩)
    have hS : DN wc (w7.alloc (.cells #[.slice (some ⟨gr, 0, none⟩) N N] 32)) hf w7.heap.size hd gr gd X Y Wn Hn N (some ⟨gv, 0, none⟩) N (rkV v Wn Hn (N - 1)) (fun k => (stp (fun j => vL.getD j 0) Wn Hn k 8).1) :=
      ⟨(hF5.ext hx7).alloc _, Bk.new' rfl, (hB5.ext hx7).alloc _, hG7.alloc _, (hD5.ext hx7).alloc _, (hx6.trans hx7).alloc _, hgd, by omega⟩
    have hK : DK v (rkV v Wn Hn (N - 1)) Wn Hn N 0 (fun k => (stp (fun j => vL.getD j 0) Wn Hn k 8).1) := ⟨fun j h => by omega, fun j _ _ => by rw [Hvv.out]⟩
    have HK := hidA hK
    clear hK c0 c1 c2 c3 c4 d0 HRa HRn HSt hF5 hB5 hD5 hx6 hG7 hx7
    generalize w7.alloc (.cells #[.slice (some ⟨gr, 0, none⟩) N N] 32) = w8 at *
    generalize w7.heap.size = hr at *
    have Hgg := hidA hgd
    clear hgd hgr hDl hs6
    obtain ⟨R, hRR⟩ : ∃ R : Nat → Int, R = rkV v Wn Hn (N - 1) := ⟨_, rfl⟩
    rw [← hRR] at hS HK HRk
    have HRR := hidA hRR
    clear hRR
    have b0 := hS.db.cell 0
    go_wp2_with fail
    clear b0
    go_loopw [21] (fun s21 wr => ∃ (k : Nat) (I : Nat → Int), k ≤ N ∧ s21 = .int .i64 k ∧ DN wc wr hf hr hd gr gd X Y Wn Hn N (some ⟨gv, 0, none⟩) N R I ∧ DK v R Wn Hn N k I) (fun s21 _ => N - (intOf s21).toNat)
    case atStart => exact ⟨0, _, Nat.zero_le _, rfl, hS, HK.out⟩
    case round =>
      clear hS HK
      obtain ⟨k, I, hk, rfl, hS, hK⟩ := hrel
      have HK := hidA hK
      clear hK
      by_cases hkN : k < N
      · have i1 : (0 : Int) ≤ k := by omega
        have i2 : (k : Int) < N := by omega
        have q0 := hS.ib.cell k
        rw [intB_get _ hkN, HK.out.rest k (Nat.le_refl _) hkN] at q0
        have HBk := fun w => HBo k w hkN
        by_cases hd1 : (stp v Wn Hn k 8).1 = -1
        · rw [hd1] at q0
          have Hd1 := hidA hd1
          clear hd1
          cases hbr : brd Wn Hn k with
          | true =>
            have HBr := hidA hbr
            have HK2 := hidA (HK.out.skip hkN (.inr hbr))
            clear hbr
            have hSa := hS.step ((Ext.refl wr).alloc (.cells #[.int .i64 (k : Int)] 3))
            go_upto_region 7 with fail
            have b0 := hSa.fb.cell 0
            have b1 := hSa.fb.cell 1
            have b2 := hSa.fb.cell 2
            have b3 := hSa.fb.cell 3
            go_upto_region 10 with (go_at_call 36; refine ((HBk _).out).mono ?_; rintro e w5 ⟨rfl, hx5⟩; rw [HBr.out])
            clear b0 b1 b2 b3
            go_wp2_with fail
            go_roundw
            case rel => exact ⟨k + 1, I, by omega, by go_num, hSa.step hx5, HK2.out⟩
            case measure => simp [intOf]; omega
          | false =>
            have HBr := hidA hbr
            clear hbr
            have hSa := hS.step ((Ext.refl wr).alloc (.cells #[.int .i64 (k : Int)] 3))
            have hKa : Bk (wr.alloc (.cells #[.int .i64 (k : Int)] 3)) wr.heap.size 3 #[.int .i64 (k : Int)] := Bk.new' rfl
            go_upto_region 7 with fail
            have b0 := hSa.fb.cell 0
            have b1 := hSa.fb.cell 1
            have b2 := hSa.fb.cell 2
            have b3 := hSa.fb.cell 3
            go_upto_region 8 with (go_at_call 36; refine ((HBk _).out).mono ?_; rintro e w5 ⟨rfl, hx5⟩; rw [HBr.out])
            have hS5 := hSa.step hx5
            have hK5 := hKa.ext hx5
            have hw5 : Ext wr w5 := ((Ext.refl wr).alloc (.cells #[.int .i64 (k : Int)] 3)).trans hx5
            have hl5 := hK5.lt
            clear b0 b1 b2 b3 q0 hSa hKa hx5
            have d0 := hS5.db.cell 0
            go_upto_region 9 with fail
            have hM := hidA (hS.more (w' := w5.alloc (.cells #[.int .i64 ((N : Int) + 1)] 3)) (hk := wr.heap.size) (hl := w5.heap.size) (k := k) (z := (N : Int) + 1) (hw5.alloc _) (Nat.le_refl _) hw5.size (by omega) (hK5.alloc _) (Bk.new' rfl))
            clear d0 hS5 hK5 hw5 hl5 hS
            generalize w5.alloc (.cells #[.int .i64 ((N : Int) + 1)] 3) = w6 at *
            generalize w5.heap.size = hl at *
            generalize wr.heap.size = hk at *
            have HI := hidA (nbs_any 44 #[.pointer (some ⟨hf, 0, none⟩), .pointer (some ⟨hk, 0, none⟩), .pointer (some ⟨hr, 0, none⟩), .pointer (some ⟨hl, 0, none⟩), .pointer (some ⟨hd, 0, none⟩)] enters_drain X Y Wn Hn k Hrg.out (by rw [← HN.out]; exact hkN)
              (fun d w' => ∃ I, XM wc w' hf hk hr hl hd gr gd X Y Wn Hn N (some ⟨gv, 0, none⟩) N k R I (lstZ N (bstD v R Wn Hn k d).1) ∧ DD v R Wn Hn N k d I)
              (fun d wa wb ⟨I, h1, h2⟩ hx => ⟨I, h1.step hx, h2⟩)
              (fun d n wa hd8 hnb ⟨I, h1, h2⟩ => by
                have hnN : n < N := by rw [HN.out]; exact nbr_lt hnb
                have hRn := HRk.out.pos n hnN
                refine (drain1_any wc wa hf hk hr hl hd gr gd X Y Wn Hn N _ N k R I _ vL n d h1 Hvl.out hVR hkN hnN (Hvb.out k hkN) (Hvb.out n hnN)).mono ?_
                have ev : ∀ j, vL.getD j 0 = v j := fun j => by rw [Hvv.out]
                rw [ev, ev]
                rintro e wb ⟨rfl, hreg, ⟨hv, hz, h5⟩ | ⟨hno, h5⟩⟩
                · exact ⟨rfl, ⟨_, by rw [bst_take hnb hRn.1 hv hz, lst_nonneg hRn.1]; exact h5, h2.take hnb hRn.1 hv hz⟩, hreg⟩
                · exact ⟨rfl, ⟨_, by rw [bst_keep hnb hRn.2 hno]; exact h5, h2.same hnb hRn.2 hno⟩, hreg⟩)
              (fun d wa hd8 hnb ⟨I, h1, h2⟩ => ⟨I, by rw [bst_none hnb]; exact h1, h2.none hnb⟩)
              w6 ⟨I, hM.out, HK.out.into hkN Hd1.out⟩)
            unfold rgv at HI
            have c0 := hM.out.fb.cell 0
            have c1 := hM.out.fb.cell 1
            have c2 := hM.out.fb.cell 2
            have c3 := hM.out.fb.cell 3
            have k0 := hM.out.kb.cell 0
            go_wp2_with (go_at_call 39; refine HI.out.mono ?_; rintro e w9 ⟨rfl, I9, hX9, hD9⟩)
            have HX9 := hidA hX9.less
            have HD9 := hidA (hD9.out Hd1.out HBr.out)
            clear hX9 hD9 c0 c1 c2 c3 k0
            go_wp2_with fail
            go_roundw
            case rel => exact ⟨k + 1, I9, by omega, by go_num, HX9.out, HD9.out⟩
            case measure => simp [intOf]; omega
        · have HK2 := hidA (HK.out.skip hkN (.inl hd1))
          have hne : ((stp v Wn Hn k 8).1 != -1) = true := by simpa using hd1
          generalize (stp v Wn Hn k 8).1 = z at q0 hne hd1
          have hSa := hS.step ((Ext.refl wr).alloc (.cells #[.int .i64 (k : Int)] 3))
          go_upto_region 7 with fail
          go_upto_region 10 with fail
          go_wp2_with fail
          go_roundw
          case rel => exact ⟨k + 1, I, by omega, by go_num, hSa, HK2.out⟩
          case measure => simp [intOf]; omega
      · obtain rfl : N = k := by omega
        have hib := hS.ib
        have hxe := hidA (hxw.out.trans hS.ext)
        have e : intB N I = intB N (drnV v R Wn Hn) := by unfold intB; congr 1; refine List.map_congr_left fun k hk => ?_; rw [HK.out.done k (List.mem_range.1 hk)]
        rw [e, HRR.out] at hib
        have Hib := hidA hib
        have d0 := hS.db.cell 0
        clear hib e hS HK
        go_wp2
        go_ret
        exact ⟨gd, v, rfl, HLv.out, Hv20.out, Hib.out, by have := Hgg.out; have := Hh0.out; omega, hxe.out⟩
end Go.Proofs.Ytepgfplbkmhgbaa
