/- Contract: the law's result, where the field is that which is wanted, and where it is refused. -/
import Derived.Test.YtinohfgokpbcdaaBrAA
import Derived.Test.YtinohfgokpbcdaaBrAB
import Derived.Deep.DeepCutAuto
import Derived.Test.YtinohfgokpbcdaaDsAP
import Derived.RegionTactic
import Derived.Test.YtinohfgokpbcdaaDsAA
import Derived.Test.YtinohfgokpbcdaaDsAF
namespace Go.Proofs.Ytinohfgokpbcdaa
open Go.RowKit
attribute [local go_sem ↓] Go.wp_at_zero Go.wp_at_succ
attribute [local go_sem] run_store_float

/-- what BreachedOf holds between the cells -/
structure RB (W0 w : World) (hf gv cp : Nat) (X Y : Int) (Wn Hn N : Nat) (A : Option Addr) (c : Nat) (u : Nat → Nat) : Prop where
  fb : Bk w hf 26 #[.int .i64 X, .int .i64 Y, .int .i64 (Wn : Int), .int .i64 (Hn : Int), .slice A N c]
  vb : CF w gv cp N u
  ext : Ext W0 w
  b1 : W0.heap.size ≤ gv
theorem RB.step {W0 w : World} {hf gv cp : Nat} {X Y : Int} {Wn Hn N : Nat} {A : Option Addr} {c : Nat} {u : Nat → Nat} (h : RB W0 w hf gv cp X Y Wn Hn N A c u) {w' : World} (hx : Ext w w') : RB W0 w' hf gv cp X Y Wn Hn N A c u := ⟨h.fb.ext hx, h.vb.ext hx, h.ext.trans hx, h.b1⟩
theorem RB.put {W0 w : World} {hf gv cp : Nat} {X Y : Int} {Wn Hn N : Nat} {A : Option Addr} {c : Nat} {u : Nat → Nat} (h : RB W0 w hf gv cp X Y Wn Hn N A c u) (k x : Nat) : RB W0 (w.setCell ⟨gv, k, none⟩ (.float .f32 x)) hf gv cp X Y Wn Hn N A c (updF u k x) :=
  ⟨h.fb.far (h.vb.ne h.fb (by decide)) _, h.vb.put k x, h.ext.setCell (p := ⟨gv, k, none⟩) h.b1 _, h.b1⟩
set_option maxRecDepth 100000 in
set_option maxHeartbeats 12800000 in
theorem BreachedOf_any (X Y : Int) (Wn Hn N : Nat) (A : Option Addr) (c s : Nat) (l : List Nat) (vf : Nat → Nat) (tr : Nat → List Nat) (w : World) (hr : Reg X Y Wn Hn) (hN : N = Wn * Hn) (hl : l.length = N) (hV : Rd w A (flt l)) (hh : ∀ x ∈ l, Bd 20 x) (hs : Fin s)
    (hL : LeastG Wn Hn (fun k => l.getD k 0) 0 (fun k => valI (vf k))) (htr : ∀ k, k < N → IsTr (drnV vf (rkV vf Wn Hn (N - 1)) Wn Hn) Wn Hn k (tr k)) :
    Calls Try.prog 77 #[.agg #[.int .i64 X, .int .i64 Y, .int .i64 (Wn : Int), .int .i64 (Hn : Int), .slice A N c], .float .f32 s] w fun e w' => ∃ gv cp, e = .returned (.slice (some ⟨gv, 0, none⟩) N cp) ∧ CF w' gv cp N (brcV s tr Wn Hn (fun j => l.getD j 0) N) ∧ Ext w w' := by
  have hN6 : N ≤ 65536 := by rw [hN]; exact hr.n
  have hN1 : 1 ≤ N := by rw [hN]; exact Nat.mul_pos hr.w1 hr.h1
  have hhk := getD_bd hl hh
  have HDo := hidA (fun (w : World) (h : Rd w A (flt l)) => DrainOf_any X Y Wn Hn N A c l w hr hN hl h hh)
  have Hsame := hidA (fun (v' : Nat → Nat) (h2 : LeastG Wn Hn (fun k => l.getD k 0) 0 (fun k => valI (v' k))) => drn_same hr.w1 hN hN1 (fun k hk => hhk k (by rw [hN]; exact hk)) hL h2)
  have HLd := hidA (drn_lead hr.w1 hN hN1 hhk (fun k hk => fill_bd (fun k hk => hhk k (by rw [hN]; exact hk)) hL k (by rw [← hN]; exact hk)) hL).1
  have Htl := hidA (fun (k : Nat) (hk : k < N) => show (tr k).length ≤ N from by
    obtain ⟨t, h1, h2⟩ := HLd.out.tr hN (_ + 1) k (Nat.lt_succ_self _) hk
    rw [tr_one (htr k hk) h1]
    exact Nat.le_trans h2 (cntB_le _ _))
  have HNb := hidA (fun (k d : Nat) (w : World) (hk : k < N) (hd : d < 8) => nb_any X Y Wn Hn k d w hr (by rw [← hN]; exact hk) hd)
  have HEd := hidA (fun (k : Nat) (w : World) (hk : k < N) => edge_any X Y Wn Hn k w hr (by rw [← hN]; exact hk))
  have HTr := hidA (fun (k gd : Nat) (w : World) (D : Nat → Int) (m : Nat → Nat) (t : List Nat) (hD : DirsAt w (some ⟨gd, 0, none⟩) N D) (hLd : Lead Wn Hn N D m) (hk : k < N) (ht : IsTr D Wn Hn k t) (hl : t.length ≤ N) => Trail_any X Y Wn Hn N k N (some ⟨gd, 0, none⟩) D m t w hr hN hD hLd hk ht hl)
  unfold rgv at HNb HEd HTr
  have HNN := hidA (fun (k : Nat) (hk : k ≤ N) => brc_nn (N := N) (tr := tr) (Wn := Wn) (Hn := Hn) (v := fun j => l.getD j 0) hs (fun j hj => nn_fin (bd_Fin (hhk j hj) (by omega))) k hk)
  have Hs := hidA hs
  have Htr := hidA htr
  have HN := hidA hN
  have Hl := hidA hl
  have HV := hidA hV
  obtain ⟨ad, rfl, _, _⟩ := hV.at (k := 0) (by rw [flt_length]; omega)
  obtain ⟨i0, hi0, hz0, hz1, hz2⟩ := info_parts infoFl
  have kF0 : Bk (w.alloc (.cells #[.int .i64 X, .int .i64 Y, .int .i64 (Wn : Int), .int .i64 (Hn : Int), .slice (some ad) N c] 26)) w.heap.size 26 #[.int .i64 X, .int .i64 Y, .int .i64 (Wn : Int), .int .i64 (Hn : Int), .slice (some ad) N c] := Bk.new' rfl
  have hx0 : Ext w (w.alloc (.cells #[.int .i64 X, .int .i64 Y, .int .i64 (Wn : Int), .int .i64 (Hn : Int), .slice (some ad) N c] 26)) := (Ext.refl w).alloc _
  clear hr hN hl hV hh hs hL htr hhk
  generalize hD0 : drnV vf (rkV vf Wn Hn (N - 1)) Wn Hn = D0 at *
  clear hD0
  go_enter Try.func77, Try.ntmps77
  go_upto_region 1 with fail
  generalize hww : w.alloc (.cells #[.int .i64 X, .int .i64 Y, .int .i64 (Wn : Int), .int .i64 (Hn : Int), .slice (some ad) N c] 26) = w1 at *
  clear hww
  generalize hhf : w.heap.size = hf at kF0 ⊢
  clear hhf
  have c0 := kF0.cell 0
  have c1 := kF0.cell 1
  have c2 := kF0.cell 2
  have c3 := kF0.cell 3
  have c4 := kF0.cell 4
  go_upto_region 2 with (go_at_call 69; refine (HDo.out _ (HV.out.ext hx0)).mono ?_; rintro e w2 ⟨gd, v', rfl, hL', hBo, hx2⟩)
  have hDs : DirsAt w2 (some ⟨gd, 0, none⟩) N D0 := by
    have e : intB N D0 = intB N (drnV v' (rkV v' Wn Hn N) Wn Hn) := by unfold intB; congr 1; refine List.map_congr_left fun k hk => ?_; rw [Hsame.out v' hL' k (List.mem_range.1 hk)]
    rw [← e] at hBo
    exact DirsAt.of_bk hBo
  have kF2 := kF0.ext hx2
  have hxw := hx0.trans hx2
  clear c0 c1 c2 c3 c4 kF0 hL' hBo HDo Hsame hx0 hx2
  have c4 : w2.cell? ⟨hf, 4, none⟩ = some (.slice (some ad) N c) := kF2.cell 4
  go_upto_region 3 with (at_builtin; refine wpList_append_own _ rfl _ _ 24 rfl w2.heap.size 27 i0 (.float .f32 0) 1 4 Try.underlying24 hi0 hz0 hz1 hz2 rfl (by decide) _ _ _ rfl (World.ownsRow_nil w2 _ _ 1) ad N c (flt l) rfl ?qc1 ?qc2 ?qc3 ?qc4 ?qc5 ?qc6 ?_)
  case qc2 =>
    intro j u hj
    have hjl : j < (flt l).length := (List.getElem?_eq_some_iff.1 hj).1
    obtain ⟨ad', e, _, hcv⟩ := (HV.out.ext hxw).at (k := j) hjl
    cases e
    exact hcv j u hj
  case qc3 =>
    intro u hu
    simp [flt] at hu
    obtain ⟨x, _, rfl⟩ := hu
    rfl
  case qc4 => unfold maxLen; omega
  case qc5 => omega
  case qc6 => simp
  case qc1 => simp [flt, Hl.out]
  intro vv w3 hown hgrow hnil
  have hx3 : Ext w2 w3 := Ext.grown (Ext.refl w2) hgrow (by intro k hk; simp [Value.ownBlock] at hk)
  obtain ⟨gv, cp, rfl, hge, hC⟩ : ∃ gv cp, vv = .slice (some ⟨gv, 0, none⟩) N cp ∧ w2.heap.size ≤ gv ∧ CF w3 gv cp N (fun k => l.getD k 0) := by
    rcases hown.2 with ⟨_, h0⟩ | ⟨g, cap, cur, hv, hge, hblk, hle, hmax, hsz, htake⟩
    · omega
    · refine ⟨g, cap, hv, hge, cur, hblk, by omega, by simpa using hsz, fun k hk => ?_⟩
      have hkl : k < l.length := by rw [Hl.out]; exact hk
      have e1 : (cur.toList.take (N * 1))[k]? = some (.float .f32 (l.getD k 0)) := by
        rw [htake, flt_get hkl]
        simp [List.getD_eq_getElem?_getD, hkl]
      rw [List.getElem?_take, if_pos (by omega)] at e1
      simpa using e1
  have hM : RB w2 w3 hf gv cp X Y Wn Hn N (some ad) c (fun k => l.getD k 0) := ⟨kF2.ext hx3, hC, hx3, hge⟩
  have Hxw := hidA hxw
  clear hown hgrow hnil hx3 hge hC kF2 hxw c4
  go_wp2_with fail
  go_loopw [21] (fun s21 wr => ∃ (k : Nat), k ≤ N ∧ s21 = .int .i64 k ∧ RB w2 wr hf gv cp X Y Wn Hn N (some ad) c (brcV s tr Wn Hn (fun j => l.getD j 0) k)) (fun s21 _ => N - (intOf s21).toNat)
  case atStart => exact ⟨0, Nat.zero_le _, rfl, hM⟩
  case round =>
    clear hM
    obtain ⟨k, hk, rfl, hM⟩ := hrel
    by_cases hkN : k < N
    · have i1 : (0 : Int) ≤ k := by omega
      have i2 : (k : Int) < N := by omega
      have HEk := fun w => HEd.out k w hkN
      have Hb := hidA (show brcV s tr Wn Hn (fun j => l.getD j 0) (k + 1) = if lowD (brcV s tr Wn Hn (fun j => l.getD j 0) k) Wn Hn k 8 = true then brcV s tr Wn Hn (fun j => l.getD j 0) k else cutV s (tr k) (brcV s tr Wn Hn (fun j => l.getD j 0) k k) (brcV s tr Wn Hn (fun j => l.getD j 0) k) from rfl)
      have Hnn := hidA (HNN.out k hk)
      generalize brcV s tr Wn Hn (fun j => l.getD j 0) k = u at *
      have c0 := hM.fb.cell 0
      have c1 := hM.fb.cell 1
      have c2 := hM.fb.cell 2
      have c3 := hM.fb.cell 3
      go_upto_region 7 with (go_at_call 84; refine (HEk _).mono ?_; rintro e w5 ⟨rfl, hx5⟩)
      have hM5 := hM.step hx5
      clear c0 c1 c2 c3 hM hx5 HEk
      go_wp2_with fail
      obtain ⟨wo, hwo⟩ : ∃ wo, wo = w5 := ⟨_, rfl⟩
      go_loopw [8, 28] (fun s8 s28 wr => ∃ (d : Nat), d ≤ 8 ∧ s28 = .int .i64 d ∧ s8 = .bool (lowD u Wn Hn k d) ∧ RB w2 wr hf gv cp X Y Wn Hn N (some ad) c u) (fun _ s28 _ => 8 - (intOf s28).toNat)
      case atStart => exact ⟨0, by omega, rfl, rfl, hM5⟩
      case round =>
        clear hM5 hwo
        obtain ⟨d, hd, rfl, rfl, hM⟩ := hrel
        by_cases hd8 : d < 8
        · have j1 : (0 : Int) ≤ d := by omega
          have j2 : (d : Int) < 8 := by omega
          have HNd := fun w => HNb.out k d w hkN hd8
          have c0 := hM.fb.cell 0
          have c1 := hM.fb.cell 1
          have c2 := hM.fb.cell 2
          have c3 := hM.fb.cell 3
          cases hn : nbr Wn Hn k d with
          | none =>
            rw [hn, show nbI none = -1 from rfl] at HNd
            have el := hidA (low_none (v := u) hn)
            clear hn
            go_upto_region 11 with (go_at_call 63; refine (HNd _).mono ?_; rintro e w6 ⟨rfl, hx6⟩)
            have hM6 := hM.step hx6
            clear c0 c1 c2 c3 hM HNd hx6
            refine wp_region_noPanic ?_
            refine wp_region_held_drew (S := fun w' => Ext w6 w') (by kernel_rfl) ?_ (fun hHeld => ?_)
            · (repeat (first | exact Ext.refl _ | assumption | refine Ext.setCell ?_ (by first | (simp; done) | (simp; omega)) _ | refine Ext.drewN ?_ _ | refine Ext.alloc ?_ _ | refine Ext.drew ?_ | refine Ext.trans ?_ (by assumption)))
            refine wpAnyH_take (i := 0) (oi := ?o2x0) (v := ?v2x0) ?hi2x0 (by kernel_rfl) ?hf2x0 ?hr2x0 (fun _ _ _ h => h) ?hy2x0 (by assumption) ?rest2x0
            case hi2x0 => (simp only [List.getElem?_toArray, List.getElem?_cons_zero]; exact rfl)
            case hf2x0 => kernel_rfl
            case hr2x0 => kernel_rfl
            case hy2x0 => (refine Or.inl ⟨by rfl, ?_⟩; intro w hSw; (try dsimp only at hSw); go_simp; try with_reducible rfl)
            simp only [put_mk, List.set_cons_succ, List.set_cons_zero]
            refine wpAnyH_take (i := 1) (oi := ?o2x1) (v := ?v2x1) ?hi2x1 (by kernel_rfl) ?hf2x1 ?hr2x1 (fun _ _ _ h => h) ?hy2x1 (by assumption) ?rest2x1
            case hi2x1 => (simp only [List.getElem?_toArray, List.getElem?_cons_succ, List.getElem?_cons_zero]; exact rfl)
            case hf2x1 => kernel_rfl
            case hr2x1 => kernel_rfl
            case hy2x1 => (refine Or.inl ⟨by rfl, ?_⟩; intro w hSw; (try dsimp only at hSw); go_simp; try with_reducible rfl)
            simp only [put_mk, List.set_cons_succ, List.set_cons_zero]
            refine wpAnyH_take (i := 2) (oi := ?o2x2) (v := ?v2x2) ?hi2x2 (by kernel_rfl) ?hf2x2 ?hr2x2 (fun _ _ _ h => h) ?hy2x2 (by assumption) ?rest2x2
            case hi2x2 => (simp only [List.getElem?_toArray, List.getElem?_cons_succ, List.getElem?_cons_zero]; exact rfl)
            case hf2x2 => kernel_rfl
            case hr2x2 => kernel_rfl
            case hy2x2 => (refine Or.inl ⟨by rfl, ?_⟩; intro w hSw; (try dsimp only at hSw); go_simp; try with_reducible rfl)
            simp only [put_mk, List.set_cons_succ, List.set_cons_zero]
            refine wpAnyH_take (i := 3) (oi := ?o2x3) (v := undef) ?hi2x3 (by kernel_rfl) ?hf2x3 ?hr2x3 (fun _ _ _ h => h) ?hy2x3 (by assumption) ?rest2x3
            case hi2x3 => (simp only [List.getElem?_toArray, List.getElem?_cons_succ, List.getElem?_cons_zero]; exact rfl)
            case hf2x3 => kernel_rfl
            case hr2x3 => kernel_rfl
            case hy2x3 => exact Or.inr ⟨by rfl, rfl⟩
            simp only [put_mk, List.set_cons_succ, List.set_cons_zero]
            refine wpAnyH_take (i := 4) (oi := ?o2x4) (v := undef) ?hi2x4 (by kernel_rfl) ?hf2x4 ?hr2x4 (fun _ _ _ h => h) ?hy2x4 (by assumption) ?rest2x4
            case hi2x4 => (simp only [List.getElem?_toArray, List.getElem?_cons_succ, List.getElem?_cons_zero]; exact rfl)
            case hf2x4 => kernel_rfl
            case hr2x4 => kernel_rfl
            case hy2x4 => exact Or.inr ⟨by rfl, rfl⟩
            simp only [put_mk, List.set_cons_succ, List.set_cons_zero]
            refine wpAnyH_take (i := 5) (oi := ?o2x5) (v := undef) ?hi2x5 (by kernel_rfl) ?hf2x5 ?hr2x5 (fun _ _ _ h => h) ?hy2x5 (by assumption) ?rest2x5
            case hi2x5 => (simp only [List.getElem?_toArray, List.getElem?_cons_succ, List.getElem?_cons_zero]; exact rfl)
            case hf2x5 => kernel_rfl
            case hr2x5 => kernel_rfl
            case hy2x5 => exact Or.inr ⟨by rfl, rfl⟩
            simp only [put_mk, List.set_cons_succ, List.set_cons_zero]
            refine wpAnyH_take (i := 6) (oi := ?o2x6) (v := undef) ?hi2x6 (by kernel_rfl) ?hf2x6 ?hr2x6 (fun _ _ _ h => h) ?hy2x6 (by assumption) ?rest2x6
            case hi2x6 => (simp only [List.getElem?_toArray, List.getElem?_cons_succ, List.getElem?_cons_zero]; exact rfl)
            case hf2x6 => kernel_rfl
            case hr2x6 => kernel_rfl
            case hy2x6 => exact Or.inr ⟨by rfl, rfl⟩
            simp only [put_mk, List.set_cons_succ, List.set_cons_zero]
            refine wpAnyH_take (i := 7) (oi := ?o2x7) (v := undef) ?hi2x7 (by kernel_rfl) ?hf2x7 ?hr2x7 (fun _ _ _ h => h) ?hy2x7 (by assumption) ?rest2x7
            case hi2x7 => (simp only [List.getElem?_toArray, List.getElem?_cons_succ, List.getElem?_cons_zero]; exact rfl)
            case hf2x7 => kernel_rfl
            case hr2x7 => kernel_rfl
            case hy2x7 => exact Or.inr ⟨by rfl, rfl⟩
            simp only [put_mk, List.set_cons_succ, List.set_cons_zero]
            refine wpAnyH_take (i := 8) (oi := ?o2x8) (v := undef) ?hi2x8 (by kernel_rfl) ?hf2x8 ?hr2x8 (fun _ _ _ h => h) ?hy2x8 (by assumption) ?rest2x8
            case hi2x8 => (simp only [List.getElem?_toArray, List.getElem?_cons_succ, List.getElem?_cons_zero]; exact rfl)
            case hf2x8 => kernel_rfl
            case hr2x8 => kernel_rfl
            case hy2x8 => exact Or.inr ⟨by rfl, rfl⟩
            simp only [put_mk, List.set_cons_succ, List.set_cons_zero]
            refine wpAnyH_take (i := 9) (oi := ?o2x9) (v := undef) ?hi2x9 (by kernel_rfl) ?hf2x9 ?hr2x9 (fun _ _ _ h => h) ?hy2x9 (by assumption) ?rest2x9
            case hi2x9 => (simp only [List.getElem?_toArray, List.getElem?_cons_succ, List.getElem?_cons_zero]; exact rfl)
            case hf2x9 => kernel_rfl
            case hr2x9 => kernel_rfl
            case hy2x9 => exact Or.inr ⟨by rfl, rfl⟩
            simp only [put_mk, List.set_cons_succ, List.set_cons_zero]
            refine wpAnyH_take (i := 10) (oi := ?o2x10) (v := undef) ?hi2x10 (by kernel_rfl) ?hf2x10 ?hr2x10 (fun _ _ _ h => h) ?hy2x10 (by assumption) ?rest2x10
            case hi2x10 => (simp only [List.getElem?_toArray, List.getElem?_cons_succ, List.getElem?_cons_zero]; exact rfl)
            case hf2x10 => kernel_rfl
            case hr2x10 => kernel_rfl
            case hy2x10 => exact Or.inr ⟨by rfl, rfl⟩
            simp only [put_mk, List.set_cons_succ, List.set_cons_zero]
            refine wpAnyH_take (i := 11) (oi := ?o2x11) (v := undef) ?hi2x11 (by kernel_rfl) ?hf2x11 ?hr2x11 (fun _ _ _ h => h) ?hy2x11 (by assumption) ?rest2x11
            case hi2x11 => (simp only [List.getElem?_toArray, List.getElem?_cons_succ, List.getElem?_cons_zero]; exact rfl)
            case hf2x11 => kernel_rfl
            case hr2x11 => kernel_rfl
            case hy2x11 => exact Or.inr ⟨by rfl, rfl⟩
            simp only [put_mk, List.set_cons_succ, List.set_cons_zero]
            refine wpAnyH_take (i := 12) (oi := ?o2x12) (v := ?v2x12) ?hi2x12 (by kernel_rfl) ?hf2x12 ?hr2x12 (fun _ _ _ h => h) ?hy2x12 (by assumption) ?rest2x12
            case hi2x12 => (simp only [List.getElem?_toArray, List.getElem?_cons_succ, List.getElem?_cons_zero]; exact rfl)
            case hf2x12 => kernel_rfl
            case hr2x12 => kernel_rfl
            case hy2x12 => (refine Or.inl ⟨by rfl, ?_⟩; intro w hSw; (try dsimp only at hSw); go_simp; try with_reducible rfl)
            simp only [put_mk, List.set_cons_succ, List.set_cons_zero]
            refine wpAnyH_done (by kernel_rfl) ?_ _
            refine NoPanic.normal ?_
            go_wp2_with fail
            go_roundw
            case rel => exact ⟨d + 1, by omega, by go_num, by rw [el.out], hM6.step (Ext.drew (Ext.refl _))⟩
            case measure => simp [intOf]; omega
          | some n =>
            rw [hn, show nbI (some n) = (n : Int) from rfl] at HNd
            have el := hidA (low_some (v := u) hn)
            have hnN : n < N := by rw [HN.out]; exact nbr_lt hn
            have j3 : (0 : Int) ≤ n := by omega
            have j4 : (n : Int) < N := by omega
            have hlt : (FloatKind.f32.format.order (u n) (u k) == some .lt) = lt (u n) (u k) := rfl
            clear hn
            go_upto_region 11 with (go_at_call 63; refine (HNd _).mono ?_; rintro e w6 ⟨rfl, hx6⟩)
            have hM6 := hM.step hx6
            clear c0 c1 c2 c3 hM HNd hx6
            have v1 : ∀ w', Ext w6 w' → w'.cell? ⟨gv, n, none⟩ = some (.float .f32 (u n)) := fun w' h => (hM6.vb.ext h).cell hnN
            have v2 : ∀ w', Ext w6 w' → w'.cell? ⟨gv, k, none⟩ = some (.float .f32 (u k)) := fun w' h => (hM6.vb.ext h).cell hkN
            cases hb : lt (u n) (u k) with
            | true =>
              rw [hb] at hlt
              rw [hb, if_pos rfl] at el
              clear hb
              refine wp_region_noPanic ?_
              refine wp_region_held_drew (S := fun w' => Ext w6 w') (by kernel_rfl) ?_ (fun hHeld => ?_)
              · (repeat (first | exact Ext.refl _ | assumption | refine Ext.setCell ?_ (by first | (simp; done) | (simp; omega)) _ | refine Ext.drewN ?_ _ | refine Ext.alloc ?_ _ | refine Ext.drew ?_ | refine Ext.trans ?_ (by assumption)))
              refine wpAnyH_take (i := 0) (oi := ?o3x0) (v := ?v3x0) ?hi3x0 (by kernel_rfl) ?hf3x0 ?hr3x0 (fun _ _ _ h => h) ?hy3x0 (by assumption) ?rest3x0
              case hi3x0 => (simp only [List.getElem?_toArray, List.getElem?_cons_zero]; exact rfl)
              case hf3x0 => kernel_rfl
              case hr3x0 => kernel_rfl
              case hy3x0 => (refine Or.inl ⟨by rfl, ?_⟩; intro w hSw; (try dsimp only at hSw); go_simp; try with_reducible rfl)
              simp only [put_mk, List.set_cons_succ, List.set_cons_zero]
              refine wpAnyH_take (i := 1) (oi := ?o3x1) (v := ?v3x1) ?hi3x1 (by kernel_rfl) ?hf3x1 ?hr3x1 (fun _ _ _ h => h) ?hy3x1 (by assumption) ?rest3x1
              case hi3x1 => (simp only [List.getElem?_toArray, List.getElem?_cons_succ, List.getElem?_cons_zero]; exact rfl)
              case hf3x1 => kernel_rfl
              case hr3x1 => kernel_rfl
              case hy3x1 => (refine Or.inl ⟨by rfl, ?_⟩; intro w hSw; (try dsimp only at hSw); go_simp; try with_reducible rfl)
              simp only [put_mk, List.set_cons_succ, List.set_cons_zero]
              refine wpAnyH_take (i := 2) (oi := ?o3x2) (v := ?v3x2) ?hi3x2 (by kernel_rfl) ?hf3x2 ?hr3x2 (fun _ _ _ h => h) ?hy3x2 (by assumption) ?rest3x2
              case hi3x2 => (simp only [List.getElem?_toArray, List.getElem?_cons_succ, List.getElem?_cons_zero]; exact rfl)
              case hf3x2 => kernel_rfl
              case hr3x2 => kernel_rfl
              case hy3x2 => (refine Or.inl ⟨by rfl, ?_⟩; intro w hSw; (try dsimp only at hSw); go_simp; try with_reducible rfl)
              simp only [put_mk, List.set_cons_succ, List.set_cons_zero]
              refine wpAnyH_take (i := 3) (oi := ?o3x3) (v := ?v3x3) ?hi3x3 (by kernel_rfl) ?hf3x3 ?hr3x3 (fun _ _ _ h => h) ?hy3x3 (by assumption) ?rest3x3
              case hi3x3 => (simp only [List.getElem?_toArray, List.getElem?_cons_succ, List.getElem?_cons_zero]; exact rfl)
              case hf3x3 => kernel_rfl
              case hr3x3 => kernel_rfl
              case hy3x3 => (refine Or.inl ⟨by rfl, ?_⟩; intro w hSw; (try dsimp only at hSw); go_simp; try with_reducible rfl)
              simp only [put_mk, List.set_cons_succ, List.set_cons_zero]
              refine wpAnyH_take (i := 4) (oi := ?o3x4) (v := ?v3x4) ?hi3x4 (by kernel_rfl) ?hf3x4 ?hr3x4 (fun _ _ _ h => h) ?hy3x4 (by assumption) ?rest3x4
              case hi3x4 => (simp only [List.getElem?_toArray, List.getElem?_cons_succ, List.getElem?_cons_zero]; exact rfl)
              case hf3x4 => kernel_rfl
              case hr3x4 => kernel_rfl
              case hy3x4 => (refine Or.inl ⟨by rfl, ?_⟩; intro w hSw; (try dsimp only at hSw); go_simp; try with_reducible rfl)
              simp only [put_mk, List.set_cons_succ, List.set_cons_zero]
              refine wpAnyH_take (i := 5) (oi := ?o3x5) (v := ?v3x5) ?hi3x5 (by kernel_rfl) ?hf3x5 ?hr3x5 (fun _ _ _ h => h) ?hy3x5 (by assumption) ?rest3x5
              case hi3x5 => (simp only [List.getElem?_toArray, List.getElem?_cons_succ, List.getElem?_cons_zero]; exact rfl)
              case hf3x5 => kernel_rfl
              case hr3x5 => kernel_rfl
              case hy3x5 => (refine Or.inl ⟨by rfl, ?_⟩; intro w hSw; (try dsimp only at hSw); go_simp; try with_reducible rfl)
              simp only [put_mk, List.set_cons_succ, List.set_cons_zero]
              refine wpAnyH_take (i := 6) (oi := ?o3x6) (v := ?v3x6) ?hi3x6 (by kernel_rfl) ?hf3x6 ?hr3x6 (fun _ _ _ h => h) ?hy3x6 (by assumption) ?rest3x6
              case hi3x6 => (simp only [List.getElem?_toArray, List.getElem?_cons_succ, List.getElem?_cons_zero]; exact rfl)
              case hf3x6 => kernel_rfl
              case hr3x6 => kernel_rfl
              case hy3x6 => (refine Or.inl ⟨by rfl, ?_⟩; intro w hSw; (try dsimp only at hSw); go_simp; try with_reducible rfl)
              simp only [put_mk, List.set_cons_succ, List.set_cons_zero]
              refine wpAnyH_take (i := 7) (oi := ?o3x7) (v := ?v3x7) ?hi3x7 (by kernel_rfl) ?hf3x7 ?hr3x7 (fun _ _ _ h => h) ?hy3x7 (by assumption) ?rest3x7
              case hi3x7 => (simp only [List.getElem?_toArray, List.getElem?_cons_succ, List.getElem?_cons_zero]; exact rfl)
              case hf3x7 => kernel_rfl
              case hr3x7 => kernel_rfl
              case hy3x7 => (refine Or.inl ⟨by rfl, ?_⟩; intro w hSw; (try dsimp only at hSw); go_simp; try with_reducible rfl)
              simp only [put_mk, List.set_cons_succ, List.set_cons_zero]
              refine wpAnyH_take (i := 8) (oi := ?o3x8) (v := ?v3x8) ?hi3x8 (by kernel_rfl) ?hf3x8 ?hr3x8 (fun _ _ _ h => h) ?hy3x8 (by assumption) ?rest3x8
              case hi3x8 => (simp only [List.getElem?_toArray, List.getElem?_cons_succ, List.getElem?_cons_zero]; exact rfl)
              case hf3x8 => kernel_rfl
              case hr3x8 => kernel_rfl
              case hy3x8 => (refine Or.inl ⟨by rfl, ?_⟩; intro w hSw; (try dsimp only at hSw); go_simp; try with_reducible rfl)
              simp only [put_mk, List.set_cons_succ, List.set_cons_zero]
              refine wpAnyH_take (i := 9) (oi := ?o3x9) (v := ?v3x9) ?hi3x9 (by kernel_rfl) ?hf3x9 ?hr3x9 (fun _ _ _ h => h) ?hy3x9 (by assumption) ?rest3x9
              case hi3x9 => (simp only [List.getElem?_toArray, List.getElem?_cons_succ, List.getElem?_cons_zero]; exact rfl)
              case hf3x9 => kernel_rfl
              case hr3x9 => kernel_rfl
              case hy3x9 => (refine Or.inl ⟨by rfl, ?_⟩; intro w hSw; (try dsimp only at hSw); go_simp; try with_reducible rfl)
              simp only [put_mk, List.set_cons_succ, List.set_cons_zero]
              refine wpAnyH_take (i := 10) (oi := ?o3x10) (v := ?v3x10) ?hi3x10 (by kernel_rfl) ?hf3x10 ?hr3x10 (fun _ _ _ h => h) ?hy3x10 (by assumption) ?rest3x10
              case hi3x10 => (simp only [List.getElem?_toArray, List.getElem?_cons_succ, List.getElem?_cons_zero]; exact rfl)
              case hf3x10 => kernel_rfl
              case hr3x10 => kernel_rfl
              case hy3x10 => (refine Or.inl ⟨by rfl, ?_⟩; intro w hSw; (try dsimp only at hSw); go_simp; try with_reducible rfl)
              simp only [put_mk, List.set_cons_succ, List.set_cons_zero]
              refine wpAnyH_take (i := 11) (oi := ?o3x11) (v := ?v3x11) ?hi3x11 (by kernel_rfl) ?hf3x11 ?hr3x11 (fun _ _ _ h => h) ?hy3x11 (by assumption) ?rest3x11
              case hi3x11 => (simp only [List.getElem?_toArray, List.getElem?_cons_succ, List.getElem?_cons_zero]; exact rfl)
              case hf3x11 => kernel_rfl
              case hr3x11 => kernel_rfl
              case hy3x11 => (refine Or.inl ⟨by rfl, ?_⟩; intro w hSw; (try dsimp only at hSw); go_simp; try with_reducible rfl)
              simp only [put_mk, List.set_cons_succ, List.set_cons_zero]
              refine wpAnyH_take (i := 12) (oi := ?o3x12) (v := ?v3x12) ?hi3x12 (by kernel_rfl) ?hf3x12 ?hr3x12 (fun _ _ _ h => h) ?hy3x12 (by assumption) ?rest3x12
              case hi3x12 => (simp only [List.getElem?_toArray, List.getElem?_cons_succ, List.getElem?_cons_zero]; exact rfl)
              case hf3x12 => kernel_rfl
              case hr3x12 => kernel_rfl
              case hy3x12 => (refine Or.inl ⟨by rfl, ?_⟩; intro w hSw; (try dsimp only at hSw); go_simp; try with_reducible rfl)
              simp only [put_mk, List.set_cons_succ, List.set_cons_zero]
              refine wpAnyH_done (by kernel_rfl) ?_ _
              refine NoPanic.normal ?_
              go_wp2_with fail
              go_roundw
              case rel => exact ⟨d + 1, by omega, by go_num, by rw [el.out], hM6.step (Ext.drew (Ext.refl _))⟩
              case measure => simp [intOf]; omega
            | false =>
              rw [hb] at hlt
              rw [hb, if_neg (by decide)] at el
              clear hb
              refine wp_region_noPanic ?_
              refine wp_region_held_drew (S := fun w' => Ext w6 w') (by kernel_rfl) ?_ (fun hHeld => ?_)
              · (repeat (first | exact Ext.refl _ | assumption | refine Ext.setCell ?_ (by first | (simp; done) | (simp; omega)) _ | refine Ext.drewN ?_ _ | refine Ext.alloc ?_ _ | refine Ext.drew ?_ | refine Ext.trans ?_ (by assumption)))
              refine wpAnyH_take (i := 0) (oi := ?o4x0) (v := ?v4x0) ?hi4x0 (by kernel_rfl) ?hf4x0 ?hr4x0 (fun _ _ _ h => h) ?hy4x0 (by assumption) ?rest4x0
              case hi4x0 => (simp only [List.getElem?_toArray, List.getElem?_cons_zero]; exact rfl)
              case hf4x0 => kernel_rfl
              case hr4x0 => kernel_rfl
              case hy4x0 => (refine Or.inl ⟨by rfl, ?_⟩; intro w hSw; (try dsimp only at hSw); go_simp; try with_reducible rfl)
              simp only [put_mk, List.set_cons_succ, List.set_cons_zero]
              refine wpAnyH_take (i := 1) (oi := ?o4x1) (v := ?v4x1) ?hi4x1 (by kernel_rfl) ?hf4x1 ?hr4x1 (fun _ _ _ h => h) ?hy4x1 (by assumption) ?rest4x1
              case hi4x1 => (simp only [List.getElem?_toArray, List.getElem?_cons_succ, List.getElem?_cons_zero]; exact rfl)
              case hf4x1 => kernel_rfl
              case hr4x1 => kernel_rfl
              case hy4x1 => (refine Or.inl ⟨by rfl, ?_⟩; intro w hSw; (try dsimp only at hSw); go_simp; try with_reducible rfl)
              simp only [put_mk, List.set_cons_succ, List.set_cons_zero]
              refine wpAnyH_take (i := 2) (oi := ?o4x2) (v := ?v4x2) ?hi4x2 (by kernel_rfl) ?hf4x2 ?hr4x2 (fun _ _ _ h => h) ?hy4x2 (by assumption) ?rest4x2
              case hi4x2 => (simp only [List.getElem?_toArray, List.getElem?_cons_succ, List.getElem?_cons_zero]; exact rfl)
              case hf4x2 => kernel_rfl
              case hr4x2 => kernel_rfl
              case hy4x2 => (refine Or.inl ⟨by rfl, ?_⟩; intro w hSw; (try dsimp only at hSw); go_simp; try with_reducible rfl)
              simp only [put_mk, List.set_cons_succ, List.set_cons_zero]
              refine wpAnyH_take (i := 3) (oi := ?o4x3) (v := ?v4x3) ?hi4x3 (by kernel_rfl) ?hf4x3 ?hr4x3 (fun _ _ _ h => h) ?hy4x3 (by assumption) ?rest4x3
              case hi4x3 => (simp only [List.getElem?_toArray, List.getElem?_cons_succ, List.getElem?_cons_zero]; exact rfl)
              case hf4x3 => kernel_rfl
              case hr4x3 => kernel_rfl
              case hy4x3 => (refine Or.inl ⟨by rfl, ?_⟩; intro w hSw; (try dsimp only at hSw); go_simp; try with_reducible rfl)
              simp only [put_mk, List.set_cons_succ, List.set_cons_zero]
              refine wpAnyH_take (i := 4) (oi := ?o4x4) (v := ?v4x4) ?hi4x4 (by kernel_rfl) ?hf4x4 ?hr4x4 (fun _ _ _ h => h) ?hy4x4 (by assumption) ?rest4x4
              case hi4x4 => (simp only [List.getElem?_toArray, List.getElem?_cons_succ, List.getElem?_cons_zero]; exact rfl)
              case hf4x4 => kernel_rfl
              case hr4x4 => kernel_rfl
              case hy4x4 => (refine Or.inl ⟨by rfl, ?_⟩; intro w hSw; (try dsimp only at hSw); go_simp; try with_reducible rfl)
              simp only [put_mk, List.set_cons_succ, List.set_cons_zero]
              refine wpAnyH_take (i := 5) (oi := ?o4x5) (v := ?v4x5) ?hi4x5 (by kernel_rfl) ?hf4x5 ?hr4x5 (fun _ _ _ h => h) ?hy4x5 (by assumption) ?rest4x5
              case hi4x5 => (simp only [List.getElem?_toArray, List.getElem?_cons_succ, List.getElem?_cons_zero]; exact rfl)
              case hf4x5 => kernel_rfl
              case hr4x5 => kernel_rfl
              case hy4x5 => (refine Or.inl ⟨by rfl, ?_⟩; intro w hSw; (try dsimp only at hSw); go_simp; try with_reducible rfl)
              simp only [put_mk, List.set_cons_succ, List.set_cons_zero]
              refine wpAnyH_take (i := 6) (oi := ?o4x6) (v := ?v4x6) ?hi4x6 (by kernel_rfl) ?hf4x6 ?hr4x6 (fun _ _ _ h => h) ?hy4x6 (by assumption) ?rest4x6
              case hi4x6 => (simp only [List.getElem?_toArray, List.getElem?_cons_succ, List.getElem?_cons_zero]; exact rfl)
              case hf4x6 => kernel_rfl
              case hr4x6 => kernel_rfl
              case hy4x6 => (refine Or.inl ⟨by rfl, ?_⟩; intro w hSw; (try dsimp only at hSw); go_simp; try with_reducible rfl)
              simp only [put_mk, List.set_cons_succ, List.set_cons_zero]
              refine wpAnyH_take (i := 7) (oi := ?o4x7) (v := ?v4x7) ?hi4x7 (by kernel_rfl) ?hf4x7 ?hr4x7 (fun _ _ _ h => h) ?hy4x7 (by assumption) ?rest4x7
              case hi4x7 => (simp only [List.getElem?_toArray, List.getElem?_cons_succ, List.getElem?_cons_zero]; exact rfl)
              case hf4x7 => kernel_rfl
              case hr4x7 => kernel_rfl
              case hy4x7 => (refine Or.inl ⟨by rfl, ?_⟩; intro w hSw; (try dsimp only at hSw); go_simp; try with_reducible rfl)
              simp only [put_mk, List.set_cons_succ, List.set_cons_zero]
              refine wpAnyH_take (i := 8) (oi := ?o4x8) (v := ?v4x8) ?hi4x8 (by kernel_rfl) ?hf4x8 ?hr4x8 (fun _ _ _ h => h) ?hy4x8 (by assumption) ?rest4x8
              case hi4x8 => (simp only [List.getElem?_toArray, List.getElem?_cons_succ, List.getElem?_cons_zero]; exact rfl)
              case hf4x8 => kernel_rfl
              case hr4x8 => kernel_rfl
              case hy4x8 => (refine Or.inl ⟨by rfl, ?_⟩; intro w hSw; (try dsimp only at hSw); go_simp; try with_reducible rfl)
              simp only [put_mk, List.set_cons_succ, List.set_cons_zero]
              refine wpAnyH_take (i := 9) (oi := ?o4x9) (v := ?v4x9) ?hi4x9 (by kernel_rfl) ?hf4x9 ?hr4x9 (fun _ _ _ h => h) ?hy4x9 (by assumption) ?rest4x9
              case hi4x9 => (simp only [List.getElem?_toArray, List.getElem?_cons_succ, List.getElem?_cons_zero]; exact rfl)
              case hf4x9 => kernel_rfl
              case hr4x9 => kernel_rfl
              case hy4x9 => (refine Or.inl ⟨by rfl, ?_⟩; intro w hSw; (try dsimp only at hSw); go_simp; try with_reducible rfl)
              simp only [put_mk, List.set_cons_succ, List.set_cons_zero]
              refine wpAnyH_take (i := 10) (oi := ?o4x10) (v := ?v4x10) ?hi4x10 (by kernel_rfl) ?hf4x10 ?hr4x10 (fun _ _ _ h => h) ?hy4x10 (by assumption) ?rest4x10
              case hi4x10 => (simp only [List.getElem?_toArray, List.getElem?_cons_succ, List.getElem?_cons_zero]; exact rfl)
              case hf4x10 => kernel_rfl
              case hr4x10 => kernel_rfl
              case hy4x10 => (refine Or.inl ⟨by rfl, ?_⟩; intro w hSw; (try dsimp only at hSw); go_simp; try with_reducible rfl)
              simp only [put_mk, List.set_cons_succ, List.set_cons_zero]
              refine wpAnyH_take (i := 11) (oi := ?o4x11) (v := ?v4x11) ?hi4x11 (by kernel_rfl) ?hf4x11 ?hr4x11 (fun _ _ _ h => h) ?hy4x11 (by assumption) ?rest4x11
              case hi4x11 => (simp only [List.getElem?_toArray, List.getElem?_cons_succ, List.getElem?_cons_zero]; exact rfl)
              case hf4x11 => kernel_rfl
              case hr4x11 => kernel_rfl
              case hy4x11 => (refine Or.inl ⟨by rfl, ?_⟩; intro w hSw; (try dsimp only at hSw); go_simp; try with_reducible rfl)
              simp only [put_mk, List.set_cons_succ, List.set_cons_zero]
              refine wpAnyH_take (i := 12) (oi := ?o4x12) (v := ?v4x12) ?hi4x12 (by kernel_rfl) ?hf4x12 ?hr4x12 (fun _ _ _ h => h) ?hy4x12 (by assumption) ?rest4x12
              case hi4x12 => (simp only [List.getElem?_toArray, List.getElem?_cons_succ, List.getElem?_cons_zero]; exact rfl)
              case hf4x12 => kernel_rfl
              case hr4x12 => kernel_rfl
              case hy4x12 => (refine Or.inl ⟨by rfl, ?_⟩; intro w hSw; (try dsimp only at hSw); go_simp; try with_reducible rfl)
              simp only [put_mk, List.set_cons_succ, List.set_cons_zero]
              refine wpAnyH_done (by kernel_rfl) ?_ _
              refine NoPanic.normal ?_
              go_wp2_with fail
              go_roundw
              case rel => exact ⟨d + 1, by omega, by go_num, by rw [el.out], hM6.step (Ext.drew (Ext.refl _))⟩
              case measure => simp [intOf]; omega
        · obtain rfl : d = 8 := by omega
          cases hlow : lowD u Wn Hn k 8 with
          | true =>
            rw [hlow, if_pos rfl] at Hb
            clear hlow
            go_wp2_with fail
            go_roundw
            case rel => exact ⟨k + 1, by omega, by go_num, by rw [Hb.out]; exact hM⟩
            case measure => simp [intOf]; omega
          | false =>
            rw [hlow, if_neg (by decide)] at Hb
            clear hlow
            have v2 : wr.cell? ⟨gv, k, none⟩ = some (.float .f32 (u k)) := hM.vb.cell hkN
            have c0 := hM.fb.cell 0
            have c1 := hM.fb.cell 1
            have c2 := hM.fb.cell 2
            have c3 := hM.fb.cell 3
            have Htk := hidA (Htr.out k hkN)
            have HTk := hidA (HTr.out k gd wr D0 _ (tr k) (hDs.ext hM.ext) HLd.out hkN Htk.out (Htl.out k hkN))
            have hle := Htl.out k hkN
            generalize tr k = t at *
            go_upto_region 16 with fail
            go_cut [60, 61, 62] (fun s60 s61 s62 wx => ∃ (Q' : Option Addr) (cap' : Nat), s60 = Value.slice Q' t.length cap' ∧ s61 = Value.int .i64 (t.length : Int) ∧ s62 = Value.int .i64 0 ∧ Qs wx wr.heap.size 3 Q' t.length cap' (inq t) ∧ Ext wr wx)
            case first =>
              go_wp2_with (go_at_call 53; refine (HTk.out).mono ?_; rintro e w7 ⟨⟨qb, qo, qs⟩, cap, rfl, hQ, hx7⟩; have hcap : 1 ≤ cap := (by have := hQ.le; omega); obtain rfl : qs = none := (hQ.lt rfl).2.2)
              all_goals
                go_meet
                case rel =>
                  obtain ⟨A', e1, hQ', _⟩ := hQ.cut
                  rw [Nat.add_sub_cancel] at e1 hQ'
                  refine ⟨A', cap - 1, ?_, rfl, rfl, hQ', hx7⟩
                  rw [← e1]
                  unfold sliced
                  simp [*, add_pos]
            case rest =>
              obtain ⟨Q', cap', rfl, rfl, rfl, hQ, hx7⟩ := hcut
              have hM7 := hM.step hx7
              have hQe := hM.vb.lt
              have Hin := hidA (fun c hc => by rw [HN.out]; exact tr_lt Htk.out c hc : ∀ c ∈ t, c < N)
              clear c0 c1 c2 c3 v2 hM hx7 HTk
              go_wp2_with fail
              generalize wr.heap.size = wz at *
              go_loopw [11, 62] (fun s11 s62 wy => ∃ (i h : Nat) (u' : Nat → Nat) (t2 : List Nat), i ≤ t.length ∧ s62 = .int .i64 i ∧ s11 = .float .f32 h ∧ t.drop i = t2 ∧ cutV s t (u k) u = cutV s t2 h u' ∧ NN h ∧ RB w2 wy hf gv cp X Y Wn Hn N (some ad) c u' ∧ Qs wy wz 3 Q' t.length cap' (inq t)) (fun _ s62 _ => t.length - (intOf s62).toNat)
              case atStart => exact ⟨0, u k, u, t, Nat.zero_le _, rfl, rfl, rfl, rfl, Hnn.out k hkN, hM7, hQ⟩
              case round =>
                clear hM7 hQ
                obtain ⟨i, h, u', t2, hi, rfl, rfl, ht2, hcut, hh, hM7, hQ⟩ := hrel
                have Hcut := hidA hcut
                clear hcut
                by_cases hit : i < t.length
                · have Hcc := hidA (show t2 = t[i] :: t.drop (i + 1) from by rw [← ht2, List.drop_eq_getElem_cons hit])
                  have hq := Hin.out t[i] (List.getElem_mem hit)
                  obtain ⟨aq, rfl, _, hcq⟩ := hQ.rd.at (k := i) (by rw [inq_length]; exact hit)
                  have q0 := hcq i _ (inq_get hit)
                  clear hcq ht2
                  generalize t[i] = q at *
                  have j1 : (0 : Int) ≤ i := by omega
                  have j2 : (i : Int) < t.length := by omega
                  have j3 : (0 : Int) ≤ q := by omega
                  have j4 : (q : Int) < N := by omega
                  obtain ⟨hsub, hxn⟩ := sub_nn hh Hs.out
                  have hle : (FloatKind.f32.format.order (u' q) (fsub h s) == some .lt || FloatKind.f32.format.order (u' q) (fsub h s) == some .eq) = leB (u' q) (fsub h s) := rfl
                  have Hcd := hidA (show cutV s (q :: t.drop (i + 1)) h u' = if leB (u' q) (fsub h s) = true then u' else cutV s (t.drop (i + 1)) (fsub h s) (updF u' q (fsub h s)) from rfl)
                  have q1 := fun (w : World) => run_float_arith (P := Try.prog) w .sub 27 .f32 _ _ _ hsub
                  have v0 : wr.cell? ⟨gv, q, none⟩ = some (.float .f32 (u' q)) := hM7.vb.cell hq
                  have g1 := hM7.vb.frozen q
                  have Hxn := hidA hxn
                  clear hsub hxn hh
                  generalize fsub h s = x at *
                  cases hb : leB (u' q) x with
                  | true =>
                    rw [hb] at hle
                    rw [hb, if_pos rfl] at Hcd
                    have hM8 := hidA (show RB w2 wr hf gv cp X Y Wn Hn N (some ad) c (cutV s t (u k) u) from by rw [Hcut.out, Hcc.out, Hcd.out]; exact hM7)
                    clear hb hM7 hQ g1
                    generalize u' q = y at *
                    go_wp2_with fail
                    go_roundw
                    case rel => exact ⟨k + 1, by omega, by go_num, by rw [Hb.out]; exact hM8.out⟩
                    case measure => simp [intOf]; omega
                  | false =>
                    rw [hb] at hle
                    rw [hb, if_neg (by decide)] at Hcd
                    have hM8 := hidA (hM7.put q x)
                    have hQ8 := hidA (hQ.kept (w' := wr.setCell ⟨gv, q, none⟩ (.float .f32 x)) (fun a ha _ => Below.heap_setCell wr _ _ _ (fun e => by
                      have := (hQ.lt ha).1
                      have e2 : a.block = gv := e
                      omega)))
                    clear hb hM7 hQ
                    generalize u' q = y at *
                    go_wp2_with fail
                    go_roundw
                    case rel => exact ⟨i + 1, x, _, _, by omega, by go_num, rfl, rfl, by rw [Hcut.out, Hcc.out, Hcd.out], Hxn.out, hM8.out, hQ8.out⟩
                    case measure => simp [intOf]; omega
                · obtain rfl : i = t.length := by omega
                  have hM8 := hidA (show RB w2 wr hf gv cp X Y Wn Hn N (some ad) c (cutV s t (u k) u) from by rw [Hcut.out, ← ht2, List.drop_length]; exact hM7)
                  clear hM7 hQ ht2 hh
                  go_wp2_with fail
                  go_roundw
                  case rel => exact ⟨k + 1, by omega, by go_num, by rw [Hb.out]; exact hM8.out⟩
                  case measure => simp [intOf]; omega
    · obtain rfl : N = k := by omega
      go_wp2_with fail
      go_ret
      exact ⟨gv, cp, rfl, hM.vb, Hxw.out.trans hM.ext⟩
end Go.Proofs.Ytinohfgokpbcdaa
namespace Go.Proofs.Ytinohfgokpbcdaa
open Go.RowKit
attribute [local go_sem ↓] Go.wp_at_zero Go.wp_at_succ
attribute [local go_sem] run_store_float

/-- the error of Breach -/
def brcE (x y ww hh : Int) (l : List Nat) (s : Nat) : Int := if fieldE x y ww hh l ≠ 0 then fieldE x y ww hh l else stepE s
set_option maxRecDepth 100000 in
set_option maxHeartbeats 3200000 in
theorem Breach_bad (x y ww hh : Int) (A : Option Addr) (n c st : Nat) (l : List Nat) (w : World) (hl : l.length = n) (hV : Rd w A (flt l)) (hb : n ≤ 140737488351232) (hE : brcE x y ww hh l st ≠ 0) :
    Calls Try.prog 76 #[.agg #[.int .i64 x, .int .i64 y, .int .i64 ww, .int .i64 hh, .slice A n c], .float .f32 st] w fun e w' => e = .returned (.tuple #[.agg #[.int .i64 0, .int .i64 0, .int .i64 0, .int .i64 0, .slice none 0 0], .int .i64 (brcE x y ww hh l st)]) ∧ Ext w w' := by
  have HC := fun (w : World) (h : Rd w A (flt l)) => hidA (check_any x y ww hh A n c l w hl h hb)
  have HS := fun (B : Option Addr) (w : World) (h : Rd w B (flt [st])) => hidA (heights_any B 1 1 [st] w rfl h (by omega))
  unfold brcE stepE at hE ⊢
  clear hl hb
  generalize fieldE x y ww hh l = f1 at *
  generalize numE [st] = f2 at *
  by_cases h1 : f1 = 0
  · subst h1
    rw [if_neg (by decide)] at hE ⊢
    by_cases h2 : f2 = 0
    · subst h2
      rw [if_neg (by decide)] at hE ⊢
      by_cases h3 : lt st 0 = true ∨ gt st 1065353216 = true
      · rw [if_pos h3]
        clear hE
        cases h4 : lt st 0
        · have h5 : gt st 1065353216 = true := by rcases h3 with h | h <;> simp_all
          have s4' : (FloatKind.f32.format.order st 0 == some .lt) = false := h4
          have s5' : (FloatKind.f32.format.order st 1065353216 == some .gt) = true := h5
          clear h3 h4 h5
          go_enter Try.func76, Try.ntmps76
          go_wp2_with (first | (go_at_call 80; refine ((HC _ (hV.ext (by repeat (first | exact Ext.refl _ | assumption | refine Ext.setCell ?_ (by first | (simp; done) | (simp; omega)) _ | refine Ext.drewN ?_ _ | refine Ext.alloc ?_ _ | refine Ext.drew ?_ | refine Ext.trans ?_ (by assumption))))).out).mono ?_; rintro e w1 ⟨rfl, hx1⟩; have kZ1 : Bk w1 (w.heap.size + 1) 26 #[.int .i64 0, .int .i64 0, .int .i64 0, .int .i64 0, .slice none 0 0] := (Bk.new' (by simp)).ext hx1; have z0 := kZ1.cell 0; have z1 := kZ1.cell 1; have z2 := kZ1.cell 2; have z3 := kZ1.cell 3; have z4 := kZ1.cell 4; have y0 := kZ1.frozen 0; have y1 := kZ1.frozen 1; have y2 := kZ1.frozen 2; have y3 := kZ1.frozen 3; have y4 := kZ1.frozen 4; have kl := kZ1.lt) | (go_at_call 81; refine ((HS _ _ (Rd.new rfl rfl)).out).mono ?_; rintro e w2 ⟨rfl, rfl⟩))
          refine bodyPost_ret (v := .tuple #[.agg #[.int .i64 0, .int .i64 0, .int .i64 0, .int .i64 0, .slice none 0 0], .int .i64 3]) (by simp [results, Try.results76, go_sem, z0, z1, z2, z3, z4, kl]) rfl ⟨rfl, ?_⟩
          (repeat (first | (with_reducible exact Ext.refl _) | (with_reducible assumption) | (with_reducible refine Ext.setCell ?_ (by first | (simp; done) | (simp; omega)) _) | (with_reducible refine Ext.drewN ?_ _) | (with_reducible refine Ext.alloc ?_ _) | (with_reducible refine Ext.drew ?_) | (with_reducible refine Ext.trans ?_ (by assumption))))
        · have s4' : (FloatKind.f32.format.order st 0 == some .lt) = true := h4
          clear h3 h4
          go_enter Try.func76, Try.ntmps76
          go_wp2_with (first | (go_at_call 80; refine ((HC _ (hV.ext (by repeat (first | exact Ext.refl _ | assumption | refine Ext.setCell ?_ (by first | (simp; done) | (simp; omega)) _ | refine Ext.drewN ?_ _ | refine Ext.alloc ?_ _ | refine Ext.drew ?_ | refine Ext.trans ?_ (by assumption))))).out).mono ?_; rintro e w1 ⟨rfl, hx1⟩; have kZ1 : Bk w1 (w.heap.size + 1) 26 #[.int .i64 0, .int .i64 0, .int .i64 0, .int .i64 0, .slice none 0 0] := (Bk.new' (by simp)).ext hx1; have z0 := kZ1.cell 0; have z1 := kZ1.cell 1; have z2 := kZ1.cell 2; have z3 := kZ1.cell 3; have z4 := kZ1.cell 4; have y0 := kZ1.frozen 0; have y1 := kZ1.frozen 1; have y2 := kZ1.frozen 2; have y3 := kZ1.frozen 3; have y4 := kZ1.frozen 4; have kl := kZ1.lt) | (go_at_call 81; refine ((HS _ _ (Rd.new rfl rfl)).out).mono ?_; rintro e w2 ⟨rfl, rfl⟩))
          refine bodyPost_ret (v := .tuple #[.agg #[.int .i64 0, .int .i64 0, .int .i64 0, .int .i64 0, .slice none 0 0], .int .i64 3]) (by simp [results, Try.results76, go_sem, z0, z1, z2, z3, z4, kl]) rfl ⟨rfl, ?_⟩
          (repeat (first | (with_reducible exact Ext.refl _) | (with_reducible assumption) | (with_reducible refine Ext.setCell ?_ (by first | (simp; done) | (simp; omega)) _) | (with_reducible refine Ext.drewN ?_ _) | (with_reducible refine Ext.alloc ?_ _) | (with_reducible refine Ext.drew ?_) | (with_reducible refine Ext.trans ?_ (by assumption))))
      · exact absurd (if_neg h3) hE
    · have h2' : (f2 != 0) = true := by simpa using h2
      rw [if_pos h2]
      clear hE h2
      go_enter Try.func76, Try.ntmps76
      go_wp2_with (first | (go_at_call 80; refine ((HC _ (hV.ext (by repeat (first | exact Ext.refl _ | assumption | refine Ext.setCell ?_ (by first | (simp; done) | (simp; omega)) _ | refine Ext.drewN ?_ _ | refine Ext.alloc ?_ _ | refine Ext.drew ?_ | refine Ext.trans ?_ (by assumption))))).out).mono ?_; rintro e w1 ⟨rfl, hx1⟩; have kZ1 : Bk w1 (w.heap.size + 1) 26 #[.int .i64 0, .int .i64 0, .int .i64 0, .int .i64 0, .slice none 0 0] := (Bk.new' (by simp)).ext hx1; have z0 := kZ1.cell 0; have z1 := kZ1.cell 1; have z2 := kZ1.cell 2; have z3 := kZ1.cell 3; have z4 := kZ1.cell 4; have y0 := kZ1.frozen 0; have y1 := kZ1.frozen 1; have y2 := kZ1.frozen 2; have y3 := kZ1.frozen 3; have y4 := kZ1.frozen 4; have kl := kZ1.lt) | (go_at_call 81; refine ((HS _ _ (Rd.new rfl rfl)).out).mono ?_; rintro e w2 ⟨rfl, rfl⟩))
      refine bodyPost_ret (v := .tuple #[.agg #[.int .i64 0, .int .i64 0, .int .i64 0, .int .i64 0, .slice none 0 0], .int .i64 f2]) (by simp [results, Try.results76, go_sem, z0, z1, z2, z3, z4, kl]) rfl ⟨rfl, ?_⟩
      (repeat (first | (with_reducible exact Ext.refl _) | (with_reducible assumption) | (with_reducible refine Ext.setCell ?_ (by first | (simp; done) | (simp; omega)) _) | (with_reducible refine Ext.drewN ?_ _) | (with_reducible refine Ext.alloc ?_ _) | (with_reducible refine Ext.drew ?_) | (with_reducible refine Ext.trans ?_ (by assumption))))
  · have h1' : (f1 != 0) = true := by simpa using h1
    rw [if_pos h1]
    clear hE h1
    go_enter Try.func76, Try.ntmps76
    go_wp2_with (first | (go_at_call 80; refine ((HC _ (hV.ext (by repeat (first | exact Ext.refl _ | assumption | refine Ext.setCell ?_ (by first | (simp; done) | (simp; omega)) _ | refine Ext.drewN ?_ _ | refine Ext.alloc ?_ _ | refine Ext.drew ?_ | refine Ext.trans ?_ (by assumption))))).out).mono ?_; rintro e w1 ⟨rfl, hx1⟩; have kZ1 : Bk w1 (w.heap.size + 1) 26 #[.int .i64 0, .int .i64 0, .int .i64 0, .int .i64 0, .slice none 0 0] := (Bk.new' (by simp)).ext hx1; have z0 := kZ1.cell 0; have z1 := kZ1.cell 1; have z2 := kZ1.cell 2; have z3 := kZ1.cell 3; have z4 := kZ1.cell 4; have y0 := kZ1.frozen 0; have y1 := kZ1.frozen 1; have y2 := kZ1.frozen 2; have y3 := kZ1.frozen 3; have y4 := kZ1.frozen 4; have kl := kZ1.lt) | (go_at_call 81; refine ((HS _ _ (Rd.new rfl rfl)).out).mono ?_; rintro e w2 ⟨rfl, rfl⟩))
    refine bodyPost_ret (v := .tuple #[.agg #[.int .i64 0, .int .i64 0, .int .i64 0, .int .i64 0, .slice none 0 0], .int .i64 f1]) (by simp [results, Try.results76, go_sem, z0, z1, z2, z3, z4]) rfl ⟨rfl, ?_⟩
    (repeat (first | (with_reducible exact Ext.refl _) | (with_reducible assumption) | (with_reducible refine Ext.setCell ?_ (by first | (simp; done) | (simp; omega)) _) | (with_reducible refine Ext.drewN ?_ _) | (with_reducible refine Ext.alloc ?_ _) | (with_reducible refine Ext.drew ?_) | (with_reducible refine Ext.trans ?_ (by assumption))))

/-- the third error of Breach -/
def overE (s : Nat) : Int := if (lt s 0 || gt s 1065353216) = true then 3 else 0
theorem brcE_first (x y ww hh : Int) (l : List Nat) (s : Nat) : firstE [fieldE x y ww hh l, numE [s], overE s] = brcE x y ww hh l s := by
  rw [first3]
  unfold brcE stepE overE
  simp only [Bool.or_eq_true]
set_option maxRecDepth 100000 in
set_option maxHeartbeats 3200000 in
theorem breach_bad (x y ww hh : Int) (A : Option Addr) (n c s : Nat) (l : List Nat) (w : World) (hn : l.length = n) (hd : Rd w A (flt l)) (hb : n ≤ 140737488351232) (hE : brcE x y ww hh l s ≠ 0) :
    Calls Try.prog 13 #[.agg #[.int .i64 x, .int .i64 y, .int .i64 ww, .int .i64 hh, .slice A n c], .float .f32 s] w fun e w' => e = .returned (.bool true) ∧ Ext w w' := by
  have HF := fun (w : World) (h : Rd w A (flt l)) => hidA (Breach_bad x y ww hh A n c s l w hn h hb hE)
  have HE := fun (w : World) (h : Rd w A (flt l)) => hidA (fieldError_any x y ww hh A n c l w hn h hb)
  have HN := fun (B : Option Addr) (w : World) (h : Rd w B (flt [s])) => hidA (numberError_any B 1 1 [s] w rfl h (by omega))
  have HS := fun (B : Option Addr) (w : World) (h : Rd w B ([fieldE x y ww hh l, numE [s], overE s].map (.int .i64))) => hidA (first_any B 3 3 [fieldE x y ww hh l, numE [s], overE s] w rfl h (by omega))
  rw [brcE_first] at HS
  have HZ := fun (w : World) => hidA (empty_zero w)
  have HW := fun (w : World) => hidA (flows_any w)
  have hE' : (brcE x y ww hh l s != 0) = true := by simpa using hE
  have hr : overE s = if (lt s 0 || gt s 1065353216) = true then 3 else 0 := rfl
  generalize brcE x y ww hh l s = E at *
  generalize fieldE x y ww hh l = f1 at *
  generalize numE [s] = f2 at *
  have HWh := fun (b : Bool) (w : World) => hidA (when_any b 3 w)
  have Hr := hidA hr
  clear hr hn hb hE
  generalize overE s = f3 at *
  have hc : (FloatKind.f32.format.order s 0 == some .lt) = lt s 0 := rfl
  have hc2 : (FloatKind.f32.format.order s 1065353216 == some .gt) = gt s 1065353216 := rfl
  cases h1 : lt s 0
  · cases h2 : gt s 1065353216
    · have hf : f3 = 0 := by rw [Hr.out, h1, h2]; rfl
      subst hf
      rw [h1] at hc
      rw [h2] at hc2
      clear h1 h2 Hr
      go_enter Try.func13, Try.ntmps13
      go_wp2_with fail
      refine ((HF _ (hd.ext (by repeat (first | (with_reducible exact Ext.refl _) | (with_reducible assumption) | (with_reducible refine Ext.setCell ?_ (by first | (simp; done) | (simp; omega)) _) | (with_reducible refine Ext.drewN ?_ _) | (with_reducible refine Ext.alloc ?_ _) | (with_reducible refine Ext.drew ?_) | (with_reducible refine Ext.trans ?_ (by assumption)))))).out).mono ?_
      rintro e w1 ⟨rfl, hx1⟩
      have kF : Bk w1 w.heap.size 26 #[.int .i64 x, .int .i64 y, .int .i64 ww, .int .i64 hh, .slice A n c] := (Bk.new' rfl).ext hx1
      have c0 := kF.cell 0
      have c1 := kF.cell 1
      have c2 := kF.cell 2
      have c3 := kF.cell 3
      have c4 := kF.cell 4
      have kl := kF.lt
      go_wp2_with fail
      refine ((HE _ (hd.ext (by repeat (first | (with_reducible exact Ext.refl _) | (with_reducible assumption) | (with_reducible refine Ext.setCell ?_ (by first | (simp; done) | (simp; omega)) _) | (with_reducible refine Ext.drewN ?_ _) | (with_reducible refine Ext.alloc ?_ _) | (with_reducible refine Ext.drew ?_) | (with_reducible refine Ext.trans ?_ (by assumption)))))).out).mono ?_
      rintro e w2 ⟨rfl, hx2⟩
      have kG : Bk w2 w1.heap.size 26 #[.int .i64 0, .int .i64 0, .int .i64 0, .int .i64 0, .slice none 0 0] := (Bk.new' rfl).ext hx2
      clear c0 c1 c2 c3 c4
      go_wp2_with fail
      refine ((HN _ _ (Rd.new rfl rfl)).out).mono ?_
      rintro e w3 ⟨rfl, rfl⟩
      go_wp2_with fail
      refine ((HWh _ _).out).mono ?_
      rintro e w4 ⟨rfl, rfl⟩
      go_wp2_with fail
      refine ((HS _ _ (Rd.new (by first | rfl | simp) (by first | rfl | simp))).out).mono ?_
      rintro e w5 ⟨rfl, hx5⟩
      have hg5 : Ext w2 w5 := by rw [← hx5]; (repeat (first | (with_reducible exact Ext.refl _) | (with_reducible assumption) | (with_reducible refine Ext.setCell ?_ (by first | (simp; done) | (simp; omega)) _) | (with_reducible refine Ext.drewN ?_ _) | (with_reducible refine Ext.alloc ?_ _) | (with_reducible refine Ext.drew ?_) | (with_reducible refine Ext.trans ?_ (by assumption))))
      clear hx5
      go_wp2_with fail
      refine ((HW _).out).mono ?_
      rintro e w6 ⟨rfl, hx6⟩
      go_wp2_with fail
      refine ((HW _).out).mono ?_
      rintro e w7 ⟨rfl, hx7⟩
      have kG7 := kG.ext (hg5.trans (hx6.trans hx7))
      have c0 := kG7.cell 0
      have c1 := kG7.cell 1
      have c2 := kG7.cell 2
      have c3 := kG7.cell 3
      have c4 := kG7.cell 4
      go_wp2_with fail
      refine ((HZ _).out).mono ?_
      rintro e w8 ⟨rfl, hx8⟩
      go_wp2_with fail
      go_ret
      exact ⟨by first | rfl | simp, (by repeat (first | (with_reducible exact Ext.refl _) | (with_reducible assumption) | (with_reducible refine Ext.setCell ?_ (by first | (simp; done) | (simp; omega)) _) | (with_reducible refine Ext.drewN ?_ _) | (with_reducible refine Ext.alloc ?_ _) | (with_reducible refine Ext.drew ?_) | (with_reducible refine Ext.trans ?_ (by assumption))))⟩
    · have hf : f3 = 3 := by rw [Hr.out, h1, h2]; rfl
      subst hf
      rw [h1] at hc
      rw [h2] at hc2
      clear h1 h2 Hr
      go_enter Try.func13, Try.ntmps13
      go_wp2_with fail
      refine ((HF _ (hd.ext (by repeat (first | (with_reducible exact Ext.refl _) | (with_reducible assumption) | (with_reducible refine Ext.setCell ?_ (by first | (simp; done) | (simp; omega)) _) | (with_reducible refine Ext.drewN ?_ _) | (with_reducible refine Ext.alloc ?_ _) | (with_reducible refine Ext.drew ?_) | (with_reducible refine Ext.trans ?_ (by assumption)))))).out).mono ?_
      rintro e w1 ⟨rfl, hx1⟩
      have kF : Bk w1 w.heap.size 26 #[.int .i64 x, .int .i64 y, .int .i64 ww, .int .i64 hh, .slice A n c] := (Bk.new' rfl).ext hx1
      have c0 := kF.cell 0
      have c1 := kF.cell 1
      have c2 := kF.cell 2
      have c3 := kF.cell 3
      have c4 := kF.cell 4
      have kl := kF.lt
      go_wp2_with fail
      refine ((HE _ (hd.ext (by repeat (first | (with_reducible exact Ext.refl _) | (with_reducible assumption) | (with_reducible refine Ext.setCell ?_ (by first | (simp; done) | (simp; omega)) _) | (with_reducible refine Ext.drewN ?_ _) | (with_reducible refine Ext.alloc ?_ _) | (with_reducible refine Ext.drew ?_) | (with_reducible refine Ext.trans ?_ (by assumption)))))).out).mono ?_
      rintro e w2 ⟨rfl, hx2⟩
      have kG : Bk w2 w1.heap.size 26 #[.int .i64 0, .int .i64 0, .int .i64 0, .int .i64 0, .slice none 0 0] := (Bk.new' rfl).ext hx2
      clear c0 c1 c2 c3 c4
      go_wp2_with fail
      refine ((HN _ _ (Rd.new rfl rfl)).out).mono ?_
      rintro e w3 ⟨rfl, rfl⟩
      go_wp2_with fail
      refine ((HWh _ _).out).mono ?_
      rintro e w4 ⟨rfl, rfl⟩
      go_wp2_with fail
      refine ((HS _ _ (Rd.new (by first | rfl | simp) (by first | rfl | simp))).out).mono ?_
      rintro e w5 ⟨rfl, hx5⟩
      have hg5 : Ext w2 w5 := by rw [← hx5]; (repeat (first | (with_reducible exact Ext.refl _) | (with_reducible assumption) | (with_reducible refine Ext.setCell ?_ (by first | (simp; done) | (simp; omega)) _) | (with_reducible refine Ext.drewN ?_ _) | (with_reducible refine Ext.alloc ?_ _) | (with_reducible refine Ext.drew ?_) | (with_reducible refine Ext.trans ?_ (by assumption))))
      clear hx5
      go_wp2_with fail
      refine ((HW _).out).mono ?_
      rintro e w6 ⟨rfl, hx6⟩
      go_wp2_with fail
      refine ((HW _).out).mono ?_
      rintro e w7 ⟨rfl, hx7⟩
      have kG7 := kG.ext (hg5.trans (hx6.trans hx7))
      have c0 := kG7.cell 0
      have c1 := kG7.cell 1
      have c2 := kG7.cell 2
      have c3 := kG7.cell 3
      have c4 := kG7.cell 4
      go_wp2_with fail
      refine ((HZ _).out).mono ?_
      rintro e w8 ⟨rfl, hx8⟩
      go_wp2_with fail
      go_ret
      exact ⟨by first | rfl | simp, (by repeat (first | (with_reducible exact Ext.refl _) | (with_reducible assumption) | (with_reducible refine Ext.setCell ?_ (by first | (simp; done) | (simp; omega)) _) | (with_reducible refine Ext.drewN ?_ _) | (with_reducible refine Ext.alloc ?_ _) | (with_reducible refine Ext.drew ?_) | (with_reducible refine Ext.trans ?_ (by assumption))))⟩
  · have hf : f3 = 3 := by rw [Hr.out, h1]; rfl
    subst hf
    rw [h1] at hc
    clear h1 hc2 Hr
    go_enter Try.func13, Try.ntmps13
    go_wp2_with fail
    refine ((HF _ (hd.ext (by repeat (first | (with_reducible exact Ext.refl _) | (with_reducible assumption) | (with_reducible refine Ext.setCell ?_ (by first | (simp; done) | (simp; omega)) _) | (with_reducible refine Ext.drewN ?_ _) | (with_reducible refine Ext.alloc ?_ _) | (with_reducible refine Ext.drew ?_) | (with_reducible refine Ext.trans ?_ (by assumption)))))).out).mono ?_
    rintro e w1 ⟨rfl, hx1⟩
    have kF : Bk w1 w.heap.size 26 #[.int .i64 x, .int .i64 y, .int .i64 ww, .int .i64 hh, .slice A n c] := (Bk.new' rfl).ext hx1
    have c0 := kF.cell 0
    have c1 := kF.cell 1
    have c2 := kF.cell 2
    have c3 := kF.cell 3
    have c4 := kF.cell 4
    have kl := kF.lt
    go_wp2_with fail
    refine ((HE _ (hd.ext (by repeat (first | (with_reducible exact Ext.refl _) | (with_reducible assumption) | (with_reducible refine Ext.setCell ?_ (by first | (simp; done) | (simp; omega)) _) | (with_reducible refine Ext.drewN ?_ _) | (with_reducible refine Ext.alloc ?_ _) | (with_reducible refine Ext.drew ?_) | (with_reducible refine Ext.trans ?_ (by assumption)))))).out).mono ?_
    rintro e w2 ⟨rfl, hx2⟩
    have kG : Bk w2 w1.heap.size 26 #[.int .i64 0, .int .i64 0, .int .i64 0, .int .i64 0, .slice none 0 0] := (Bk.new' rfl).ext hx2
    clear c0 c1 c2 c3 c4
    go_wp2_with fail
    refine ((HN _ _ (Rd.new rfl rfl)).out).mono ?_
    rintro e w3 ⟨rfl, rfl⟩
    go_wp2_with fail
    refine ((HWh _ _).out).mono ?_
    rintro e w4 ⟨rfl, rfl⟩
    go_wp2_with fail
    refine ((HS _ _ (Rd.new (by first | rfl | simp) (by first | rfl | simp))).out).mono ?_
    rintro e w5 ⟨rfl, hx5⟩
    have hg5 : Ext w2 w5 := by rw [← hx5]; (repeat (first | (with_reducible exact Ext.refl _) | (with_reducible assumption) | (with_reducible refine Ext.setCell ?_ (by first | (simp; done) | (simp; omega)) _) | (with_reducible refine Ext.drewN ?_ _) | (with_reducible refine Ext.alloc ?_ _) | (with_reducible refine Ext.drew ?_) | (with_reducible refine Ext.trans ?_ (by assumption))))
    clear hx5
    go_wp2_with fail
    refine ((HW _).out).mono ?_
    rintro e w6 ⟨rfl, hx6⟩
    go_wp2_with fail
    refine ((HW _).out).mono ?_
    rintro e w7 ⟨rfl, hx7⟩
    have kG7 := kG.ext (hg5.trans (hx6.trans hx7))
    have c0 := kG7.cell 0
    have c1 := kG7.cell 1
    have c2 := kG7.cell 2
    have c3 := kG7.cell 3
    have c4 := kG7.cell 4
    go_wp2_with fail
    refine ((HZ _).out).mono ?_
    rintro e w8 ⟨rfl, hx8⟩
    go_wp2_with fail
    go_ret
    exact ⟨by first | rfl | simp, (by repeat (first | (with_reducible exact Ext.refl _) | (with_reducible assumption) | (with_reducible refine Ext.setCell ?_ (by first | (simp; done) | (simp; omega)) _) | (with_reducible refine Ext.drewN ?_ _) | (with_reducible refine Ext.alloc ?_ _) | (with_reducible refine Ext.drew ?_) | (with_reducible refine Ext.trans ?_ (by assumption))))⟩

end Go.Proofs.Ytinohfgokpbcdaa
namespace Go.Proofs.Ytinohfgokpbcdaa
open Go.RowKit

theorem f32bits' (a : Nat) (w : World) : (callFunc 35 #[.float .f32 a]).run Try.prog w = .ok (.value (.int .u32 a)) w := by kernel_rfl

set_option maxHeartbeats 400000 in
theorem bits1_same (a : Nat) (w : World) : Calls Try.prog 113 #[.float .f32 a, .float .f32 a] w fun e w' => e = .returned (.bool true) ∧ w = w' := by
  have hf := f32bits' a
  go_enter Try.func113, Try.ntmps113
  go_wp2
  go_ret
  exact ⟨ret_b (by simp), rfl⟩

set_option maxHeartbeats 800000 in
theorem eqFunc_same (A B : Option Addr) (n c d : Nat) (l : List Nat) (w : World) (hn : l.length = n) (ha : Rd w A (flt l)) (hb : Rd w B (flt l)) (hnb : n ≤ 4000000000) :
    Calls Try.prog 112 #[.slice A n c, .slice B n d, .func (.func 113) #[] #[]] w fun e w' => e = .returned (.bool true) ∧ w = w' := by
  have Hn := hidA hn
  clear hn
  go_enter Try.func112, Try.ntmps112
  go_wp2
  go_loop [17] (fun i => ∃ k : Nat, k ≤ n ∧ i = .int .i64 k) (fun i => n - (intOf i).toNat)
  case atStart => exact ⟨0, Nat.zero_le _, rfl⟩
  case round =>
    obtain ⟨k, hk, rfl⟩ := hrel
    by_cases hlt : k < n
    · have hkl : k < l.length := by have := Hn.out; omega
      obtain ⟨ad, rfl, hbk, hc⟩ := ha.at (k := k) (by simpa using hkl)
      obtain ⟨ad2, rfl, hbk2, hc2⟩ := hb.at (k := k) (by simpa using hkl)
      have e0 := hc k _ (flt_get hkl)
      have e1 := hc2 k _ (flt_get hkl)
      clear hc hc2 ha hb
      go_wp2_with (go_at_call 113; refine (bits1_same _ _).mono ?_; rintro e w' ⟨rfl, rfl⟩)
      go_round
      case rel => exact ⟨k + 1, by omega, by go_num⟩
      case measure => simp [intOf]; omega
    · obtain rfl : k = n := by omega
      go_wp2
      go_ret
      exact ⟨rfl, rfl⟩

theorem bits_same (A B : Option Addr) (n c d : Nat) (l : List Nat) (w : World) (hn : l.length = n) (ha : Rd w A (flt l)) (hb : Rd w B (flt l)) (hnb : n ≤ 4000000000) :
    Calls Try.prog 56 #[.slice A n c, .slice B n d] w fun e w' => e = .returned (.bool true) ∧ w = w' := by
  go_enter Try.func56, Try.ntmps56
  go_wp2_with fail
  refine (eqFunc_same A B n c d l _ hn ha hb hnb).mono ?_
  rintro e w' ⟨rfl, rfl⟩
  go_wp2
  go_ret
  exact ⟨rfl, rfl⟩

end Go.Proofs.Ytinohfgokpbcdaa
namespace Go.Proofs.Ytinohfgokpbcdaa
open Go.RowKit
attribute [local go_sem ↓] Go.wp_at_zero Go.wp_at_succ

set_option maxHeartbeats 1600000 in
set_option maxRecDepth 100000 in
theorem result_ok (X Y W H : Int) (A B : Option Addr) (n c d : Nat) (l : List Nat) (w : World) (hn : l.length = n) (ha : Rd w A (flt l)) (hb : Rd w B (flt l)) (hnb : n ≤ 4000000000) (hz : numE l = 0) :
    Calls Try.prog 39 #[.agg #[.int .i64 X, .int .i64 Y, .int .i64 W, .int .i64 H, .slice B n d], .int .i64 0, .agg #[.int .i64 X, .int .i64 Y, .int .i64 W, .int .i64 H], .slice A n c] w fun e w' => e = .returned (.bool true) ∧ Ext w w' := by
  have HZ := hidA hz
  clear hz
  go_enter Try.func39, Try.ntmps39
  go_wp2_with fail
  refine (numberError_any A n c l _ hn ((ha.alloc _).alloc _) (by omega)).mono ?_
  rw [HZ.out]
  rintro e w' ⟨rfl, rfl⟩
  go_wp2_with (go_at_call 56; refine (bits_same B A n d c l _ hn ((hb.alloc _).alloc _) ((ha.alloc _).alloc _) hnb).mono ?_; rintro e w2 ⟨rfl, rfl⟩)
  go_ret
  exact ⟨rfl, (by repeat (first | exact Ext.refl _ | assumption | refine Ext.setCell ?_ (by first | (simp; done) | (simp; omega)) _ | refine Ext.drewN ?_ _ | refine Ext.alloc ?_ _ | refine Ext.drew ?_ | refine Ext.trans ?_ (by assumption)))⟩
set_option maxHeartbeats 1600000 in
set_option maxRecDepth 100000 in
theorem result_no (X Y W H : Int) (A : Option Addr) (n c : Nat) (l : List Nat) (w : World) (hn : l.length = n) (ha : Rd w A (flt l)) (hnb : n ≤ 4000000000) (hz : numE l ≠ 0) :
    Calls Try.prog 39 #[.agg #[.int .i64 0, .int .i64 0, .int .i64 0, .int .i64 0, .slice none 0 0], .int .i64 3, .agg #[.int .i64 X, .int .i64 Y, .int .i64 W, .int .i64 H], .slice A n c] w fun e w' => e = .returned (.bool true) ∧ Ext w w' := by
  have HN := fun (w : World) (h : Rd w A (flt l)) => hidA (numberError_any A n c l w hn h (by omega))
  have HZ := fun (w : World) => hidA (empty_zero w)
  have hz' : (numE l != 0) = true := by simpa using hz
  generalize numE l = E at *
  clear hz
  go_enter Try.func39, Try.ntmps39
  go_wp2_with fail
  refine ((HN _ ((ha.alloc _).alloc _)).out).mono ?_
  rintro e w' ⟨rfl, rfl⟩
  go_wp2_with (go_at_call 21; refine ((HZ _).out).mono ?_; rintro e w2 ⟨rfl, hx2⟩)
  go_ret
  exact ⟨rfl, (by repeat (first | exact Ext.refl _ | assumption | refine Ext.setCell ?_ (by first | (simp; done) | (simp; omega)) _ | refine Ext.drewN ?_ _ | refine Ext.alloc ?_ _ | refine Ext.drew ?_ | refine Ext.trans ?_ (by assumption)))⟩
end Go.Proofs.Ytinohfgokpbcdaa
