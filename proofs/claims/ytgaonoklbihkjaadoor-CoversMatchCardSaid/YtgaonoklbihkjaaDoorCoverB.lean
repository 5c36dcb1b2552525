/- Contract: plant.Cover. -/
import Derived.Test.YtgaonoklbihkjaaDoorCoverQ
import Derived.Deep.DeepCutAuto
namespace Go.Proofs.YtgaonoklbihkjaaDoor
open Go.RowKit
attribute [local go_sem ↓] Go.wp_at_zero Go.wp_at_succ
attribute [local go_sem] run_store_float

theorem FD.far {w : World} {hf gv N : Nat} {X Y W H : Int} {g : Nat → Nat} (h : FD w hf gv N X Y W H g) {hq : Nat} (h1 : hf ≠ hq) (h2 : gv ≠ hq) (i : Nat) (v : Value) : FD (w.setCell ⟨hq, i, none⟩ v) hf gv N X Y W H g := ⟨h.fb.far h1 _, h.vb.far h2 _⟩

set_option maxRecDepth 100000 in
set_option maxHeartbeats 6400000 in
theorem Cover_ok (X Y : Int) (Wn Hn : Nat) (hr : Reg X Y Wn Hn) (A : Option Addr) (n c : Nat) (l : List KindR) (B : Option Addr) (m d : Nat) (p : List PlantR) (w : World) (hn : l.length = n) (hd : Rd w A (kcells l)) (hb : n ≤ 4000000000000) (hc : n ≤ c) (hsz : ∀ x ∈ l, x.s.size ≤ 9223372036854775807) (hm : p.length = m) (hp : Rd w B (pcells p)) (hbm : m ≤ 4000000000000) (h0 : covE X Y Wn Hn l p = 0) (hp0 : plantsE l p = 0) :
    Calls Tryd.prog 18 #[.agg #[.int .i64 X, .int .i64 Y, .int .i64 (Wn : Int), .int .i64 (Hn : Int)], .slice A n c, .slice B m d] w fun e w' => ∃ gv, e = .returned (.tuple #[.agg #[.int .i64 X, .int .i64 Y, .int .i64 (Wn : Int), .int .i64 (Hn : Int), .slice (some ⟨gv, 0, none⟩) (Wn * Hn) (Wn * Hn)], .int .i64 0]) ∧ Bk w' gv 24 (flo (Wn * Hn) (covF X Y Wn l p m)) ∧ w.heap.size ≤ gv ∧ Ext w w' := by
  have HC := fun (w : World) (hd : Rd w A (kcells l)) (hp : Rd w B (pcells p)) => hidA (checkRegionP_any X Y Wn Hn A n c l B m d p w hn hd hb hc hsz hm hp hbm)
  rw [h0] at HC
  obtain ⟨N, hN⟩ : ∃ N, N = Wn * Hn := ⟨_, rfl⟩
  have hN6 : N ≤ 65536 := by rw [hN]; exact hr.n
  have hmk := mk_flo N (by omega)
  have W1 : wrap64 ((Wn : Int) * (Hn : Int)) = (N : Int) := by rw [← Int.natCast_mul, ← hN]; exact IntWalk.wrap64_in _ ⟨by omega, by omega⟩
  have W1' : IntKind.i64.wrap ((Wn : Int) * (Hn : Int)) = (N : Int) := by rw [← Int.natCast_mul, ← hN]; exact IntWalk.i64_in _ (by omega)
  rw [← hN]
  have HN := hidA hN
  have Hm := hidA hm
  have Hn' := hidA hn
  have Hr := hidA hr
  have HP0 := hidA hp0
  clear h0 hsz hn hm hr hp0 hN
  go_enter Tryd.func18, Tryd.ntmps18
  go_wp2_with fail
  refine ((HC _ ((hd.alloc _).alloc _) ((hp.alloc _).alloc _)).out).mono ?_
  rintro e w1 ⟨rfl, hb1⟩
  have kR : Bk w1 w.heap.size 52 #[.int .i64 X, .int .i64 Y, .int .i64 (Wn : Int), .int .i64 (Hn : Int)] := ((Bk.new' rfl).alloc _).ext hb1
  have kF : Bk w1 (w.heap.size + 1) 55 #[.int .i64 0, .int .i64 0, .int .i64 0, .int .i64 0, .slice none 0 0] := (Bk.new' (by simp)).ext hb1
  have hx1 : Ext w w1 := (((Ext.refl w).alloc _).alloc _).trans hb1
  clear HC hb1
  have hz := kF.lt
  have e0 : ∀ w', Ext w1 w' → w'.cell? ⟨w.heap.size, 0, none⟩ = some (.int .i64 X) := fun w' h => (kR.ext h).cell 0
  have e1 : ∀ w', Ext w1 w' → w'.cell? ⟨w.heap.size, 1, none⟩ = some (.int .i64 Y) := fun w' h => (kR.ext h).cell 1
  have e2 : ∀ w', Ext w1 w' → w'.cell? ⟨w.heap.size, 2, none⟩ = some (.int .i64 (Wn : Int)) := fun w' h => (kR.ext h).cell 2
  have e3 : ∀ w', Ext w1 w' → w'.cell? ⟨w.heap.size, 3, none⟩ = some (.int .i64 (Hn : Int)) := fun w' h => (kR.ext h).cell 3
  go_upto_region 4 with fail
  go_cut [9] (fun s9 wx => ∃ hf gv : Nat, s9 = Value.pointer (some ⟨hf, 0, none⟩) ∧ FD wx hf gv N X Y Wn Hn (fun _ => 0) ∧ w1.heap.size ≤ hf ∧ w1.heap.size ≤ gv ∧ Ext w1 wx)
  case first =>
    refine wp_region_noPanic ?_
    refine wp_region_held_drew (S := fun w' => Ext w1 w') (by kernel_rfl) ?_ (fun hHeld => ?_)
    · (repeat (first | exact Ext.refl _ | assumption | refine Ext.setCell ?_ (by first | (simp; done) | (simp; omega)) _ | refine Ext.drewN ?_ _ | refine Ext.alloc ?_ _ | refine Ext.drew ?_ | refine Ext.trans ?_ (by assumption)))
    refine wpAnyH_take (i := 0) (oi := ?o2x0) (v := ?v2x0) ?hi2x0 (by kernel_rfl) ?hf2x0 ?hr2x0 (fun _ _ _ h => h) ?hy2x0 (by assumption) ?rest2x0
    case hi2x0 => (simp only [List.getElem?_toArray, List.getElem?_cons_zero]; exact rfl)
    case hf2x0 => kernel_rfl
    case hr2x0 => kernel_rfl
    case hy2x0 => (refine Or.inl ⟨by rfl, ?_⟩; intro w hSw; (try dsimp only at hSw); go_simp; try with_reducible rfl)
    simp only [put_mk, List.set_cons_succ, List.set_cons_zero]
    refine wpAnyH_take (i := 1) (oi := ?o3x1) (v := ?v3x1) ?hi3x1 (by kernel_rfl) ?hf3x1 ?hr3x1 (fun _ _ _ h => h) ?hy3x1 (by assumption) ?rest3x1
    case hi3x1 => (simp only [List.getElem?_toArray, List.getElem?_cons_succ, List.getElem?_cons_zero]; exact rfl)
    case hf3x1 => kernel_rfl
    case hr3x1 => kernel_rfl
    case hy3x1 => (refine Or.inl ⟨by rfl, ?_⟩; intro w hSw; (try dsimp only at hSw); go_simp; try with_reducible rfl)
    simp only [put_mk, List.set_cons_succ, List.set_cons_zero]
    refine wpAnyH_take (i := 2) (oi := ?o4x2) (v := ?v4x2) ?hi4x2 (by kernel_rfl) ?hf4x2 ?hr4x2 (fun _ _ _ h => h) ?hy4x2 (by assumption) ?rest4x2
    case hi4x2 => (simp only [List.getElem?_toArray, List.getElem?_cons_succ, List.getElem?_cons_zero]; exact rfl)
    case hf4x2 => kernel_rfl
    case hr4x2 => kernel_rfl
    case hy4x2 => (refine Or.inl ⟨by rfl, ?_⟩; intro w hSw; (try dsimp only at hSw); go_simp; try with_reducible rfl)
    simp only [put_mk, List.set_cons_succ, List.set_cons_zero]
    refine wpAnyH_take (i := 3) (oi := ?o5x3) (v := ?v5x3) ?hi5x3 (by kernel_rfl) ?hf5x3 ?hr5x3 (fun _ _ _ h => h) ?hy5x3 (by assumption) ?rest5x3
    case hi5x3 => (simp only [List.getElem?_toArray, List.getElem?_cons_succ, List.getElem?_cons_zero]; exact rfl)
    case hf5x3 => kernel_rfl
    case hr5x3 => kernel_rfl
    case hy5x3 => (refine Or.inl ⟨by rfl, ?_⟩; intro w hSw; (try dsimp only at hSw); go_simp; try with_reducible rfl)
    simp only [put_mk, List.set_cons_succ, List.set_cons_zero]
    refine wpAnyH_take (i := 4) (oi := ?o6x4) (v := ?v6x4) ?hi6x4 (by kernel_rfl) ?hf6x4 ?hr6x4 (fun _ _ _ h => h) ?hy6x4 (by assumption) ?rest6x4
    case hi6x4 => (simp only [List.getElem?_toArray, List.getElem?_cons_succ, List.getElem?_cons_zero]; exact rfl)
    case hf6x4 => kernel_rfl
    case hr6x4 => kernel_rfl
    case hy6x4 => (refine Or.inl ⟨by rfl, ?_⟩; intro w hSw; (try dsimp only at hSw); go_simp; try with_reducible rfl)
    simp only [put_mk, List.set_cons_succ, List.set_cons_zero]
    refine wpAnyH_take (i := 5) (oi := ?o7x5) (v := ?v7x5) ?hi7x5 (by kernel_rfl) ?hf7x5 ?hr7x5 (fun _ _ _ h => h) ?hy7x5 (by assumption) ?rest7x5
    case hi7x5 => (simp only [List.getElem?_toArray, List.getElem?_cons_succ, List.getElem?_cons_zero]; exact rfl)
    case hf7x5 => kernel_rfl
    case hr7x5 => kernel_rfl
    case hy7x5 => (refine Or.inl ⟨by rfl, ?_⟩; intro w hSw; (try dsimp only at hSw); go_simp; try with_reducible rfl)
    simp only [put_mk, List.set_cons_succ, List.set_cons_zero]
    refine wpAnyH_ready (rs := [6, 8]) (by kernel_rfl) (by simp) ?_
    refine (AllReadyH.cons (o := ?o8x6) ?hi8x6 (fun K hK => ?_) (AllReadyH.cons (o := ?o8x8) ?hi8x8 (fun K hK => ?_) AllReadyH.nil))
    case hi8x6 => (simp only [List.getElem?_toArray, List.getElem?_cons_succ, List.getElem?_cons_zero]; exact rfl)
    case hi8x8 => (simp only [List.getElem?_toArray, List.getElem?_cons_succ, List.getElem?_cons_zero]; exact rfl)
    · go_simp
      refine hK.out _ _ ?_ (fun hHeld => ?_)
      · (repeat (first | exact Ext.refl _ | assumption | refine Ext.setCell ?_ (by first | (simp; done) | (simp; omega)) _ | refine Ext.drewN ?_ _ | refine Ext.alloc ?_ _ | refine Ext.drew ?_ | refine Ext.trans ?_ (by assumption)))
      clear hK K
      refine wpAnyH_take (i := 7) (oi := ?o9x7) (v := ?v9x7) ?hi9x7 (by kernel_rfl) ?hf9x7 ?hr9x7 (fun _ _ _ h => h) ?hy9x7 (by assumption) ?rest9x7
      case hi9x7 => (simp only [List.getElem?_toArray, List.getElem?_cons_succ, List.getElem?_cons_zero]; exact rfl)
      case hf9x7 => kernel_rfl
      case hr9x7 => kernel_rfl
      case hy9x7 => (refine Or.inl ⟨by rfl, ?_⟩; intro w hSw; (try dsimp only at hSw); go_simp; try with_reducible rfl)
      simp only [put_mk, List.set_cons_succ, List.set_cons_zero]
      refine wpAnyH_ready (rs := [8]) (by kernel_rfl) (by simp) ?_
      refine AllReadyH.cons (o := ?o10x8) ?hi10x8 (fun K hK => ?_) AllReadyH.nil
      case hi10x8 => (simp only [List.getElem?_toArray, List.getElem?_cons_succ, List.getElem?_cons_zero]; exact rfl)
      go_simp
      refine hK.out _ _ ?_ (fun hHeld => ?_)
      · (repeat (first | exact Ext.refl _ | assumption | refine Ext.setCell ?_ (by first | (simp; done) | (simp; omega)) _ | refine Ext.drewN ?_ _ | refine Ext.alloc ?_ _ | refine Ext.drew ?_ | refine Ext.trans ?_ (by assumption)))
      clear hK K
      refine wpAnyH_ready (rs := [9]) (by kernel_rfl) (by simp) ?_
      refine AllReadyH.cons (o := ?o11x9) ?hi11x9 (fun K hK => ?_) AllReadyH.nil
      case hi11x9 => (simp only [List.getElem?_toArray, List.getElem?_cons_succ, List.getElem?_cons_zero]; exact rfl)
      go_simp
      refine hK.out _ _ ?_ (fun hHeld => ?_)
      · (repeat (first | exact Ext.refl _ | assumption | refine Ext.setCell ?_ (by first | (simp; done) | (simp; omega)) _ | refine Ext.drewN ?_ _ | refine Ext.alloc ?_ _ | refine Ext.drew ?_ | refine Ext.trans ?_ (by assumption)))
      clear hK K
      refine wpAnyH_done (by kernel_rfl) ?_ _
      refine NoPanic.normal ?_
      go_wp2_with fail
      go_meet
      case rel => exact ⟨w1.heap.size + 1, w1.heap.size, rfl, ⟨Bk.drew (Bk.new' (by simp)), Bk.drew (Bk.alloc (Bk.new' rfl) _)⟩, by omega, by omega, (by repeat (first | exact Ext.refl _ | assumption | refine Ext.setCell ?_ (by first | (simp; done) | (simp; omega)) _ | refine Ext.drewN ?_ _ | refine Ext.alloc ?_ _ | refine Ext.drew ?_ | refine Ext.trans ?_ (by assumption)))⟩
    · go_simp
      refine hK.out _ _ ?_ (fun hHeld => ?_)
      · (repeat (first | exact Ext.refl _ | assumption | refine Ext.setCell ?_ (by first | (simp; done) | (simp; omega)) _ | refine Ext.drewN ?_ _ | refine Ext.alloc ?_ _ | refine Ext.drew ?_ | refine Ext.trans ?_ (by assumption)))
      clear hK K
      refine wpAnyH_ready (rs := [6]) (by kernel_rfl) (by simp) ?_
      refine AllReadyH.cons (o := ?o12x6) ?hi12x6 (fun K hK => ?_) AllReadyH.nil
      case hi12x6 => (simp only [List.getElem?_toArray, List.getElem?_cons_succ, List.getElem?_cons_zero]; exact rfl)
      go_simp
      refine hK.out _ _ ?_ (fun hHeld => ?_)
      · (repeat (first | exact Ext.refl _ | assumption | refine Ext.setCell ?_ (by first | (simp; done) | (simp; omega)) _ | refine Ext.drewN ?_ _ | refine Ext.alloc ?_ _ | refine Ext.drew ?_ | refine Ext.trans ?_ (by assumption)))
      clear hK K
      refine wpAnyH_take (i := 7) (oi := ?o13x7) (v := ?v13x7) ?hi13x7 (by kernel_rfl) ?hf13x7 ?hr13x7 (fun _ _ _ h => h) ?hy13x7 (by assumption) ?rest13x7
      case hi13x7 => (simp only [List.getElem?_toArray, List.getElem?_cons_succ, List.getElem?_cons_zero]; exact rfl)
      case hf13x7 => kernel_rfl
      case hr13x7 => kernel_rfl
      case hy13x7 => (refine Or.inl ⟨by rfl, ?_⟩; intro w hSw; (try dsimp only at hSw); go_simp; try with_reducible rfl)
      simp only [put_mk, List.set_cons_succ, List.set_cons_zero]
      refine wpAnyH_ready (rs := [9]) (by kernel_rfl) (by simp) ?_
      refine AllReadyH.cons (o := ?o14x9) ?hi14x9 (fun K hK => ?_) AllReadyH.nil
      case hi14x9 => (simp only [List.getElem?_toArray, List.getElem?_cons_succ, List.getElem?_cons_zero]; exact rfl)
      go_simp
      refine hK.out _ _ ?_ (fun hHeld => ?_)
      · (repeat (first | exact Ext.refl _ | assumption | refine Ext.setCell ?_ (by first | (simp; done) | (simp; omega)) _ | refine Ext.drewN ?_ _ | refine Ext.alloc ?_ _ | refine Ext.drew ?_ | refine Ext.trans ?_ (by assumption)))
      clear hK K
      refine wpAnyH_done (by kernel_rfl) ?_ _
      refine NoPanic.normal ?_
      go_wp2_with fail
      go_meet
      case rel => exact ⟨w1.heap.size, w1.heap.size + 1, rfl, ⟨Bk.drew (Bk.alloc (Bk.new' rfl) _), Bk.drew (Bk.new' (by simp))⟩, by omega, by omega, (by repeat (first | exact Ext.refl _ | assumption | refine Ext.setCell ?_ (by first | (simp; done) | (simp; omega)) _ | refine Ext.drewN ?_ _ | refine Ext.alloc ?_ _ | refine Ext.drew ?_ | refine Ext.trans ?_ (by assumption)))⟩
  case rest =>
    obtain ⟨hf, gv, rfl, hF, hhf, hgv, hx2⟩ := hcut
    have hF0 : ∀ k, k < N → (fun _ => 0 : Nat → Nat) k = covF X Y Wn l p 0 k := fun k _ => rfl
    have HF0 := hidA hF0
    clear hF0
    have hd2 := hd.ext (hx1.trans hx2)
    have hp2 := hp.ext (hx1.trans hx2)
    go_wp2_with fail
    go_loopw [32] (fun s wr => ∃ (j : Nat) (g : Nat → Nat), j ≤ m ∧ s = .int .i64 j ∧ FD wr hf gv N X Y Wn Hn g ∧ (∀ k, k < N → g k = covF X Y Wn l p j k) ∧ Ext w1 wr) (fun s _ => m - (intOf s).toNat)
    case atStart => exact ⟨0, _, Nat.zero_le _, rfl, hF, HF0.out, hx2⟩
    case round =>
      clear hF HF0 hx2 hd2 hp2
      obtain ⟨j, g, hj, rfl, hF, hco, hx⟩ := hrel
      have Hco := hidA hco
      clear hco
      by_cases hjm : j < m
      · have hjl : j < p.length := by have := Hm.out; omega
        have po := plOk HP0.out hjl
        obtain ⟨ia, hia, hka, hsr, htp⟩ := po.idx
        have hdw := (hd.ext hx1).ext hx
        have hpw := (hp.ext hx1).ext hx
        obtain ⟨ad, rfl, hbk, _⟩ := hp.at (k := j) (by rw [pcells_length]; omega)
        obtain ⟨ak, rfl, hkb, _⟩ := hd.at (k := ia) (by rw [kcells_length]; omega)
        obtain ⟨d0, d1, d2, d3, d4⟩ := hpw.plant hjl
        have htc := hdw.top hia
        have ex := plK_at hjl
        rw [htp, ex] at htc
        rw [ex] at hka
        have hgvl := hF.vb.lt
        have HSp0 := fun (q : Nat) (hq20 : Bd 20 q) (hq : Nat) (hne : hq ≠ gv) (w' : World) (hg1 : gv < w'.heap.size) (hdw : Rd w' (some ak) (kcells l)) (hQ : Bk w' hq 24 #[.float .f32 q]) (hFw : FD w' hf gv N X Y Wn Hn g) =>
          hidA (spread_any X Y Wn Hn Hr.out (some ak) n c l (plK p j) ia (rJ l p j) Hn'.out hia (by rw [ex]; exact hka) hsr po.r1 po.r2 po.far 43 (fun _ _ => by kernel_rfl) #[.pointer (some ⟨hq, 0, none⟩), .pointer (some ⟨hf, 0, none⟩)] w' gv hg1 hdw (fun g1 w1 => FD w1 hf gv N X Y Wn Hn g1 ∧ Bk w1 hq 24 #[.float .f32 q]) (fun k old => covS (fmul q (partF (rJ l p j) (dJ X Y Wn p j k))) old) g ⟨hFw, hQ⟩ (fun g1 w1 w2 h hx => ⟨h.1.step hx, h.2.ext hx⟩)
            (fun g1 k w1 hk hnr hS => cover1_any w1 hf gv hq N X Y Wn Hn g1 hS.1 q hS.2 hne k (by rw [HN.out]; exact hk) _ (wgt_ok hq20 (of_decide_eq_true hnr) (by have := po.r2; omega)).2.2.1))
        have hsz0 := po.quo
        have hq0 := po.q
        have hqd : qJ l p j = if gt (topOf l (plK p j).kind) 0 = true then fdiv (plK p j).size (topOf l (plK p j).kind) else 0 := rfl
        rw [ex] at hsz0 hqd HSp0
        obtain ⟨kd, px, py, sz, ag, hpx⟩ : ∃ kd px py sz ag, p[j] = PlantR.mk kd px py sz ag := ⟨_, _, _, _, _, rfl⟩
        rw [hpx] at d0 d1 d2 d3 d4 htc hka hsz0 hqd HSp0
        dsimp only [PlantR.v] at d0 d1 d2 d3 d4 htc hka hsz0 hqd HSp0
        have Hpx := hidA (ex.trans hpx)
        subst hka
        clear hpx ex
        generalize topOf l ((ia : Nat) : Int) = tp at *
        have i0 : (0 : Int) ≤ ia := by omega
        have i1 : (ia : Int) < n := by have := Hn'.out; omega
        have j0 : (0 : Int) ≤ j := by omega
        have j1 : (j : Int) < m := by omega
        obtain ⟨w5, hw5⟩ : ∃ w5, w5 = (wr.alloc (.cells #[.int .i64 (ia : Int), .int .i64 px, .int .i64 py, .float .f32 sz, .int .i64 ag] 46)).alloc (.cells #[.float .f32 0] 24) := ⟨_, rfl⟩
        go_upto_region 9 with fail
        rw [← hw5]
        have hX5 : Bk w5 wr.heap.size 46 #[.int .i64 (ia : Int), .int .i64 px, .int .i64 py, .float .f32 sz, .int .i64 ag] := by rw [hw5]; exact (Bk.new' rfl).alloc _
        have hQ5 : Bk w5 (wr.heap.size + 1) 24 #[.float .f32 0] := by rw [hw5]; exact Bk.new' (by simp)
        have hq5 : Ext wr w5 := by rw [hw5]; exact ((Ext.refl wr).alloc _).alloc _
        have hF5 := hF.step hq5
        have hx5 := hx.trans hq5
        have htc5 := cell_ext2 htc hq5
        have hfl := hF.fb.lt
        have hxl := hx.size
        have c0 := hX5.cell 0
        have c1 := hX5.cell 1
        have c2 := hX5.cell 2
        have c3 := hX5.cell 3
        have c4 := hX5.cell 4
        have q0 := hQ5.cell 0
        have q1 := hQ5.frozen 0
        have e0 := e0 w5 hx5
        have e1 := e1 w5 hx5
        have e2 := e2 w5 hx5
        have e3 := e3 w5 hx5
        have hRl : w.heap.size < wr.heap.size := by omega
        clear hw5 htc d0 d1 d2 d3 d4 hq5 hdw hpw hF hx
        generalize wr.heap.size = hx0 at *
        by_cases hg : gt tp 0 = true
        · have C1 : (FloatKind.f32.format.order tp 0 == some .gt) = true := hg
          rw [if_pos hg] at hqd
          rw [hqd] at hq0
          have hqq := hsz0 hg
          have r1 := fun (w : World) => run_float_arith (P := Tryd.prog) w .quo 24 .f32 _ _ _ hqq
          have HSp := fun (w' : World) h1 h2 h3 h4 => HSp0 (fdiv sz tp) hq0 (hx0 + 1) (by omega) w' h1 h2 h3 h4
          rw [← hqd] at HSp r1
          clear HSp0 hq0 hqq hg hsz0 hqd
          have Hqq : Hid (qJ l p j = qJ l p j) := rfl
          generalize hqv : qJ l p j = q at HSp r1
          have Hqv := hidA hqv
          clear hqv Hqq
          go_wp2_with fail
          refine ((HSp _ ?_ ?_ ?_ ?_).out).mono ?_
          · have := hF5.vb.lt; simp; omega
          · exact (hd.ext hx1).ext (by repeat (first | exact Ext.refl _ | assumption | refine Ext.setCell ?_ (by first | (simp; done) | (simp; omega)) _ | refine Ext.drewN ?_ _ | refine Ext.alloc ?_ _ | refine Ext.drew ?_ | refine Ext.trans ?_ (by assumption)))
          · exact hQ5.set 0 _
          · exact hF5.far (by omega) (by omega) _ _
          rintro e w6 ⟨rfl, hg6, g2, ⟨hF6, _⟩, hg2⟩
          have hx6 : Ext w1 w6 := Ext.grown (by repeat (first | exact Ext.refl _ | assumption | refine Ext.setCell ?_ (by first | (simp; done) | (simp; omega)) _ | refine Ext.drewN ?_ _ | refine Ext.alloc ?_ _ | refine Ext.drew ?_ | refine Ext.trans ?_ (by assumption))) hg6 (fun k he => by injection he with he; omega)
          have hco2 : ∀ k, k < N → g2 k = covF X Y Wn l p (j + 1) k := fun k hk => by
            rw [hg2 k (by rw [← HN.out]; exact hk), Hco.out k hk]
            rw [← Hqv.out, ← Hpx.out]; rfl
          have Hco2 := hidA hco2
          clear hg2 hco2 hg6 hF5 HSp
          go_wp2_with fail
          go_roundw
          case rel => exact ⟨j + 1, g2, by omega, congrArg (Value.int .i64) (by omega), hF6, Hco2.out, hx6⟩
          case measure => simp [intOf]; omega
        · have C1 : (FloatKind.f32.format.order tp 0 == some .gt) = false := Bool.eq_false_iff.2 hg
          rw [if_neg hg] at hqd
          rw [hqd] at hq0
          have HSp := fun (w' : World) h1 h2 h3 h4 => HSp0 0 hq0 (hx0 + 1) (by omega) w' h1 h2 h3 h4
          have Hqv := hidA hqd
          clear HSp0 hq0 hg hsz0 hqd
          go_wp2_with fail
          refine ((HSp _ ?_ ?_ ?_ ?_).out).mono ?_
          · have := hF5.vb.lt; simp; omega
          · exact (hd.ext hx1).ext (by repeat (first | exact Ext.refl _ | assumption | refine Ext.setCell ?_ (by first | (simp; done) | (simp; omega)) _ | refine Ext.drewN ?_ _ | refine Ext.alloc ?_ _ | refine Ext.drew ?_ | refine Ext.trans ?_ (by assumption)))
          · exact hQ5
          · exact hF5
          rintro e w6 ⟨rfl, hg6, g2, ⟨hF6, _⟩, hg2⟩
          have hx6 : Ext w1 w6 := Ext.grown (by repeat (first | exact Ext.refl _ | assumption | refine Ext.setCell ?_ (by first | (simp; done) | (simp; omega)) _ | refine Ext.drewN ?_ _ | refine Ext.alloc ?_ _ | refine Ext.drew ?_ | refine Ext.trans ?_ (by assumption))) hg6 (fun k he => by injection he with he; omega)
          have hco2 : ∀ k, k < N → g2 k = covF X Y Wn l p (j + 1) k := fun k hk => by
            rw [hg2 k (by rw [← HN.out]; exact hk), Hco.out k hk]
            rw [← Hqv.out, ← Hpx.out]; rfl
          have Hco2 := hidA hco2
          clear hg2 hco2 hg6 hF5 HSp
          go_wp2_with fail
          go_roundw
          case rel => exact ⟨j + 1, g2, by omega, congrArg (Value.int .i64) (by omega), hF6, Hco2.out, hx6⟩
          case measure => simp [intOf]; omega
      · obtain rfl : m = j := by omega
        have c0 := hF.fb.cell 0
        have c1 := hF.fb.cell 1
        have c2 := hF.fb.cell 2
        have c3 := hF.fb.cell 3
        have c4 := hF.fb.cell 4
        have kF2 := kF.ext hx
        have b0 := kF2.cell 0
        have b1 := kF2.cell 1
        have b2 := kF2.cell 2
        have b3 := kF2.cell 3
        have b4 := kF2.cell 4
        have f0 := kF2.frozen 0
        have f1 := kF2.frozen 1
        have f2 := kF2.frozen 2
        have f3 := kF2.frozen 3
        have f4 := kF2.frozen 4
        have hne : hf ≠ w.heap.size + 1 := by omega
        go_wp2_with fail
        have hvb : Bk (((((wr.setCell ⟨w.heap.size + 1, 0, none⟩ (.int .i64 X)).setCell ⟨w.heap.size + 1, 1, none⟩ (.int .i64 Y)).setCell ⟨w.heap.size + 1, 2, none⟩ (.int .i64 (Wn : Int))).setCell ⟨w.heap.size + 1, 3, none⟩ (.int .i64 (Hn : Int))).setCell ⟨w.heap.size + 1, 4, none⟩ (.slice (some ⟨gv, 0, none⟩) N N)) gv 24 (flo N g) := by
          repeat (refine Bk.far ?_ (by show gv ≠ w.heap.size + 1; omega) _)
          exact hF.vb
        have hfin : Ext w (((((wr.setCell ⟨w.heap.size + 1, 0, none⟩ (.int .i64 X)).setCell ⟨w.heap.size + 1, 1, none⟩ (.int .i64 Y)).setCell ⟨w.heap.size + 1, 2, none⟩ (.int .i64 (Wn : Int))).setCell ⟨w.heap.size + 1, 3, none⟩ (.int .i64 (Hn : Int))).setCell ⟨w.heap.size + 1, 4, none⟩ (.slice (some ⟨gv, 0, none⟩) N N)) := by
          repeat (refine Ext.setCell ?_ (by show w.heap.size ≤ w.heap.size + 1; omega) _)
          exact hx1.trans hx
        have hBf : Bk (((((wr.setCell ⟨w.heap.size + 1, 0, none⟩ (.int .i64 X)).setCell ⟨w.heap.size + 1, 1, none⟩ (.int .i64 Y)).setCell ⟨w.heap.size + 1, 2, none⟩ (.int .i64 (Wn : Int))).setCell ⟨w.heap.size + 1, 3, none⟩ (.int .i64 (Hn : Int))).setCell ⟨w.heap.size + 1, 4, none⟩ (.slice (some ⟨gv, 0, none⟩) N N)) (w.heap.size + 1) 55 #[.int .i64 X, .int .i64 Y, .int .i64 (Wn : Int), .int .i64 (Hn : Int), .slice (some ⟨gv, 0, none⟩) N N] := by
          simpa using ((((kF2.set 0 (.int .i64 X)).set 1 (.int .i64 Y)).set 2 (.int .i64 (Wn : Int))).set 3 (.int .i64 (Hn : Int))).set 4 (.slice (some ⟨gv, 0, none⟩) N N)
        have q0 := hBf.cell 0
        have q1 := hBf.cell 1
        have q2 := hBf.cell 2
        have q3 := hBf.cell 3
        have q4 := hBf.cell 4
        have hfl : flo N g = flo N (covF X Y Wn l p m) := flo_congr Hco.out
        rw [hfl] at hvb
        refine bodyPost_ret (v := .tuple #[.agg #[.int .i64 X, .int .i64 Y, .int .i64 (Wn : Int), .int .i64 (Hn : Int), .slice (some ⟨gv, 0, none⟩) N N], .int .i64 0]) (by simp [results, Tryd.results18, go_sem, q0, q1, q2, q3, q4]) rfl ⟨gv, rfl, hvb, by have := hx1.size; omega, hfin⟩
end Go.Proofs.YtgaonoklbihkjaaDoor
