/- Contract: level.Horizon of a right question. -/
import Derived.Test.YtjfipkccbapajaaHorC
import Derived.Deep.DeepCutAuto
import Derived.BigRegion
import Derived.BigQuiet
namespace Go.Proofs.Ytjfipkccbapajaa
open Go.RowKit
attribute [local go_sem ↓] Go.wp_at_zero Go.wp_at_succ

theorem longB_any (d : Int) (w : World) (h0 : 0 ≤ d) (h : d < 8) :
    Calls Try.prog 132 #[.int .i64 d] w fun e w' => e = .returned (.float .f32 (longB d)) ∧ w' = w := long_any d w h0 h
theorem hor_first {X Y W : Int} {l : List Nat} {ax ay d : Int} {p j : Nat} (hj : j = 0 + 1) : horF X Y W l ax ay d p (0 + 1) = riseF X Y W l ax ay d p j := by
  subst hj
  rfl
theorem hor_more {X Y W : Int} {l : List Nat} {ax ay d : Int} {p k j : Nat} (hj : j = k + 1) (hk : k ≠ 0) (h : (ord (riseF X Y W l ax ay d p j) (horF X Y W l ax ay d p k) == some .gt) = true) : horF X Y W l ax ay d p (k + 1) = riseF X Y W l ax ay d p j := by
  subst hj
  show (if k = 0 then _ else _) = _
  rw [if_neg hk, if_pos h]
theorem hor_less {X Y W : Int} {l : List Nat} {ax ay d : Int} {p k j : Nat} (hj : j = k + 1) (hk : k ≠ 0) (h : ¬ (ord (riseF X Y W l ax ay d p j) (horF X Y W l ax ay d p k) == some .gt) = true) : horF X Y W l ax ay d p (k + 1) = horF X Y W l ax ay d p k := by
  subst hj
  show (if k = 0 then _ else _) = _
  rw [if_neg hk, if_neg h]

set_option maxRecDepth 100000 in
set_option maxHeartbeats 3200000 in
theorem Horizon_ok (X Y W H ax ay dir : Int) (A : Option Addr) (n c eye K : Nat) (l : List Nat) (w : World) (hn : l.length = n) (hd : Rd w A (flt l)) (hs : sightE X Y W H l eye [(ax, ay)] = 0) (h0 : 0 ≤ dir) (h7 : dir ≤ 7)
    (hK : K < 512) (hin : ∀ j, 0 < j → j ≤ K → InR X Y W H (cellAt ax ay dir j).1 (cellAt ax ay dir j).2) (hout : ¬ InR X Y W H (cellAt ax ay dir (K + 1)).1 (cellAt ax ay dir (K + 1)).2) :
    Calls Try.prog 64 #[.agg #[.int .i64 X, .int .i64 Y, .int .i64 W, .int .i64 H, .slice A n c], .agg #[.int .i64 ax, .int .i64 ay], .float .f32 eye, .int .i64 dir] w fun e w' =>
      e = .returned (.tuple #[.float .f32 (horF X Y W l ax ay dir (fadd (valAt X Y W l (ax, ay)) eye) K), .bool (decide (0 < K)), .int .i64 0]) ∧ Ext w w' := by
  obtain ⟨f1, f2, f3, f4⟩ := sight_zero hs
  obtain ⟨g1, g2, g3⟩ := fieldE_parts f1
  have hr := RegOk.of_zero g1
  have hia : InR X Y W H ax ay := ins_zero f4 (ax, ay) (by simp)
  have hhl := (numE_zero g3).2
  have hhe := (numE_zero f2).2 eye (by simp)
  have hb : n ≤ 65536 := by
    have := (regE_zero g1).2.2.2.2.1
    omega
  have hnw : (n : Int) = W * H := by rw [← hn]; exact g2
  obtain ⟨ka, hka, hkal, hkav⟩ := valAt_get (l := l) hr hia (by rw [hn]; exact hnw)
  obtain ⟨ad, rfl, _, _⟩ := hd.at (k := ka) (by simpa using hkal)
  clear hka hkal hkav
  have hv : ∀ x y, InR X Y W H x y → Bd 20 (valAt X Y W l (x, y)) := fun x y h => by
    obtain ⟨k, _, hk, hv⟩ := valAt_get hr h (by rw [hn]; exact hnw)
    exact hgt_bd (hhl _ (List.mem_of_getElem? hv))
  have P1 := fadd_ok (hv _ _ hia) (hgt_bd hhe) (by omega)
  have Q1 := fun (w : World) => run_float_arith (P := Try.prog) w .add 71 .f32 _ _ _ P1.1
  have HR := fun (j : Nat) (hj0 : 0 < j) (hjK : j ≤ K) => hidA (rise_ok (X := X) (Y := Y) (W := W) (l := l) (ax := ax) (ay := ay) (d := dir) (p := fadd (valAt X Y W l (ax, ay)) eye) (n := j) hj0 (by omega) (hv _ _ (hin j hj0 hjK)) P1.2)
  have HC := fun (j : Nat) (hj0 : 0 < j) (hjK : j ≤ K) => hidA (hin j hj0 hjK)
  have HO := hidA hout
  have HM := fun (j : Nat) (hj0 : 0 < j) (hjK : j ≤ 600) => hidA (reach_ok (d := dir) hj0 hjK)
  have Hr := hidA hr
  have Ha := hidA hia
  have bd : (-4194304 ≤ ax ∧ ax ≤ 4194304) ∧ (-4194304 ≤ ay ∧ ay ≤ 4194304) := by
    unfold RegOk at hr
    unfold InR at hia
    omega
  obtain ⟨bd1, bd2⟩ := bd
  have sb := step_bd dir
  have Hs := hidA hs
  have Hn := hidA hn
  have Hnw := hidA hnw
  clear hs f1 f2 f3 f4 g1 g2 g3 hr hia hhl hhe hnw hn hv P1 hin hout
  generalize hpe : fadd (valAt X Y W l (ax, ay)) eye = p at *
  clear hpe
  go_enter Try.func64, Try.ntmps64
  go_wp2_with fail
  refine (checkSight_any X Y W H (some ad) _ n c 1 1 eye l [(ax, ay)] _ Hn.out (((hd.alloc _).alloc _).alloc _) (by omega) rfl (Rd.new (by simp) rfl) (by omega)).mono ?_
  rw [Hs.out]
  rintro e w1 ⟨rfl, hb1⟩
  have hB0 : Bk w1 w.heap.size 48 #[.int .i64 X, .int .i64 Y, .int .i64 W, .int .i64 H, .slice (some ad) n c] := (((Bk.new' rfl).alloc _).alloc _).ext hb1
  have hB1 : Bk w1 (w.heap.size + 1) 31 #[.int .i64 ax, .int .i64 ay] := ((Bk.new' (by simp)).alloc _).ext hb1
  have hd1 := (((hd.alloc _).alloc _).alloc _).ext hb1
  have hx1 : Ext w w1 := ((((Ext.refl w).alloc _).alloc _).alloc _).trans hb1
  have s0 : ∀ w', Ext w1 w' → w'.cell? ⟨w.heap.size, 0, none⟩ = some (.int .i64 X) := fun w' h => (hB0.ext h).cell 0
  have s1 : ∀ w', Ext w1 w' → w'.cell? ⟨w.heap.size, 1, none⟩ = some (.int .i64 Y) := fun w' h => (hB0.ext h).cell 1
  have s2 : ∀ w', Ext w1 w' → w'.cell? ⟨w.heap.size, 2, none⟩ = some (.int .i64 W) := fun w' h => (hB0.ext h).cell 2
  have s3 : ∀ w', Ext w1 w' → w'.cell? ⟨w.heap.size, 3, none⟩ = some (.int .i64 H) := fun w' h => (hB0.ext h).cell 3
  have s4 : ∀ w', Ext w1 w' → w'.cell? ⟨w.heap.size, 4, none⟩ = some (.slice (some ad) n c) := fun w' h => (hB0.ext h).cell 4
  have s5 : ∀ w', Ext w1 w' → w'.cell? ⟨w.heap.size + 1, 0, none⟩ = some (.int .i64 ax) := fun w' h => (hB1.ext h).cell 0
  have s6 : ∀ w', Ext w1 w' → w'.cell? ⟨w.heap.size + 1, 1, none⟩ = some (.int .i64 ay) := fun w' h => (hB1.ext h).cell 1
  have hD : ∀ w', Ext w1 w' → Rd w' (some ad) (flt l) := fun w' h => hd1.ext h
  clear hd hb1
  go_upto_region 6 with fail
  go_cut [12, 13] (fun s12 s13 wx => ∃ g : Nat, s12 = .pointer (some ⟨g, 0, none⟩) ∧ s13 = .float .f32 p ∧ w1.heap.size ≤ g ∧ Bk wx g 31 #[.int .i64 (stepX dir), .int .i64 (stepY dir)] ∧ Ext w1 wx)
  case first =>
    refine wp_region_noPanic ?_
    refine wp_region_held_drew (S := fun w' => Ext w1 w') (by kernel_rfl) ?_ (fun hHeld => ?_)
    · (repeat (first | exact Ext.refl _ | assumption | refine Ext.setCell ?_ (by first | (simp; done) | (simp; omega)) _ | refine Ext.drewN ?_ _ | refine Ext.alloc ?_ _ | refine Ext.drew ?_ | refine Ext.trans ?_ (by assumption)))
    refine wpAnyH_take (i := 0) (oi := ?o4x0) (v := ?v4x0) ?hi4x0 (by kernel_rfl) ?hf4x0 ?hr4x0 (fun _ _ _ h => h) ?hy4x0 (by assumption) ?rest4x0
    case hi4x0 => (simp only [List.getElem?_toArray, List.getElem?_cons_zero]; exact rfl)
    case hf4x0 => kernel_rfl
    case hr4x0 => kernel_rfl
    case hy4x0 => (refine Or.inl ⟨by rfl, ?_⟩; intro w hSw; (try dsimp only at hSw); go_simp; try with_reducible rfl)
    simp only [put_mk, List.set_cons_succ, List.set_cons_zero]
    refine wpAnyH_take (i := 2) (oi := ?o5x2) (v := ?v5x2) ?hi5x2 (by kernel_rfl) ?hf5x2 ?hr5x2 (fun _ _ _ h => h) ?hy5x2 (by assumption) ?rest5x2
    case hi5x2 => (simp only [List.getElem?_toArray, List.getElem?_cons_succ, List.getElem?_cons_zero]; exact rfl)
    case hf5x2 => kernel_rfl
    case hr5x2 => kernel_rfl
    case hy5x2 => (refine Or.inl ⟨by rfl, ?_⟩; intro w hSw; (try dsimp only at hSw); go_simp; try with_reducible rfl)
    simp only [put_mk, List.set_cons_succ, List.set_cons_zero]
    refine wpAnyH_take (i := 3) (oi := ?o6x3) (v := ?v6x3) ?hi6x3 (by kernel_rfl) ?hf6x3 ?hr6x3 (fun _ _ _ h => h) ?hy6x3 (by assumption) ?rest6x3
    case hi6x3 => (simp only [List.getElem?_toArray, List.getElem?_cons_succ, List.getElem?_cons_zero]; exact rfl)
    case hf6x3 => kernel_rfl
    case hr6x3 => kernel_rfl
    case hy6x3 => (refine Or.inl ⟨by rfl, ?_⟩; intro w hSw; (try dsimp only at hSw); go_simp; try with_reducible rfl)
    simp only [put_mk, List.set_cons_succ, List.set_cons_zero]
    refine wpAnyH_take (i := 5) (oi := ?o7x5) (v := ?v7x5) ?hi7x5 (by kernel_rfl) ?hf7x5 ?hr7x5 (fun _ _ _ h => h) ?hy7x5 (by assumption) ?rest7x5
    case hi7x5 => (simp only [List.getElem?_toArray, List.getElem?_cons_succ, List.getElem?_cons_zero]; exact rfl)
    case hf7x5 => kernel_rfl
    case hr7x5 => kernel_rfl
    case hy7x5 => (refine Or.inl ⟨by rfl, ?_⟩; intro w hSw; (try dsimp only at hSw); go_simp; try with_reducible rfl)
    simp only [put_mk, List.set_cons_succ, List.set_cons_zero]
    refine wpAnyH_ready (rs := [1, 7]) (by kernel_rfl) (by simp) ?_
    refine (AllReadyH.cons (o := ?o8x1) ?hi8x1 (fun K hK => ?_) (AllReadyH.cons (o := ?o8x7) ?hi8x7 (fun K hK => ?_) AllReadyH.nil))
    case hi8x1 => (simp only [List.getElem?_toArray, List.getElem?_cons_succ, List.getElem?_cons_zero]; exact rfl)
    case hi8x7 => (simp only [List.getElem?_toArray, List.getElem?_cons_succ, List.getElem?_cons_zero]; exact rfl)
    · go_simp
      refine (toward_any dir _ h0 (by omega)).mono ?_
      rintro e w2 ⟨rfl, hb2⟩
      refine hK.out _ _ ?_ (fun hHeld => ?_)
      · (repeat (first | exact Ext.refl _ | assumption | refine Ext.setCell ?_ (by first | (simp; done) | (simp; omega)) _ | refine Ext.drewN ?_ _ | refine Ext.alloc ?_ _ | refine Ext.drew ?_ | refine Ext.trans ?_ (by assumption)))
      clear hK K
      refine wpAnyH_ready (rs := [4, 7]) (by kernel_rfl) (by simp) ?_
      refine (AllReadyH.cons (o := ?o9x4) ?hi9x4 (fun K hK => ?_) (AllReadyH.cons (o := ?o9x7) ?hi9x7 (fun K hK => ?_) AllReadyH.nil))
      case hi9x4 => (simp only [List.getElem?_toArray, List.getElem?_cons_succ, List.getElem?_cons_zero]; exact rfl)
      case hi9x7 => (simp only [List.getElem?_toArray, List.getElem?_cons_succ, List.getElem?_cons_zero]; exact rfl)
      · go_simp
        refine (at_in _ _ _ _ _ _ _ _ _ _ _ Hr.out Ha.out Hn.out Hnw.out (hD _ ?_)).mono ?_
        · (repeat (first | exact Ext.refl _ | assumption | refine Ext.setCell ?_ (by first | (simp; done) | (simp; omega)) _ | refine Ext.drewN ?_ _ | refine Ext.alloc ?_ _ | refine Ext.drew ?_ | refine Ext.trans ?_ (by assumption)))
        rintro e w3 ⟨rfl, hb3⟩
        refine hK.out _ _ ?_ (fun hHeld => ?_)
        · (repeat (first | exact Ext.refl _ | assumption | refine Ext.setCell ?_ (by first | (simp; done) | (simp; omega)) _ | refine Ext.drewN ?_ _ | refine Ext.alloc ?_ _ | refine Ext.drew ?_ | refine Ext.trans ?_ (by assumption)))
        clear hK K
        refine wpAnyH_take (i := 6) (oi := ?o10x6) (v := ?v10x6) ?hi10x6 (by kernel_rfl) ?hf10x6 ?hr10x6 (fun _ _ _ h => h) ?hy10x6 (by assumption) ?rest10x6
        case hi10x6 => (simp only [List.getElem?_toArray, List.getElem?_cons_succ, List.getElem?_cons_zero]; exact rfl)
        case hf10x6 => kernel_rfl
        case hr10x6 => kernel_rfl
        case hy10x6 => (refine Or.inl ⟨by rfl, ?_⟩; intro w hSw; (try dsimp only at hSw); go_simp; try with_reducible rfl)
        simp only [put_mk, List.set_cons_succ, List.set_cons_zero]
        refine wpAnyH_ready (rs := [7]) (by kernel_rfl) (by simp) ?_
        refine AllReadyH.cons (o := ?o11x7) ?hi11x7 (fun K hK => ?_) AllReadyH.nil
        case hi11x7 => (simp only [List.getElem?_toArray, List.getElem?_cons_succ, List.getElem?_cons_zero]; exact rfl)
        go_simp
        refine hK.out _ _ ?_ (fun hHeld => ?_)
        · (repeat (first | exact Ext.refl _ | assumption | refine Ext.setCell ?_ (by first | (simp; done) | (simp; omega)) _ | refine Ext.drewN ?_ _ | refine Ext.alloc ?_ _ | refine Ext.drew ?_ | refine Ext.trans ?_ (by assumption)))
        clear hK K
        refine wpAnyH_ready (rs := [8]) (by kernel_rfl) (by simp) ?_
        refine AllReadyH.cons (o := ?o12x8) ?hi12x8 (fun K hK => ?_) AllReadyH.nil
        case hi12x8 => (simp only [List.getElem?_toArray, List.getElem?_cons_succ, List.getElem?_cons_zero]; exact rfl)
        go_simp
        refine hK.out _ _ ?_ (fun hHeld => ?_)
        · (repeat (first | exact Ext.refl _ | assumption | refine Ext.setCell ?_ (by first | (simp; done) | (simp; omega)) _ | refine Ext.drewN ?_ _ | refine Ext.alloc ?_ _ | refine Ext.drew ?_ | refine Ext.trans ?_ (by assumption)))
        clear hK K
        refine wpAnyH_take (i := 9) (oi := ?o13x9) (v := ?v13x9) ?hi13x9 (by kernel_rfl) ?hf13x9 ?hr13x9 (fun _ _ _ h => h) ?hy13x9 (by assumption) ?rest13x9
        case hi13x9 => (simp only [List.getElem?_toArray, List.getElem?_cons_succ, List.getElem?_cons_zero]; exact rfl)
        case hf13x9 => kernel_rfl
        case hr13x9 => kernel_rfl
        case hy13x9 => (refine Or.inl ⟨by rfl, ?_⟩; intro w hSw; (try dsimp only at hSw); go_simp; try with_reducible rfl)
        simp only [put_mk, List.set_cons_succ, List.set_cons_zero]
        refine wpAnyH_done (by kernel_rfl) ?_ _
        refine NoPanic.normal ?_
        go_wp2_with fail
        go_meet
        case rel =>
          refine ⟨_, rfl, rfl, ?_, ?_, (by repeat (first | exact Ext.refl _ | assumption | refine Ext.setCell ?_ (by first | (simp; done) | (simp; omega)) _ | refine Ext.drewN ?_ _ | refine Ext.alloc ?_ _ | refine Ext.drew ?_ | refine Ext.trans ?_ (by assumption)))⟩
          · first | exact Nat.le_refl _ | exact hz | exact Nat.le_trans hb2.size hb3.size
          · first | exact Bk.new' rfl | exact (by simpa using (hg.set 0 (.int .i64 (stepX dir))).set 1 (.int .i64 (stepY dir)))
      · go_simp
        refine hK.out _ _ ?_ (fun hHeld => ?_)
        · (repeat (first | exact Ext.refl _ | assumption | refine Ext.setCell ?_ (by first | (simp; done) | (simp; omega)) _ | refine Ext.drewN ?_ _ | refine Ext.alloc ?_ _ | refine Ext.drew ?_ | refine Ext.trans ?_ (by assumption)))
        clear hK K
        refine wpAnyH_ready (rs := [4]) (by kernel_rfl) (by simp) ?_
        refine AllReadyH.cons (o := ?o14x4) ?hi14x4 (fun K hK => ?_) AllReadyH.nil
        case hi14x4 => (simp only [List.getElem?_toArray, List.getElem?_cons_succ, List.getElem?_cons_zero]; exact rfl)
        go_simp
        refine (at_in _ _ _ _ _ _ _ _ _ _ _ Hr.out Ha.out Hn.out Hnw.out (hD _ ?_)).mono ?_
        · (repeat (first | exact Ext.refl _ | assumption | refine Ext.setCell ?_ (by first | (simp; done) | (simp; omega)) _ | refine Ext.drewN ?_ _ | refine Ext.alloc ?_ _ | refine Ext.drew ?_ | refine Ext.trans ?_ (by assumption)))
        rintro e w3 ⟨rfl, hb3⟩
        have hg : Bk w3 w2.heap.size 31 #[.int .i64 0, .int .i64 0] := (by first | exact (Bk.new _ _ _).ext hb3 | exact (Bk.new _ _ _).drew.ext hb3)
        have hz : w1.heap.size ≤ w2.heap.size := hb2.size
        have c0 := hg.cell 0
        have c1 := hg.cell 1
        have c2 := hg.frozen 0
        have c3 := hg.frozen 1
        refine hK.out _ _ ?_ (fun hHeld => ?_)
        · (repeat (first | exact Ext.refl _ | assumption | refine Ext.setCell ?_ (by first | (simp; done) | (simp; omega)) _ | refine Ext.drewN ?_ _ | refine Ext.alloc ?_ _ | refine Ext.drew ?_ | refine Ext.trans ?_ (by assumption)))
        clear hK K
        refine wpAnyH_take (i := 6) (oi := ?o15x6) (v := ?v15x6) ?hi15x6 (by kernel_rfl) ?hf15x6 ?hr15x6 (fun _ _ _ h => h) ?hy15x6 (by assumption) ?rest15x6
        case hi15x6 => (simp only [List.getElem?_toArray, List.getElem?_cons_succ, List.getElem?_cons_zero]; exact rfl)
        case hf15x6 => kernel_rfl
        case hr15x6 => kernel_rfl
        case hy15x6 => (refine Or.inl ⟨by rfl, ?_⟩; intro w hSw; (try dsimp only at hSw); go_simp; try with_reducible rfl)
        simp only [put_mk, List.set_cons_succ, List.set_cons_zero]
        refine wpAnyH_ready (rs := [8]) (by kernel_rfl) (by simp) ?_
        refine AllReadyH.cons (o := ?o16x8) ?hi16x8 (fun K hK => ?_) AllReadyH.nil
        case hi16x8 => (simp only [List.getElem?_toArray, List.getElem?_cons_succ, List.getElem?_cons_zero]; exact rfl)
        go_simp
        refine hK.out _ _ ?_ (fun hHeld => ?_)
        · (repeat (first | exact Ext.refl _ | assumption | refine Ext.setCell ?_ (by first | (simp; done) | (simp; omega)) _ | refine Ext.drewN ?_ _ | refine Ext.alloc ?_ _ | refine Ext.drew ?_ | refine Ext.trans ?_ (by assumption)))
        clear hK K
        refine wpAnyH_take (i := 9) (oi := ?o17x9) (v := ?v17x9) ?hi17x9 (by kernel_rfl) ?hf17x9 ?hr17x9 (fun _ _ _ h => h) ?hy17x9 (by assumption) ?rest17x9
        case hi17x9 => (simp only [List.getElem?_toArray, List.getElem?_cons_succ, List.getElem?_cons_zero]; exact rfl)
        case hf17x9 => kernel_rfl
        case hr17x9 => kernel_rfl
        case hy17x9 => (refine Or.inl ⟨by rfl, ?_⟩; intro w hSw; (try dsimp only at hSw); go_simp; try with_reducible rfl)
        simp only [put_mk, List.set_cons_succ, List.set_cons_zero]
        refine wpAnyH_done (by kernel_rfl) ?_ _
        refine NoPanic.normal ?_
        go_wp2_with fail
        go_meet
        case rel =>
          refine ⟨_, rfl, rfl, ?_, ?_, (by repeat (first | exact Ext.refl _ | assumption | refine Ext.setCell ?_ (by first | (simp; done) | (simp; omega)) _ | refine Ext.drewN ?_ _ | refine Ext.alloc ?_ _ | refine Ext.drew ?_ | refine Ext.trans ?_ (by assumption)))⟩
          · first | exact Nat.le_refl _ | exact hz | exact Nat.le_trans hb2.size hb3.size
          · first | exact Bk.new' rfl | exact (by simpa using (hg.set 0 (.int .i64 (stepX dir))).set 1 (.int .i64 (stepY dir)))
    · go_simp
      refine hK.out _ _ ?_ (fun hHeld => ?_)
      · (repeat (first | exact Ext.refl _ | assumption | refine Ext.setCell ?_ (by first | (simp; done) | (simp; omega)) _ | refine Ext.drewN ?_ _ | refine Ext.alloc ?_ _ | refine Ext.drew ?_ | refine Ext.trans ?_ (by assumption)))
      clear hK K
      refine wpAnyH_ready (rs := [1]) (by kernel_rfl) (by simp) ?_
      refine AllReadyH.cons (o := ?o18x1) ?hi18x1 (fun K hK => ?_) AllReadyH.nil
      case hi18x1 => (simp only [List.getElem?_toArray, List.getElem?_cons_succ, List.getElem?_cons_zero]; exact rfl)
      go_simp
      refine (toward_any dir _ h0 (by omega)).mono ?_
      rintro e w2 ⟨rfl, hb2⟩
      refine hK.out _ _ ?_ (fun hHeld => ?_)
      · (repeat (first | exact Ext.refl _ | assumption | refine Ext.setCell ?_ (by first | (simp; done) | (simp; omega)) _ | refine Ext.drewN ?_ _ | refine Ext.alloc ?_ _ | refine Ext.drew ?_ | refine Ext.trans ?_ (by assumption)))
      clear hK K
      refine wpAnyH_ready (rs := [4]) (by kernel_rfl) (by simp) ?_
      refine AllReadyH.cons (o := ?o19x4) ?hi19x4 (fun K hK => ?_) AllReadyH.nil
      case hi19x4 => (simp only [List.getElem?_toArray, List.getElem?_cons_succ, List.getElem?_cons_zero]; exact rfl)
      go_simp
      refine (at_in _ _ _ _ _ _ _ _ _ _ _ Hr.out Ha.out Hn.out Hnw.out (hD _ ?_)).mono ?_
      · (repeat (first | exact Ext.refl _ | assumption | refine Ext.setCell ?_ (by first | (simp; done) | (simp; omega)) _ | refine Ext.drewN ?_ _ | refine Ext.alloc ?_ _ | refine Ext.drew ?_ | refine Ext.trans ?_ (by assumption)))
      rintro e w3 ⟨rfl, hb3⟩
      have hg : Bk w3 w1.heap.size 31 #[.int .i64 0, .int .i64 0] := (by first | exact ((Bk.new _ _ _).ext hb2).ext hb3 | exact ((Bk.new _ _ _).drew.ext hb2).ext hb3)
      have hz := hb2.size
      have c0 := hg.cell 0
      have c1 := hg.cell 1
      have c2 := hg.frozen 0
      have c3 := hg.frozen 1
      refine hK.out _ _ ?_ (fun hHeld => ?_)
      · (repeat (first | exact Ext.refl _ | assumption | refine Ext.setCell ?_ (by first | (simp; done) | (simp; omega)) _ | refine Ext.drewN ?_ _ | refine Ext.alloc ?_ _ | refine Ext.drew ?_ | refine Ext.trans ?_ (by assumption)))
      clear hK K
      refine wpAnyH_take (i := 6) (oi := ?o20x6) (v := ?v20x6) ?hi20x6 (by kernel_rfl) ?hf20x6 ?hr20x6 (fun _ _ _ h => h) ?hy20x6 (by assumption) ?rest20x6
      case hi20x6 => (simp only [List.getElem?_toArray, List.getElem?_cons_succ, List.getElem?_cons_zero]; exact rfl)
      case hf20x6 => kernel_rfl
      case hr20x6 => kernel_rfl
      case hy20x6 => (refine Or.inl ⟨by rfl, ?_⟩; intro w hSw; (try dsimp only at hSw); go_simp; try with_reducible rfl)
      simp only [put_mk, List.set_cons_succ, List.set_cons_zero]
      refine wpAnyH_ready (rs := [8]) (by kernel_rfl) (by simp) ?_
      refine AllReadyH.cons (o := ?o21x8) ?hi21x8 (fun K hK => ?_) AllReadyH.nil
      case hi21x8 => (simp only [List.getElem?_toArray, List.getElem?_cons_succ, List.getElem?_cons_zero]; exact rfl)
      go_simp
      refine hK.out _ _ ?_ (fun hHeld => ?_)
      · (repeat (first | exact Ext.refl _ | assumption | refine Ext.setCell ?_ (by first | (simp; done) | (simp; omega)) _ | refine Ext.drewN ?_ _ | refine Ext.alloc ?_ _ | refine Ext.drew ?_ | refine Ext.trans ?_ (by assumption)))
      clear hK K
      refine wpAnyH_take (i := 9) (oi := ?o22x9) (v := ?v22x9) ?hi22x9 (by kernel_rfl) ?hf22x9 ?hr22x9 (fun _ _ _ h => h) ?hy22x9 (by assumption) ?rest22x9
      case hi22x9 => (simp only [List.getElem?_toArray, List.getElem?_cons_succ, List.getElem?_cons_zero]; exact rfl)
      case hf22x9 => kernel_rfl
      case hr22x9 => kernel_rfl
      case hy22x9 => (refine Or.inl ⟨by rfl, ?_⟩; intro w hSw; (try dsimp only at hSw); go_simp; try with_reducible rfl)
      simp only [put_mk, List.set_cons_succ, List.set_cons_zero]
      refine wpAnyH_done (by kernel_rfl) ?_ _
      refine NoPanic.normal ?_
      go_wp2_with fail
      go_meet
      case rel =>
        refine ⟨_, rfl, rfl, ?_, ?_, (by repeat (first | exact Ext.refl _ | assumption | refine Ext.setCell ?_ (by first | (simp; done) | (simp; omega)) _ | refine Ext.drewN ?_ _ | refine Ext.alloc ?_ _ | refine Ext.drew ?_ | refine Ext.trans ?_ (by assumption)))⟩
        · first | exact Nat.le_refl _ | exact hz | exact Nat.le_trans hb2.size hb3.size
        · first | exact Bk.new' rfl | exact (by simpa using (hg.set 0 (.int .i64 (stepX dir))).set 1 (.int .i64 (stepY dir)))
  case rest =>
    obtain ⟨g, rfl, rfl, hg0, hgB, hx2⟩ := hcut
    have t0 : ∀ w', Ext wc w' → w'.cell? ⟨w.heap.size, 0, none⟩ = some (.int .i64 X) := fun w' h => s0 _ (hx2.trans h)
    have t1 : ∀ w', Ext wc w' → w'.cell? ⟨w.heap.size, 1, none⟩ = some (.int .i64 Y) := fun w' h => s1 _ (hx2.trans h)
    have t2 : ∀ w', Ext wc w' → w'.cell? ⟨w.heap.size, 2, none⟩ = some (.int .i64 W) := fun w' h => s2 _ (hx2.trans h)
    have t3 : ∀ w', Ext wc w' → w'.cell? ⟨w.heap.size, 3, none⟩ = some (.int .i64 H) := fun w' h => s3 _ (hx2.trans h)
    have t4 : ∀ w', Ext wc w' → w'.cell? ⟨w.heap.size, 4, none⟩ = some (.slice (some ad) n c) := fun w' h => s4 _ (hx2.trans h)
    have t5 : ∀ w', Ext wc w' → w'.cell? ⟨w.heap.size + 1, 0, none⟩ = some (.int .i64 ax) := fun w' h => s5 _ (hx2.trans h)
    have t6 : ∀ w', Ext wc w' → w'.cell? ⟨w.heap.size + 1, 1, none⟩ = some (.int .i64 ay) := fun w' h => s6 _ (hx2.trans h)
    have t7 : ∀ w', Ext wc w' → w'.cell? ⟨g, 0, none⟩ = some (.int .i64 (stepX dir)) := fun w' h => (hgB.ext h).cell 0
    have t8 : ∀ w', Ext wc w' → w'.cell? ⟨g, 1, none⟩ = some (.int .i64 (stepY dir)) := fun w' h => (hgB.ext h).cell 1
    have hD2 : ∀ w', Ext wc w' → Rd w' (some ad) (flt l) := fun w' h => hD _ (hx2.trans h)
    have hx3 := hx1.trans hx2
    clear s0 s1 s2 s3 s4 s5 s6 hD hB0 hB1 hd1 hx1 hx2 hgB hg0 Q1
    go_wp2_with fail
    go_loopw [14, 15, 16] (fun s14 s15 s16 wr => ∃ k j : Nat, j = k + 1 ∧ k ≤ K ∧ s14 = .float .f32 (horF X Y W l ax ay dir p k) ∧ s15 = .bool (decide (0 < k)) ∧ s16 = .int .i64 j ∧ Ext wc wr) (fun _ _ s16 _ => 600 - (intOf s16).toNat)
    case atStart => exact ⟨0, 1, rfl, by omega, rfl, rfl, rfl, Ext.refl _⟩
    case round =>
      obtain ⟨k, j, hj, hk, rfl, rfl, rfl, hx⟩ := hrel
      have e0 := t0 _ hx
      have e1 := t1 _ hx
      have e2 := t2 _ hx
      have e3 := t3 _ hx
      have e5 := t5 _ hx
      have e6 := t6 _ hx
      have e7 := t7 _ hx
      have e8 := t8 _ hx
      obtain ⟨sb1, sb2, sb3, sb4⟩ := sb
      have m1 : -600 ≤ (j : Int) * stepX dir ∧ (j : Int) * stepX dir ≤ 600 := by
        rcases one_of ⟨sb1, sb2⟩ with e | e | e <;> rw [e] <;> omega
      have m2 : -600 ≤ (j : Int) * stepY dir ∧ (j : Int) * stepY dir ≤ 600 := by
        rcases one_of ⟨sb3, sb4⟩ with e | e | e <;> rw [e] <;> omega
      have z1 : wrap64 ((j : Int) * stepX dir) = (j : Int) * stepX dir := by
        generalize (j : Int) * stepX dir = v at *
        unfold wrap64
        omega
      have z2 : wrap64 ((j : Int) * stepY dir) = (j : Int) * stepY dir := by
        generalize (j : Int) * stepY dir = v at *
        unfold wrap64
        omega
      have z3 : wrap64 (ax + (j : Int) * stepX dir) = ax + (j : Int) * stepX dir := by
        generalize (j : Int) * stepX dir = v at *
        unfold wrap64
        omega
      have z4 : wrap64 (ay + (j : Int) * stepY dir) = ay + (j : Int) * stepY dir := by
        generalize (j : Int) * stepY dir = v at *
        unfold wrap64
        omega
      have Hj := hidA hj
      have hj0 : 0 < j := by omega
      have hjK : j ≤ K + 1 := by omega
      clear m1 m2 hj
      clear t0 t1 t2 t3 t7 t8
      by_cases hlt : k < K
      · have hp := (HC j hj0 (by have := Hj.out; omega)).out
        have Hp := hidA hp
        obtain ⟨kc, hkc, hkcl, hkcv⟩ := valAt_get Hr.out hp (by rw [Hn.out]; exact Hnw.out)
        have Hkc := hidA hkc
        have hkcm : kc < n := by have := Hn.out; omega
        have i5 : (kc : Int) < n := by omega
        have i6 : (0 : Int) ≤ kc := by omega
        have Hkc2 : Hid ((flt l)[kc]? = some (.float .f32 (valAt X Y W l (cellAt ax ay dir j)))) := by show _ = _; simp [flt]; exact hkcv
        have hRj := (HR j hj0 (by have := Hj.out; omega)).out
        have hMj := (HM j hj0 (by omega)).out
        have QS := fun (w : World) => run_float_arith (P := Try.prog) w .sub 71 .f32 _ _ _ hRj.1
        have QM := fun (w : World) => run_float_arith (P := Try.prog) w .mul 71 .f32 _ _ _ hMj.1
        have QD := fun (w : World) => run_float_arith (P := Try.prog) w .quo 71 .f32 _ _ _ hRj.2.1
        clear hp hkc hkcl hkcv hRj hMj HR HM HC
        go_wp2_with fail
        refine (place_in X Y W H _ _ _ Hr.out Hp.out).mono ?_
        rw [show cellN X Y W (cellAt ax ay dir j).1 (cellAt ax ay dir j).2 = kc from Hkc.out]
        rintro e w5 ⟨rfl, hb5⟩
        clear e0 e1 e2 e3 e5 e6 e7 e8
        have u4 : ∀ w', Ext w5 w' → w'.cell? ⟨w.heap.size, 4, none⟩ = some (.slice (some ad) n c) := fun w' h => t4 _ ((hx.trans hb5).trans h)
        have u9 : ∀ w', Ext w5 w' → w'.cell? (ad.add kc) = some (.float .f32 (valAt X Y W l (cellAt ax ay dir j))) := fun w' h => (hD2 w' ((hx.trans hb5).trans h)).get Hkc2.out
        clear t4 t5 t6
        go_wp2_with fail
        refine wp_region_noPanic ?_
        refine wp_region_held_drew (S := fun w' => Ext w5 w') (by kernel_rfl) ?_ (fun hHeld => ?_)
        · (repeat (first | exact Ext.refl _ | assumption | refine Ext.setCell ?_ (by first | (simp; done) | (simp; omega)) _ | refine Ext.drewN ?_ _ | refine Ext.alloc ?_ _ | refine Ext.drew ?_ | refine Ext.trans ?_ (by assumption)))
        refine wpAnyH_take (i := 0) (oi := ?o1x0) (v := ?v1x0) ?hi1x0 (by kernel_rfl) ?hf1x0 ?hr1x0 (fun _ _ _ h => h) ?hy1x0 (by assumption) ?rest1x0
        case hi1x0 => (simp only [List.getElem?_toArray, List.getElem?_cons_zero]; exact rfl)
        case hf1x0 => kernel_rfl
        case hr1x0 => kernel_rfl
        case hy1x0 => (refine Or.inl ⟨by rfl, ?_⟩; intro w hSw; (try dsimp only at hSw); go_simp; try with_reducible rfl)
        simp only [put_mk, List.set_cons_succ, List.set_cons_zero]
        refine wpAnyH_take (i := 1) (oi := ?o1x1) (v := ?v1x1) ?hi1x1 (by kernel_rfl) ?hf1x1 ?hr1x1 (fun _ _ _ h => h) ?hy1x1 (by assumption) ?rest1x1
        case hi1x1 => (simp only [List.getElem?_toArray, List.getElem?_cons_succ, List.getElem?_cons_zero]; exact rfl)
        case hf1x1 => kernel_rfl
        case hr1x1 => kernel_rfl
        case hy1x1 => (refine Or.inl ⟨by rfl, ?_⟩; intro w hSw; (try dsimp only at hSw); go_simp; try with_reducible rfl)
        simp only [put_mk, List.set_cons_succ, List.set_cons_zero]
        refine wpAnyH_take (i := 2) (oi := ?o1x2) (v := ?v1x2) ?hi1x2 (by kernel_rfl) ?hf1x2 ?hr1x2 (fun _ _ _ h => h) ?hy1x2 (by assumption) ?rest1x2
        case hi1x2 => (simp only [List.getElem?_toArray, List.getElem?_cons_succ, List.getElem?_cons_zero]; exact rfl)
        case hf1x2 => kernel_rfl
        case hr1x2 => kernel_rfl
        case hy1x2 => (refine Or.inl ⟨by rfl, ?_⟩; intro w hSw; (try dsimp only at hSw); go_simp; try with_reducible rfl)
        simp only [put_mk, List.set_cons_succ, List.set_cons_zero]
        refine wpAnyH_take (i := 3) (oi := ?o1x3) (v := ?v1x3) ?hi1x3 (by kernel_rfl) ?hf1x3 ?hr1x3 (fun _ _ _ h => h) ?hy1x3 (by assumption) ?rest1x3
        case hi1x3 => (simp only [List.getElem?_toArray, List.getElem?_cons_succ, List.getElem?_cons_zero]; exact rfl)
        case hf1x3 => kernel_rfl
        case hr1x3 => kernel_rfl
        case hy1x3 => (refine Or.inl ⟨by rfl, ?_⟩; intro w hSw; (try dsimp only at hSw); go_simp; try with_reducible rfl)
        simp only [put_mk, List.set_cons_succ, List.set_cons_zero]
        refine wpAnyH_take (i := 4) (oi := ?o1x4) (v := ?v1x4) ?hi1x4 (by kernel_rfl) ?hf1x4 ?hr1x4 (fun _ _ _ h => h) ?hy1x4 (by assumption) ?rest1x4
        case hi1x4 => (simp only [List.getElem?_toArray, List.getElem?_cons_succ, List.getElem?_cons_zero]; exact rfl)
        case hf1x4 => kernel_rfl
        case hr1x4 => kernel_rfl
        case hy1x4 => (refine Or.inl ⟨by rfl, ?_⟩; intro w hSw; (try dsimp only at hSw); go_simp; try with_reducible rfl)
        simp only [put_mk, List.set_cons_succ, List.set_cons_zero]
        refine wpAnyH_take (i := 5) (oi := ?o1x5) (v := ?v1x5) ?hi1x5 (by kernel_rfl) ?hf1x5 ?hr1x5 (fun _ _ _ h => h) ?hy1x5 (by assumption) ?rest1x5
        case hi1x5 => (simp only [List.getElem?_toArray, List.getElem?_cons_succ, List.getElem?_cons_zero]; exact rfl)
        case hf1x5 => kernel_rfl
        case hr1x5 => kernel_rfl
        case hy1x5 => (refine Or.inl ⟨by rfl, ?_⟩; intro w hSw; (try dsimp only at hSw); go_simp; try with_reducible rfl)
        simp only [put_mk, List.set_cons_succ, List.set_cons_zero]
        refine wpAnyH_take (i := 6) (oi := ?o1x6) (v := ?v1x6) ?hi1x6 (by kernel_rfl) ?hf1x6 ?hr1x6 (fun _ _ _ h => h) ?hy1x6 (by assumption) ?rest1x6
        case hi1x6 => (simp only [List.getElem?_toArray, List.getElem?_cons_succ, List.getElem?_cons_zero]; exact rfl)
        case hf1x6 => kernel_rfl
        case hr1x6 => kernel_rfl
        case hy1x6 => (refine Or.inl ⟨by rfl, ?_⟩; intro w hSw; (try dsimp only at hSw); go_simp; try with_reducible rfl)
        simp only [put_mk, List.set_cons_succ, List.set_cons_zero]
        refine wpAnyH_take (i := 7) (oi := ?o1x7) (v := ?v1x7) ?hi1x7 (by kernel_rfl) ?hf1x7 ?hr1x7 (fun _ _ _ h => h) ?hy1x7 (by assumption) ?rest1x7
        case hi1x7 => (simp only [List.getElem?_toArray, List.getElem?_cons_succ, List.getElem?_cons_zero]; exact rfl)
        case hf1x7 => kernel_rfl
        case hr1x7 => kernel_rfl
        case hy1x7 => (refine Or.inl ⟨by rfl, ?_⟩; intro w hSw; (try dsimp only at hSw); go_simp; try with_reducible rfl)
        simp only [put_mk, List.set_cons_succ, List.set_cons_zero]
        refine wpAnyH_take (i := 8) (oi := ?o1x8) (v := ?v1x8) ?hi1x8 (by kernel_rfl) ?hf1x8 ?hr1x8 (fun _ _ _ h => h) ?hy1x8 (by assumption) ?rest1x8
        case hi1x8 => (simp only [List.getElem?_toArray, List.getElem?_cons_succ, List.getElem?_cons_zero]; exact rfl)
        case hf1x8 => kernel_rfl
        case hr1x8 => kernel_rfl
        case hy1x8 => (refine Or.inl ⟨by rfl, ?_⟩; intro w hSw; (try dsimp only at hSw); go_simp; try with_reducible rfl)
        simp only [put_mk, List.set_cons_succ, List.set_cons_zero]
        refine wpAnyH_take (i := 9) (oi := ?o1x9) (v := ?v1x9) ?hi1x9 (by kernel_rfl) ?hf1x9 ?hr1x9 (fun _ _ _ h => h) ?hy1x9 (by assumption) ?rest1x9
        case hi1x9 => (simp only [List.getElem?_toArray, List.getElem?_cons_succ, List.getElem?_cons_zero]; exact rfl)
        case hf1x9 => kernel_rfl
        case hr1x9 => kernel_rfl
        case hy1x9 => (refine Or.inl ⟨by rfl, ?_⟩; intro w hSw; (try dsimp only at hSw); go_simp; try with_reducible rfl)
        simp only [put_mk, List.set_cons_succ, List.set_cons_zero]
        refine wpAnyH_ready (rs := [10]) (by kernel_rfl) (by simp) ?_
        refine AllReadyH.cons (o := ?o1x10) ?hi1x10 (fun K hK => ?_) AllReadyH.nil
        case hi1x10 => (simp only [List.getElem?_toArray, List.getElem?_cons_succ, List.getElem?_cons_zero]; exact rfl)
        go_simp
        refine (longB_any dir _ h0 (by omega)).mono ?_
        rintro e w' ⟨rfl, rfl⟩
        refine hK.out _ _ ?_ (fun hHeld => ?_)
        · (repeat (first | exact Ext.refl _ | assumption | refine Ext.setCell ?_ (by first | (simp; done) | (simp; omega)) _ | refine Ext.drewN ?_ _ | refine Ext.alloc ?_ _ | refine Ext.drew ?_ | refine Ext.trans ?_ (by assumption)))
        clear hK K
        refine wpAnyH_take (i := 11) (oi := ?o1x11) (v := ?v1x11) ?hi1x11 (by kernel_rfl) ?hf1x11 ?hr1x11 (fun _ _ _ h => h) ?hy1x11 (by assumption) ?rest1x11
        case hi1x11 => (simp only [List.getElem?_toArray, List.getElem?_cons_succ, List.getElem?_cons_zero]; exact rfl)
        case hf1x11 => kernel_rfl
        case hr1x11 => kernel_rfl
        case hy1x11 => (refine Or.inl ⟨by rfl, ?_⟩; intro w hSw; (try dsimp only at hSw); go_simp; try with_reducible rfl)
        simp only [put_mk, List.set_cons_succ, List.set_cons_zero]
        refine wpAnyH_take (i := 12) (oi := ?o1x12) (v := ?v1x12) ?hi1x12 (by kernel_rfl) ?hf1x12 ?hr1x12 (fun _ _ _ h => h) ?hy1x12 (by assumption) ?rest1x12
        case hi1x12 => (simp only [List.getElem?_toArray, List.getElem?_cons_succ, List.getElem?_cons_zero]; exact rfl)
        case hf1x12 => kernel_rfl
        case hr1x12 => kernel_rfl
        case hy1x12 => (refine Or.inl ⟨by rfl, ?_⟩; intro w hSw; (try dsimp only at hSw); go_simp; try with_reducible rfl)
        simp only [put_mk, List.set_cons_succ, List.set_cons_zero]
        refine wpAnyH_take (i := 13) (oi := ?o1x13) (v := ?v1x13) ?hi1x13 (by kernel_rfl) ?hf1x13 ?hr1x13 (fun _ _ _ h => h) ?hy1x13 (by assumption) ?rest1x13
        case hi1x13 => (simp only [List.getElem?_toArray, List.getElem?_cons_succ, List.getElem?_cons_zero]; exact rfl)
        case hf1x13 => kernel_rfl
        case hr1x13 => kernel_rfl
        case hy1x13 => (refine Or.inl ⟨by rfl, ?_⟩; intro w hSw; (try dsimp only at hSw); go_simp; try with_reducible rfl)
        simp only [put_mk, List.set_cons_succ, List.set_cons_zero]
        refine wpAnyH_done (by kernel_rfl) ?_ _
        refine NoPanic.normal ?_
        have hx5 := hx.trans hb5
        clear u4 u9 QS QM QD hD2 hb5 hx i5 i6
        by_cases hk0 : k = 0
        · subst hk0
          have c0 : decide (0 < 0) = false := rfl
          have HF := hidA (hor_first (X := X) (Y := Y) (W := W) (l := l) (ax := ax) (ay := ay) (d := dir) (p := p) Hj.out)
          go_wp2_with fail
          exact ⟨⟨0 + 1, j + 1, by have := Hj.out; omega, by omega, by rw [HF.out], by rfl, by go_num, (by repeat (first | exact Ext.refl _ | assumption | refine Ext.setCell ?_ (by first | (simp; done) | (simp; omega)) _ | refine Ext.drewN ?_ _ | refine Ext.alloc ?_ _ | refine Ext.drew ?_ | refine Ext.trans ?_ (by assumption)))⟩, by simp [intOf]; omega⟩
        · have c0 : decide (0 < k) = true := by simp; omega
          by_cases hgt : (ord (riseF X Y W l ax ay dir p j) (horF X Y W l ax ay dir p k) == some .gt) = true
          · have C0 : (FloatKind.f32.format.order (riseF X Y W l ax ay dir p j) (horF X Y W l ax ay dir p k) == some .gt) = true := hgt
            have HF := hidA (hor_more Hj.out hk0 hgt)
            clear hgt
            go_wp2_with fail
            exact ⟨⟨k + 1, j + 1, by have := Hj.out; omega, by omega, by rw [HF.out], by simp, by go_num, (by repeat (first | exact Ext.refl _ | assumption | refine Ext.setCell ?_ (by first | (simp; done) | (simp; omega)) _ | refine Ext.drewN ?_ _ | refine Ext.alloc ?_ _ | refine Ext.drew ?_ | refine Ext.trans ?_ (by assumption)))⟩, by simp [intOf]; omega⟩
          · have C0 : (FloatKind.f32.format.order (riseF X Y W l ax ay dir p j) (horF X Y W l ax ay dir p k) == some .gt) = false := (Bool.not_eq_true _).mp hgt
            have HF := hidA (hor_less Hj.out hk0 hgt)
            clear hgt
            go_wp2_with fail
            exact ⟨⟨k + 1, j + 1, by have := Hj.out; omega, by omega, by rw [HF.out], by simp [c0], by go_num, (by repeat (first | exact Ext.refl _ | assumption | refine Ext.setCell ?_ (by first | (simp; done) | (simp; omega)) _ | refine Ext.drewN ?_ _ | refine Ext.alloc ?_ _ | refine Ext.drew ?_ | refine Ext.trans ?_ (by assumption)))⟩, by simp [intOf]; omega⟩
      · obtain rfl : k = K := by omega
        have Ho : Hid (¬ InR X Y W H (cellAt ax ay dir j).1 (cellAt ax ay dir j).2) := by rw [Hj.out]; exact HO.out
        clear HR HM HC HO t4
        go_wp2_with fail
        refine (place_out X Y W H _ _ _ Hr.out Ho.out).mono ?_
        rintro e w5 ⟨rfl, hb5⟩
        clear e0 e1 e2 e3 e5 e6 e7 e8
        go_wp2
        go_ret3
        exact ⟨rfl, hx3.trans (hx.trans hb5)⟩
end Go.Proofs.Ytjfipkccbapajaa
