/- The walk of the law WetMatches, where the arguments are right. -/
import Derived.Test.YtinohfgokpbcdaaWetD
import Derived.Deep.AppendLies
import Derived.Deep.RegionLaw
namespace Go.Proofs.Ytinohfgokpbcdaa
open Go.RowKit
attribute [local go_sem ↓] Go.wp_at_zero Go.wp_at_succ
attribute [local go_sem] run_store_float

set_option maxRecDepth 100000 in
set_option maxHeartbeats 6400000 in
theorem wet_good_walk (X Y : Int) (Wn Hn N : Nat) (A B : Option Addr) (c c' : Nat) (l : List Nat) (q : List Int) (w : World) (hr : Reg X Y Wn Hn) (hN : N = Wn * Hn) (hl : l.length = N) (hn : q.length = N) (hV : Rd w A (flt l)) (hQ : Rd w B (intC q)) (hf : fieldE X Y Wn Hn l = 0) (hq : numsE q N 1099511627776 = 0) :
    Calls Try.prog 6 #[.agg #[.int .i64 X, .int .i64 Y, .int .i64 (Wn : Int), .int .i64 (Hn : Int), .slice A N c], .slice B N c'] w fun e w' => e = .returned (.bool true) ∧ Ext w w' := by
  have hb : N ≤ 65536 := by have := hr.n; rw [← hN] at this; omega
  have hb2 : N ≤ 65536 := hb
  have hE : wetE X Y Wn Hn l q = 0 := by unfold wetE; rw [hf, if_neg (by decide), hl]; exact hq
  have HB := fun (w : World) (h : Rd w A (flt l)) (h2 : Rd w B (intC q)) => hidA (Wet_one X Y Wn Hn N A B c c' l q w hr hN hl h h2 hf hq)
  have hu : (if q.length ≠ l.length then (2 : Int) else 0) = 0 := if_neg (by rw [hn, hl]; simp)
  have hh : ∀ j, j < N → Bd 20 (l.getD j 0) := fun j hj => by
    have hnum : numE l = 0 := by
      have hr0 : regE X Y Wn Hn = 0 := by
        unfold fieldE at hf
        split at hf
        · rename_i h; exact absurd hf h
        · rename_i h; simpa using h
      rw [← hf, fieldE_num hr0 (by rw [hl, hN, Int.natCast_mul])]
    have hjl : j < l.length := by omega
    have e : l.getD j 0 = l[j] := by simp [List.getD_eq_getElem?_getD, hjl]
    rw [e]
    exact hgt_bd ((numE_zero hnum).2 _ (List.getElem_mem hjl))
  obtain ⟨q1, q2⟩ := nums_ok hq
  have HSt := fun (w : World) (h : Rd w A (flt l)) => hidA (SteepOf_any X Y Wn Hn N A c l w hr hN hl h hh)
  unfold rgv at HSt
  have HRt : ∀ (k : Nat) (w : World), k < N → Hid (Calls Try.prog 38 #[.float .f32 (floatOfInt .f32 (q.getD k 0))] w fun e w' => e = .returned (.float .f32 (rootI (q.getD k 0))) ∧ w' = w) := fun k w hk => refRoot_any (rootI_bd (q2 k hk).1 (q2 k hk).2).1 (int_pos (q2 k hk).1) (by omega) w
  have HWo := fun (k : Nat) (hk : k < N) => hidA (wet_ok (v := fun j => l.getD j 0) (q := q) (Wn := Wn) (Hn := Hn) (k := k) (fun j hj => hh j (by rw [hN]; exact hj)) (by rw [← hN]; exact hk) (q2 k hk).1 (q2 k hk).2)
  have HRes := fun (w : World) (a b c1 d : Int) (vA D : Option Addr) (vn vc z : Nat) (ec : Int) (h : WetR X Y Wn Hn N ((List.range N).map (wetF (fun j => l.getD j 0) q Wn Hn)) w a b c1 d vA vn vc ec) (hB : Rd w D (flt ((List.range N).map (wetF (fun j => l.getD j 0) q Wn Hn)))) => hidA (result_two X Y Wn Hn N _ w a b c1 d vA D vn vc z ec h (by simp) hB (by omega))
  have HE := fun (w : World) (h : Rd w A (flt l)) => hidA (fieldError_any X Y Wn Hn A N c l w hl h (by omega))
  have HZ := fun (w : World) => hidA (empty_zero w)
  have HW := fun (w : World) => hidA (flows_any w)
  have HWh := fun (b : Bool) (x : Int) (w : World) => hidA (when_any b x w)
  have HWi := fun (x : Int) (w : World) => hidA (within_any x 0 1099511627776 w)
  have HS := fun (x y : Int) (B : Option Addr) (w : World) (h : Rd w B ([x, y].map (.int .i64))) => hidA (first_any B 2 2 [x, y] w rfl h (by omega))
  have hend := wantK_end X Y Wn Hn l q
  rw [hE] at hend
  rw [hf] at HE hend
  clear hr hN hf hq hE hh q1 q2
  rw [hu, hn] at hend
  have Hend := hidA hend
  clear hend hb hu
  go_enter Try.func6, Try.ntmps6
  go_upto_region 2 with (go_at_call 36; refine ((HB _ (hV.ext (by repeat (first | (with_reducible exact Ext.refl _) | (with_reducible assumption) | (with_reducible refine Ext.setCell ?_ (by first | (simp; done) | (simp; omega)) _) | (with_reducible refine Ext.drewN ?_ _) | (with_reducible refine Ext.alloc ?_ _) | (with_reducible refine Ext.drew ?_) | (with_reducible refine Ext.trans ?_ (by assumption))))) (hQ.ext (by repeat (first | (with_reducible exact Ext.refl _) | (with_reducible assumption) | (with_reducible refine Ext.setCell ?_ (by first | (simp; done) | (simp; omega)) _) | (with_reducible refine Ext.drewN ?_ _) | (with_reducible refine Ext.alloc ?_ _) | (with_reducible refine Ext.drew ?_) | (with_reducible refine Ext.trans ?_ (by assumption)))))).out).mono ?_; rintro e w1 ⟨ra, rb, rc, rd, vA, vn, vc, ec, rfl, hW, hx1⟩)
  have kF : Bk (w1.alloc (.cells #[.int .i64 ra, .int .i64 rb, .int .i64 rc, .int .i64 rd, .slice vA vn vc] 26)) w.heap.size 26 #[.int .i64 X, .int .i64 Y, .int .i64 (Wn : Int), .int .i64 (Hn : Int), .slice A N c] := ((Bk.new' rfl).ext hx1).alloc _
  have kG : Bk (w1.alloc (.cells #[.int .i64 ra, .int .i64 rb, .int .i64 rc, .int .i64 rd, .slice vA vn vc] 26)) w1.heap.size 26 #[.int .i64 ra, .int .i64 rb, .int .i64 rc, .int .i64 rd, .slice vA vn vc] := Bk.new' rfl
  have hx2 : Ext w (w1.alloc (.cells #[.int .i64 ra, .int .i64 rb, .int .i64 rc, .int .i64 rd, .slice vA vn vc] 26)) := (((Ext.refl w).alloc _).trans hx1).alloc _
  have hW2 := hW.ext ((Ext.refl w1).alloc (.cells #[.int .i64 ra, .int .i64 rb, .int .i64 rc, .int .i64 rd, .slice vA vn vc] 26))
  clear hx1 HB hW
  generalize w1.alloc (.cells #[.int .i64 ra, .int .i64 rb, .int .i64 rc, .int .i64 rd, .slice vA vn vc] 26) = w2 at *
  generalize w1.heap.size = hg at *
  have b0 : ∀ w', Ext w2 w' → w'.cell? ⟨w.heap.size, 0, none⟩ = some (.int .i64 X) := fun w' h => (kF.ext h).cell 0
  have b1 : ∀ w', Ext w2 w' → w'.cell? ⟨w.heap.size, 1, none⟩ = some (.int .i64 Y) := fun w' h => (kF.ext h).cell 1
  have b2 : ∀ w', Ext w2 w' → w'.cell? ⟨w.heap.size, 2, none⟩ = some (.int .i64 (Wn : Int)) := fun w' h => (kF.ext h).cell 2
  have b3 : ∀ w', Ext w2 w' → w'.cell? ⟨w.heap.size, 3, none⟩ = some (.int .i64 (Hn : Int)) := fun w' h => (kF.ext h).cell 3
  have b4 : ∀ w', Ext w2 w' → w'.cell? ⟨w.heap.size, 4, none⟩ = some (.slice A N c) := fun w' h => (kF.ext h).cell 4
  refine wp_region_noPanic ?_
  refine wp_region_held_drew (S := fun w' => Ext w2 w') (by kernel_rfl) ?_ (fun hHeld => ?_)
  · (repeat (first | (with_reducible exact Ext.refl _) | (with_reducible assumption) | (with_reducible refine Ext.setCell ?_ (by first | (simp; done) | (simp; omega)) _) | (with_reducible refine Ext.drewN ?_ _) | (with_reducible refine Ext.alloc ?_ _) | (with_reducible refine Ext.drew ?_) | (with_reducible refine Ext.trans ?_ (by assumption))))
  refine wpAnyH_take (i := 0) (oi := ?o1x0) (v := ?v1x0) ?hi1x0 (by kernel_rfl) ?hf1x0 ?hr1x0 (fun _ _ _ h => h) ?hy1x0 (by assumption) ?rest1x0
  case hi1x0 => (simp only [List.getElem?_toArray, List.getElem?_cons_zero]; exact rfl)
  case hf1x0 => kernel_rfl
  case hr1x0 => kernel_rfl
  case hy1x0 => (refine Or.inl ⟨by rfl, ?_⟩; intro w hSw; (try dsimp only at hSw); go_simp; try with_reducible rfl)
  simp only [put_mk, List.set_cons_succ, List.set_cons_zero]
  refine wpAnyH_take (i := 2) (oi := ?o1x2) (v := ?v1x2) ?hi1x2 (by kernel_rfl) ?hf1x2 ?hr1x2 (fun _ _ _ h => h) ?hy1x2 (by assumption) ?rest1x2
  case hi1x2 => (simp only [List.getElem?_toArray, List.getElem?_cons_succ, List.getElem?_cons_zero]; exact rfl)
  case hf1x2 => kernel_rfl
  case hr1x2 => kernel_rfl
  case hy1x2 => (refine Or.inl ⟨by rfl, ?_⟩; intro w hSw; (try dsimp only at hSw); go_simp; try with_reducible rfl)
  simp only [put_mk, List.set_cons_succ, List.set_cons_zero]
  refine wpAnyH_take (i := 3) (oi := ?o1x3) (v := ?v1x3) ?hi1x3 (by kernel_rfl) ?hf1x3 ?hr1x3 (fun _ _ _ h => h) ?hy1x3 (by assumption) ?rest1x3
  case hi1x3 => (simp only [List.getElem?_toArray, List.getElem?_cons_succ, List.getElem?_cons_zero]; exact rfl)
  case hf1x3 => kernel_rfl
  case hr1x3 => kernel_rfl
  case hy1x3 => (refine Or.inl ⟨by rfl, ?_⟩; intro w hSw; (try dsimp only at hSw); go_simp; try with_reducible rfl)
  simp only [put_mk, List.set_cons_succ, List.set_cons_zero]
  refine wpAnyH_take (i := 4) (oi := ?o1x4) (v := ?v1x4) ?hi1x4 (by kernel_rfl) ?hf1x4 ?hr1x4 (fun _ _ _ h => h) ?hy1x4 (by assumption) ?rest1x4
  case hi1x4 => (simp only [List.getElem?_toArray, List.getElem?_cons_succ, List.getElem?_cons_zero]; exact rfl)
  case hf1x4 => kernel_rfl
  case hr1x4 => kernel_rfl
  case hy1x4 => (refine Or.inl ⟨by rfl, ?_⟩; intro w hSw; (try dsimp only at hSw); go_simp; try with_reducible rfl)
  simp only [put_mk, List.set_cons_succ, List.set_cons_zero]
  refine wpAnyH_take (i := 5) (oi := ?o1x5) (v := ?v1x5) ?hi1x5 (by kernel_rfl) ?hf1x5 ?hr1x5 (fun _ _ _ h => h) ?hy1x5 (by assumption) ?rest1x5
  case hi1x5 => (simp only [List.getElem?_toArray, List.getElem?_cons_succ, List.getElem?_cons_zero]; exact rfl)
  case hf1x5 => kernel_rfl
  case hr1x5 => kernel_rfl
  case hy1x5 => (refine Or.inl ⟨by rfl, ?_⟩; intro w hSw; (try dsimp only at hSw); go_simp; try with_reducible rfl)
  simp only [put_mk, List.set_cons_succ, List.set_cons_zero]
  refine wpAnyH_take (i := 6) (oi := ?o1x6) (v := ?v1x6) ?hi1x6 (by kernel_rfl) ?hf1x6 ?hr1x6 (fun _ _ _ h => h) ?hy1x6 (by assumption) ?rest1x6
  case hi1x6 => (simp only [List.getElem?_toArray, List.getElem?_cons_succ, List.getElem?_cons_zero]; exact rfl)
  case hf1x6 => kernel_rfl
  case hr1x6 => kernel_rfl
  case hy1x6 => (refine Or.inl ⟨by rfl, ?_⟩; intro w hSw; (try dsimp only at hSw); go_simp; try with_reducible rfl)
  simp only [put_mk, List.set_cons_succ, List.set_cons_zero]
  refine wpAnyH_take (i := 7) (oi := ?o1x7) (v := ?v1x7) ?hi1x7 (by kernel_rfl) ?hf1x7 ?hr1x7 (fun _ _ _ h => h) ?hy1x7 (by assumption) ?rest1x7
  case hi1x7 => (simp only [List.getElem?_toArray, List.getElem?_cons_succ, List.getElem?_cons_zero]; exact rfl)
  case hf1x7 => kernel_rfl
  case hr1x7 => kernel_rfl
  case hy1x7 => (refine Or.inl ⟨by rfl, ?_⟩; intro w hSw; (try dsimp only at hSw); go_simp; try with_reducible rfl)
  simp only [put_mk, List.set_cons_succ, List.set_cons_zero]
  refine wpAnyH_ready (rs := [1]) (by kernel_rfl) (by simp) ?_
  refine AllReadyH.cons (o := ?o1x1) ?hi1x1 (fun K hK => ?_) AllReadyH.nil
  case hi1x1 => (simp only [List.getElem?_toArray, List.getElem?_cons_succ, List.getElem?_cons_zero]; exact rfl)
  go_simp
  refine ((HE _ (hV.ext (hx2.trans (by repeat (first | (with_reducible exact Ext.refl _) | (with_reducible assumption) | (with_reducible refine Ext.setCell ?_ (by first | (simp; done) | (simp; omega)) _) | (with_reducible refine Ext.drewN ?_ _) | (with_reducible refine Ext.alloc ?_ _) | (with_reducible refine Ext.drew ?_) | (with_reducible refine Ext.trans ?_ (by assumption))))))).out).mono ?_
  rintro e w3 ⟨rfl, hx3⟩
  refine hK.out _ _ ?_ (fun hHeld => ?_)
  · (repeat (first | (with_reducible exact Ext.refl _) | (with_reducible assumption) | (with_reducible refine Ext.setCell ?_ (by first | (simp; done) | (simp; omega)) _) | (with_reducible refine Ext.drewN ?_ _) | (with_reducible refine Ext.alloc ?_ _) | (with_reducible refine Ext.drew ?_) | (with_reducible refine Ext.trans ?_ (by assumption))))
  clear hK K
  refine wpAnyH_ready (rs := [8]) (by kernel_rfl) (by simp) ?_
  refine AllReadyH.cons (o := ?o1x8) ?hi1x8 (fun K hK => ?_) AllReadyH.nil
  case hi1x8 => (simp only [List.getElem?_toArray, List.getElem?_cons_succ, List.getElem?_cons_zero]; exact rfl)
  go_simp
  refine ((HWh _ _ _).out).mono ?_
  rintro e w4 ⟨rfl, rfl⟩
  refine hK.out _ _ ?_ (fun hHeld => ?_)
  · (repeat (first | (with_reducible exact Ext.refl _) | (with_reducible assumption) | (with_reducible refine Ext.setCell ?_ (by first | (simp; done) | (simp; omega)) _) | (with_reducible refine Ext.drewN ?_ _) | (with_reducible refine Ext.alloc ?_ _) | (with_reducible refine Ext.drew ?_) | (with_reducible refine Ext.trans ?_ (by assumption))))
  clear hK K
  refine wpAnyH_ready (rs := [9]) (by kernel_rfl) (by simp) ?_
  refine AllReadyH.cons (o := ?o1x9) ?hi1x9 (fun K hK => ?_) AllReadyH.nil
  case hi1x9 => (simp only [List.getElem?_toArray, List.getElem?_cons_succ, List.getElem?_cons_zero]; exact rfl)
  go_simp
  refine hK.out _ _ ?_ (fun hHeld => ?_)
  · (repeat (first | (with_reducible exact Ext.refl _) | (with_reducible assumption) | (with_reducible refine Ext.setCell ?_ (by first | (simp; done) | (simp; omega)) _) | (with_reducible refine Ext.drewN ?_ _) | (with_reducible refine Ext.alloc ?_ _) | (with_reducible refine Ext.drew ?_) | (with_reducible refine Ext.trans ?_ (by assumption))))
  clear hK K
  refine wpAnyH_ready (rs := [10]) (by kernel_rfl) (by simp) ?_
  refine AllReadyH.cons (o := ?o1x10) ?hi1x10 (fun K hK => ?_) AllReadyH.nil
  case hi1x10 => (simp only [List.getElem?_toArray, List.getElem?_cons_succ, List.getElem?_cons_zero]; exact rfl)
  go_simp
  refine ((HS _ _ _ _ (Rd.new (by first | rfl | simp) (by first | rfl | simp))).out).mono ?_
  rintro e w5 ⟨rfl, hx5⟩
  have hg5 : Ext w2 w5 := by rw [← hx5]; (repeat (first | (with_reducible exact Ext.refl _) | (with_reducible assumption) | (with_reducible refine Ext.setCell ?_ (by first | (simp; done) | (simp; omega)) _) | (with_reducible refine Ext.drewN ?_ _) | (with_reducible refine Ext.alloc ?_ _) | (with_reducible refine Ext.drew ?_) | (with_reducible refine Ext.trans ?_ (by assumption))))
  refine hK.out _ _ ?_ (fun hHeld => ?_)
  · (repeat (first | (with_reducible exact Ext.refl _) | (with_reducible assumption) | (with_reducible refine Ext.setCell ?_ (by first | (simp; done) | (simp; omega)) _) | (with_reducible refine Ext.drewN ?_ _) | (with_reducible refine Ext.alloc ?_ _) | (with_reducible refine Ext.drew ?_) | (with_reducible refine Ext.trans ?_ (by assumption))))
  clear hK K
  refine wpAnyH_take (i := 11) (oi := ?o1x11) (v := ?v1x11) ?hi1x11 (by kernel_rfl) ?hf1x11 ?hr1x11 (fun _ _ _ h => h) ?hy1x11 (by assumption) ?rest1x11
  case hi1x11 => (simp only [List.getElem?_toArray, List.getElem?_cons_succ, List.getElem?_cons_zero]; exact rfl)
  case hf1x11 => kernel_rfl
  case hr1x11 => kernel_rfl
  case hy1x11 => (refine Or.inl ⟨by rfl, ?_⟩; intro w hSw; (try dsimp only at hSw); go_simp; try with_reducible rfl)
  simp only [put_mk, List.set_cons_succ, List.set_cons_zero]
  refine wpAnyH_done (by kernel_rfl) ?_ _
  refine NoPanic.normal ?_
  generalize firstE [0, 0] = E0 at *
  have hg6 := hx2.trans hg5
  have kG5 := kG.ext hg5
  have kF5 := kF.ext hg5
  have hW5 := hW2.ext hg5
  have HnQ := hidA hn
  clear hx5 hg5 kF kG hW2 b0 b1 b2 b3 b4 hx3 hHeld hl hn HE
  go_wp2
  go_loopw [7, 34] (fun s7 s34 wr => ∃ k : Nat, k ≤ N ∧ s34 = .int .i64 k ∧ s7 = .int .i64 (wantK E0 q k) ∧ Ext w5 wr) (fun _ s34 _ => N - (intOf s34).toNat)
  case atStart => exact ⟨0, Nat.zero_le _, rfl, by rw [wantK_zero], Ext.refl _⟩
  case round =>
    obtain ⟨k, hk, rfl, rfl, hx⟩ := hrel
    by_cases hkn : k < N
    · have hkq : k < q.length := by rw [HnQ.out]; exact hkn
      obtain ⟨ad, rfl, hbk, hcv⟩ := (hQ.ext (hg6.trans hx)).at (k := k) (by rw [intC_length]; exact hkq)
      have ck := hcv k _ (intC_get hkq)
      have hnext := wantK_next E0 q k
      generalize q.getD k 0 = z at *
      have HWz := fun w => HWi z w
      clear HWi hcv hkq
      generalize wantK E0 q k = a at *
      generalize hzz : wantK E0 q (k + 1) = a2 at *
      have Hzz := hidA hzz
      clear hzz
      have i0 : (0 : Int) ≤ k := by omega
      have i1 : (k : Int) < N := by omega
      cases hbb : (decide (0 ≤ z) && decide (z ≤ 1099511627776))
      all_goals
        rw [hbb] at hnext
        rw [hbb] at HWz
        simp only [Bool.not_true, Bool.not_false, if_true, if_false, Bool.false_eq_true] at hnext
        have Hnext := hidA hnext
        clear hbb hnext
        go_wp2_with (first | (go_at_call 27; refine ((HWz _).out).mono ?_; rintro e w6 ⟨rfl, rfl⟩) | (go_at_call 19; refine ((HWh _ _ _).out).mono ?_; rintro e w7 ⟨rfl, rfl⟩) | (go_at_call 16; refine ((HS _ _ _ _ (Rd.new (by first | rfl | simp) (by first | rfl | simp))).out).mono ?_; rintro e w8 ⟨rfl, hx8⟩))
        have hx9 : Ext w5 w8 := hx.trans (by rw [← hx8]; (repeat (first | (with_reducible exact Ext.refl _) | (with_reducible assumption) | (with_reducible refine Ext.setCell ?_ (by first | (simp; done) | (simp; omega)) _) | (with_reducible refine Ext.drewN ?_ _) | (with_reducible refine Ext.alloc ?_ _) | (with_reducible refine Ext.drew ?_) | (with_reducible refine Ext.trans ?_ (by assumption)))))
        go_roundw
        case rel => exact ⟨k + 1, by omega, by go_num, by rw [Hnext.out, Hzz.out], hx9⟩
        case measure => simp [intOf]; omega
    · have hkn' : k = N := by omega
      subst hkn'
      rw [Hend.out]
      -- TAIL
      have kF6 := kF5.ext hx
      have kG6 := kG5.ext hx
      have hW6 := hW5.ext hx
      have hx0 : Ext w wr := hg6.trans hx
      clear hx hg6 kF5 kG5 hW5 HWh HWi HS HZ Hend
      go_upto_region 10 with (go_at_call 20; refine ((HW _).out).mono ?_; rintro e w6 ⟨rfl, hx6⟩)
      have kF7 := kF6.ext hx6
      have kG7 := kG6.ext hx6
      have hW7 := hW6.ext hx6
      have hx01 : Ext w w6 := hx0.trans hx6
      clear kF6 kG6 hW6 hx0 hx6 HW
      have c0 := kF7.cell 0
      have c1 := kF7.cell 1
      have c2 := kF7.cell 2
      have c3 := kF7.cell 3
      have c4 := kF7.cell 4
      go_upto_region 12 with (go_at_call 37; refine ((HSt _ (hV.ext hx01)).out).mono ?_; rintro e w7 ⟨gi, gf, rfl, hIb, hFb, hx7⟩)
      have kF8 := kF7.ext hx7
      have kG8 := kG7.ext hx7
      have hW8 := hW7.ext hx7
      have hx02 : Ext w w7 := hx01.trans hx7
      clear c0 c1 c2 c3 c4 kF7 kG7 hW7 hx01 hx7 HSt hIb
      obtain ⟨i0, hi0, hz0, hz1, hz2⟩ := info_parts infoFl
      go_wp2_with fail
      go_loopw [12, 72] (fun v i wr => ∃ (j : Nat) (C : Option Addr) (z : Nat), j ≤ k ∧ i = .int .i64 j ∧ v = .slice C j z ∧ wr.ownsRow w7.heap.size 27 1 (.slice C j z) j (flt ((List.range j).map (wetF (fun j => l.getD j 0) q Wn Hn))) ∧ Ext w7 wr) (fun _ i _ => k - (intOf i).toNat)
      case atStart => exact ⟨0, none, 0, by omega, rfl, rfl, by simpa [flt] using World.ownsRow_nil _ _ _ _, Ext.refl _⟩
      case round =>
        obtain ⟨j, C, zc, hj, rfl, rfl, hown, hxr⟩ := hrel
        by_cases hjk : j < k
        · have hkq : j < q.length := by rw [HnQ.out]; exact hjk
          obtain ⟨ad, rfl, hbk, hcv⟩ := (hQ.ext (hx02.trans hxr)).at (k := j) (by rw [intC_length]; exact hkq)
          have ck := hcv j _ (intC_get hkq)
          have HRj := fun (w : World) => HRt j w hjk
          obtain ⟨m1, m2, _⟩ := (HWo j hjk).out
          obtain ⟨fk, hfk⟩ : ∃ x, x = wetF (fun j => l.getD j 0) q Wn Hn j := ⟨_, rfl⟩
          rw [← hfk] at m2
          have HFK := hidA hfk
          clear hfk
          have r1 := fun (w : World) => run_float_arith (P := Try.prog) w .add 27 .f32 _ _ _ m1
          have r2 := fun (w : World) => run_float_arith (P := Try.prog) w .quo 27 .f32 _ _ _ m2
          have f0 : ∀ w', Ext w7 w' → w'.cell? ⟨gf, j, none⟩ = some (.float .f32 (stp (fun j => l.getD j 0) Wn Hn j 8).2) := fun w' h => by rw [(hFb.ext h).cell]; exact flo_get _ hjk
          have u1 : j + 1 ≤ maxLen := by unfold maxLen; omega
          have u2 : (j + 1) * 4 ≤ 140737488355328 := by omega
          have hlr := hxr.size
          have i0' : (0 : Int) ≤ j := by omega
          have i1 : (j : Int) < k := by omega
          clear m1 m2 HRes hcv hkq hFb kF8 kG8 hW8
          generalize q.getD j 0 = z at *
          generalize (stp (fun j => l.getD j 0) Wn Hn j 8).2 = dr at *
          go_upto_region 15 with fail
          refine wp_region_noPanic ?_
          refine wp_region_held_drew (S := fun w' => Ext w7 w') (by kernel_rfl) ?_ (fun hHeld => ?_)
          · (repeat (first | exact Ext.refl _ | assumption | refine Ext.setCell ?_ (by first | (simp; done) | (simp; omega)) _ | refine Ext.drewN ?_ _ | refine Ext.alloc ?_ _ | refine Ext.drew ?_ | refine Ext.trans ?_ (by assumption)))
          refine wpAnyH_take (i := 0) (oi := ?o101x0) (v := ?v101x0) ?hi101x0 (by kernel_rfl) ?hf101x0 ?hr101x0 (fun _ _ _ h => h) ?hy101x0 (by assumption) ?rest101x0
          case hi101x0 => (simp only [List.getElem?_toArray, List.getElem?_cons_zero]; exact rfl)
          case hf101x0 => kernel_rfl
          case hr101x0 => kernel_rfl
          case hy101x0 => (refine Or.inl ⟨by rfl, ?_⟩; intro w hSw; (try dsimp only at hSw); go_simp; try with_reducible rfl)
          simp only [put_mk, List.set_cons_succ, List.set_cons_zero]
          refine wpAnyH_take (i := 1) (oi := ?o101x1) (v := ?v101x1) ?hi101x1 (by kernel_rfl) ?hf101x1 ?hr101x1 (fun _ _ _ h => h) ?hy101x1 (by assumption) ?rest101x1
          case hi101x1 => (simp only [List.getElem?_toArray, List.getElem?_cons_succ, List.getElem?_cons_zero]; exact rfl)
          case hf101x1 => kernel_rfl
          case hr101x1 => kernel_rfl
          case hy101x1 => (refine Or.inl ⟨by rfl, ?_⟩; intro w hSw; (try dsimp only at hSw); go_simp; try with_reducible rfl)
          simp only [put_mk, List.set_cons_succ, List.set_cons_zero]
          refine wpAnyH_take (i := 2) (oi := ?o101x2) (v := ?v101x2) ?hi101x2 (by kernel_rfl) ?hf101x2 ?hr101x2 (fun _ _ _ h => h) ?hy101x2 (by assumption) ?rest101x2
          case hi101x2 => (simp only [List.getElem?_toArray, List.getElem?_cons_succ, List.getElem?_cons_zero]; exact rfl)
          case hf101x2 => kernel_rfl
          case hr101x2 => kernel_rfl
          case hy101x2 => (refine Or.inl ⟨by rfl, ?_⟩; intro w hSw; (try dsimp only at hSw); go_simp; try with_reducible rfl)
          simp only [put_mk, List.set_cons_succ, List.set_cons_zero]
          refine wpAnyH_take (i := 4) (oi := ?o101x4) (v := ?v101x4) ?hi101x4 (by kernel_rfl) ?hf101x4 ?hr101x4 (fun _ _ _ h => h) ?hy101x4 (by assumption) ?rest101x4
          case hi101x4 => (simp only [List.getElem?_toArray, List.getElem?_cons_succ, List.getElem?_cons_zero]; exact rfl)
          case hf101x4 => kernel_rfl
          case hr101x4 => kernel_rfl
          case hy101x4 => (refine Or.inl ⟨by rfl, ?_⟩; intro w hSw; (try dsimp only at hSw); go_simp; try with_reducible rfl)
          simp only [put_mk, List.set_cons_succ, List.set_cons_zero]
          refine wpAnyH_take (i := 5) (oi := ?o101x5) (v := ?v101x5) ?hi101x5 (by kernel_rfl) ?hf101x5 ?hr101x5 (fun _ _ _ h => h) ?hy101x5 (by assumption) ?rest101x5
          case hi101x5 => (simp only [List.getElem?_toArray, List.getElem?_cons_succ, List.getElem?_cons_zero]; exact rfl)
          case hf101x5 => kernel_rfl
          case hr101x5 => kernel_rfl
          case hy101x5 => (refine Or.inl ⟨by rfl, ?_⟩; intro w hSw; (try dsimp only at hSw); go_simp; try with_reducible rfl)
          simp only [put_mk, List.set_cons_succ, List.set_cons_zero]
          refine wpAnyH_take (i := 6) (oi := ?o101x6) (v := ?v101x6) ?hi101x6 (by kernel_rfl) ?hf101x6 ?hr101x6 (fun _ _ _ h => h) ?hy101x6 (by assumption) ?rest101x6
          case hi101x6 => (simp only [List.getElem?_toArray, List.getElem?_cons_succ, List.getElem?_cons_zero]; exact rfl)
          case hf101x6 => kernel_rfl
          case hr101x6 => kernel_rfl
          case hy101x6 => (refine Or.inl ⟨by rfl, ?_⟩; intro w hSw; (try dsimp only at hSw); go_simp; try with_reducible rfl)
          simp only [put_mk, List.set_cons_succ, List.set_cons_zero]
          refine wpAnyH_take (i := 7) (oi := ?o101x7) (v := ?v101x7) ?hi101x7 (by kernel_rfl) ?hf101x7 ?hr101x7 (fun _ _ _ h => h) ?hy101x7 (by assumption) ?rest101x7
          case hi101x7 => (simp only [List.getElem?_toArray, List.getElem?_cons_succ, List.getElem?_cons_zero]; exact rfl)
          case hf101x7 => kernel_rfl
          case hr101x7 => kernel_rfl
          case hy101x7 => (refine Or.inl ⟨by rfl, ?_⟩; intro w hSw; (try dsimp only at hSw); go_simp; try with_reducible rfl)
          simp only [put_mk, List.set_cons_succ, List.set_cons_zero]
          refine wpAnyH_take (i := 8) (oi := ?o101x8) (v := ?v101x8) ?hi101x8 (by kernel_rfl) ?hf101x8 ?hr101x8 (fun _ _ _ h => h) ?hy101x8 (by assumption) ?rest101x8
          case hi101x8 => (simp only [List.getElem?_toArray, List.getElem?_cons_succ, List.getElem?_cons_zero]; exact rfl)
          case hf101x8 => kernel_rfl
          case hr101x8 => kernel_rfl
          case hy101x8 => (refine Or.inl ⟨by rfl, ?_⟩; intro w hSw; (try dsimp only at hSw); go_simp; try with_reducible rfl)
          simp only [put_mk, List.set_cons_succ, List.set_cons_zero]
          refine wpAnyH_ready (rs := [3]) (by kernel_rfl) (by simp) ?_
          refine AllReadyH.cons (o := ?o101x3) ?hi101x3 (fun K hK => ?_) AllReadyH.nil
          case hi101x3 => (simp only [List.getElem?_toArray, List.getElem?_cons_succ, List.getElem?_cons_zero]; exact rfl)
          go_simp
          refine ((HRj _).out).mono ?_
          rintro e w8 ⟨rfl, rfl⟩
          refine hK.out _ _ ?_ (fun hHeld => ?_)
          · (repeat (first | exact Ext.refl _ | assumption | refine Ext.setCell ?_ (by first | (simp; done) | (simp; omega)) _ | refine Ext.drewN ?_ _ | refine Ext.alloc ?_ _ | refine Ext.drew ?_ | refine Ext.trans ?_ (by assumption)))
          clear hK K
          refine wpAnyH_take (i := 9) (oi := ?o101x9) (v := ?v101x9) ?hi101x9 (by kernel_rfl) ?hf101x9 ?hr101x9 (fun _ _ _ h => h) ?hy101x9 (by assumption) ?rest101x9
          case hi101x9 => (simp only [List.getElem?_toArray, List.getElem?_cons_succ, List.getElem?_cons_zero]; exact rfl)
          case hf101x9 => kernel_rfl
          case hr101x9 => kernel_rfl
          case hy101x9 => (refine Or.inl ⟨by rfl, ?_⟩; intro w hSw; (try dsimp only at hSw); go_simp; try with_reducible rfl)
          simp only [put_mk, List.set_cons_succ, List.set_cons_zero]
          refine wpAnyH_ready (rs := [10]) (by kernel_rfl) (by simp) ?_
          refine AllReadyH.cons (o := ?o101x10) ?hi101x10 (fun K hK => ?_) AllReadyH.nil
          case hi101x10 => (simp only [List.getElem?_toArray, List.getElem?_cons_succ, List.getElem?_cons_zero]; exact rfl)
          go_simp
          refine hK.out _ _ ?_ (fun hHeld => ?_)
          · (repeat (first | exact Ext.refl _ | assumption | refine Ext.setCell ?_ (by first | (simp; done) | (simp; omega)) _ | refine Ext.drewN ?_ _ | refine Ext.alloc ?_ _ | refine Ext.drew ?_ | refine Ext.trans ?_ (by assumption)))
          clear hK K
          refine wpAnyH_ready (rs := [11]) (by kernel_rfl) (by simp) ?_
          refine AllReadyH.cons (o := ?o101x11) ?hi101x11 (fun K hK => ?_) AllReadyH.nil
          case hi101x11 => (simp only [List.getElem?_toArray, List.getElem?_cons_succ, List.getElem?_cons_zero]; exact rfl)
          refine step_append_lies _ (by rfl) _ _ _ (by rfl) w7.heap.size 27 i0 _ 1 4 Try.underlying24 hi0 hz0 hz1 hz2 rfl (by decide) _ _ _ (by rfl) (own_ext hown (by repeat (first | exact Ext.refl _ | assumption | refine Ext.setCell ?_ (by first | (simp; done) | (simp; omega)) _ | refine Ext.drewN ?_ _ | refine Ext.alloc ?_ _ | refine Ext.drew ?_ | refine Ext.trans ?_ (by assumption)))) ⟨wr.heap.size, 0, none⟩ 1 1 [.float .f32 fk] (by rfl) (by rfl) (World.news_of_block (cs := #[.float .f32 fk]) (t := 27) (fr := (0, 0)) (Bk.new' rfl).drew) (by simp [Value.oneCell']) (by decide) u1 u2 (by simp; omega) (wr.heap.size + 1) (by simp) ?_
          intro gg cap w9 hown9 hgrow hat hltg
          have hx9 : Ext w7 w9 := (show Ext w7 _ from (by repeat (first | exact Ext.refl _ | assumption | refine Ext.setCell ?_ (by first | (simp; done) | (simp; omega)) _ | refine Ext.drewN ?_ _ | refine Ext.alloc ?_ _ | refine Ext.drew ?_ | refine Ext.trans ?_ (by assumption)))).own (own_ext hown (by repeat (first | exact Ext.refl _ | assumption | refine Ext.setCell ?_ (by first | (simp; done) | (simp; omega)) _ | refine Ext.drewN ?_ _ | refine Ext.alloc ?_ _ | refine Ext.drew ?_ | refine Ext.trans ?_ (by assumption)))) (Nat.le_refl _) hgrow
          refine hK.out _ _ ?_ (fun hHeld => ?_)
          · (repeat (first | exact Ext.refl _ | assumption | refine Ext.setCell ?_ (by first | (simp; done) | (simp; omega)) _ | refine Ext.drewN ?_ _ | refine Ext.alloc ?_ _ | refine Ext.drew ?_ | refine Ext.trans ?_ (by assumption)))
          clear hK K
          simp only [put_mk, List.set_cons_succ, List.set_cons_zero]
          refine wpAnyH_take (i := 12) (oi := ?o101x12) (v := ?v101x12) ?hi101x12 (by kernel_rfl) ?hf101x12 ?hr101x12 (fun _ _ _ h => h) ?hy101x12 (by assumption) ?rest101x12
          case hi101x12 => (simp only [List.getElem?_toArray, List.getElem?_cons_succ, List.getElem?_cons_zero]; exact rfl)
          case hf101x12 => kernel_rfl
          case hr101x12 => kernel_rfl
          case hy101x12 => (refine Or.inl ⟨by rfl, ?_⟩; intro w hSw; (try dsimp only at hSw); go_simp; try with_reducible rfl)
          simp only [put_mk, List.set_cons_succ, List.set_cons_zero]
          refine wpAnyH_done (by kernel_rfl) ?_ _
          refine NoPanic.normal ?_
          go_wp2_with fail
          go_roundw
          case rel => exact ⟨j + 1, some ⟨gg, 0, none⟩, cap, by omega, by go_num, rfl, by rw [HFK.out] at hown9; rw [List.range_succ, List.map_append]; simpa [flt] using hown9, hx9⟩
          case measure => simp [intOf]; omega
        · have hjk' : j = k := by omega
          subst hjk'
          have c0 := (kF8.ext hxr).cell 0
          have c1 := (kF8.ext hxr).cell 1
          have c2 := (kF8.ext hxr).cell 2
          have c3 := (kF8.ext hxr).cell 3
          have d0 := (kG8.ext hxr).cell 0
          have d1 := (kG8.ext hxr).cell 1
          have d2 := (kG8.ext hxr).cell 2
          have d3 := (kG8.ext hxr).cell 3
          have d4 := (kG8.ext hxr).cell 4
          have hRd := Rd.of_own hown
          have hWx := hW8.ext hxr
          clear hown kF8 kG8 hW8 HWo HRt hFb
          go_wp2_with (go_at_call 39; refine ((HRes _ _ _ _ _ _ _ _ _ _ _ hWx hRd).out).mono ?_; rintro e w8 ⟨rfl, hx8⟩)
          go_ret
          exact ⟨by first | rfl | simp, (hx02.trans hxr).trans hx8⟩
end Go.Proofs.Ytinohfgokpbcdaa
