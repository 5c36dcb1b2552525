/- Contract: road.Rounded where its arguments are wrong. -/
import Derived.Test.YtpgdinpckolfpaaRvAA
namespace Go.Proofs.Ytpgdinpckolfpaa
open Go.RowKit
attribute [local go_sem ↓] Go.wp_at_zero Go.wp_at_succ
attribute [local go_sem] run_store_float

theorem nxt_i {k n : Nat} (hn : n ≤ 65536) (h : k < n) : wrap64 ((k : Int) + 1) = ((k + 1 : Nat) : Int) := by
  rw [IntWalk.wrap64_in _ ⟨by omega, by omega⟩]; omega
theorem nxt_k {k n : Nat} (h : k < n) : n - (intOf (.int .i64 ((k : Int) + 1))).toNat < n - (intOf (.int .i64 (k : Int))).toNat := by
  simp [intOf]
  omega
set_option maxRecDepth 100000 in
set_option maxHeartbeats 3200000 in
theorem Straight_bad1 (A : Option Addr) (n c : Nat) (w : World) (hE : amtS n ≠ 0) :
    Calls Try.prog 34 #[.slice A n c] w fun e w' => e = .returned (.tuple #[.slice none 0 0, .int .i64 (amtS n)]) ∧ Ext w w' := by
  have HA := fun (w : World) => hidA (amount_any A n c w)
  have HA : ∀ w : World, Hid (Calls Try.prog 69 #[.slice A n c] w fun e w' => e = .returned (.int .i64 (amtS n)) ∧ w = w') := HA
  have hne : (amtS n != 0) = true := by simpa using hE
  generalize amtS n = E at *
  clear hE
  go_enter Try.func34, Try.ntmps34
  go_wp2_with (go_at_call 69; refine ((HA _).out).mono ?_; rintro e w0 ⟨rfl, hw0⟩; subst hw0)
  go_ret2
  exact ⟨rfl, Ext.refl _⟩
set_option maxRecDepth 100000 in
set_option maxHeartbeats 6400000 in
theorem Straight_bad2 (A : Option Addr) (n c : Nat) (l : List (Int × Int)) (w : World) (hn : l.length = n) (hV : Rd w A (ptv l)) (h0 : amtS n = 0) (hE : stI l 0 n ≠ 0) :
    Calls Try.prog 34 #[.slice A n c] w fun e w' => e = .returned (.tuple #[.slice none 0 0, .int .i64 (stI l 0 n)]) ∧ Ext w w' := by
  have HA := fun (w : World) => hidA (amount_any A n c w)
  have HA : ∀ w : World, Hid (Calls Try.prog 69 #[.slice A n c] w fun e w' => e = .returned (.int .i64 (amtS n)) ∧ w = w') := HA
  have HP := fun (x y : Int) (w : World) => hidA (place_any x y w)
  have HBt := fun (qx qy px py : Int) (w : World) (h1 : farP (qx, qy) = false) (h2 : farP (px, py) = false) => hidA (between_any qx qy px py w (by have := farP_false h1; dsimp only at this; omega) (by have := farP_false h1; dsimp only at this; omega) (by have := farP_false h2; dsimp only at this; omega) (by have := farP_false h2; dsimp only at this; omega))
  have Hn := hidA hn
  rw [h0] at HA
  have hn6 : n ≤ 65536 := by
    unfold amtS at h0
    split at h0
    · cases h0
    · split at h0
      · cases h0
      · omega
  obtain ⟨E, hEe⟩ : ∃ E, E = stI l 0 n := ⟨_, rfl⟩
  rw [← hEe] at hE ⊢
  have HE := hidA hEe
  have HE0 := hidA hE
  clear hE hEe h0 hn
  go_enter Try.func34, Try.ntmps34
  go_upto_region 5 with (go_at_call 69; refine ((HA _).out).mono ?_; rintro e w0 ⟨rfl, hw0⟩; subst hw0)
  go_loopw [24] (fun s24 wr => ∃ k : Nat, k ≤ n ∧ s24 = .int .i64 k ∧ E = stI l k (n - k) ∧ (0 < k → farP (l.getD (k - 1) (0, 0)) = false) ∧ Ext w wr) (fun s24 _ => n - (intOf s24).toNat)
  case atStart => exact ⟨0, Nat.zero_le _, rfl, HE.out, fun h => by omega, Ext.refl _⟩
  case round =>
    obtain ⟨k, hk, rfl, hEk, hprev, hx⟩ := hrel
    have HEk := hidA hEk
    have Hprev := hidA hprev
    clear hEk hprev
    by_cases hkn : k < n
    · have HE3 := hidA (HEk.out.trans (stI_step hkn))
      have hkl : k < l.length := by have := Hn.out; omega
      obtain ⟨ad, rfl, hbk, d0, d1⟩ := pt_at (hV.ext hx) hkl
      have i0 : (0 : Int) ≤ k := by omega
      have i1 : (k : Int) < n := by omega
      obtain ⟨px, py, hpp⟩ : ∃ px py, l.getD k (0, 0) = (px, py) := ⟨_, _, rfl⟩
      rw [hpp] at d0 d1
      dsimp only at d0 d1
      have Hpp := hidA hpp
      have HPq := fun w => HP px py w
      have HE4 := hidA (show E = if farP (px, py) = true then 5 else if 0 < k ∧ leapN (l.getD (k - 1) (0, 0)) (px, py) = true then 2 else stI l (k + 1) (n - (k + 1)) from by rw [HE3.out, hpp])
      have Hkn := hidA hkn
      have Hn6 := hidA hn6
      clear hpp HE3 HEk
      cases hb : farP (px, py)
      · have HE5 := hidA (HE4.out.trans (if_neg (by rw [hb]; decide)))
        have Hb := hidA hb
        rw [hb] at HPq
        simp only [Bool.false_eq_true, if_false] at HPq
        clear hb HE4
        go_upto_region 7 with fail
        have kP : Bk (wr.alloc (.cells #[.int .i64 px, .int .i64 py] 32)) wr.heap.size 32 #[.int .i64 px, .int .i64 py] := Bk.new' rfl
        have hx1 := hx.alloc (.cells #[.int .i64 px, .int .i64 py] 32)
        clear d0 d1
        generalize wr.alloc (.cells #[.int .i64 px, .int .i64 py] 32) = w1 at *
        generalize wr.heap.size = ha at *
        have p0 := kP.cell 0
        have p1 := kP.cell 1
        by_cases hk0 : k = 0
        · subst hk0
          have HE6 := hidA (HE5.out.trans (if_neg (by omega)))
          clear HE5
          go_wp2_with (go_at_call 77; refine ((HPq _).out).mono ?_; rintro e w2 ⟨rfl, hx2⟩)
          go_roundw
          case rel => exact ⟨1, Hkn.out, rfl, HE6.out, fun _ => by show farP (l.getD 0 (0, 0)) = false; rw [Hpp.out]; exact Hb.out, hx1.trans hx2⟩
          case measure => have := Hkn.out; simp [intOf]; omega
        · have hkl1 : k - 1 < l.length := by omega
          have hfq := Hprev.out (by omega)
          obtain ⟨qx, qy, hqq⟩ : ∃ qx qy, l.getD (k - 1) (0, 0) = (qx, qy) := ⟨_, _, rfl⟩
          rw [hqq] at hfq
          have HB1 := fun (w : World) => HBt qx qy px py w hfq Hb.out
          have HE6 := hidA (show E = if leapN (qx, qy) (px, py) = true then 2 else stI l (k + 1) (n - (k + 1)) from by rw [HE5.out, hqq]; simp [show 0 < k by omega])
          have Hqq := hidA hqq
          have e0 : ∀ w', Ext w1 w' → w'.cell? (ad.add ((k - 1) * 2)) = some (.int .i64 qx) := fun w' h => by
            obtain ⟨ad', e, _, d0, _⟩ := pt_at (hV.ext (hx1.trans h)) hkl1
            injection e with e
            subst e
            rw [Hqq.out] at d0
            exact d0
          have e1 : ∀ w', Ext w1 w' → w'.cell? ⟨(ad.add ((k - 1) * 2)).block, (ad.add ((k - 1) * 2)).off + 1, none⟩ = some (.int .i64 qy) := fun w' h => by
            obtain ⟨ad', e, _, _, d1⟩ := pt_at (hV.ext (hx1.trans h)) hkl1
            injection e with e
            subst e
            rw [Hqq.out] at d1
            exact d1
          have f0 : ∀ w', Ext w1 w' → w'.cell? ⟨ha, 0, none⟩ = some (.int .i64 px) := fun w' h => (kP.ext h).cell 0
          have f1 : ∀ w', Ext w1 w' → w'.cell? ⟨ha, 1, none⟩ = some (.int .i64 py) := fun w' h => (kP.ext h).cell 1
          have j0 : (0 : Int) ≤ ((k - 1 : Nat) : Int) := by omega
          have j1 : ((k - 1 : Nat) : Int) < n := by omega
          have hk0' : ¬ (k : Int) = 0 := by omega
          have hk0b : ((k : Int) == 0) = false := by simp; omega
          have Hwk := hidA (show wrap64 ((k : Int) - 1) = ((k - 1 : Nat) : Int) by rw [IntWalk.wrap64_in _ ⟨by omega, by omega⟩]; omega)
          have Hwk2 := hidA (show IntKind.i64.wrap ((k : Int) - 1) = ((k - 1 : Nat) : Int) by rw [IntWalk.i64_in _ ⟨by omega, by omega⟩]; omega)
          clear HE5 hqq hfq HBt hk hkl
          unfold btV at HB1
          cases hlp : leapO (px - qx) (py - qy) with
          | none =>
            have HE7 := hidA (HE6.out.trans (if_pos (by unfold leapN; rw [hlp]; rfl)))
            rw [hlp] at HB1
            simp only [] at HB1
            clear hlp HE6
            go_upto_region 11 with (go_at_call 77; refine ((HPq _).out).mono ?_; rintro e w2 ⟨rfl, hx2⟩)
            have wk := Hwk.out
            have wk2 := Hwk2.out
            refine wp_region_noPanic ?_
            refine wp_region_held_drew (S := fun w' => Ext w1 w') (by kernel_rfl) ?_ (fun hHeld => ?_)
            · (repeat (first | exact Ext.refl _ | assumption | refine Ext.setCell ?_ (by first | (simp; done) | (simp; omega)) _ | refine Ext.drewN ?_ _ | refine Ext.alloc ?_ _ | refine Ext.drew ?_ | refine Ext.trans ?_ (by assumption)))
            refine wpAnyH_take (i := 0) (oi := ?o1x0) (v := ?v1x0) ?hi1x0 (by kernel_rfl) ?hf1x0 ?hr1x0 (fun _ _ _ h => h) ?hy1x0 (by assumption) ?rest1x0
            case hi1x0 => (simp only [List.getElem?_toArray, List.getElem?_cons_zero]; exact rfl)
            case hf1x0 => kernel_rfl
            case hr1x0 => kernel_rfl
            case hy1x0 => (refine Or.inl ⟨by rfl, ?_⟩; intro w hSw; (try dsimp only at hSw); go_simp; try with_reducible rfl)
            simp only [put_mk, List.set_cons_succ, List.set_cons_zero]
            refine wpAnyH_take (i := 1) (oi := ?o1x1) (v := ?v1x1) ?hi1x1 (by kernel_rfl) ?hf1x1 ?hr1x1 (fun _ _ _ h => h) ?hy1x1 (by assumption) ?rest1x1
            case hi1x1 => (simp only [List.getElem?_toArray, List.getElem?_cons_succ, List.getElem?_cons_zero]; exact rfl)
            case hf1x1 => kernel_rfl
            case hr1x1 => kernel_rfl
            case hy1x1 => (refine Or.inl ⟨by rfl, ?_⟩; intro w hSw; (try dsimp only at hSw); go_simp; try with_reducible rfl)
            simp only [put_mk, List.set_cons_succ, List.set_cons_zero]
            refine wpAnyH_take (i := 2) (oi := ?o1x2) (v := ?v1x2) ?hi1x2 (by kernel_rfl) ?hf1x2 ?hr1x2 (fun _ _ _ h => h) ?hy1x2 (by assumption) ?rest1x2
            case hi1x2 => (simp only [List.getElem?_toArray, List.getElem?_cons_succ, List.getElem?_cons_zero]; exact rfl)
            case hf1x2 => kernel_rfl
            case hr1x2 => kernel_rfl
            case hy1x2 => (refine Or.inl ⟨by rfl, ?_⟩; intro w hSw; (try dsimp only at hSw); go_simp; try with_reducible rfl)
            simp only [put_mk, List.set_cons_succ, List.set_cons_zero]
            refine wpAnyH_take (i := 3) (oi := ?o1x3) (v := ?v1x3) ?hi1x3 (by kernel_rfl) ?hf1x3 ?hr1x3 (fun _ _ _ h => h) ?hy1x3 (by assumption) ?rest1x3
            case hi1x3 => (simp only [List.getElem?_toArray, List.getElem?_cons_succ, List.getElem?_cons_zero]; exact rfl)
            case hf1x3 => kernel_rfl
            case hr1x3 => kernel_rfl
            case hy1x3 => (refine Or.inl ⟨by rfl, ?_⟩; intro w hSw; (try dsimp only at hSw); go_simp; try with_reducible rfl)
            simp only [put_mk, List.set_cons_succ, List.set_cons_zero]
            refine wpAnyH_take (i := 4) (oi := ?o1x4) (v := ?v1x4) ?hi1x4 (by kernel_rfl) ?hf1x4 ?hr1x4 (fun _ _ _ h => h) ?hy1x4 (by assumption) ?rest1x4
            case hi1x4 => (simp only [List.getElem?_toArray, List.getElem?_cons_succ, List.getElem?_cons_zero]; exact rfl)
            case hf1x4 => kernel_rfl
            case hr1x4 => kernel_rfl
            case hy1x4 => (refine Or.inl ⟨by rfl, ?_⟩; intro w hSw; (try dsimp only at hSw); go_simp; try with_reducible rfl)
            simp only [put_mk, List.set_cons_succ, List.set_cons_zero]
            refine wpAnyH_take (i := 5) (oi := ?o1x5) (v := ?v1x5) ?hi1x5 (by kernel_rfl) ?hf1x5 ?hr1x5 (fun _ _ _ h => h) ?hy1x5 (by assumption) ?rest1x5
            case hi1x5 => (simp only [List.getElem?_toArray, List.getElem?_cons_succ, List.getElem?_cons_zero]; exact rfl)
            case hf1x5 => kernel_rfl
            case hr1x5 => kernel_rfl
            case hy1x5 => (refine Or.inl ⟨by rfl, ?_⟩; intro w hSw; (try dsimp only at hSw); go_simp; try with_reducible rfl)
            simp only [put_mk, List.set_cons_succ, List.set_cons_zero]
            refine wpAnyH_ready (rs := [6]) (by kernel_rfl) (by simp) ?_
            refine AllReadyH.cons (o := ?o1x6) ?hi1x6 (fun K hK => ?_) AllReadyH.nil
            case hi1x6 => (simp only [List.getElem?_toArray, List.getElem?_cons_succ, List.getElem?_cons_zero]; exact rfl)
            go_simp
            go_at_call 78
            refine ((HB1 _).out).mono ?_
            rintro e wb ⟨rfl, hxb⟩
            refine hK.out _ _ ?_ (fun hHeld => ?_)
            · (repeat (first | exact Ext.refl _ | assumption | refine Ext.setCell ?_ (by first | (simp; done) | (simp; omega)) _ | refine Ext.drewN ?_ _ | refine Ext.alloc ?_ _ | refine Ext.drew ?_ | refine Ext.trans ?_ (by assumption)))
            clear hK K
            refine wpAnyH_take (i := 7) (oi := ?o1x7) (v := ?v1x7) ?hi1x7 (by kernel_rfl) ?hf1x7 ?hr1x7 (fun _ _ _ h => h) ?hy1x7 (by assumption) ?rest1x7
            case hi1x7 => (simp only [List.getElem?_toArray, List.getElem?_cons_succ, List.getElem?_cons_zero]; exact rfl)
            case hf1x7 => kernel_rfl
            case hr1x7 => kernel_rfl
            case hy1x7 => (refine Or.inl ⟨by rfl, ?_⟩; intro w hSw; (try dsimp only at hSw); go_simp; try with_reducible rfl)
            simp only [put_mk, List.set_cons_succ, List.set_cons_zero]
            refine wpAnyH_take (i := 8) (oi := ?o1x8) (v := ?v1x8) ?hi1x8 (by kernel_rfl) ?hf1x8 ?hr1x8 (fun _ _ _ h => h) ?hy1x8 (by assumption) ?rest1x8
            case hi1x8 => (simp only [List.getElem?_toArray, List.getElem?_cons_succ, List.getElem?_cons_zero]; exact rfl)
            case hf1x8 => kernel_rfl
            case hr1x8 => kernel_rfl
            case hy1x8 => (refine Or.inl ⟨by rfl, ?_⟩; intro w hSw; (try dsimp only at hSw); go_simp; try with_reducible rfl)
            simp only [put_mk, List.set_cons_succ, List.set_cons_zero]
            refine wpAnyH_take (i := 9) (oi := ?o1x9) (v := ?v1x9) ?hi1x9 (by kernel_rfl) ?hf1x9 ?hr1x9 (fun _ _ _ h => h) ?hy1x9 (by assumption) ?rest1x9
            case hi1x9 => (simp only [List.getElem?_toArray, List.getElem?_cons_succ, List.getElem?_cons_zero]; exact rfl)
            case hf1x9 => kernel_rfl
            case hr1x9 => kernel_rfl
            case hy1x9 => (refine Or.inl ⟨by rfl, ?_⟩; intro w hSw; (try dsimp only at hSw); go_simp; try with_reducible rfl)
            simp only [put_mk, List.set_cons_succ, List.set_cons_zero]
            refine wpAnyH_take (i := 10) (oi := ?o1x10) (v := ?v1x10) ?hi1x10 (by kernel_rfl) ?hf1x10 ?hr1x10 (fun _ _ _ h => h) ?hy1x10 (by assumption) ?rest1x10
            case hi1x10 => (simp only [List.getElem?_toArray, List.getElem?_cons_succ, List.getElem?_cons_zero]; exact rfl)
            case hf1x10 => kernel_rfl
            case hr1x10 => kernel_rfl
            case hy1x10 => (refine Or.inl ⟨by rfl, ?_⟩; intro w hSw; (try dsimp only at hSw); go_simp; try with_reducible rfl)
            simp only [put_mk, List.set_cons_succ, List.set_cons_zero]
            refine wpAnyH_take (i := 11) (oi := ?o1x11) (v := ?v1x11) ?hi1x11 (by kernel_rfl) ?hf1x11 ?hr1x11 (fun _ _ _ h => h) ?hy1x11 (by assumption) ?rest1x11
            case hi1x11 => (simp only [List.getElem?_toArray, List.getElem?_cons_succ, List.getElem?_cons_zero]; exact rfl)
            case hf1x11 => kernel_rfl
            case hr1x11 => kernel_rfl
            case hy1x11 => (refine Or.inl ⟨by rfl, ?_⟩; intro w hSw; (try dsimp only at hSw); go_simp; try with_reducible rfl)
            simp only [put_mk, List.set_cons_succ, List.set_cons_zero]
            refine wpAnyH_done (by kernel_rfl) ?_ _
            refine NoPanic.normal ?_
            go_wp2
            go_ret2
            exact ⟨by rw [HE7.out]; rfl, hx1.trans hHeld⟩
          | some p =>
            obtain ⟨d, m⟩ := p
            have HE7 := hidA (HE6.out.trans (if_neg (by unfold leapN; rw [hlp]; simp)))
            rw [hlp] at HB1
            simp only [] at HB1
            have hdm : ¬ (d : Int) = -1 := by omega
            have hdb : ((d : Int) == -1) = false := by simp
            clear hlp HE6
            go_upto_region 11 with (go_at_call 77; refine ((HPq _).out).mono ?_; rintro e w2 ⟨rfl, hx2⟩)
            have wk := Hwk.out
            have wk2 := Hwk2.out
            refine wp_region_noPanic ?_
            refine wp_region_held_drew (S := fun w' => Ext w1 w') (by kernel_rfl) ?_ (fun hHeld => ?_)
            · (repeat (first | exact Ext.refl _ | assumption | refine Ext.setCell ?_ (by first | (simp; done) | (simp; omega)) _ | refine Ext.drewN ?_ _ | refine Ext.alloc ?_ _ | refine Ext.drew ?_ | refine Ext.trans ?_ (by assumption)))
            refine wpAnyH_take (i := 0) (oi := ?o2x0) (v := ?v2x0) ?hi2x0 (by kernel_rfl) ?hf2x0 ?hr2x0 (fun _ _ _ h => h) ?hy2x0 (by assumption) ?rest2x0
            case hi2x0 => (simp only [List.getElem?_toArray, List.getElem?_cons_zero]; exact rfl)
            case hf2x0 => kernel_rfl
            case hr2x0 => kernel_rfl
            case hy2x0 => (refine Or.inl ⟨by rfl, ?_⟩; intro w hSw; (try dsimp only at hSw); go_simp; try with_reducible rfl)
            simp only [put_mk, List.set_cons_succ, List.set_cons_zero]
            refine wpAnyH_take (i := 1) (oi := ?o2x1) (v := ?v2x1) ?hi2x1 (by kernel_rfl) ?hf2x1 ?hr2x1 (fun _ _ _ h => h) ?hy2x1 (by assumption) ?rest2x1
            case hi2x1 => (simp only [List.getElem?_toArray, List.getElem?_cons_succ, List.getElem?_cons_zero]; exact rfl)
            case hf2x1 => kernel_rfl
            case hr2x1 => kernel_rfl
            case hy2x1 => (refine Or.inl ⟨by rfl, ?_⟩; intro w hSw; (try dsimp only at hSw); go_simp; try with_reducible rfl)
            simp only [put_mk, List.set_cons_succ, List.set_cons_zero]
            refine wpAnyH_take (i := 2) (oi := ?o2x2) (v := ?v2x2) ?hi2x2 (by kernel_rfl) ?hf2x2 ?hr2x2 (fun _ _ _ h => h) ?hy2x2 (by assumption) ?rest2x2
            case hi2x2 => (simp only [List.getElem?_toArray, List.getElem?_cons_succ, List.getElem?_cons_zero]; exact rfl)
            case hf2x2 => kernel_rfl
            case hr2x2 => kernel_rfl
            case hy2x2 => (refine Or.inl ⟨by rfl, ?_⟩; intro w hSw; (try dsimp only at hSw); go_simp; try with_reducible rfl)
            simp only [put_mk, List.set_cons_succ, List.set_cons_zero]
            refine wpAnyH_take (i := 3) (oi := ?o2x3) (v := ?v2x3) ?hi2x3 (by kernel_rfl) ?hf2x3 ?hr2x3 (fun _ _ _ h => h) ?hy2x3 (by assumption) ?rest2x3
            case hi2x3 => (simp only [List.getElem?_toArray, List.getElem?_cons_succ, List.getElem?_cons_zero]; exact rfl)
            case hf2x3 => kernel_rfl
            case hr2x3 => kernel_rfl
            case hy2x3 => (refine Or.inl ⟨by rfl, ?_⟩; intro w hSw; (try dsimp only at hSw); go_simp; try with_reducible rfl)
            simp only [put_mk, List.set_cons_succ, List.set_cons_zero]
            refine wpAnyH_take (i := 4) (oi := ?o2x4) (v := ?v2x4) ?hi2x4 (by kernel_rfl) ?hf2x4 ?hr2x4 (fun _ _ _ h => h) ?hy2x4 (by assumption) ?rest2x4
            case hi2x4 => (simp only [List.getElem?_toArray, List.getElem?_cons_succ, List.getElem?_cons_zero]; exact rfl)
            case hf2x4 => kernel_rfl
            case hr2x4 => kernel_rfl
            case hy2x4 => (refine Or.inl ⟨by rfl, ?_⟩; intro w hSw; (try dsimp only at hSw); go_simp; try with_reducible rfl)
            simp only [put_mk, List.set_cons_succ, List.set_cons_zero]
            refine wpAnyH_take (i := 5) (oi := ?o2x5) (v := ?v2x5) ?hi2x5 (by kernel_rfl) ?hf2x5 ?hr2x5 (fun _ _ _ h => h) ?hy2x5 (by assumption) ?rest2x5
            case hi2x5 => (simp only [List.getElem?_toArray, List.getElem?_cons_succ, List.getElem?_cons_zero]; exact rfl)
            case hf2x5 => kernel_rfl
            case hr2x5 => kernel_rfl
            case hy2x5 => (refine Or.inl ⟨by rfl, ?_⟩; intro w hSw; (try dsimp only at hSw); go_simp; try with_reducible rfl)
            simp only [put_mk, List.set_cons_succ, List.set_cons_zero]
            refine wpAnyH_ready (rs := [6]) (by kernel_rfl) (by simp) ?_
            refine AllReadyH.cons (o := ?o2x6) ?hi2x6 (fun K hK => ?_) AllReadyH.nil
            case hi2x6 => (simp only [List.getElem?_toArray, List.getElem?_cons_succ, List.getElem?_cons_zero]; exact rfl)
            go_simp
            go_at_call 78
            refine ((HB1 _).out).mono ?_
            rintro e wb ⟨rfl, hxb⟩
            refine hK.out _ _ ?_ (fun hHeld => ?_)
            · (repeat (first | exact Ext.refl _ | assumption | refine Ext.setCell ?_ (by first | (simp; done) | (simp; omega)) _ | refine Ext.drewN ?_ _ | refine Ext.alloc ?_ _ | refine Ext.drew ?_ | refine Ext.trans ?_ (by assumption)))
            clear hK K
            refine wpAnyH_take (i := 7) (oi := ?o2x7) (v := ?v2x7) ?hi2x7 (by kernel_rfl) ?hf2x7 ?hr2x7 (fun _ _ _ h => h) ?hy2x7 (by assumption) ?rest2x7
            case hi2x7 => (simp only [List.getElem?_toArray, List.getElem?_cons_succ, List.getElem?_cons_zero]; exact rfl)
            case hf2x7 => kernel_rfl
            case hr2x7 => kernel_rfl
            case hy2x7 => (refine Or.inl ⟨by rfl, ?_⟩; intro w hSw; (try dsimp only at hSw); go_simp; try with_reducible rfl)
            simp only [put_mk, List.set_cons_succ, List.set_cons_zero]
            refine wpAnyH_take (i := 8) (oi := ?o2x8) (v := ?v2x8) ?hi2x8 (by kernel_rfl) ?hf2x8 ?hr2x8 (fun _ _ _ h => h) ?hy2x8 (by assumption) ?rest2x8
            case hi2x8 => (simp only [List.getElem?_toArray, List.getElem?_cons_succ, List.getElem?_cons_zero]; exact rfl)
            case hf2x8 => kernel_rfl
            case hr2x8 => kernel_rfl
            case hy2x8 => (refine Or.inl ⟨by rfl, ?_⟩; intro w hSw; (try dsimp only at hSw); go_simp; try with_reducible rfl)
            simp only [put_mk, List.set_cons_succ, List.set_cons_zero]
            refine wpAnyH_take (i := 9) (oi := ?o2x9) (v := ?v2x9) ?hi2x9 (by kernel_rfl) ?hf2x9 ?hr2x9 (fun _ _ _ h => h) ?hy2x9 (by assumption) ?rest2x9
            case hi2x9 => (simp only [List.getElem?_toArray, List.getElem?_cons_succ, List.getElem?_cons_zero]; exact rfl)
            case hf2x9 => kernel_rfl
            case hr2x9 => kernel_rfl
            case hy2x9 => (refine Or.inl ⟨by rfl, ?_⟩; intro w hSw; (try dsimp only at hSw); go_simp; try with_reducible rfl)
            simp only [put_mk, List.set_cons_succ, List.set_cons_zero]
            refine wpAnyH_take (i := 10) (oi := ?o2x10) (v := ?v2x10) ?hi2x10 (by kernel_rfl) ?hf2x10 ?hr2x10 (fun _ _ _ h => h) ?hy2x10 (by assumption) ?rest2x10
            case hi2x10 => (simp only [List.getElem?_toArray, List.getElem?_cons_succ, List.getElem?_cons_zero]; exact rfl)
            case hf2x10 => kernel_rfl
            case hr2x10 => kernel_rfl
            case hy2x10 => (refine Or.inl ⟨by rfl, ?_⟩; intro w hSw; (try dsimp only at hSw); go_simp; try with_reducible rfl)
            simp only [put_mk, List.set_cons_succ, List.set_cons_zero]
            refine wpAnyH_take (i := 11) (oi := ?o2x11) (v := ?v2x11) ?hi2x11 (by kernel_rfl) ?hf2x11 ?hr2x11 (fun _ _ _ h => h) ?hy2x11 (by assumption) ?rest2x11
            case hi2x11 => (simp only [List.getElem?_toArray, List.getElem?_cons_succ, List.getElem?_cons_zero]; exact rfl)
            case hf2x11 => kernel_rfl
            case hr2x11 => kernel_rfl
            case hy2x11 => (refine Or.inl ⟨by rfl, ?_⟩; intro w hSw; (try dsimp only at hSw); go_simp; try with_reducible rfl)
            simp only [put_mk, List.set_cons_succ, List.set_cons_zero]
            refine wpAnyH_done (by kernel_rfl) ?_ _
            refine NoPanic.normal ?_
            clear wk wk2
            go_wp2
            go_roundw
            case rel => exact ⟨k + 1, Hkn.out, (by first | rfl | go_num), HE7.out, fun _ => by rw [Nat.add_sub_cancel, Hpp.out]; exact Hb.out, hx1.trans hHeld⟩
            case measure => exact nxt_k Hkn.out
      · have HE5 := hidA (HE4.out.trans (if_pos hb))
        rw [hb] at HPq
        simp only [if_true] at HPq
        clear hb HE4
        go_upto_region 7 with fail
        have kP : Bk (wr.alloc (.cells #[.int .i64 px, .int .i64 py] 32)) wr.heap.size 32 #[.int .i64 px, .int .i64 py] := Bk.new' rfl
        have hx1 := hx.alloc (.cells #[.int .i64 px, .int .i64 py] 32)
        clear d0 d1
        generalize wr.alloc (.cells #[.int .i64 px, .int .i64 py] 32) = w1 at *
        generalize wr.heap.size = ha at *
        have p0 := kP.cell 0
        have p1 := kP.cell 1
        go_wp2_with (go_at_call 77; refine ((HPq _).out).mono ?_; rintro e w2 ⟨rfl, hx2⟩)
        go_ret2
        exact ⟨by rw [HE5.out]; rfl, hx1.trans hx2⟩
    · exfalso
      have h9 := HEk.out
      rw [show n - k = 0 by omega] at h9
      exact HE0.out h9
/-- the rest of a way in memory -/
theorem Rd.ptail {w : World} {ad : Addr} {p : Int × Int} {r : List (Int × Int)} (h : Rd w (some ad) (ptv (p :: r))) : Rd w (some (ad.add 2)) (ptv r) := by
  intro hne
  obtain ⟨a, e, hb, hc⟩ := h (by rw [ptv_cons]; simp)
  injection e with e
  subst e
  refine ⟨_, rfl, by rw [add_block]; exact hb, fun j u hu => ?_⟩
  rw [add_add']
  exact hc _ _ (by rw [ptv_cons, Nat.add_comm 2 j]; simpa using hu)
theorem nxt_i2 {k : Nat} (h : k ≤ 65536) : wrap64 ((k : Int) + 1) = ((k + 1 : Nat) : Int) := by
  rw [IntWalk.wrap64_in _ ⟨by omega, by omega⟩]; omega
theorem nxt_kk {k m : Nat} (h : k ≤ 65536) (h1 : k ≤ m) : m + 1 - (intOf (.int .i64 (wrap64 ((k : Int) + 1)))).toNat < m + 1 - (intOf (.int .i64 (k : Int))).toNat := by
  rw [nxt_i2 h]
  simp [intOf]
  omega
theorem OwnP.push {w : World} {base : Nat} {v : Value} {xs : List (Int × Int)} {ux uy : Int} (h : w.ownsRow base 32 2 v (xs.length + 1) (ptv xs ++ [.int .i64 ux, .int .i64 uy])) : OwnP w base v (xs ++ [(ux, uy)]) := by
  unfold OwnP
  rw [ptv_append, List.length_append]
  exact h
theorem hk_all {k m a : Nat} (h1 : 1 ≤ k) (h2 : k ≤ m) (h3 : ¬ 65536 < a + m) : k ≤ m ∧ k ≤ 65536 ∧ 1 ≤ k ∧ a + (k - 1) + 1 ≤ 65536 := by omega
theorem lt_pred {i n : Nat} (h : i < n - 1) : i < n := by omega
theorem mul_sgn3 {k : Nat} {s : Int} (hk : k ≤ 65536) (h1 : -1 ≤ s) (h2 : s ≤ 1) : -65536 ≤ (k : Int) * s ∧ (k : Int) * s ≤ 65536 := by
  have hs : s = -1 ∨ s = 0 ∨ s = 1 := by omega
  rcases hs with rfl | rfl | rfl <;> omega
theorem wr_bd {x : Int} (h : -65536 ≤ x ∧ x ≤ 65536) : -9223372036854775808 ≤ x ∧ x ≤ 9223372036854775807 := by omega
theorem wr_bd2 {p x : Int} (h1 : -4194304 ≤ p) (h2 : p ≤ 4194304) (h : -65536 ≤ x ∧ x ≤ 65536) : -9223372036854775808 ≤ p + x ∧ p + x ≤ 9223372036854775807 := by omega
theorem segL_next {a : Int × Int} {d k : Nat} (h : 1 ≤ k) : segL a d k = segL a d (k - 1) ++ [(a.1 + (k : Int) * stepX d, a.2 + (k : Int) * stepY d)] := by
  obtain ⟨j, rfl⟩ : ∃ j, k = j + 1 := ⟨k - 1, by omega⟩
  rfl
/-- what Straight returns where corners are right -/
def StrPost (l : List (Int × Int)) (n : Nat) (w : World) (e : Ending) (w' : World) : Prop := Ext w w' ∧ ((65536 < (outL l (n - 1)).length ∧ e = .returned (.tuple #[.slice none 0 0, .int .i64 4])) ∨ ((outL l (n - 1)).length ≤ 65536 ∧ ∃ v, e = .returned (.tuple #[v, .int .i64 0]) ∧ OwnP w' w.heap.size v (outL l (n - 1))))
set_option maxRecDepth 100000 in
set_option maxHeartbeats 6400000 in
theorem Straight_ok (A : Option Addr) (n c : Nat) (l : List (Int × Int)) (w : World) (hn : l.length = n) (hV : Rd w A (ptv l)) (hnc : n ≤ c) (h0 : amtS n = 0) (hok : StrOk l) :
    Calls Try.prog 34 #[.slice A n c] w fun e w' => StrPost l n w e w' := by
  have HA := fun (w : World) => hidA (amount_any A n c w)
  have HA : ∀ w : World, Hid (Calls Try.prog 69 #[.slice A n c] w fun e w' => e = .returned (.int .i64 (amtS n)) ∧ w = w') := HA
  have HP := fun (x y : Int) (w : World) => hidA (place_any x y w)
  have HBt := fun (qx qy px py : Int) (w : World) (h1 : farP (qx, qy) = false) (h2 : farP (px, py) = false) => hidA (between_any qx qy px py w (by have := farP_false h1; dsimp only at this; omega) (by have := farP_false h1; dsimp only at this; omega) (by have := farP_false h2; dsimp only at this; omega) (by have := farP_false h2; dsimp only at this; omega))
  have Hn := hidA hn
  rw [h0] at HA
  have Hok := hidA hok
  have hn6 : n ≤ 65536 := by have := hok.le; omega
  have hn1 : 1 ≤ n := by have := hok.pos; omega
  obtain ⟨ti, hi0, hz0, hz1, hz2⟩ := info_parts infoPt
  clear h0 hn hok
  have HTo := fun (d : Nat) (w : World) (h : d < 8) => hidA (toward_any d w (by omega) (by omega))
  go_enter Try.func34, Try.ntmps34
  go_upto_region 5 with (go_at_call 69; refine ((HA _).out).mono ?_; rintro e w0 ⟨rfl, hw0⟩; subst hw0)
  go_loopw [24] (fun s24 wr => ∃ k : Nat, k ≤ n ∧ s24 = .int .i64 k ∧ Ext w wr) (fun s24 _ => n - (intOf s24).toNat)
  case atStart => exact ⟨0, Nat.zero_le _, rfl, Ext.refl _⟩
  case round =>
    obtain ⟨k, hk, rfl, hx⟩ := hrel
    by_cases hkn : k < n
    · have Hkn := hidA hkn
      have hkl : k < l.length := by have := Hn.out; omega
      obtain ⟨ad, rfl, hbk, d0, d1⟩ := pt_at (hV.ext hx) hkl
      have i0 : (0 : Int) ≤ k := by omega
      have i1 : (k : Int) < n := by omega
      obtain ⟨px, py, hpp⟩ : ∃ px py, l.getD k (0, 0) = (px, py) := ⟨_, _, rfl⟩
      rw [hpp] at d0 d1
      dsimp only at d0 d1
      have Hpp := hidA hpp
      have HPq := fun w => HP px py w
      have hb := Hok.out.ok k hkl
      rw [hpp] at hb
      rw [hb] at HPq
      simp only [Bool.false_eq_true, if_false] at HPq
      have Hb := hidA hb
      clear hb hpp
      go_upto_region 7 with fail
      have kP : Bk (wr.alloc (.cells #[.int .i64 px, .int .i64 py] 32)) wr.heap.size 32 #[.int .i64 px, .int .i64 py] := Bk.new' rfl
      have hx1 := hx.alloc (.cells #[.int .i64 px, .int .i64 py] 32)
      clear d0 d1
      generalize wr.alloc (.cells #[.int .i64 px, .int .i64 py] 32) = w1 at *
      generalize wr.heap.size = ha at *
      have p0 := kP.cell 0
      have p1 := kP.cell 1
      by_cases hk0 : k = 0
      · subst hk0
        go_wp2_with (go_at_call 77; refine ((HPq _).out).mono ?_; rintro e w2 ⟨rfl, hx2⟩)
        go_roundw
        case rel => exact ⟨1, Hkn.out, rfl, hx1.trans hx2⟩
        case measure => have := Hkn.out; simp [intOf]; omega
      · have hkl1 : k - 1 < l.length := by omega
        have hfq := Hok.out.ok (k - 1) hkl1
        have hst := (Hok.out.st k (by omega) hkl).1
        obtain ⟨qx, qy, hqq⟩ : ∃ qx qy, l.getD (k - 1) (0, 0) = (qx, qy) := ⟨_, _, rfl⟩
        rw [hqq] at hfq hst
        rw [Hpp.out] at hst
        dsimp only at hst
        have HB1 := fun (w : World) => HBt qx qy px py w hfq Hb.out
        have Hqq := hidA hqq
        have e0 : ∀ w', Ext w1 w' → w'.cell? (ad.add ((k - 1) * 2)) = some (.int .i64 qx) := fun w' h => by
          obtain ⟨ad', e, _, d0, _⟩ := pt_at (hV.ext (hx1.trans h)) hkl1
          injection e with e
          subst e
          rw [Hqq.out] at d0
          exact d0
        have e1 : ∀ w', Ext w1 w' → w'.cell? ⟨(ad.add ((k - 1) * 2)).block, (ad.add ((k - 1) * 2)).off + 1, none⟩ = some (.int .i64 qy) := fun w' h => by
          obtain ⟨ad', e, _, _, d1⟩ := pt_at (hV.ext (hx1.trans h)) hkl1
          injection e with e
          subst e
          rw [Hqq.out] at d1
          exact d1
        have f0 : ∀ w', Ext w1 w' → w'.cell? ⟨ha, 0, none⟩ = some (.int .i64 px) := fun w' h => (kP.ext h).cell 0
        have f1 : ∀ w', Ext w1 w' → w'.cell? ⟨ha, 1, none⟩ = some (.int .i64 py) := fun w' h => (kP.ext h).cell 1
        have j0 : (0 : Int) ≤ ((k - 1 : Nat) : Int) := by omega
        have j1 : ((k - 1 : Nat) : Int) < n := by omega
        have hk0' : ¬ (k : Int) = 0 := by omega
        have hk0b : ((k : Int) == 0) = false := by simp; omega
        have Hwk := hidA (show wrap64 ((k : Int) - 1) = ((k - 1 : Nat) : Int) by rw [IntWalk.wrap64_in _ ⟨by omega, by omega⟩]; omega)
        have Hwk2 := hidA (show IntKind.i64.wrap ((k : Int) - 1) = ((k - 1 : Nat) : Int) by rw [IntWalk.i64_in _ ⟨by omega, by omega⟩]; omega)
        clear hqq hfq HBt hk hkl
        unfold btV at HB1
        rw [hst] at HB1
        obtain ⟨d, m, hdm⟩ : ∃ d m, lpo l k = (d, m) := ⟨_, _, rfl⟩
        rw [hdm] at HB1
        simp only [] at HB1
        have hdn : ¬ (d : Int) = -1 := by omega
        have hdb : ((d : Int) == -1) = false := by simp
        clear hst hdm
        go_upto_region 11 with (go_at_call 77; refine ((HPq _).out).mono ?_; rintro e w2 ⟨rfl, hx2⟩)
        have wk := Hwk.out
        have wk2 := Hwk2.out
        refine wp_region_noPanic ?_
        refine wp_region_held_drew (S := fun w' => Ext w1 w') (by kernel_rfl) ?_ (fun hHeld => ?_)
        · (repeat (first | exact Ext.refl _ | assumption | refine Ext.setCell ?_ (by first | (simp; done) | (simp; omega)) _ | refine Ext.drewN ?_ _ | refine Ext.alloc ?_ _ | refine Ext.drew ?_ | refine Ext.trans ?_ (by assumption)))
        refine wpAnyH_take (i := 0) (oi := ?o5x0) (v := ?v5x0) ?hi5x0 (by kernel_rfl) ?hf5x0 ?hr5x0 (fun _ _ _ h => h) ?hy5x0 (by assumption) ?rest5x0
        case hi5x0 => (simp only [List.getElem?_toArray, List.getElem?_cons_zero]; exact rfl)
        case hf5x0 => kernel_rfl
        case hr5x0 => kernel_rfl
        case hy5x0 => (refine Or.inl ⟨by rfl, ?_⟩; intro w hSw; (try dsimp only at hSw); go_simp; try with_reducible rfl)
        simp only [put_mk, List.set_cons_succ, List.set_cons_zero]
        refine wpAnyH_take (i := 1) (oi := ?o5x1) (v := ?v5x1) ?hi5x1 (by kernel_rfl) ?hf5x1 ?hr5x1 (fun _ _ _ h => h) ?hy5x1 (by assumption) ?rest5x1
        case hi5x1 => (simp only [List.getElem?_toArray, List.getElem?_cons_succ, List.getElem?_cons_zero]; exact rfl)
        case hf5x1 => kernel_rfl
        case hr5x1 => kernel_rfl
        case hy5x1 => (refine Or.inl ⟨by rfl, ?_⟩; intro w hSw; (try dsimp only at hSw); go_simp; try with_reducible rfl)
        simp only [put_mk, List.set_cons_succ, List.set_cons_zero]
        refine wpAnyH_take (i := 2) (oi := ?o5x2) (v := ?v5x2) ?hi5x2 (by kernel_rfl) ?hf5x2 ?hr5x2 (fun _ _ _ h => h) ?hy5x2 (by assumption) ?rest5x2
        case hi5x2 => (simp only [List.getElem?_toArray, List.getElem?_cons_succ, List.getElem?_cons_zero]; exact rfl)
        case hf5x2 => kernel_rfl
        case hr5x2 => kernel_rfl
        case hy5x2 => (refine Or.inl ⟨by rfl, ?_⟩; intro w hSw; (try dsimp only at hSw); go_simp; try with_reducible rfl)
        simp only [put_mk, List.set_cons_succ, List.set_cons_zero]
        refine wpAnyH_take (i := 3) (oi := ?o5x3) (v := ?v5x3) ?hi5x3 (by kernel_rfl) ?hf5x3 ?hr5x3 (fun _ _ _ h => h) ?hy5x3 (by assumption) ?rest5x3
        case hi5x3 => (simp only [List.getElem?_toArray, List.getElem?_cons_succ, List.getElem?_cons_zero]; exact rfl)
        case hf5x3 => kernel_rfl
        case hr5x3 => kernel_rfl
        case hy5x3 => (refine Or.inl ⟨by rfl, ?_⟩; intro w hSw; (try dsimp only at hSw); go_simp; try with_reducible rfl)
        simp only [put_mk, List.set_cons_succ, List.set_cons_zero]
        refine wpAnyH_take (i := 4) (oi := ?o5x4) (v := ?v5x4) ?hi5x4 (by kernel_rfl) ?hf5x4 ?hr5x4 (fun _ _ _ h => h) ?hy5x4 (by assumption) ?rest5x4
        case hi5x4 => (simp only [List.getElem?_toArray, List.getElem?_cons_succ, List.getElem?_cons_zero]; exact rfl)
        case hf5x4 => kernel_rfl
        case hr5x4 => kernel_rfl
        case hy5x4 => (refine Or.inl ⟨by rfl, ?_⟩; intro w hSw; (try dsimp only at hSw); go_simp; try with_reducible rfl)
        simp only [put_mk, List.set_cons_succ, List.set_cons_zero]
        refine wpAnyH_take (i := 5) (oi := ?o5x5) (v := ?v5x5) ?hi5x5 (by kernel_rfl) ?hf5x5 ?hr5x5 (fun _ _ _ h => h) ?hy5x5 (by assumption) ?rest5x5
        case hi5x5 => (simp only [List.getElem?_toArray, List.getElem?_cons_succ, List.getElem?_cons_zero]; exact rfl)
        case hf5x5 => kernel_rfl
        case hr5x5 => kernel_rfl
        case hy5x5 => (refine Or.inl ⟨by rfl, ?_⟩; intro w hSw; (try dsimp only at hSw); go_simp; try with_reducible rfl)
        simp only [put_mk, List.set_cons_succ, List.set_cons_zero]
        refine wpAnyH_ready (rs := [6]) (by kernel_rfl) (by simp) ?_
        refine AllReadyH.cons (o := ?o5x6) ?hi5x6 (fun K hK => ?_) AllReadyH.nil
        case hi5x6 => (simp only [List.getElem?_toArray, List.getElem?_cons_succ, List.getElem?_cons_zero]; exact rfl)
        go_simp
        go_at_call 78
        refine ((HB1 _).out).mono ?_
        rintro e wb ⟨rfl, hxb⟩
        refine hK.out _ _ ?_ (fun hHeld => ?_)
        · (repeat (first | exact Ext.refl _ | assumption | refine Ext.setCell ?_ (by first | (simp; done) | (simp; omega)) _ | refine Ext.drewN ?_ _ | refine Ext.alloc ?_ _ | refine Ext.drew ?_ | refine Ext.trans ?_ (by assumption)))
        clear hK K
        refine wpAnyH_take (i := 7) (oi := ?o5x7) (v := ?v5x7) ?hi5x7 (by kernel_rfl) ?hf5x7 ?hr5x7 (fun _ _ _ h => h) ?hy5x7 (by assumption) ?rest5x7
        case hi5x7 => (simp only [List.getElem?_toArray, List.getElem?_cons_succ, List.getElem?_cons_zero]; exact rfl)
        case hf5x7 => kernel_rfl
        case hr5x7 => kernel_rfl
        case hy5x7 => (refine Or.inl ⟨by rfl, ?_⟩; intro w hSw; (try dsimp only at hSw); go_simp; try with_reducible rfl)
        simp only [put_mk, List.set_cons_succ, List.set_cons_zero]
        refine wpAnyH_take (i := 8) (oi := ?o5x8) (v := ?v5x8) ?hi5x8 (by kernel_rfl) ?hf5x8 ?hr5x8 (fun _ _ _ h => h) ?hy5x8 (by assumption) ?rest5x8
        case hi5x8 => (simp only [List.getElem?_toArray, List.getElem?_cons_succ, List.getElem?_cons_zero]; exact rfl)
        case hf5x8 => kernel_rfl
        case hr5x8 => kernel_rfl
        case hy5x8 => (refine Or.inl ⟨by rfl, ?_⟩; intro w hSw; (try dsimp only at hSw); go_simp; try with_reducible rfl)
        simp only [put_mk, List.set_cons_succ, List.set_cons_zero]
        refine wpAnyH_take (i := 9) (oi := ?o5x9) (v := ?v5x9) ?hi5x9 (by kernel_rfl) ?hf5x9 ?hr5x9 (fun _ _ _ h => h) ?hy5x9 (by assumption) ?rest5x9
        case hi5x9 => (simp only [List.getElem?_toArray, List.getElem?_cons_succ, List.getElem?_cons_zero]; exact rfl)
        case hf5x9 => kernel_rfl
        case hr5x9 => kernel_rfl
        case hy5x9 => (refine Or.inl ⟨by rfl, ?_⟩; intro w hSw; (try dsimp only at hSw); go_simp; try with_reducible rfl)
        simp only [put_mk, List.set_cons_succ, List.set_cons_zero]
        refine wpAnyH_take (i := 10) (oi := ?o5x10) (v := ?v5x10) ?hi5x10 (by kernel_rfl) ?hf5x10 ?hr5x10 (fun _ _ _ h => h) ?hy5x10 (by assumption) ?rest5x10
        case hi5x10 => (simp only [List.getElem?_toArray, List.getElem?_cons_succ, List.getElem?_cons_zero]; exact rfl)
        case hf5x10 => kernel_rfl
        case hr5x10 => kernel_rfl
        case hy5x10 => (refine Or.inl ⟨by rfl, ?_⟩; intro w hSw; (try dsimp only at hSw); go_simp; try with_reducible rfl)
        simp only [put_mk, List.set_cons_succ, List.set_cons_zero]
        refine wpAnyH_take (i := 11) (oi := ?o5x11) (v := ?v5x11) ?hi5x11 (by kernel_rfl) ?hf5x11 ?hr5x11 (fun _ _ _ h => h) ?hy5x11 (by assumption) ?rest5x11
        case hi5x11 => (simp only [List.getElem?_toArray, List.getElem?_cons_succ, List.getElem?_cons_zero]; exact rfl)
        case hf5x11 => kernel_rfl
        case hr5x11 => kernel_rfl
        case hy5x11 => (refine Or.inl ⟨by rfl, ?_⟩; intro w hSw; (try dsimp only at hSw); go_simp; try with_reducible rfl)
        simp only [put_mk, List.set_cons_succ, List.set_cons_zero]
        refine wpAnyH_done (by kernel_rfl) ?_ _
        refine NoPanic.normal ?_
        clear wk wk2
        go_wp2
        go_roundw
        case rel => exact ⟨k + 1, Hkn.out, (by first | rfl | go_num), hx1.trans hHeld⟩
        case measure => exact nxt_k Hkn.out
    · obtain rfl : n = k := by omega
      clear hkn hk HP HA
      obtain ⟨adP, rfl, hbP, c0, c1⟩ := pt_at (hV.ext hx) (k := 0) (by have := Hn.out; omega)
      rw [Nat.zero_mul, show adP.add 0 = adP from rfl] at c0 c1
      have hhead : outL l 0 = [l.getD 0 (0, 0)] := rfl
      obtain ⟨ax, ay, hpa⟩ : ∃ ax ay, l.getD 0 (0, 0) = (ax, ay) := ⟨_, _, rfl⟩
      rw [hpa] at c0 c1 hhead
      dsimp only at c0 c1
      have z0 : (0 : Int) < n := by omega
      go_upto_region 16 with fail
      have hO : OwnP (wr.alloc (.cells #[.int .i64 ax, .int .i64 ay] 32)) w.heap.size (.slice (some ⟨wr.heap.size, 0, none⟩) 1 1) (outL l 0) := by
        rw [hhead]
        exact ⟨rfl, .inr ⟨wr.heap.size, 1, _, rfl, hx.size, Bk.new' rfl, by simp, by unfold maxLen; simp, by simp, by simp [ptv]⟩⟩
      have hx3 := hx.alloc (.cells #[.int .i64 ax, .int .i64 ay] 32)
      clear c0 c1 hhead hpa z0
      generalize wr.alloc (.cells #[.int .i64 ax, .int .i64 ay] 32) = w3 at *
      generalize wr.heap.size = g0 at *
      clear hx
      have hnc1 : (1 : Int) ≤ n := by omega
      have hncc : (n : Int) ≤ c := by omega
      by_cases hd1 : c = 1
      · subst hd1
        obtain rfl : n = 1 := by omega
        go_upto_region 17 with fail
        go_loopw [10, 56] (fun s10 s56 wq => s10 = .slice (some ⟨g0, 0, none⟩) 1 1 ∧ s56 = .int .i64 0 ∧ wq = w3) (fun _ _ _ => 0)
        case atStart => exact ⟨rfl, rfl, rfl⟩
        case round =>
          obtain ⟨rfl, rfl, hw3⟩ := hrel
          rw [hw3]
          clear hw3
          have HO := hidA hO
          clear hO
          go_wp2
          go_ret2
          exact ⟨hx3, .inr ⟨by rw [show (outL l (1 - 1)).length = 1 from rfl]; omega, .slice (some ⟨g0, 0, none⟩) 1 1, rfl, HO.out⟩⟩
      · have hd2 : ¬ (c : Int) = 1 := by omega
        obtain ⟨p0, r, hpr⟩ : ∃ p0 r, l = p0 :: r := by
          cases l with
          | nil => have := Hn.out; simp at this; omega
          | cons p0 r => exact ⟨p0, r, rfl⟩
        have HPt : Rd w (some (adP.add 2)) (ptv r) := Rd.ptail (by rw [← hpr]; exact hV)
        have hadd : adP.add 2 = ⟨adP.block, adP.off + 2, none⟩ := add_pos _ (by omega)
        go_upto_region 17 with fail
        rw [hadd] at HPt
        obtain ⟨adT, hadT⟩ : ∃ adT : Addr, adT = ⟨adP.block, adP.off + 2, none⟩ := ⟨_, rfl⟩
        rw [← hadT] at HPt ⊢
        have Hrl := hidA (show r.length + 1 = n from by rw [← Hn.out, hpr]; rfl)
        have Hgt := hidA (fun i => show l.getD (i + 1) (0, 0) = r.getD i (0, 0) from by rw [hpr]; simp)
        clear hadd hadT hpr hbP hnc1 hncc hd1 hd2
        go_loopw [10, 56] (fun s10 s56 wq => ∃ i : Nat, i ≤ n - 1 ∧ s56 = .int .i64 i ∧ OwnP wq w.heap.size s10 (outL l i) ∧ (outL l i).length ≤ 65536 ∧ Ext w wq) (fun _ s56 _ => n - (intOf s56).toNat)
        case atStart => exact ⟨0, Nat.zero_le _, rfl, hO, by rw [show (outL l 0).length = 1 from rfl]; omega, hx3⟩
        case round =>
          clear hO hx3
          obtain ⟨i, hi, rfl, hO, hol, hx⟩ := hrel
          by_cases hin : i < n - 1
          · have Hin := hidA hin
            obtain ⟨g, cap, rest, rfl, hbg, _, _⟩ := hO.form (by have := outL_pos l i; omega)
            obtain ⟨ad1, e1, hb1, c0, c1⟩ := pt_at (hV.ext hx) (k := i) (by have := Hn.out; omega)
            injection e1 with e1
            subst e1
            obtain ⟨ad2, e2, hb2, d0, d1⟩ := pt_at (HPt.ext hx) (k := i) (by have := Hrl.out; omega)
            injection e2 with e2
            subst e2
            rw [← Hgt.out i] at d0 d1
            have hst := Hok.out.st (i + 1) (by omega) (by have := Hn.out; omega)
            have hf1 := Hok.out.ok i (by have := Hn.out; omega)
            have hf2 := Hok.out.ok (i + 1) (by have := Hn.out; omega)
            rw [Nat.add_sub_cancel] at hst
            obtain ⟨px, py, hpp⟩ : ∃ px py, l.getD i (0, 0) = (px, py) := ⟨_, _, rfl⟩
            obtain ⟨qx, qy, hqq⟩ : ∃ qx qy, l.getD (i + 1) (0, 0) = (qx, qy) := ⟨_, _, rfl⟩
            obtain ⟨d, m, hdm⟩ : ∃ d m, lpo l (i + 1) = (d, m) := ⟨_, _, rfl⟩
            rw [hdm] at hst
            rw [hpp] at hst hf1 c0 c1
            rw [hqq] at hst hf2 d0 d1
            dsimp only at hst c0 c1 d0 d1
            obtain ⟨hs1, hd8, hm1, hm2⟩ := hst
            have HB1 := fun (w : World) => HBt px py qx qy w hf1 hf2
            unfold btV at HB1
            rw [hs1] at HB1
            simp only [] at HB1
            have Hpp := hidA hpp
            have Hol := hidA hol
            have Hlen := hidA (show (outL l (i + 1)).length = (outL l i).length + m from by rw [outL_length, hdm])
            have Hseg := hidA (show outL l (i + 1) = outL l i ++ segL (px, py) d m from by rw [outL, hdm, hpp])
            have Hfp := hidA (farP_false hf1)
            have i0 : (0 : Int) ≤ i := by omega
            have i1 : (i : Int) < ((n - 1 : Nat) : Int) := by omega
            have i2 : (i : Int) < n := by omega
            clear hpp hqq hdm hs1 hf1 hf2 hin hi hol
            go_upto_region 19 with fail
            have kP : Bk (wr.alloc (.cells #[.int .i64 qx, .int .i64 qy] 32)) wr.heap.size 32 #[.int .i64 qx, .int .i64 qy] := Bk.new' rfl
            have hxa := (Ext.refl wr).alloc (.cells #[.int .i64 qx, .int .i64 qy] 32)
            have hO4 := hO.ext hxa
            have hx4 := hx.trans hxa
            have c0' : ∀ w', Ext (wr.alloc (.cells #[.int .i64 qx, .int .i64 qy] 32)) w' → w'.cell? (adP.add (i * 2)) = some (.int .i64 px) := fun w' h => ((hxa.trans h).cell _ (by rw [add_block]; exact hb1)).trans c0
            have c1' : ∀ w', Ext (wr.alloc (.cells #[.int .i64 qx, .int .i64 qy] 32)) w' → w'.cell? ⟨(adP.add (i * 2)).block, (adP.add (i * 2)).off + 1, none⟩ = some (.int .i64 py) := fun w' h => ((hxa.trans h).cell ⟨(adP.add (i * 2)).block, (adP.add (i * 2)).off + 1, none⟩ (by show (adP.add (i * 2)).block < _; rw [add_block]; exact hb1)).trans c1
            clear c0 c1 d0 d1 hO hx hxa hb1 hb2
            generalize wr.alloc (.cells #[.int .i64 qx, .int .i64 qy] 32) = w4 at *
            generalize wr.heap.size = hp at *
            have f0 : ∀ w', Ext w4 w' → w'.cell? ⟨hp, 0, none⟩ = some (.int .i64 qx) := fun w' h => (kP.ext h).cell 0
            have f1 : ∀ w', Ext w4 w' → w'.cell? ⟨hp, 1, none⟩ = some (.int .i64 qy) := fun w' h => (kP.ext h).cell 1
            refine wp_region_noPanic ?_
            refine wp_region_held_drew (S := fun w' => Ext w4 w') (by kernel_rfl) ?_ (fun hHeld => ?_)
            · (repeat (first | exact Ext.refl _ | assumption | refine Ext.setCell ?_ (by first | (simp; done) | (simp; omega)) _ | refine Ext.drewN ?_ _ | refine Ext.alloc ?_ _ | refine Ext.drew ?_ | refine Ext.trans ?_ (by assumption)))
            refine wpAnyH_take (i := 0) (oi := ?o4x0) (v := ?v4x0) ?hi4x0 (by kernel_rfl) ?hf4x0 ?hr4x0 (fun _ _ _ h => h) ?hy4x0 (by assumption) ?rest4x0
            case hi4x0 => (simp only [List.getElem?_toArray, List.getElem?_cons_zero]; exact rfl)
            case hf4x0 => kernel_rfl
            case hr4x0 => kernel_rfl
            case hy4x0 => (refine Or.inl ⟨by rfl, ?_⟩; intro w hSw; (try dsimp only at hSw); go_simp; try with_reducible rfl)
            simp only [put_mk, List.set_cons_succ, List.set_cons_zero]
            refine wpAnyH_take (i := 1) (oi := ?o4x1) (v := ?v4x1) ?hi4x1 (by kernel_rfl) ?hf4x1 ?hr4x1 (fun _ _ _ h => h) ?hy4x1 (by assumption) ?rest4x1
            case hi4x1 => (simp only [List.getElem?_toArray, List.getElem?_cons_succ, List.getElem?_cons_zero]; exact rfl)
            case hf4x1 => kernel_rfl
            case hr4x1 => kernel_rfl
            case hy4x1 => (refine Or.inl ⟨by rfl, ?_⟩; intro w hSw; (try dsimp only at hSw); go_simp; try with_reducible rfl)
            simp only [put_mk, List.set_cons_succ, List.set_cons_zero]
            refine wpAnyH_take (i := 2) (oi := ?o4x2) (v := ?v4x2) ?hi4x2 (by kernel_rfl) ?hf4x2 ?hr4x2 (fun _ _ _ h => h) ?hy4x2 (by assumption) ?rest4x2
            case hi4x2 => (simp only [List.getElem?_toArray, List.getElem?_cons_succ, List.getElem?_cons_zero]; exact rfl)
            case hf4x2 => kernel_rfl
            case hr4x2 => kernel_rfl
            case hy4x2 => (refine Or.inl ⟨by rfl, ?_⟩; intro w hSw; (try dsimp only at hSw); go_simp; try with_reducible rfl)
            simp only [put_mk, List.set_cons_succ, List.set_cons_zero]
            refine wpAnyH_take (i := 3) (oi := ?o4x3) (v := ?v4x3) ?hi4x3 (by kernel_rfl) ?hf4x3 ?hr4x3 (fun _ _ _ h => h) ?hy4x3 (by assumption) ?rest4x3
            case hi4x3 => (simp only [List.getElem?_toArray, List.getElem?_cons_succ, List.getElem?_cons_zero]; exact rfl)
            case hf4x3 => kernel_rfl
            case hr4x3 => kernel_rfl
            case hy4x3 => (refine Or.inl ⟨by rfl, ?_⟩; intro w hSw; (try dsimp only at hSw); go_simp; try with_reducible rfl)
            simp only [put_mk, List.set_cons_succ, List.set_cons_zero]
            refine wpAnyH_take (i := 4) (oi := ?o4x4) (v := ?v4x4) ?hi4x4 (by kernel_rfl) ?hf4x4 ?hr4x4 (fun _ _ _ h => h) ?hy4x4 (by assumption) ?rest4x4
            case hi4x4 => (simp only [List.getElem?_toArray, List.getElem?_cons_succ, List.getElem?_cons_zero]; exact rfl)
            case hf4x4 => kernel_rfl
            case hr4x4 => kernel_rfl
            case hy4x4 => (refine Or.inl ⟨by rfl, ?_⟩; intro w hSw; (try dsimp only at hSw); go_simp; try with_reducible rfl)
            simp only [put_mk, List.set_cons_succ, List.set_cons_zero]
            refine wpAnyH_ready (rs := [5]) (by kernel_rfl) (by simp) ?_
            refine AllReadyH.cons (o := ?o4x5) ?hi4x5 (fun K hK => ?_) AllReadyH.nil
            case hi4x5 => (simp only [List.getElem?_toArray, List.getElem?_cons_succ, List.getElem?_cons_zero]; exact rfl)
            go_simp
            go_at_call 78
            refine ((HB1 _).out).mono ?_
            rintro e wb ⟨rfl, hxb⟩
            refine hK.out _ _ ?_ (fun hHeld => ?_)
            · (repeat (first | exact Ext.refl _ | assumption | refine Ext.setCell ?_ (by first | (simp; done) | (simp; omega)) _ | refine Ext.drewN ?_ _ | refine Ext.alloc ?_ _ | refine Ext.drew ?_ | refine Ext.trans ?_ (by assumption)))
            clear hK K
            refine wpAnyH_take (i := 6) (oi := ?o4x6) (v := ?v4x6) ?hi4x6 (by kernel_rfl) ?hf4x6 ?hr4x6 (fun _ _ _ h => h) ?hy4x6 (by assumption) ?rest4x6
            case hi4x6 => (simp only [List.getElem?_toArray, List.getElem?_cons_succ, List.getElem?_cons_zero]; exact rfl)
            case hf4x6 => kernel_rfl
            case hr4x6 => kernel_rfl
            case hy4x6 => (refine Or.inl ⟨by rfl, ?_⟩; intro w hSw; (try dsimp only at hSw); go_simp; try with_reducible rfl)
            simp only [put_mk, List.set_cons_succ, List.set_cons_zero]
            refine wpAnyH_take (i := 7) (oi := ?o4x7) (v := ?v4x7) ?hi4x7 (by kernel_rfl) ?hf4x7 ?hr4x7 (fun _ _ _ h => h) ?hy4x7 (by assumption) ?rest4x7
            case hi4x7 => (simp only [List.getElem?_toArray, List.getElem?_cons_succ, List.getElem?_cons_zero]; exact rfl)
            case hf4x7 => kernel_rfl
            case hr4x7 => kernel_rfl
            case hy4x7 => (refine Or.inl ⟨by rfl, ?_⟩; intro w hSw; (try dsimp only at hSw); go_simp; try with_reducible rfl)
            simp only [put_mk, List.set_cons_succ, List.set_cons_zero]
            refine wpAnyH_take (i := 8) (oi := ?o4x8) (v := ?v4x8) ?hi4x8 (by kernel_rfl) ?hf4x8 ?hr4x8 (fun _ _ _ h => h) ?hy4x8 (by assumption) ?rest4x8
            case hi4x8 => (simp only [List.getElem?_toArray, List.getElem?_cons_succ, List.getElem?_cons_zero]; exact rfl)
            case hf4x8 => kernel_rfl
            case hr4x8 => kernel_rfl
            case hy4x8 => (refine Or.inl ⟨by rfl, ?_⟩; intro w hSw; (try dsimp only at hSw); go_simp; try with_reducible rfl)
            simp only [put_mk, List.set_cons_succ, List.set_cons_zero]
            refine wpAnyH_take (i := 9) (oi := ?o4x9) (v := ?v4x9) ?hi4x9 (by kernel_rfl) ?hf4x9 ?hr4x9 (fun _ _ _ h => h) ?hy4x9 (by assumption) ?rest4x9
            case hi4x9 => (simp only [List.getElem?_toArray, List.getElem?_cons_succ, List.getElem?_cons_zero]; exact rfl)
            case hf4x9 => kernel_rfl
            case hr4x9 => kernel_rfl
            case hy4x9 => (refine Or.inl ⟨by rfl, ?_⟩; intro w hSw; (try dsimp only at hSw); go_simp; try with_reducible rfl)
            simp only [put_mk, List.set_cons_succ, List.set_cons_zero]
            refine wpAnyH_take (i := 10) (oi := ?o4x10) (v := ?v4x10) ?hi4x10 (by kernel_rfl) ?hf4x10 ?hr4x10 (fun _ _ _ h => h) ?hy4x10 (by assumption) ?rest4x10
            case hi4x10 => (simp only [List.getElem?_toArray, List.getElem?_cons_succ, List.getElem?_cons_zero]; exact rfl)
            case hf4x10 => kernel_rfl
            case hr4x10 => kernel_rfl
            case hy4x10 => (refine Or.inl ⟨by rfl, ?_⟩; intro w hSw; (try dsimp only at hSw); go_simp; try with_reducible rfl)
            simp only [put_mk, List.set_cons_succ, List.set_cons_zero]
            refine wpAnyH_done (by kernel_rfl) ?_ _
            refine NoPanic.normal ?_
            have hO5 := hO4.ext hHeld
            have hx5 := hx4.trans hHeld
            clear f0 f1 c0' c1' hO4 hx4 kP HB1
            have Hw1 := hidA (show wrap64 (((outL l i).length : Int) + (m : Int)) = ((outL l i).length : Int) + m from IntWalk.wrap64_in _ ⟨by omega, by have := Hol.out; omega⟩)
            by_cases hbig : 65536 < (outL l i).length + m
            · have hb1 : (65536 : Int) < ((outL l i).length : Int) + m := by omega
              have hb2 : decide ((65536 : Int) < ((outL l i).length : Int) + m) = true := by simpa using hb1
              have Hmono := hidA (show 65536 < (outL l (n - 1)).length from by have h1 := outL_mono l (i := i + 1) (j := n - 1) (by have := Hin.out; omega); have := Hlen.out; omega)
              clear hbig
              have hw1 := Hw1.out
              go_wp2
              go_ret2
              exact ⟨hx5, .inl ⟨Hmono.out, rfl⟩⟩
            · have hb1 : ¬ (65536 : Int) < ((outL l i).length : Int) + m := by omega
              have hb2 : decide ((65536 : Int) < ((outL l i).length : Int) + m) = false := by simpa using hb1
              have Hbig := hidA hbig
              have HTq := fun w => HTo d w hd8
              have hgw := (World.ownsRow.lt hO5 g rfl).2
              have hw1 := Hw1.out
              go_upto_region 23 with (go_at_call 79; refine ((HTq _).out).mono ?_; rintro e w6 ⟨rfl, hx6⟩)
              clear hw1 hb1 hb2 HTq
              obtain ⟨sx, hsx⟩ : ∃ sx, sx = stepX (d : Int) := ⟨_, rfl⟩
              obtain ⟨sy, hsy⟩ : ∃ sy, sy = stepY (d : Int) := ⟨_, rfl⟩
              have hsb := step_bd (d : Int)
              rw [← hsx, ← hsy] at hsb ⊢
              have Hsb := hidA hsb
              have Hsx := hidA hsx
              have Hsy := hidA hsy
              have kT : Bk (w6.alloc (.cells #[.int .i64 sx, .int .i64 sy] 32)) w6.heap.size 32 #[.int .i64 sx, .int .i64 sy] := Bk.new' rfl
              have hxt := (Ext.refl w6).alloc (.cells #[.int .i64 sx, .int .i64 sy] 32)
              have hO7 := (hO5.ext hx6).ext hxt
              have hx7 := (hx5.trans hx6).trans hxt
              have hnb : (Value.slice (some ⟨g, 0, none⟩) (outL l i).length cap).ownBlock ≠ some w6.heap.size := by
                intro e
                simp only [Value.ownBlock, Option.some.injEq] at e
                have := hx6.size
                omega
              clear hsx hsy hsb hgw hO5 hx5 hx6 hxt hbig
              generalize w6.alloc (.cells #[.int .i64 sx, .int .i64 sy] 32) = w7 at *
              generalize w6.heap.size = ht at *
              have Hmm := hidA (And.intro hm1 hm2)
              go_wp2
              go_loopw [10, 16] (fun s10 s16 wz => ∃ k : Nat, 1 ≤ k ∧ k ≤ m + 1 ∧ s16 = .int .i64 k ∧ OwnP wz w.heap.size s10 (outL l i ++ segL (px, py) d (k - 1)) ∧ Bk wz ht 32 #[.int .i64 sx, .int .i64 sy] ∧ s10.ownBlock ≠ some ht ∧ Ext w wz) (fun _ s16 _ => m + 1 - (intOf s16).toNat)
              case atStart => exact ⟨1, Nat.le_refl _, Nat.le_add_left 1 m, rfl, by rw [show segL (px, py) d (1 - 1) = [] from rfl, List.append_nil]; exact hO7, kT, hnb, hx7⟩
              case round =>
                clear hO7 kT hnb hx7
                obtain ⟨k, hk1, hkm, rfl, hO, kT, hnb, hx⟩ := hrel
                by_cases hkle : k ≤ m
                · have hkl : (k : Int) ≤ m := Int.ofNat_le.2 hkle
                  have hkb : decide ((k : Int) ≤ (m : Int)) = true := decide_eq_true hkl
                  have Hk := hidA (show k ≤ m ∧ k ≤ 65536 ∧ 1 ≤ k ∧ (outL l i).length + (k - 1) + 1 ≤ 65536 from hk_all hk1 hkle Hbig.out)
                  obtain ⟨s1, s2, s3, s4⟩ := Hsb.out
                  obtain ⟨p1, p2, p3, p4⟩ := Hfp.out
                  have m1 := mul_sgn3 (k := k) (s := sx) Hk.out.2.1 s1 s2
                  have m2 := mul_sgn3 (k := k) (s := sy) Hk.out.2.1 s3 s4
                  obtain ⟨mx, hmx⟩ : ∃ mx, mx = (k : Int) * sx := ⟨_, rfl⟩
                  obtain ⟨my, hmy⟩ : ∃ my, my = (k : Int) * sy := ⟨_, rfl⟩
                  rw [← hmx] at m1
                  rw [← hmy] at m2
                  obtain ⟨ux, hux⟩ : ∃ ux, ux = px + mx := ⟨_, rfl⟩
                  obtain ⟨uy, huy⟩ : ∃ uy, uy = py + my := ⟨_, rfl⟩
                  have v1 := hidA (show IntKind.i64.wrap ((k : Int) * sx) = mx from by rw [← hmx]; exact IntWalk.i64_in _ (wr_bd m1))
                  have v2 := hidA (show IntKind.i64.wrap ((k : Int) * sy) = my from by rw [← hmy]; exact IntWalk.i64_in _ (wr_bd m2))
                  have v3 := hidA (show IntKind.i64.wrap (px + mx) = ux from by rw [← hux]; exact IntWalk.i64_in _ (by rw [hux]; exact wr_bd2 p1 p2 m1))
                  have v4 := hidA (show IntKind.i64.wrap (py + my) = uy from by rw [← huy]; exact IntWalk.i64_in _ (by rw [huy]; exact wr_bd2 p3 p4 m2))
                  have Hnx := hidA (show segL (px, py) d k = segL (px, py) d (k - 1) ++ [(ux, uy)] from by rw [segL_next Hk.out.2.2.1, hux, huy, hmx, hmy, Hsx.out, Hsy.out])
                  have Hxl := hidA (show (outL l i ++ segL (px, py) d (k - 1)).length = (outL l i).length + (k - 1) from by rw [List.length_append, segL_length])
                  have hxe : Ext wr (wr.drew.alloc (.cells #[.int .i64 ux, .int .i64 uy] 32)) := ((Ext.refl wr).drew).alloc _
                  have hxa := hidA (hx.trans hxe)
                  have kTa := hidA (kT.ext hxe)
                  have hown2 := hidA (hO.ext hxe)
                  have hnews : Hid (∀ j u, ([.int .i64 ux, .int .i64 uy] : List Value)[j]? = some u → (wr.drew.alloc (.cells #[.int .i64 ux, .int .i64 uy] 32)).cell? ((⟨wr.heap.size, 0, none⟩ : Addr).add j) = some u) := World.news_of_block (cs := #[.int .i64 ux, .int .i64 uy]) (t := 32) (fr := (0, 0)) (heap_alloc_new wr.drew _)
                  have hone : Hid (∀ u ∈ ([.int .i64 ux, .int .i64 uy] : List Value), u.oneCell' = true) := by intro u hu; simp at hu; rcases hu with rfl | rfl <;> rfl
                  have hs9 := hidA (show w.heap.size ≤ (wr.drew.alloc (.cells #[.int .i64 ux, .int .i64 uy] 32)).heap.size from hxa.out.size)
                  have hsz1 := hidA (show (wr.drew.alloc (.cells #[.int .i64 ux, .int .i64 uy] 32)).heap.size = wr.heap.size + 1 from by rw [World.size_alloc]; rfl)
                  have hmx2 := hidA (show (outL l i ++ segL (px, py) d (k - 1)).length + 1 ≤ maxLen from by rw [Hxl.out]; have := Hk.out; unfold maxLen; omega)
                  have hmb := hidA (show ((outL l i ++ segL (px, py) d (k - 1)).length + 1) * 16 ≤ 140737488355328 from by rw [Hxl.out]; have := Hk.out; omega)
                  have KS : ∀ w', Ext wr w' → (fun w' => w'.cell? (adP.add (i * 2)) = some (.int .i64 px) ∧ w'.cell? ⟨(adP.add (i * 2)).block, (adP.add (i * 2)).off + 1, none⟩ = some (.int .i64 py) ∧ w'.cell? ⟨ht, 0, none⟩ = some (.int .i64 sx) ∧ w'.cell? ⟨ht, 1, none⟩ = some (.int .i64 sy)) w' := fun w' h => by
                    obtain ⟨ad', e, _, d0, d1⟩ := pt_at (hV.ext (hx.trans h)) (k := i) (by have := Hn.out; have := Hin.out; omega)
                    injection e with e
                    subst e
                    rw [Hpp.out] at d0 d1
                    exact ⟨d0, d1, (kT.ext h).cell 0, (kT.ext h).cell 1⟩
                  have hht := kT.lt
                  clear hmx hmy hux huy s1 s2 s3 s4 p1 p2 p3 p4 m1 m2 hkle hO hk1 hkm
                  go_upto_region 26 with fail
                  clear hkb hkl
                  refine wp_region_noPanic ?_
                  refine wp_region_held_drew (S := fun w' => w'.cell? (adP.add (i * 2)) = some (.int .i64 px) ∧ w'.cell? ⟨(adP.add (i * 2)).block, (adP.add (i * 2)).off + 1, none⟩ = some (.int .i64 py) ∧ w'.cell? ⟨ht, 0, none⟩ = some (.int .i64 sx) ∧ w'.cell? ⟨ht, 1, none⟩ = some (.int .i64 sy)) (by kernel_rfl) ?_ (fun hHeld => ?_)
                  · (first | exact hS9 | exact KS _ (by repeat (first | exact Ext.refl _ | assumption | refine Ext.setCell ?_ (by first | (simp; done) | (simp; omega)) _ | refine Ext.drewN ?_ _ | refine Ext.alloc ?_ _ | refine Ext.drew ?_ | refine Ext.trans ?_ (by assumption))))
                  refine wpAnyH_take (i := 0) (oi := ?o3x0) (v := ?v3x0) ?hi3x0 (by kernel_rfl) ?hf3x0 ?hr3x0 (fun _ _ _ h => h) ?hy3x0 (by assumption) ?rest3x0
                  case hi3x0 => (simp only [List.getElem?_toArray, List.getElem?_cons_zero]; exact rfl)
                  case hf3x0 => kernel_rfl
                  case hr3x0 => kernel_rfl
                  case hy3x0 => (refine Or.inl ⟨by rfl, ?_⟩; intro w hSw; (try dsimp only at hSw); go_simp; try with_reducible rfl)
                  simp only [put_mk, List.set_cons_succ, List.set_cons_zero]
                  refine wpAnyH_take (i := 1) (oi := ?o3x1) (v := ?v3x1) ?hi3x1 (by kernel_rfl) ?hf3x1 ?hr3x1 (fun _ _ _ h => h) ?hy3x1 (by assumption) ?rest3x1
                  case hi3x1 => (simp only [List.getElem?_toArray, List.getElem?_cons_succ, List.getElem?_cons_zero]; exact rfl)
                  case hf3x1 => kernel_rfl
                  case hr3x1 => kernel_rfl
                  case hy3x1 => (refine Or.inl ⟨by rfl, ?_⟩; intro w hSw; (try dsimp only at hSw); go_simp; try with_reducible rfl)
                  simp only [put_mk, List.set_cons_succ, List.set_cons_zero]
                  refine wpAnyH_take (i := 2) (oi := ?o3x2) (v := ?v3x2) ?hi3x2 (by kernel_rfl) ?hf3x2 ?hr3x2 (fun _ _ _ h => h) ?hy3x2 (by assumption) ?rest3x2
                  case hi3x2 => (simp only [List.getElem?_toArray, List.getElem?_cons_succ, List.getElem?_cons_zero]; exact rfl)
                  case hf3x2 => kernel_rfl
                  case hr3x2 => kernel_rfl
                  case hy3x2 => (refine Or.inl ⟨by rfl, ?_⟩; intro w hSw; (try dsimp only at hSw); go_simp; try with_reducible rfl)
                  simp only [put_mk, List.set_cons_succ, List.set_cons_zero]
                  refine wpAnyH_take (i := 3) (oi := ?o3x3) (v := ?v3x3) ?hi3x3 (by kernel_rfl) ?hf3x3 ?hr3x3 (fun _ _ _ h => h) ?hy3x3 (by assumption) ?rest3x3
                  case hi3x3 => (simp only [List.getElem?_toArray, List.getElem?_cons_succ, List.getElem?_cons_zero]; exact rfl)
                  case hf3x3 => kernel_rfl
                  case hr3x3 => kernel_rfl
                  case hy3x3 => (refine Or.inl ⟨by rfl, ?_⟩; intro w hSw; (try dsimp only at hSw); go_simp; try with_reducible rfl)
                  simp only [put_mk, List.set_cons_succ, List.set_cons_zero]
                  refine wpAnyH_take (i := 4) (oi := ?o3x4) (v := ?v3x4) ?hi3x4 (by kernel_rfl) ?hf3x4 ?hr3x4 (fun _ _ _ h => h) ?hy3x4 (by assumption) ?rest3x4
                  case hi3x4 => (simp only [List.getElem?_toArray, List.getElem?_cons_succ, List.getElem?_cons_zero]; exact rfl)
                  case hf3x4 => kernel_rfl
                  case hr3x4 => kernel_rfl
                  case hy3x4 => (refine Or.inl ⟨by rfl, ?_⟩; intro w hSw; (try dsimp only at hSw); go_simp; try with_reducible rfl)
                  simp only [put_mk, List.set_cons_succ, List.set_cons_zero]
                  refine wpAnyH_take (i := 5) (oi := ?o3x5) (v := ?v3x5) ?hi3x5 (by kernel_rfl) ?hf3x5 ?hr3x5 (fun _ _ _ h => h) ?hy3x5 (by assumption) ?rest3x5
                  case hi3x5 => (simp only [List.getElem?_toArray, List.getElem?_cons_succ, List.getElem?_cons_zero]; exact rfl)
                  case hf3x5 => kernel_rfl
                  case hr3x5 => kernel_rfl
                  case hy3x5 => (refine Or.inl ⟨by rfl, ?_⟩; intro w hSw; (try dsimp only at hSw); go_simp; try with_reducible rfl)
                  simp only [put_mk, List.set_cons_succ, List.set_cons_zero]
                  refine wpAnyH_take (i := 6) (oi := ?o3x6) (v := ?v3x6) ?hi3x6 (by kernel_rfl) ?hf3x6 ?hr3x6 (fun _ _ _ h => h) ?hy3x6 (by assumption) ?rest3x6
                  case hi3x6 => (simp only [List.getElem?_toArray, List.getElem?_cons_succ, List.getElem?_cons_zero]; exact rfl)
                  case hf3x6 => kernel_rfl
                  case hr3x6 => kernel_rfl
                  case hy3x6 => (refine Or.inl ⟨by rfl, ?_⟩; intro w hSw; (try dsimp only at hSw); go_simp; try with_reducible rfl)
                  simp only [put_mk, List.set_cons_succ, List.set_cons_zero]
                  refine wpAnyH_take (i := 7) (oi := ?o3x7) (v := ?v3x7) ?hi3x7 (by kernel_rfl) ?hf3x7 ?hr3x7 (fun _ _ _ h => h) ?hy3x7 (by assumption) ?rest3x7
                  case hi3x7 => (simp only [List.getElem?_toArray, List.getElem?_cons_succ, List.getElem?_cons_zero]; exact rfl)
                  case hf3x7 => kernel_rfl
                  case hr3x7 => kernel_rfl
                  case hy3x7 => (refine Or.inl ⟨by rfl, ?_⟩; intro w hSw; (try dsimp only at hSw); go_simp; try with_reducible rfl)
                  simp only [put_mk, List.set_cons_succ, List.set_cons_zero]
                  refine wpAnyH_take (i := 8) (oi := ?o3x8) (v := ?v3x8) ?hi3x8 (by kernel_rfl) ?hf3x8 ?hr3x8 (fun _ _ _ h => h) ?hy3x8 (by assumption) ?rest3x8
                  case hi3x8 => (simp only [List.getElem?_toArray, List.getElem?_cons_succ, List.getElem?_cons_zero]; exact rfl)
                  case hf3x8 => kernel_rfl
                  case hr3x8 => kernel_rfl
                  case hy3x8 => (refine Or.inl ⟨by rfl, ?_⟩; intro w hSw; (try dsimp only at hSw); go_simp; try with_reducible rfl)
                  simp only [put_mk, List.set_cons_succ, List.set_cons_zero]
                  refine wpAnyH_take (i := 9) (oi := ?o3x9) (v := ?v3x9) ?hi3x9 (by kernel_rfl) ?hf3x9 ?hr3x9 (fun _ _ _ h => h) ?hy3x9 (by assumption) ?rest3x9
                  case hi3x9 => (simp only [List.getElem?_toArray, List.getElem?_cons_succ, List.getElem?_cons_zero]; exact rfl)
                  case hf3x9 => kernel_rfl
                  case hr3x9 => kernel_rfl
                  case hy3x9 => (refine Or.inl ⟨by rfl, ?_⟩; intro w hSw; (try dsimp only at hSw); go_simp; try with_reducible rfl)
                  simp only [put_mk, List.set_cons_succ, List.set_cons_zero]
                  refine wpAnyH_take (i := 10) (oi := ?o3x10) (v := ?v3x10) ?hi3x10 (by kernel_rfl) ?hf3x10 ?hr3x10 (fun _ _ _ h => h) ?hy3x10 (by assumption) ?rest3x10
                  case hi3x10 => (simp only [List.getElem?_toArray, List.getElem?_cons_succ, List.getElem?_cons_zero]; exact rfl)
                  case hf3x10 => kernel_rfl
                  case hr3x10 => kernel_rfl
                  case hy3x10 => (refine Or.inl ⟨by rfl, ?_⟩; intro w hSw; (try dsimp only at hSw); go_simp; try with_reducible rfl)
                  simp only [put_mk, List.set_cons_succ, List.set_cons_zero]
                  refine wpAnyH_take (i := 11) (oi := ?o3x11) (v := ?v3x11) ?hi3x11 (by kernel_rfl) ?hf3x11 ?hr3x11 (fun _ _ _ h => h) ?hy3x11 (by assumption) ?rest3x11
                  case hi3x11 => (simp only [List.getElem?_toArray, List.getElem?_cons_succ, List.getElem?_cons_zero]; exact rfl)
                  case hf3x11 => kernel_rfl
                  case hr3x11 => kernel_rfl
                  case hy3x11 => (refine Or.inl ⟨by rfl, ?_⟩; intro w hSw; (try dsimp only at hSw); go_simp; try with_reducible rfl)
                  simp only [put_mk, List.set_cons_succ, List.set_cons_zero]
                  refine wpAnyH_take (i := 12) (oi := ?o3x12) (v := ?v3x12) ?hi3x12 (by kernel_rfl) ?hf3x12 ?hr3x12 (fun _ _ _ h => h) ?hy3x12 (by assumption) ?rest3x12
                  case hi3x12 => (simp only [List.getElem?_toArray, List.getElem?_cons_succ, List.getElem?_cons_zero]; exact rfl)
                  case hf3x12 => kernel_rfl
                  case hr3x12 => kernel_rfl
                  case hy3x12 => (refine Or.inl ⟨by rfl, ?_⟩; intro w hSw; (try dsimp only at hSw); go_simp; try with_reducible rfl)
                  simp only [put_mk, List.set_cons_succ, List.set_cons_zero]
                  refine wpAnyH_take (i := 13) (oi := ?o3x13) (v := ?v3x13) ?hi3x13 (by kernel_rfl) ?hf3x13 ?hr3x13 (fun _ _ _ h => h) ?hy3x13 (by assumption) ?rest3x13
                  case hi3x13 => (simp only [List.getElem?_toArray, List.getElem?_cons_succ, List.getElem?_cons_zero]; exact rfl)
                  case hf3x13 => kernel_rfl
                  case hr3x13 => kernel_rfl
                  case hy3x13 => (refine Or.inl ⟨by rfl, ?_⟩; intro w hSw; (try dsimp only at hSw); go_simp; try with_reducible rfl)
                  simp only [put_mk, List.set_cons_succ, List.set_cons_zero]
                  refine wpAnyH_take (i := 14) (oi := ?o3x14) (v := ?v3x14) ?hi3x14 (by kernel_rfl) ?hf3x14 ?hr3x14 (fun _ _ _ h => h) ?hy3x14 (by assumption) ?rest3x14
                  case hi3x14 => (simp only [List.getElem?_toArray, List.getElem?_cons_succ, List.getElem?_cons_zero]; exact rfl)
                  case hf3x14 => kernel_rfl
                  case hr3x14 => kernel_rfl
                  case hy3x14 => (refine Or.inl ⟨by rfl, ?_⟩; intro w hSw; (try dsimp only at hSw); go_simp; try with_reducible rfl)
                  simp only [put_mk, List.set_cons_succ, List.set_cons_zero]
                  refine wpAnyH_take (i := 15) (oi := ?o3x15) (v := ?v3x15) ?hi3x15 (by kernel_rfl) ?hf3x15 ?hr3x15 (fun _ _ _ h => h) ?hy3x15 (by assumption) ?rest3x15
                  case hi3x15 => (simp only [List.getElem?_toArray, List.getElem?_cons_succ, List.getElem?_cons_zero]; exact rfl)
                  case hf3x15 => kernel_rfl
                  case hr3x15 => kernel_rfl
                  case hy3x15 => (refine Or.inl ⟨by rfl, ?_⟩; intro w hSw; (try dsimp only at hSw); go_simp; try with_reducible rfl)
                  simp only [put_mk, List.set_cons_succ, List.set_cons_zero]
                  refine wpAnyH_take (i := 16) (oi := ?o3x16) (v := ?v3x16) ?hi3x16 (by kernel_rfl) ?hf3x16 ?hr3x16 (fun _ _ _ h => h) ?hy3x16 (by assumption) ?rest3x16
                  case hi3x16 => (simp only [List.getElem?_toArray, List.getElem?_cons_succ, List.getElem?_cons_zero]; exact rfl)
                  case hf3x16 => kernel_rfl
                  case hr3x16 => kernel_rfl
                  case hy3x16 => (refine Or.inl ⟨by rfl, ?_⟩; intro w hSw; (try dsimp only at hSw); go_simp; try with_reducible rfl)
                  simp only [put_mk, List.set_cons_succ, List.set_cons_zero]
                  refine wpAnyH_take (i := 17) (oi := ?o3x17) (v := ?v3x17) ?hi3x17 (by kernel_rfl) ?hf3x17 ?hr3x17 (fun _ _ _ h => h) ?hy3x17 (by assumption) ?rest3x17
                  case hi3x17 => (simp only [List.getElem?_toArray, List.getElem?_cons_succ, List.getElem?_cons_zero]; exact rfl)
                  case hf3x17 => kernel_rfl
                  case hr3x17 => kernel_rfl
                  case hy3x17 => (refine Or.inl ⟨by rfl, ?_⟩; intro w hSw; (try dsimp only at hSw); go_simp; try with_reducible rfl)
                  simp only [put_mk, List.set_cons_succ, List.set_cons_zero]
                  refine wpAnyH_take (i := 18) (oi := ?o3x18) (v := ?v3x18) ?hi3x18 (by kernel_rfl) ?hf3x18 ?hr3x18 (fun _ _ _ h => h) ?hy3x18 (by assumption) ?rest3x18
                  case hi3x18 => (simp only [List.getElem?_toArray, List.getElem?_cons_succ, List.getElem?_cons_zero]; exact rfl)
                  case hf3x18 => kernel_rfl
                  case hr3x18 => kernel_rfl
                  case hy3x18 => (refine Or.inl ⟨by rfl, ?_⟩; intro w hSw; (try dsimp only at hSw); go_simp; try with_reducible rfl)
                  simp only [put_mk, List.set_cons_succ, List.set_cons_zero]
                  refine wpAnyH_take (i := 19) (oi := ?o3x19) (v := ?v3x19) ?hi3x19 (by kernel_rfl) ?hf3x19 ?hr3x19 (fun _ _ _ h => h) ?hy3x19 (by assumption) ?rest3x19
                  case hi3x19 => (simp only [List.getElem?_toArray, List.getElem?_cons_succ, List.getElem?_cons_zero]; exact rfl)
                  case hf3x19 => kernel_rfl
                  case hr3x19 => kernel_rfl
                  case hy3x19 => (refine Or.inl ⟨by rfl, ?_⟩; intro w hSw; (try dsimp only at hSw); go_simp; try with_reducible rfl)
                  simp only [put_mk, List.set_cons_succ, List.set_cons_zero]
                  refine wpAnyH_take (i := 20) (oi := ?o3x20) (v := ?v3x20) ?hi3x20 (by kernel_rfl) ?hf3x20 ?hr3x20 (fun _ _ _ h => h) ?hy3x20 (by assumption) ?rest3x20
                  case hi3x20 => (simp only [List.getElem?_toArray, List.getElem?_cons_succ, List.getElem?_cons_zero]; exact rfl)
                  case hf3x20 => kernel_rfl
                  case hr3x20 => kernel_rfl
                  case hy3x20 => (refine Or.inl ⟨by rfl, ?_⟩; intro w hSw; (try dsimp only at hSw); go_simp; try with_reducible rfl)
                  simp only [put_mk, List.set_cons_succ, List.set_cons_zero]
                  refine wpAnyH_take (i := 21) (oi := ?o3x21) (v := ?v3x21) ?hi3x21 (by kernel_rfl) ?hf3x21 ?hr3x21 (fun _ _ _ h => h) ?hy3x21 (by assumption) ?rest3x21
                  case hi3x21 => (simp only [List.getElem?_toArray, List.getElem?_cons_succ, List.getElem?_cons_zero]; exact rfl)
                  case hf3x21 => kernel_rfl
                  case hr3x21 => kernel_rfl
                  case hy3x21 => (refine Or.inl ⟨by rfl, ?_⟩; intro w hSw; (try dsimp only at hSw); go_simp; try with_reducible rfl)
                  simp only [put_mk, List.set_cons_succ, List.set_cons_zero]
                  refine wpAnyH_ready (rs := [22]) (by kernel_rfl) (by simp) ?_
                  refine AllReadyH.cons (o := ?o3x22) ?hi3x22 (fun K hK => ?_) AllReadyH.nil
                  case hi3x22 => (simp only [List.getElem?_toArray, List.getElem?_cons_succ, List.getElem?_cons_zero]; exact rfl)
                  go_simp
                  rw [v1.out, v2.out, v3.out, v4.out]
                  refine hK.out _ _ ?_ (fun hHeld => ?_)
                  · (first | exact hS9 | exact KS _ (by repeat (first | exact Ext.refl _ | assumption | refine Ext.setCell ?_ (by first | (simp; done) | (simp; omega)) _ | refine Ext.drewN ?_ _ | refine Ext.alloc ?_ _ | refine Ext.drew ?_ | refine Ext.trans ?_ (by assumption))))
                  clear hK K
                  refine wpAnyH_ready (rs := [23]) (by kernel_rfl) (by simp) ?_
                  refine AllReadyH.cons (o := ?o3x23) ?hi3x23 (fun K hK => ?_) AllReadyH.nil
                  case hi3x23 => (simp only [List.getElem?_toArray, List.getElem?_cons_succ, List.getElem?_cons_zero]; exact rfl)
                  refine step_append_lies _ (by rfl) (.tmp 82) (.tmp 104) 46 (by rfl) w.heap.size 32 ti (.agg #[.int .i64 0, .int .i64 0]) 2 16 Try.underlying46 hi0 hz0 hz1 hz2 (by rfl) (by decide) _ _ _ (by rfl) hown2.out ⟨wr.heap.size, 0, none⟩ 1 1 [.int .i64 ux, .int .i64 uy] (by rfl) (by rfl) hnews.out hone.out (by omega) hmx2.out hmb.out hs9.out (wr.heap.size + 1) hsz1.out ?_
                  intro gg cap9 w9 hown9 hgrow9 hat hlt
                  have hx9 : Ext w w9 := hxa.out.grown hgrow9 (fun b hb => (World.ownsRow.lt hown2.out b hb).1)
                  have kT9 : Bk w9 ht 32 #[.int .i64 sx, .int .i64 sy] := kTa.out.grown hgrow9 (fun e => hnb e.symm)
                  have hS9 : (fun w' => w'.cell? (adP.add (i * 2)) = some (.int .i64 px) ∧ w'.cell? ⟨(adP.add (i * 2)).block, (adP.add (i * 2)).off + 1, none⟩ = some (.int .i64 py) ∧ w'.cell? ⟨ht, 0, none⟩ = some (.int .i64 sx) ∧ w'.cell? ⟨ht, 1, none⟩ = some (.int .i64 sy)) w9 := by
                    obtain ⟨ad', e, _, d0, d1⟩ := pt_at (hV.ext hx9) (k := i) (by have := Hn.out; have := Hin.out; omega)
                    injection e with e
                    subst e
                    rw [Hpp.out] at d0 d1
                    exact ⟨d0, d1, kT9.cell 0, kT9.cell 1⟩
                  refine hK.out _ _ ?_ (fun hHeld => ?_)
                  · (first | exact hS9 | exact KS _ (by repeat (first | exact Ext.refl _ | assumption | refine Ext.setCell ?_ (by first | (simp; done) | (simp; omega)) _ | refine Ext.drewN ?_ _ | refine Ext.alloc ?_ _ | refine Ext.drew ?_ | refine Ext.trans ?_ (by assumption))))
                  clear hK K
                  simp only [put_mk, List.set_cons_succ, List.set_cons_zero]
                  refine wpAnyH_take (i := 24) (oi := ?o3x24) (v := ?v3x24) ?hi3x24 (by kernel_rfl) ?hf3x24 ?hr3x24 (fun _ _ _ h => h) ?hy3x24 (by assumption) ?rest3x24
                  case hi3x24 => (simp only [List.getElem?_toArray, List.getElem?_cons_succ, List.getElem?_cons_zero]; exact rfl)
                  case hf3x24 => kernel_rfl
                  case hr3x24 => kernel_rfl
                  case hy3x24 => (refine Or.inl ⟨by rfl, ?_⟩; intro w hSw; (try dsimp only at hSw); go_simp; try with_reducible rfl)
                  simp only [put_mk, List.set_cons_succ, List.set_cons_zero]
                  refine wpAnyH_done (by kernel_rfl) ?_ _
                  refine NoPanic.normal ?_
                  have HO9 := hidA (show OwnP w9 w.heap.size (.slice (some ⟨gg, 0, none⟩) ((outL l i ++ segL (px, py) d (k - 1)).length + 1) cap9) (outL l i ++ segL (px, py) d (k + 1 - 1)) from by
                    rw [Nat.add_sub_cancel, Hnx.out, ← List.append_assoc]
                    exact OwnP.push hown9)
                  have hnb9 := hidA (fun (x : Nat) => show (Value.slice (some ⟨gg, 0, none⟩) x cap9).ownBlock ≠ some ht from by
                    intro e
                    simp only [Value.ownBlock, Option.some.injEq] at e
                    rcases hat with h | h
                    · rw [e] at h; exact hnb h
                    · omega)
                  have KT9 := hidA kT9
                  have Hx9 := hidA hx9
                  clear v1 v2 v3 v4 Hnx Hxl hxe hxa kTa hown2 hnews hone hs9 hsz1 hmx2 hmb KS hht hown9 hgrow9 hat hlt hx9 kT9 hS9 hHeld kT hnb hx
                  go_wp2
                  go_roundw
                  case rel => exact ⟨k + 1, Nat.le_add_left 1 k, Nat.succ_le_succ Hk.out.1, congrArg (Value.int IntKind.i64) (nxt_i2 Hk.out.2.1), (by have h8 := HO9.out; rw [List.length_append] at h8; exact h8), KT9.out, hnb9.out _, Hx9.out⟩
                  case measure => exact nxt_kk Hk.out.2.1 Hk.out.1
                · obtain rfl : k = m + 1 := Nat.le_antisymm hkm (Nat.not_le.1 hkle)
                  have hkn : ¬ ((m + 1 : Nat) : Int) ≤ m := fun h => absurd (Int.ofNat_le.1 h) (Nat.not_succ_le_self m)
                  have hkb : decide (((m + 1 : Nat) : Int) ≤ (m : Int)) = false := decide_eq_false hkn
                  rw [Nat.add_sub_cancel, ← Hseg.out] at hO
                  have HO := hidA hO
                  have Hfin := hidA (show i + 1 ≤ n - 1 ∧ (outL l (i + 1)).length ≤ 65536 from ⟨Hin.out, by rw [Hlen.out]; exact Nat.not_lt.1 Hbig.out⟩)
                  clear hO hk1 hkm hkle
                  go_wp2
                  go_roundw
                  case rel => exact ⟨i + 1, Hfin.out.1, (by first | rfl | go_num), HO.out, Hfin.out.2, hx⟩
                  case measure => exact nxt_k (lt_pred Hin.out)
          · obtain rfl : i = n - 1 := by omega
            have HO := hidA hO
            clear hO
            go_wp2
            go_ret2
            exact ⟨hx, .inr ⟨hol, _, rfl, HO.out⟩⟩
end Go.Proofs.Ytpgdinpckolfpaa

namespace Go.Proofs.Ytpgdinpckolfpaa
open Go.RowKit
attribute [local go_sem ↓] Go.wp_at_zero Go.wp_at_succ
attribute [local go_sem] run_store_float

/-- spots as cells -/
def spv (l : List (Nat × Nat)) : List Value := l.flatMap fun p => [.float .f32 p.1, .float .f32 p.2]
theorem spv_append (l m : List (Nat × Nat)) : spv (l ++ m) = spv l ++ spv m := by simp [spv]
theorem spv_cons (a : Nat × Nat) (l : List (Nat × Nat)) : spv (a :: l) = .float .f32 a.1 :: .float .f32 a.2 :: spv l := rfl
theorem spv_length : ∀ l : List (Nat × Nat), (spv l).length = l.length * 2
  | [] => rfl
  | a :: l => by rw [spv_cons]; simp [spv_length l]; omega
theorem spv_one (l : List (Nat × Nat)) : ∀ u ∈ spv l, u.oneCell' = true := by
  intro u hu
  obtain ⟨a, _, h⟩ := List.mem_flatMap.1 hu
  simp at h
  rcases h with rfl | rfl <;> rfl
theorem spv_get : ∀ {l : List (Nat × Nat)} {i : Nat} (h : i < l.length), (spv l)[i * 2]? = some (.float .f32 l[i].1) ∧ (spv l)[i * 2 + 1]? = some (.float .f32 l[i].2)
  | a :: l, 0, _ => ⟨rfl, rfl⟩
  | a :: l, i + 1, h => by
    have ih := @spv_get l i (by simpa using h)
    rw [spv_cons]
    rw [show (i + 1) * 2 = i * 2 + 1 + 1 by omega, show i * 2 + 1 + 1 + 1 = (i * 2 + 1) + 1 + 1 by omega]
    simpa using ih
theorem sp_at {w : World} {A : Option Addr} {l : List (Nat × Nat)} (h : Rd w A (spv l)) {k : Nat} (hk : k < l.length) : ∃ ad, A = some ad ∧ ad.block < w.heap.size ∧ w.cell? (ad.add (k * 2)) = some (.float .f32 (l.getD k (0, 0)).1) ∧ w.cell? ⟨(ad.add (k * 2)).block, (ad.add (k * 2)).off + 1, none⟩ = some (.float .f32 (l.getD k (0, 0)).2) := by
  obtain ⟨ad, rfl, hb, hc⟩ := h (by rintro e; have := spv_length l; rw [e] at this; simp at this; omega)
  have ek : l.getD k (0, 0) = l[k] := by simp [List.getD_eq_getElem?_getD, hk]
  rw [ek]
  refine ⟨ad, rfl, hb, hc _ _ (spv_get hk).1, ?_⟩
  have := hc _ _ (spv_get hk).2
  rw [show ad.add (k * 2 + 1) = ⟨(ad.add (k * 2)).block, (ad.add (k * 2)).off + 1, none⟩ from (add_off ad (k * 2) (by omega)).symm] at this
  exact this
/-- spots of the call's own -/
def OwnSp (w : World) (base : Nat) (v : Value) (xs : List (Nat × Nat)) : Prop := w.ownsRow base 79 2 v xs.length (spv xs)
theorem OwnSp.ext {w w' : World} {base : Nat} {v : Value} {xs : List (Nat × Nat)} (h : OwnSp w base v xs) (hx : Ext w w') : OwnSp w' base v xs := World.ownsRow.kept h (grown_ext hx none) (by cases h : v.ownBlock <;> simp)
theorem OwnSp.push {w : World} {base : Nat} {v : Value} {xs : List (Nat × Nat)} {ux uy : Nat} (h : w.ownsRow base 79 2 v (xs.length + 1) (spv xs ++ [.float .f32 ux, .float .f32 uy])) : OwnSp w base v (xs ++ [(ux, uy)]) := by
  unfold OwnSp
  rw [spv_append, List.length_append]
  exact h
theorem OwnSp.push2 {w : World} {base : Nat} {v : Value} {xs : List (Nat × Nat)} {a b c d : Nat} (h : w.ownsRow base 79 2 v (xs.length + 2) (spv xs ++ [.float .f32 a, .float .f32 b, .float .f32 c, .float .f32 d])) : OwnSp w base v (xs ++ [(a, b), (c, d)]) := by
  unfold OwnSp
  rw [spv_append, List.length_append]
  exact h
theorem OwnSp.any {w : World} {base : Nat} {v : Value} {xs : List (Nat × Nat)} (h : OwnSp w base v xs) : ∃ A cap, v = .slice A xs.length cap ∧ Rd w A (spv xs) := by
  rcases h.2 with ⟨h1, h2⟩ | ⟨g, cap, cur, hv, _⟩
  · have hx : xs = [] := List.eq_nil_of_length_eq_zero h2
    subst hx
    exact ⟨none, 0, h1, Rd.nil _ _⟩
  · subst hv
    exact ⟨_, cap, rfl, Rd.of_own h⟩
theorem infoSpot : (Try.prog.info? 79).map (fun i => (i.zero, i.size, i.bytes)) = some (some (.agg #[.float .f32 0, .float .f32 0]), 2, 8) := by kernel_rfl
/-- whole numbers of places, as singles -/
theorem place_bd {x : Int} (h : -4194304 ≤ x ∧ x ≤ 4194304) : Bd 24 (floatOfInt .f32 x) := int_bd (by omega) (by omega)
end Go.Proofs.Ytpgdinpckolfpaa

namespace Go.Proofs.Ytpgdinpckolfpaa
open Go.RowKit
attribute [local go_sem ↓] Go.wp_at_zero Go.wp_at_succ
attribute [local go_sem] run_store_float

/-- the error of places, from place k on -/
def plI (l : List (Int × Int)) : Nat → Nat → Int
  | _, 0 => 0
  | k, m + 1 => if farP (l.getD k (0, 0)) = true then 5 else plI l (k + 1) m
theorem plI_step {l : List (Int × Int)} {k n : Nat} (h : k < n) : plI l k (n - k) = if farP (l.getD k (0, 0)) = true then 5 else plI l (k + 1) (n - (k + 1)) := by
  rw [show n - k = (n - (k + 1)) + 1 by omega]
  rfl
theorem plI_ok {l : List (Int × Int)} : ∀ m k, plI l k m = 0 → ∀ i, k ≤ i → i < k + m → farP (l.getD i (0, 0)) = false
  | 0, k, _, i, h1, h2 => by omega
  | m + 1, k, h, i, h1, h2 => by
    unfold plI at h
    split at h
    · cases h
    · rename_i hb
      by_cases e : i = k
      · subst e
        simpa using hb
      · exact plI_ok m (k + 1) h i (by omega) (by omega)
def rnA (q : Nat) : Int := if q = 0 then 10 else if 200 < q then 4 else 0
def rnB (t : Int) : Int := if 0 ≤ t ∧ t ≤ 6 then 0 else 3
/-- what the call answers -/
def rndE (l : List (Int × Int)) (t : Int) : Int := if rnA l.length ≠ 0 then rnA l.length else if plI l 0 l.length ≠ 0 then plI l 0 l.length else rnB t
/-- places as spots -/
def spP (l : List (Int × Int)) : List (Nat × Nat) := l.map fun p => (floatOfInt .f32 p.1, floatOfInt .f32 p.2)
theorem spP_length (l : List (Int × Int)) : (spP l).length = l.length := by simp [spP]
theorem spP_take {l : List (Int × Int)} {k : Nat} (h : k < l.length) : (spP l).take (k + 1) = (spP l).take k ++ [(floatOfInt .f32 (l.getD k (0, 0)).1, floatOfInt .f32 (l.getD k (0, 0)).2)] := by
  rw [List.take_add_one]
  congr 1
  simp [spP, List.getD_eq_getElem?_getD, h]
def tkP (l : List (Int × Int)) (k : Nat) : List (Nat × Nat) := (spP l).take k
theorem tkP_next {l : List (Int × Int)} {k : Nat} (h : k < l.length) : tkP l (k + 1) = tkP l k ++ [(floatOfInt .f32 (l.getD k (0, 0)).1, floatOfInt .f32 (l.getD k (0, 0)).2)] := spP_take h
theorem tkP_le (l : List (Int × Int)) (k : Nat) : (tkP l k).length ≤ k := by unfold tkP; rw [List.length_take]; omega
theorem tkP_all (l : List (Int × Int)) : tkP l l.length = spP l := by unfold tkP; rw [List.take_of_length_le (by rw [spP_length]; exact Nat.le_refl _)]
theorem spP_bd {l : List (Int × Int)} (h : ∀ i, i < l.length → farP (l.getD i (0, 0)) = false) : SpB 24 (spP l) := by
  intro p hp
  obtain ⟨a, ha, rfl⟩ := List.mem_map.1 hp
  obtain ⟨i, hi, rfl⟩ := List.mem_iff_getElem.1 ha
  have := farP_false (h i hi)
  rw [show l.getD i (0, 0) = l[i] by simp [List.getD_eq_getElem?_getD, hi]] at this
  exact ⟨place_bd ⟨this.1, this.2.1⟩, place_bd ⟨this.2.2.1, this.2.2.2⟩⟩
theorem cutO_le (l : List (Nat × Nat)) : (cutO l).length ≤ 2 * l.length := by
  by_cases h : 1 < l.length
  · rw [cutO_length h]; exact Nat.le_refl _
  · unfold cutO
    rw [if_pos (by omega)]
    omega
theorem cutN_le {l : List (Nat × Nat)} (h : l.length ≤ 200) : ∀ n, n ≤ 6 → (cutN l n).length ≤ 12800
  | 0, _ => by show l.length ≤ _; omega
  | 1, _ => by have := cutO_le (cutN l 0); show (cutO (cutN l 0)).length ≤ _; have h0 : (cutN l 0).length ≤ 200 := h; omega
  | 2, _ => by have h1 := cutO_le (cutN l 0); have h2 := cutO_le (cutN l 1); have h0 : (cutN l 0).length ≤ 200 := h; have e1 : cutN l 1 = cutO (cutN l 0) := rfl; have e2 : cutN l 2 = cutO (cutN l 1) := rfl; rw [e2]; rw [← e1] at h1; omega
  | 3, _ => by have h1 := cutO_le (cutN l 0); have h2 := cutO_le (cutN l 1); have h3 := cutO_le (cutN l 2); have h0 : (cutN l 0).length ≤ 200 := h; have e1 : cutN l 1 = cutO (cutN l 0) := rfl; have e2 : cutN l 2 = cutO (cutN l 1) := rfl; have e3 : cutN l 3 = cutO (cutN l 2) := rfl; rw [e3]; rw [← e1] at h1; rw [← e2] at h2; omega
  | n + 4, hn => by
    have h0 : (cutN l 0).length ≤ 200 := h
    have h1 : (cutN l 1).length ≤ 2 * (cutN l 0).length := cutO_le (cutN l 0)
    have h2 : (cutN l 2).length ≤ 2 * (cutN l 1).length := cutO_le (cutN l 1)
    have h3 : (cutN l 3).length ≤ 2 * (cutN l 2).length := cutO_le (cutN l 2)
    have h4 : (cutN l 4).length ≤ 2 * (cutN l 3).length := cutO_le (cutN l 3)
    have h5 : (cutN l 5).length ≤ 2 * (cutN l 4).length := cutO_le (cutN l 4)
    have h6 : (cutN l 6).length ≤ 2 * (cutN l 5).length := cutO_le (cutN l 5)
    have hc : n = 0 ∨ n = 1 ∨ n = 2 := by omega
    rcases hc with rfl | rfl | rfl
    · show (cutN l 4).length ≤ _; omega
    · show (cutN l 5).length ≤ _; omega
    · show (cutN l 6).length ≤ _; omega
theorem cutN_one {l : List (Nat × Nat)} {m : Nat} (h : (cutN l m).length ≤ 1) : ∀ t, m ≤ t → cutN l t = cutN l m
  | 0, ht => by rw [show m = 0 by omega]
  | t + 1, ht => by
    by_cases e : m = t + 1
    · rw [e]
    · have ih := cutN_one h t (by omega)
      show cutO (cutN l t) = _
      rw [ih]
      unfold cutO
      rw [if_pos h]
theorem cutN_ne {l : List (Nat × Nat)} (h : 1 ≤ l.length) : ∀ m, ¬ (cutN l m).length = 0
  | 0 => by show ¬ l.length = 0; omega
  | m + 1 => by
    have ih := cutN_ne h m
    show ¬ (cutO (cutN l m)).length = 0
    by_cases h1 : 1 < (cutN l m).length
    · rw [cutO_length h1]; omega
    · unfold cutO
      rw [if_pos (by omega)]
      exact ih
theorem cutO_ne {xs : List (Nat × Nat)} (h : 2 ≤ xs.length) : cutO xs = ([xs.getD 0 (0, 0)] ++ cutL xs (xs.length - 1)) ++ [xs.getD (xs.length - 1) (0, 0)] := by
  unfold cutO
  rw [if_neg (by omega)]
/-- an own row may be thought to begin lower -/
theorem OwnSp.low {w : World} {a b : Nat} {v : Value} {xs : List (Nat × Nat)} (h : OwnSp w b v xs) (hab : a ≤ b) : OwnSp w a v xs := by
  refine ⟨h.1, ?_⟩
  rcases h.2 with h1 | ⟨g, cap, cur, hv, hb, hr⟩
  · exact .inl h1
  · exact .inr ⟨g, cap, cur, hv, Nat.le_trans hab hb, hr⟩
theorem OwnSp.form {w : World} {base : Nat} {v : Value} {xs : List (Nat × Nat)} (h : OwnSp w base v xs) (hn : 0 < xs.length) : ∃ (ad : Addr) (cap : Nat), v = .slice (some ad) xs.length cap ∧ ad.block < w.heap.size ∧ xs.length ≤ cap ∧ Rd w (some ad) (spv xs) := by
  rcases h.2 with ⟨_, h2⟩ | ⟨g, cap, cur, hv, hbg, hh, h3, h4⟩
  · omega
  · have hl : g < w.heap.size := by
      rcases Nat.lt_or_ge g w.heap.size with hlt | hge
      · exact hlt
      · rw [Array.getElem?_eq_none hge] at hh; cases hh
    refine ⟨⟨g, 0, none⟩, cap, hv, hl, h3, ?_⟩
    subst hv
    exact Rd.of_own h
/-- the rest of spots in memory -/
theorem Rd.sptail {w : World} {ad : Addr} {p : Nat × Nat} {r : List (Nat × Nat)} (h : Rd w (some ad) (spv (p :: r))) : Rd w (some (ad.add 2)) (spv r) := by
  intro hne
  obtain ⟨a, e, hb, hc⟩ := h (by rw [spv_cons]; simp)
  injection e with e
  subst e
  refine ⟨_, rfl, by rw [add_block]; exact hb, fun j u hu => ?_⟩
  rw [add_add']
  exact hc _ _ (by rw [spv_cons, Nat.add_comm 2 j]; simpa using hu)
theorem rnA_le {n : Nat} (h : rnA n = 0) : 1 ≤ n ∧ n ≤ 200 := by
  unfold rnA at h
  split at h
  · cases h
  · split at h
    · cases h
    · omega
set_option maxRecDepth 100000 in
set_option maxHeartbeats 3200000 in
theorem Rounded_bad1 (A : Option Addr) (n c : Nat) (t : Int) (w : World) (hE : rnA n ≠ 0) :
    Calls Try.prog 40 #[.slice A n c, .int .i64 t] w fun e w' => e = .returned (.tuple #[.slice none 0 0, .int .i64 (rnA n)]) ∧ Ext w w' := by
  unfold rnA at *
  by_cases h0 : n = 0
  · subst h0
    go_enter Try.func40, Try.ntmps40
    go_wp2
    go_ret2
    exact ⟨rfl, Ext.refl _⟩
  · by_cases h1 : 200 < n
    · rw [if_neg h0, if_pos h1]
      have b0 : ((n : Int) == 0) = false := by simp; omega
      have b1 : decide ((200 : Int) < (n : Int)) = true := by simp; omega
      have c0 : ¬ (n : Int) = 0 := by omega
      have c1 : (200 : Int) < n := by omega
      clear hE
      go_enter Try.func40, Try.ntmps40
      go_wp2
      go_ret2
      exact ⟨rfl, Ext.refl _⟩
    · rw [if_neg h0, if_neg h1] at hE
      exact absurd rfl hE
set_option maxRecDepth 100000 in
set_option maxHeartbeats 6400000 in
theorem Rounded_bad2 (A : Option Addr) (n c : Nat) (l : List (Int × Int)) (t : Int) (w : World) (hn : l.length = n) (hV : Rd w A (ptv l)) (h0 : rnA n = 0) (hE : plI l 0 n ≠ 0) :
    Calls Try.prog 40 #[.slice A n c, .int .i64 t] w fun e w' => e = .returned (.tuple #[.slice none 0 0, .int .i64 (plI l 0 n)]) ∧ Ext w w' := by
  have HP := fun (x y : Int) (w : World) => hidA (place_any x y w)
  have Hn := hidA hn
  have hn1 := rnA_le h0
  have b0 : ((n : Int) == 0) = false := by simp; omega
  have b1 : decide ((200 : Int) < (n : Int)) = false := by simp; omega
  have c0 : ¬ (n : Int) = 0 := by omega
  have c1 : ¬ (200 : Int) < n := by omega
  have hn6 : n ≤ 200 := hn1.2
  obtain ⟨E, hEe⟩ : ∃ E, E = plI l 0 n := ⟨_, rfl⟩
  rw [← hEe] at hE ⊢
  have HE := hidA hEe
  have HE0 := hidA hE
  clear hE hEe h0 hn
  go_enter Try.func40, Try.ntmps40
  go_upto_region 6 with fail
  clear b0 b1 c0 c1
  go_loopw [26] (fun s26 wr => ∃ k : Nat, k ≤ n ∧ s26 = .int .i64 k ∧ E = plI l k (n - k) ∧ Ext w wr) (fun s26 _ => n - (intOf s26).toNat)
  case atStart => exact ⟨0, Nat.zero_le _, rfl, HE.out, Ext.refl _⟩
  case round =>
    obtain ⟨k, hk, rfl, hEk, hx⟩ := hrel
    have HEk := hidA hEk
    clear hEk
    by_cases hkn : k < n
    · have HE3 := hidA (HEk.out.trans (plI_step hkn))
      have hkl : k < l.length := by have := Hn.out; omega
      obtain ⟨ad, rfl, hbk, d0, d1⟩ := pt_at (hV.ext hx) hkl
      have i0 : (0 : Int) ≤ k := by omega
      have i1 : (k : Int) < n := by omega
      obtain ⟨px, py, hpp⟩ : ∃ px py, l.getD k (0, 0) = (px, py) := ⟨_, _, rfl⟩
      rw [hpp] at d0 d1
      dsimp only at d0 d1
      have Hpp := hidA hpp
      have HPq := fun w => HP px py w
      have HE4 := hidA (show E = if farP (px, py) = true then 5 else plI l (k + 1) (n - (k + 1)) from by rw [HE3.out, hpp])
      have Hkn := hidA hkn
      clear hpp HE3 HEk
      cases hb : farP (px, py)
      · have HE5 := hidA (HE4.out.trans (if_neg (by rw [hb]; decide)))
        rw [hb] at HPq
        simp only [Bool.false_eq_true, if_false] at HPq
        clear hb HE4
        go_upto_region 8 with fail
        have kP : Bk (wr.alloc (.cells #[.int .i64 px, .int .i64 py] 32)) wr.heap.size 32 #[.int .i64 px, .int .i64 py] := Bk.new' rfl
        have hx1 := hx.alloc (.cells #[.int .i64 px, .int .i64 py] 32)
        clear d0 d1
        generalize wr.alloc (.cells #[.int .i64 px, .int .i64 py] 32) = w1 at *
        generalize wr.heap.size = ha at *
        have p0 := kP.cell 0
        have p1 := kP.cell 1
        go_wp2_with (go_at_call 77; refine ((HPq _).out).mono ?_; rintro e w2 ⟨rfl, hx2⟩)
        go_roundw
        case rel => exact ⟨k + 1, Hkn.out, (by first | rfl | go_num), HE5.out, hx1.trans hx2⟩
        case measure => exact nxt_k Hkn.out
      · have HE5 := hidA (HE4.out.trans (if_pos hb))
        rw [hb] at HPq
        simp only [if_true] at HPq
        clear hb HE4
        go_upto_region 8 with fail
        have kP : Bk (wr.alloc (.cells #[.int .i64 px, .int .i64 py] 32)) wr.heap.size 32 #[.int .i64 px, .int .i64 py] := Bk.new' rfl
        have hx1 := hx.alloc (.cells #[.int .i64 px, .int .i64 py] 32)
        clear d0 d1
        generalize wr.alloc (.cells #[.int .i64 px, .int .i64 py] 32) = w1 at *
        generalize wr.heap.size = ha at *
        have p0 := kP.cell 0
        have p1 := kP.cell 1
        go_wp2_with (go_at_call 77; refine ((HPq _).out).mono ?_; rintro e w2 ⟨rfl, hx2⟩)
        go_ret2
        exact ⟨by rw [HE5.out]; rfl, hx1.trans hx2⟩
    · exfalso
      have h9 := HEk.out
      rw [show n - k = 0 by omega] at h9
      exact HE0.out h9
set_option maxRecDepth 100000 in
set_option maxHeartbeats 6400000 in
theorem Rounded_bad3 (A : Option Addr) (n c : Nat) (l : List (Int × Int)) (t : Int) (w : World) (hn : l.length = n) (hV : Rd w A (ptv l)) (h0 : rnA n = 0) (hok : ∀ i, i < l.length → farP (l.getD i (0, 0)) = false) (hE : rnB t ≠ 0) :
    Calls Try.prog 40 #[.slice A n c, .int .i64 t] w fun e w' => e = .returned (.tuple #[.slice none 0 0, .int .i64 3]) ∧ Ext w w' := by
  have HP := fun (x y : Int) (w : World) => hidA (place_any x y w)
  have Hn := hidA hn
  have hn1 := rnA_le h0
  have b0 : ((n : Int) == 0) = false := by simp; omega
  have b1 : decide ((200 : Int) < (n : Int)) = false := by simp; omega
  have c0 : ¬ (n : Int) = 0 := by omega
  have c1 : ¬ (200 : Int) < n := by omega
  have hn6 : n ≤ 200 := hn1.2
  have Hok := hidA hok
  have hT : ¬ (0 ≤ t ∧ t ≤ 6) := fun h => hE (if_pos h)
  have Ht := hidA (show t < 0 ∨ ¬ t < 0 ∧ 6 < t by omega)
  clear hE h0 hn hok hT
  go_enter Try.func40, Try.ntmps40
  go_upto_region 6 with fail
  clear b0 b1 c0 c1
  go_loopw [26] (fun s26 wr => ∃ k : Nat, k ≤ n ∧ s26 = .int .i64 k ∧ Ext w wr) (fun s26 _ => n - (intOf s26).toNat)
  case atStart => exact ⟨0, Nat.zero_le _, rfl, Ext.refl _⟩
  case round =>
    obtain ⟨k, hk, rfl, hx⟩ := hrel
    by_cases hkn : k < n
    · have Hkn := hidA hkn
      have hkl : k < l.length := by have := Hn.out; omega
      obtain ⟨ad, rfl, hbk, d0, d1⟩ := pt_at (hV.ext hx) hkl
      have i0 : (0 : Int) ≤ k := by omega
      have i1 : (k : Int) < n := by omega
      obtain ⟨px, py, hpp⟩ : ∃ px py, l.getD k (0, 0) = (px, py) := ⟨_, _, rfl⟩
      rw [hpp] at d0 d1
      dsimp only at d0 d1
      have Hpp := hidA hpp
      have HPq := fun w => HP px py w
      have hb := Hok.out k hkl
      rw [hpp] at hb
      rw [hb] at HPq
      simp only [Bool.false_eq_true, if_false] at HPq
      clear hb hpp
      go_upto_region 8 with fail
      have kP : Bk (wr.alloc (.cells #[.int .i64 px, .int .i64 py] 32)) wr.heap.size 32 #[.int .i64 px, .int .i64 py] := Bk.new' rfl
      have hx1 := hx.alloc (.cells #[.int .i64 px, .int .i64 py] 32)
      clear d0 d1
      generalize wr.alloc (.cells #[.int .i64 px, .int .i64 py] 32) = w1 at *
      generalize wr.heap.size = ha at *
      have p0 := kP.cell 0
      have p1 := kP.cell 1
      go_wp2_with (go_at_call 77; refine ((HPq _).out).mono ?_; rintro e w2 ⟨rfl, hx2⟩)
      go_roundw
      case rel => exact ⟨k + 1, Hkn.out, (by first | rfl | go_num), hx1.trans hx2⟩
      case measure => exact nxt_k Hkn.out
    · obtain rfl : n = k := by omega
      clear hkn hk HP
      rcases Ht.out with ht | ⟨ht, ht2⟩
      · have hd : decide (t < 0) = true := decide_eq_true ht
        go_wp2
        go_ret2
        exact ⟨rfl, hx⟩
      · have hd : decide (t < 0) = false := decide_eq_false (by omega)
        have hd2 : decide (6 < t) = true := decide_eq_true ht2
        go_wp2
        go_ret2
        exact ⟨rfl, hx⟩
end Go.Proofs.Ytpgdinpckolfpaa
