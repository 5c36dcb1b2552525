/- The law CostsAreLeast: it returns true for every field, rules, place and price. -/
import Derived.Test.YtpgdinpckolfpaaRdW
import Derived.Test.YtpgdinpckolfpaaRwAA
import Derived.Test.YtpgdinpckolfpaaRdT
import Derived.Deep.AppendLies
import Derived.Test.YtpgdinpckolfpaaPlaces
import Derived.Test.YtpgdinpckolfpaaRwAD
import Derived.Test.YtpgdinpckolfpaaRdU
namespace Go.Proofs.Ytpgdinpckolfpaa
open Go.RowKit
attribute [local go_sem ↓] Go.wp_at_zero Go.wp_at_succ
attribute [local go_sem] run_store_float

set_option maxRecDepth 100000 in
set_option maxHeartbeats 6400000 in
theorem WayErrorN_any (A : Option Addr) (n c : Nat) (l : List (Int × Int)) (w : World) (hn : l.length = n) (hV : Rd w A (ptv l)) (hb7 : n ≤ 140737488351232) :
    Calls Try.prog 39 #[.pointer none, .slice A n c] w fun e w' => e = .returned (.int .i64 (wayE farP l)) ∧ Ext w w' := by
  have Hn := hidA hn
  have hE : Hid (wayE farP l = if n = 0 then 10 else if 65536 < n then 4 else wayI farP l 0 n) := by show _ = _; unfold wayE; rw [hn]
  generalize wayE farP l = E at *
  clear hn
  go_enter Try.func39, Try.ntmps39
  by_cases h0 : n = 0
  · have HE2 := hidA (hE.out.trans (if_pos h0))
    clear hE
    subst h0
    go_wp2
    go_ret
    exact ⟨ret_i HE2.out.symm, Ext.refl _⟩
  have h0' : ¬ (n : Int) = 0 := by omega
  by_cases h6 : 65536 < n
  · have HE2 := hidA ((hE.out.trans (if_neg h0)).trans (if_pos h6))
    have h6' : (65536 : Int) < n := by omega
    clear hE
    go_wp2
    go_ret
    exact ⟨ret_i HE2.out.symm, Ext.refl _⟩
  have HE2 := hidA ((hE.out.trans (if_neg h0)).trans (if_neg h6))
  have h6' : ¬ (65536 : Int) < n := by omega
  clear hE
  have h65 : n ≤ 65536 := by omega
  go_upto_region 6 with fail
  go_loopw [17] (fun s17 wr => ∃ k : Nat, k ≤ n ∧ s17 = .int .i64 k ∧ E = wayI farP l k (n - k) ∧ (0 < k → farP (l.getD (k - 1) (0, 0)) = false) ∧ Ext w wr) (fun s17 _ => n - (intOf s17).toNat)
  case atStart => exact ⟨0, Nat.zero_le _, rfl, by rw [HE2.out]; rfl, fun h => by omega, Ext.refl _⟩
  case round =>
    obtain ⟨k, hk, rfl, hEk, hprev, hx⟩ := hrel
    have HEk := hidA hEk
    have Hprev := hidA hprev
    clear hEk hprev
    by_cases hkn : k < n
    · have hkl : k < l.length := by have := Hn.out; omega
      obtain ⟨ad, rfl, hbk, d0, d1⟩ := pt_at (hV.ext hx) hkl
      have HE3 := hidA (HEk.out.trans (wayI_step hkn))
      have i0 : (0 : Int) ≤ k := by omega
      have i1 : (k : Int) < n := by omega
      obtain ⟨px, py, hpp⟩ : ∃ px py, l.getD k (0, 0) = (px, py) := ⟨_, _, rfl⟩
      have hpp2 := hidA hpp
      rw [hpp] at d0 d1
      have HE4 := hidA (show E = if farP (px, py) = true then 5 else if 0 < k ∧ stepBad (l.getD (k - 1) (0, 0)) (px, py) = true then 2 else wayI farP l (k + 1) (n - (k + 1)) from by rw [HE3.out, hpp])
      clear hpp HE3 HEk
      dsimp only at d0 d1
      go_upto_region 8 with fail
      have kP : Bk (wr.alloc (.cells #[.int .i64 px, .int .i64 py] 32)) wr.heap.size 32 #[.int .i64 px, .int .i64 py] := Bk.new' rfl
      have hx1 := hx.alloc (.cells #[.int .i64 px, .int .i64 py] 32)
      clear d0 d1
      generalize wr.alloc (.cells #[.int .i64 px, .int .i64 py] 32) = w1 at *
      generalize wr.heap.size = ha at *
      have p0 := kP.cell 0
      have p1 := kP.cell 1
      rcases (by omega : px < -4194304 ∨ (¬ px < -4194304 ∧ 4194304 < px) ∨ (¬ px < -4194304 ∧ ¬ 4194304 < px ∧ py < -4194304) ∨ (¬ px < -4194304 ∧ ¬ 4194304 < px ∧ ¬ py < -4194304 ∧ 4194304 < py) ∨ (¬ px < -4194304 ∧ ¬ 4194304 < px ∧ ¬ py < -4194304 ∧ ¬ 4194304 < py)) with c1 | ⟨c1, c2⟩ | ⟨c1, c2, c3⟩ | ⟨c1, c2, c3, c4⟩ | ⟨c1, c2, c3, c4⟩
      case inr.inr.inr.inr =>
        have hb : farP (px, py) = false := by unfold farP; simp; omega
        have HE5 := hidA (HE4.out.trans (if_neg (by rw [hb]; decide)))
        have Hb := hidA hb
        have hpb := farP_false hb
        clear hb HE4
        go_quiet (fail)
        have kP2 : Bk (w1.drewN nq) ha 32 #[.int .i64 px, .int .i64 py] := kP.ext (by repeat (first | exact Ext.refl _ | assumption | refine Ext.setCell ?_ (by first | (simp; done) | (simp; omega)) _ | refine Ext.drewN ?_ _ | refine Ext.alloc ?_ _ | refine Ext.drew ?_ | refine Ext.trans ?_ (by assumption)))
        have hx3 : Ext w (w1.drewN nq) := hx1.trans (by repeat (first | exact Ext.refl _ | assumption | refine Ext.setCell ?_ (by first | (simp; done) | (simp; omega)) _ | refine Ext.drewN ?_ _ | refine Ext.alloc ?_ _ | refine Ext.drew ?_ | refine Ext.trans ?_ (by assumption)))
        clear p0 p1 kP hx1 c1 c2 c3 c4
        generalize w1.drewN nq = w2 at *
        by_cases hk0 : k = 0
        · subst hk0
          have HE6 := hidA (HE5.out.trans (if_neg (by omega)))
          clear HE5
          go_wp2
          go_roundw
          case rel => exact ⟨1, by omega, rfl, HE6.out, fun _ => by show farP (l.getD 0 (0, 0)) = false; rw [hpp2.out]; exact Hb.out, hx3⟩
          case measure => simp [intOf]; omega
        · have hkl1 : k - 1 < l.length := by omega
          have hpq := farP_false (Hprev.out (by omega))
          obtain ⟨qx, qy, hqq⟩ : ∃ qx qy, l.getD (k - 1) (0, 0) = (qx, qy) := ⟨_, _, rfl⟩
          rw [hqq] at hpq
          dsimp only at hpq hpb
          have HBt := fun (w : World) => hidA (Leap_any qx qy px py w (by omega) (by omega) (by omega) (by omega))
          have HE6 := hidA (show E = if stepBad (qx, qy) (px, py) = true then 2 else wayI farP l (k + 1) (n - (k + 1)) from by rw [HE5.out, hqq]; simp [show 0 < k by omega])
          have e0 : ∀ w', Ext w2 w' → w'.cell? (ad.add ((k - 1) * 2)) = some (.int .i64 qx) := fun w' h => by
            obtain ⟨ad', e, _, d0, d1⟩ := pt_at (hV.ext (hx3.trans h)) hkl1
            injection e with e
            subst e
            rw [hqq] at d0
            exact d0
          have e1 : ∀ w', Ext w2 w' → w'.cell? ⟨(ad.add ((k - 1) * 2)).block, (ad.add ((k - 1) * 2)).off + 1, none⟩ = some (.int .i64 qy) := fun w' h => by
            obtain ⟨ad', e, _, d0, d1⟩ := pt_at (hV.ext (hx3.trans h)) hkl1
            injection e with e
            subst e
            rw [hqq] at d1
            exact d1
          have f0 : ∀ w', Ext w2 w' → w'.cell? ⟨ha, 0, none⟩ = some (.int .i64 px) := fun w' h => (kP2.ext h).cell 0
          have f1 : ∀ w', Ext w2 w' → w'.cell? ⟨ha, 1, none⟩ = some (.int .i64 py) := fun w' h => (kP2.ext h).cell 1
          have j0 : (0 : Int) ≤ ((k - 1 : Nat) : Int) := by omega
          have j1 : ((k - 1 : Nat) : Int) < n := by omega
          have hk0' : (0 : Int) < k := by omega
          have Hwk := hidA (show wrap64 ((k : Int) - 1) = ((k - 1 : Nat) : Int) by rw [IntWalk.wrap64_in _ ⟨by omega, by omega⟩]; omega)
          have Hwk2 := hidA (show IntKind.i64.wrap ((k : Int) - 1) = ((k - 1 : Nat) : Int) by rw [IntWalk.i64_in _ ⟨by omega, by omega⟩]; omega)
          have Hhx := hidA hx3
          clear hpq hpb HE5 hqq kP2
          unfold lpV at HBt
          cases hlp : leapO (px - qx) (py - qy) with
          | none =>
            have HE7 := hidA (HE6.out.trans (if_pos (by unfold stepBad; rw [hlp])))
            rw [hlp] at HBt
            clear hlp
            have wk := Hwk.out
            have wk2 := Hwk2.out
            go_upto_region 11 with fail
            refine wp_region_noPanic ?_
            refine wp_region_held_drew (S := fun w' => Ext w2 w') (by kernel_rfl) ?_ (fun hHeld => ?_)
            · (repeat (first | exact Ext.refl _ | assumption | refine Ext.setCell ?_ (by first | (simp; done) | (simp; omega)) _ | refine Ext.drewN ?_ _ | refine Ext.alloc ?_ _ | refine Ext.drew ?_ | refine Ext.trans ?_ (by assumption)))
            refine wpAnyH_take (i := 0) (oi := ?o1x0) (v := ?v1x0) ?hi1x0 (by kernel_rfl) ?hf1x0 ?hr1x0 (fun _ _ _ h => h) ?hy1x0 (by assumption) ?rest1x0
            case hi1x0 => (simp only [List.getElem?_toArray, List.getElem?_cons_zero]; exact rfl)
            case hf1x0 => kernel_rfl
            case hr1x0 => kernel_rfl
            case hy1x0 => (refine Or.inl ⟨by rfl, ?_⟩; intro w hSw; (try dsimp only at hSw); go_simp; try with_reducible rfl)
            simp only [put_mk, List.set_cons_succ, List.set_cons_zero]
            refine wpAnyH_take (i := 1) (oi := ?o1x1) (v := ?v1x1) ?hi1x1 (by kernel_rfl) ?hf1x1 ?hr1x1 (fun _ _ _ h => h) ?hy1x1 (by assumption) ?rest1x1
            case hi1x1 => (simp only [List.getElem?_toArray, List.getElem?_cons_succ, List.getElem?_cons_zero]; exact rfl)
            case hf1x1 => kernel_rfl
            case hr1x1 => kernel_rfl
            case hy1x1 => (refine Or.inl ⟨by rfl, ?_⟩; intro w hSw; (try dsimp only at hSw); go_simp; try with_reducible rfl)
            simp only [put_mk, List.set_cons_succ, List.set_cons_zero]
            refine wpAnyH_take (i := 2) (oi := ?o1x2) (v := ?v1x2) ?hi1x2 (by kernel_rfl) ?hf1x2 ?hr1x2 (fun _ _ _ h => h) ?hy1x2 (by assumption) ?rest1x2
            case hi1x2 => (simp only [List.getElem?_toArray, List.getElem?_cons_succ, List.getElem?_cons_zero]; exact rfl)
            case hf1x2 => kernel_rfl
            case hr1x2 => kernel_rfl
            case hy1x2 => (refine Or.inl ⟨by rfl, ?_⟩; intro w hSw; (try dsimp only at hSw); go_simp; try with_reducible rfl)
            simp only [put_mk, List.set_cons_succ, List.set_cons_zero]
            refine wpAnyH_take (i := 3) (oi := ?o1x3) (v := ?v1x3) ?hi1x3 (by kernel_rfl) ?hf1x3 ?hr1x3 (fun _ _ _ h => h) ?hy1x3 (by assumption) ?rest1x3
            case hi1x3 => (simp only [List.getElem?_toArray, List.getElem?_cons_succ, List.getElem?_cons_zero]; exact rfl)
            case hf1x3 => kernel_rfl
            case hr1x3 => kernel_rfl
            case hy1x3 => (refine Or.inl ⟨by rfl, ?_⟩; intro w hSw; (try dsimp only at hSw); go_simp; try with_reducible rfl)
            simp only [put_mk, List.set_cons_succ, List.set_cons_zero]
            refine wpAnyH_take (i := 4) (oi := ?o1x4) (v := ?v1x4) ?hi1x4 (by kernel_rfl) ?hf1x4 ?hr1x4 (fun _ _ _ h => h) ?hy1x4 (by assumption) ?rest1x4
            case hi1x4 => (simp only [List.getElem?_toArray, List.getElem?_cons_succ, List.getElem?_cons_zero]; exact rfl)
            case hf1x4 => kernel_rfl
            case hr1x4 => kernel_rfl
            case hy1x4 => (refine Or.inl ⟨by rfl, ?_⟩; intro w hSw; (try dsimp only at hSw); go_simp; try with_reducible rfl)
            simp only [put_mk, List.set_cons_succ, List.set_cons_zero]
            refine wpAnyH_take (i := 5) (oi := ?o1x5) (v := ?v1x5) ?hi1x5 (by kernel_rfl) ?hf1x5 ?hr1x5 (fun _ _ _ h => h) ?hy1x5 (by assumption) ?rest1x5
            case hi1x5 => (simp only [List.getElem?_toArray, List.getElem?_cons_succ, List.getElem?_cons_zero]; exact rfl)
            case hf1x5 => kernel_rfl
            case hr1x5 => kernel_rfl
            case hy1x5 => (refine Or.inl ⟨by rfl, ?_⟩; intro w hSw; (try dsimp only at hSw); go_simp; try with_reducible rfl)
            simp only [put_mk, List.set_cons_succ, List.set_cons_zero]
            refine wpAnyH_ready (rs := [6]) (by kernel_rfl) (by simp) ?_
            refine AllReadyH.cons (o := ?o1x6) ?hi1x6 (fun K hK => ?_) AllReadyH.nil
            case hi1x6 => (simp only [List.getElem?_toArray, List.getElem?_cons_succ, List.getElem?_cons_zero]; exact rfl)
            go_simp
            go_at_call 36; refine ((HBt _).out).mono ?_; rintro e w5 ⟨rfl, hx5⟩
            refine hK.out _ _ ?_ (fun hHeld => ?_)
            · (repeat (first | exact Ext.refl _ | assumption | refine Ext.setCell ?_ (by first | (simp; done) | (simp; omega)) _ | refine Ext.drewN ?_ _ | refine Ext.alloc ?_ _ | refine Ext.drew ?_ | refine Ext.trans ?_ (by assumption)))
            clear hK K
            refine wpAnyH_take (i := 7) (oi := ?o1x7) (v := ?v1x7) ?hi1x7 (by kernel_rfl) ?hf1x7 ?hr1x7 (fun _ _ _ h => h) ?hy1x7 (by assumption) ?rest1x7
            case hi1x7 => (simp only [List.getElem?_toArray, List.getElem?_cons_succ, List.getElem?_cons_zero]; exact rfl)
            case hf1x7 => kernel_rfl
            case hr1x7 => kernel_rfl
            case hy1x7 => (refine Or.inl ⟨by rfl, ?_⟩; intro w hSw; (try dsimp only at hSw); go_simp; try with_reducible rfl)
            simp only [put_mk, List.set_cons_succ, List.set_cons_zero]
            refine wpAnyH_take (i := 8) (oi := ?o1x8) (v := ?v1x8) ?hi1x8 (by kernel_rfl) ?hf1x8 ?hr1x8 (fun _ _ _ h => h) ?hy1x8 (by assumption) ?rest1x8
            case hi1x8 => (simp only [List.getElem?_toArray, List.getElem?_cons_succ, List.getElem?_cons_zero]; exact rfl)
            case hf1x8 => kernel_rfl
            case hr1x8 => kernel_rfl
            case hy1x8 => (refine Or.inl ⟨by rfl, ?_⟩; intro w hSw; (try dsimp only at hSw); go_simp; try with_reducible rfl)
            simp only [put_mk, List.set_cons_succ, List.set_cons_zero]
            refine wpAnyH_take (i := 9) (oi := ?o1x9) (v := ?v1x9) ?hi1x9 (by kernel_rfl) ?hf1x9 ?hr1x9 (fun _ _ _ h => h) ?hy1x9 (by assumption) ?rest1x9
            case hi1x9 => (simp only [List.getElem?_toArray, List.getElem?_cons_succ, List.getElem?_cons_zero]; exact rfl)
            case hf1x9 => kernel_rfl
            case hr1x9 => kernel_rfl
            case hy1x9 => (refine Or.inl ⟨by rfl, ?_⟩; intro w hSw; (try dsimp only at hSw); go_simp; try with_reducible rfl)
            simp only [put_mk, List.set_cons_succ, List.set_cons_zero]
            refine wpAnyH_take (i := 10) (oi := ?o1x10) (v := ?v1x10) ?hi1x10 (by kernel_rfl) ?hf1x10 ?hr1x10 (fun _ _ _ h => h) ?hy1x10 (by assumption) ?rest1x10
            case hi1x10 => (simp only [List.getElem?_toArray, List.getElem?_cons_succ, List.getElem?_cons_zero]; exact rfl)
            case hf1x10 => kernel_rfl
            case hr1x10 => kernel_rfl
            case hy1x10 => (refine Or.inl ⟨by rfl, ?_⟩; intro w hSw; (try dsimp only at hSw); go_simp; try with_reducible rfl)
            simp only [put_mk, List.set_cons_succ, List.set_cons_zero]
            refine wpAnyH_take (i := 11) (oi := ?o1x11) (v := ?v1x11) ?hi1x11 (by kernel_rfl) ?hf1x11 ?hr1x11 (fun _ _ _ h => h) ?hy1x11 (by assumption) ?rest1x11
            case hi1x11 => (simp only [List.getElem?_toArray, List.getElem?_cons_succ, List.getElem?_cons_zero]; exact rfl)
            case hf1x11 => kernel_rfl
            case hr1x11 => kernel_rfl
            case hy1x11 => (refine Or.inl ⟨by rfl, ?_⟩; intro w hSw; (try dsimp only at hSw); go_simp; try with_reducible rfl)
            simp only [put_mk, List.set_cons_succ, List.set_cons_zero]
            refine wpAnyH_done (by kernel_rfl) ?_ _
            refine NoPanic.normal ?_
            clear e0 e1 f0 f1 wk wk2
            go_wp2
            go_ret
            exact ⟨ret_i HE7.out.symm, Hhx.out.trans hHeld⟩
          | some z =>
            obtain ⟨d, n'⟩ := z
            have hd8 := (leapO_spec hlp).1
            rw [hlp] at HBt
            have hn1 : ¬ n' = 0 := by have := (leapO_spec hlp).2.1; omega
            have hn2 : ¬ (n' : Int) = 0 := by omega
            have hdn : ((n' : Int) == 0) = false := by simp; omega
            by_cases h12 : 12 < n'
            · have HE7 := hidA (HE6.out.trans (if_pos (by unfold stepBad; rw [hlp]; simpa using h12)))
              have h13 : (12 : Int) < n' := by omega
              clear hlp
              have wk := Hwk.out
              have wk2 := Hwk2.out
              go_upto_region 11 with fail
              refine wp_region_noPanic ?_
              refine wp_region_held_drew (S := fun w' => Ext w2 w') (by kernel_rfl) ?_ (fun hHeld => ?_)
              · (repeat (first | exact Ext.refl _ | assumption | refine Ext.setCell ?_ (by first | (simp; done) | (simp; omega)) _ | refine Ext.drewN ?_ _ | refine Ext.alloc ?_ _ | refine Ext.drew ?_ | refine Ext.trans ?_ (by assumption)))
              refine wpAnyH_take (i := 0) (oi := ?o2x0) (v := ?v2x0) ?hi2x0 (by kernel_rfl) ?hf2x0 ?hr2x0 (fun _ _ _ h => h) ?hy2x0 (by assumption) ?rest2x0
              case hi2x0 => (simp only [List.getElem?_toArray, List.getElem?_cons_zero]; exact rfl)
              case hf2x0 => kernel_rfl
              case hr2x0 => kernel_rfl
              case hy2x0 => (refine Or.inl ⟨by rfl, ?_⟩; intro w hSw; (try dsimp only at hSw); go_simp; try with_reducible rfl)
              simp only [put_mk, List.set_cons_succ, List.set_cons_zero]
              refine wpAnyH_take (i := 1) (oi := ?o2x1) (v := ?v2x1) ?hi2x1 (by kernel_rfl) ?hf2x1 ?hr2x1 (fun _ _ _ h => h) ?hy2x1 (by assumption) ?rest2x1
              case hi2x1 => (simp only [List.getElem?_toArray, List.getElem?_cons_succ, List.getElem?_cons_zero]; exact rfl)
              case hf2x1 => kernel_rfl
              case hr2x1 => kernel_rfl
              case hy2x1 => (refine Or.inl ⟨by rfl, ?_⟩; intro w hSw; (try dsimp only at hSw); go_simp; try with_reducible rfl)
              simp only [put_mk, List.set_cons_succ, List.set_cons_zero]
              refine wpAnyH_take (i := 2) (oi := ?o2x2) (v := ?v2x2) ?hi2x2 (by kernel_rfl) ?hf2x2 ?hr2x2 (fun _ _ _ h => h) ?hy2x2 (by assumption) ?rest2x2
              case hi2x2 => (simp only [List.getElem?_toArray, List.getElem?_cons_succ, List.getElem?_cons_zero]; exact rfl)
              case hf2x2 => kernel_rfl
              case hr2x2 => kernel_rfl
              case hy2x2 => (refine Or.inl ⟨by rfl, ?_⟩; intro w hSw; (try dsimp only at hSw); go_simp; try with_reducible rfl)
              simp only [put_mk, List.set_cons_succ, List.set_cons_zero]
              refine wpAnyH_take (i := 3) (oi := ?o2x3) (v := ?v2x3) ?hi2x3 (by kernel_rfl) ?hf2x3 ?hr2x3 (fun _ _ _ h => h) ?hy2x3 (by assumption) ?rest2x3
              case hi2x3 => (simp only [List.getElem?_toArray, List.getElem?_cons_succ, List.getElem?_cons_zero]; exact rfl)
              case hf2x3 => kernel_rfl
              case hr2x3 => kernel_rfl
              case hy2x3 => (refine Or.inl ⟨by rfl, ?_⟩; intro w hSw; (try dsimp only at hSw); go_simp; try with_reducible rfl)
              simp only [put_mk, List.set_cons_succ, List.set_cons_zero]
              refine wpAnyH_take (i := 4) (oi := ?o2x4) (v := ?v2x4) ?hi2x4 (by kernel_rfl) ?hf2x4 ?hr2x4 (fun _ _ _ h => h) ?hy2x4 (by assumption) ?rest2x4
              case hi2x4 => (simp only [List.getElem?_toArray, List.getElem?_cons_succ, List.getElem?_cons_zero]; exact rfl)
              case hf2x4 => kernel_rfl
              case hr2x4 => kernel_rfl
              case hy2x4 => (refine Or.inl ⟨by rfl, ?_⟩; intro w hSw; (try dsimp only at hSw); go_simp; try with_reducible rfl)
              simp only [put_mk, List.set_cons_succ, List.set_cons_zero]
              refine wpAnyH_take (i := 5) (oi := ?o2x5) (v := ?v2x5) ?hi2x5 (by kernel_rfl) ?hf2x5 ?hr2x5 (fun _ _ _ h => h) ?hy2x5 (by assumption) ?rest2x5
              case hi2x5 => (simp only [List.getElem?_toArray, List.getElem?_cons_succ, List.getElem?_cons_zero]; exact rfl)
              case hf2x5 => kernel_rfl
              case hr2x5 => kernel_rfl
              case hy2x5 => (refine Or.inl ⟨by rfl, ?_⟩; intro w hSw; (try dsimp only at hSw); go_simp; try with_reducible rfl)
              simp only [put_mk, List.set_cons_succ, List.set_cons_zero]
              refine wpAnyH_ready (rs := [6]) (by kernel_rfl) (by simp) ?_
              refine AllReadyH.cons (o := ?o2x6) ?hi2x6 (fun K hK => ?_) AllReadyH.nil
              case hi2x6 => (simp only [List.getElem?_toArray, List.getElem?_cons_succ, List.getElem?_cons_zero]; exact rfl)
              go_simp
              go_at_call 36; refine ((HBt _).out).mono ?_; rintro e w5 ⟨rfl, hx5⟩
              refine hK.out _ _ ?_ (fun hHeld => ?_)
              · (repeat (first | exact Ext.refl _ | assumption | refine Ext.setCell ?_ (by first | (simp; done) | (simp; omega)) _ | refine Ext.drewN ?_ _ | refine Ext.alloc ?_ _ | refine Ext.drew ?_ | refine Ext.trans ?_ (by assumption)))
              clear hK K
              refine wpAnyH_take (i := 7) (oi := ?o2x7) (v := ?v2x7) ?hi2x7 (by kernel_rfl) ?hf2x7 ?hr2x7 (fun _ _ _ h => h) ?hy2x7 (by assumption) ?rest2x7
              case hi2x7 => (simp only [List.getElem?_toArray, List.getElem?_cons_succ, List.getElem?_cons_zero]; exact rfl)
              case hf2x7 => kernel_rfl
              case hr2x7 => kernel_rfl
              case hy2x7 => (refine Or.inl ⟨by rfl, ?_⟩; intro w hSw; (try dsimp only at hSw); go_simp; try with_reducible rfl)
              simp only [put_mk, List.set_cons_succ, List.set_cons_zero]
              refine wpAnyH_take (i := 8) (oi := ?o2x8) (v := ?v2x8) ?hi2x8 (by kernel_rfl) ?hf2x8 ?hr2x8 (fun _ _ _ h => h) ?hy2x8 (by assumption) ?rest2x8
              case hi2x8 => (simp only [List.getElem?_toArray, List.getElem?_cons_succ, List.getElem?_cons_zero]; exact rfl)
              case hf2x8 => kernel_rfl
              case hr2x8 => kernel_rfl
              case hy2x8 => (refine Or.inl ⟨by rfl, ?_⟩; intro w hSw; (try dsimp only at hSw); go_simp; try with_reducible rfl)
              simp only [put_mk, List.set_cons_succ, List.set_cons_zero]
              refine wpAnyH_take (i := 9) (oi := ?o2x9) (v := ?v2x9) ?hi2x9 (by kernel_rfl) ?hf2x9 ?hr2x9 (fun _ _ _ h => h) ?hy2x9 (by assumption) ?rest2x9
              case hi2x9 => (simp only [List.getElem?_toArray, List.getElem?_cons_succ, List.getElem?_cons_zero]; exact rfl)
              case hf2x9 => kernel_rfl
              case hr2x9 => kernel_rfl
              case hy2x9 => (refine Or.inl ⟨by rfl, ?_⟩; intro w hSw; (try dsimp only at hSw); go_simp; try with_reducible rfl)
              simp only [put_mk, List.set_cons_succ, List.set_cons_zero]
              refine wpAnyH_take (i := 10) (oi := ?o2x10) (v := ?v2x10) ?hi2x10 (by kernel_rfl) ?hf2x10 ?hr2x10 (fun _ _ _ h => h) ?hy2x10 (by assumption) ?rest2x10
              case hi2x10 => (simp only [List.getElem?_toArray, List.getElem?_cons_succ, List.getElem?_cons_zero]; exact rfl)
              case hf2x10 => kernel_rfl
              case hr2x10 => kernel_rfl
              case hy2x10 => (refine Or.inl ⟨by rfl, ?_⟩; intro w hSw; (try dsimp only at hSw); go_simp; try with_reducible rfl)
              simp only [put_mk, List.set_cons_succ, List.set_cons_zero]
              refine wpAnyH_take (i := 11) (oi := ?o2x11) (v := ?v2x11) ?hi2x11 (by kernel_rfl) ?hf2x11 ?hr2x11 (fun _ _ _ h => h) ?hy2x11 (by assumption) ?rest2x11
              case hi2x11 => (simp only [List.getElem?_toArray, List.getElem?_cons_succ, List.getElem?_cons_zero]; exact rfl)
              case hf2x11 => kernel_rfl
              case hr2x11 => kernel_rfl
              case hy2x11 => (refine Or.inl ⟨by rfl, ?_⟩; intro w hSw; (try dsimp only at hSw); go_simp; try with_reducible rfl)
              simp only [put_mk, List.set_cons_succ, List.set_cons_zero]
              refine wpAnyH_done (by kernel_rfl) ?_ _
              refine NoPanic.normal ?_
              clear e0 e1 f0 f1 wk wk2
              go_wp2
              go_ret
              exact ⟨ret_i HE7.out.symm, Hhx.out.trans hHeld⟩
            · have HE7 := hidA (HE6.out.trans (if_neg (by unfold stepBad; rw [hlp]; simpa using h12)))
              have h13 : ¬ (12 : Int) < n' := by omega
              clear hlp
              have wk := Hwk.out
              have wk2 := Hwk2.out
              go_upto_region 11 with fail
              refine wp_region_noPanic ?_
              refine wp_region_held_drew (S := fun w' => Ext w2 w') (by kernel_rfl) ?_ (fun hHeld => ?_)
              · (repeat (first | exact Ext.refl _ | assumption | refine Ext.setCell ?_ (by first | (simp; done) | (simp; omega)) _ | refine Ext.drewN ?_ _ | refine Ext.alloc ?_ _ | refine Ext.drew ?_ | refine Ext.trans ?_ (by assumption)))
              refine wpAnyH_take (i := 0) (oi := ?o3x0) (v := ?v3x0) ?hi3x0 (by kernel_rfl) ?hf3x0 ?hr3x0 (fun _ _ _ h => h) ?hy3x0 (by assumption) ?rest3x0
              case hi3x0 => (simp only [List.getElem?_toArray, List.getElem?_cons_zero]; exact rfl)
              case hf3x0 => kernel_rfl
              case hr3x0 => kernel_rfl
              case hy3x0 => (refine Or.inl ⟨by rfl, ?_⟩; intro w hSw; (try dsimp only at hSw); go_simp; try with_reducible rfl)
              simp only [put_mk, List.set_cons_succ, List.set_cons_zero]
              refine wpAnyH_take (i := 1) (oi := ?o3x1) (v := ?v3x1) ?hi3x1 (by kernel_rfl) ?hf3x1 ?hr3x1 (fun _ _ _ h => h) ?hy3x1 (by assumption) ?rest3x1
              case hi3x1 => (simp only [List.getElem?_toArray, List.getElem?_cons_succ, List.getElem?_cons_zero]; exact rfl)
              case hf3x1 => kernel_rfl
              case hr3x1 => kernel_rfl
              case hy3x1 => (refine Or.inl ⟨by rfl, ?_⟩; intro w hSw; (try dsimp only at hSw); go_simp; try with_reducible rfl)
              simp only [put_mk, List.set_cons_succ, List.set_cons_zero]
              refine wpAnyH_take (i := 2) (oi := ?o3x2) (v := ?v3x2) ?hi3x2 (by kernel_rfl) ?hf3x2 ?hr3x2 (fun _ _ _ h => h) ?hy3x2 (by assumption) ?rest3x2
              case hi3x2 => (simp only [List.getElem?_toArray, List.getElem?_cons_succ, List.getElem?_cons_zero]; exact rfl)
              case hf3x2 => kernel_rfl
              case hr3x2 => kernel_rfl
              case hy3x2 => (refine Or.inl ⟨by rfl, ?_⟩; intro w hSw; (try dsimp only at hSw); go_simp; try with_reducible rfl)
              simp only [put_mk, List.set_cons_succ, List.set_cons_zero]
              refine wpAnyH_take (i := 3) (oi := ?o3x3) (v := ?v3x3) ?hi3x3 (by kernel_rfl) ?hf3x3 ?hr3x3 (fun _ _ _ h => h) ?hy3x3 (by assumption) ?rest3x3
              case hi3x3 => (simp only [List.getElem?_toArray, List.getElem?_cons_succ, List.getElem?_cons_zero]; exact rfl)
              case hf3x3 => kernel_rfl
              case hr3x3 => kernel_rfl
              case hy3x3 => (refine Or.inl ⟨by rfl, ?_⟩; intro w hSw; (try dsimp only at hSw); go_simp; try with_reducible rfl)
              simp only [put_mk, List.set_cons_succ, List.set_cons_zero]
              refine wpAnyH_take (i := 4) (oi := ?o3x4) (v := ?v3x4) ?hi3x4 (by kernel_rfl) ?hf3x4 ?hr3x4 (fun _ _ _ h => h) ?hy3x4 (by assumption) ?rest3x4
              case hi3x4 => (simp only [List.getElem?_toArray, List.getElem?_cons_succ, List.getElem?_cons_zero]; exact rfl)
              case hf3x4 => kernel_rfl
              case hr3x4 => kernel_rfl
              case hy3x4 => (refine Or.inl ⟨by rfl, ?_⟩; intro w hSw; (try dsimp only at hSw); go_simp; try with_reducible rfl)
              simp only [put_mk, List.set_cons_succ, List.set_cons_zero]
              refine wpAnyH_take (i := 5) (oi := ?o3x5) (v := ?v3x5) ?hi3x5 (by kernel_rfl) ?hf3x5 ?hr3x5 (fun _ _ _ h => h) ?hy3x5 (by assumption) ?rest3x5
              case hi3x5 => (simp only [List.getElem?_toArray, List.getElem?_cons_succ, List.getElem?_cons_zero]; exact rfl)
              case hf3x5 => kernel_rfl
              case hr3x5 => kernel_rfl
              case hy3x5 => (refine Or.inl ⟨by rfl, ?_⟩; intro w hSw; (try dsimp only at hSw); go_simp; try with_reducible rfl)
              simp only [put_mk, List.set_cons_succ, List.set_cons_zero]
              refine wpAnyH_ready (rs := [6]) (by kernel_rfl) (by simp) ?_
              refine AllReadyH.cons (o := ?o3x6) ?hi3x6 (fun K hK => ?_) AllReadyH.nil
              case hi3x6 => (simp only [List.getElem?_toArray, List.getElem?_cons_succ, List.getElem?_cons_zero]; exact rfl)
              go_simp
              go_at_call 36; refine ((HBt _).out).mono ?_; rintro e w5 ⟨rfl, hx5⟩
              refine hK.out _ _ ?_ (fun hHeld => ?_)
              · (repeat (first | exact Ext.refl _ | assumption | refine Ext.setCell ?_ (by first | (simp; done) | (simp; omega)) _ | refine Ext.drewN ?_ _ | refine Ext.alloc ?_ _ | refine Ext.drew ?_ | refine Ext.trans ?_ (by assumption)))
              clear hK K
              refine wpAnyH_take (i := 7) (oi := ?o3x7) (v := ?v3x7) ?hi3x7 (by kernel_rfl) ?hf3x7 ?hr3x7 (fun _ _ _ h => h) ?hy3x7 (by assumption) ?rest3x7
              case hi3x7 => (simp only [List.getElem?_toArray, List.getElem?_cons_succ, List.getElem?_cons_zero]; exact rfl)
              case hf3x7 => kernel_rfl
              case hr3x7 => kernel_rfl
              case hy3x7 => (refine Or.inl ⟨by rfl, ?_⟩; intro w hSw; (try dsimp only at hSw); go_simp; try with_reducible rfl)
              simp only [put_mk, List.set_cons_succ, List.set_cons_zero]
              refine wpAnyH_take (i := 8) (oi := ?o3x8) (v := ?v3x8) ?hi3x8 (by kernel_rfl) ?hf3x8 ?hr3x8 (fun _ _ _ h => h) ?hy3x8 (by assumption) ?rest3x8
              case hi3x8 => (simp only [List.getElem?_toArray, List.getElem?_cons_succ, List.getElem?_cons_zero]; exact rfl)
              case hf3x8 => kernel_rfl
              case hr3x8 => kernel_rfl
              case hy3x8 => (refine Or.inl ⟨by rfl, ?_⟩; intro w hSw; (try dsimp only at hSw); go_simp; try with_reducible rfl)
              simp only [put_mk, List.set_cons_succ, List.set_cons_zero]
              refine wpAnyH_take (i := 9) (oi := ?o3x9) (v := ?v3x9) ?hi3x9 (by kernel_rfl) ?hf3x9 ?hr3x9 (fun _ _ _ h => h) ?hy3x9 (by assumption) ?rest3x9
              case hi3x9 => (simp only [List.getElem?_toArray, List.getElem?_cons_succ, List.getElem?_cons_zero]; exact rfl)
              case hf3x9 => kernel_rfl
              case hr3x9 => kernel_rfl
              case hy3x9 => (refine Or.inl ⟨by rfl, ?_⟩; intro w hSw; (try dsimp only at hSw); go_simp; try with_reducible rfl)
              simp only [put_mk, List.set_cons_succ, List.set_cons_zero]
              refine wpAnyH_take (i := 10) (oi := ?o3x10) (v := ?v3x10) ?hi3x10 (by kernel_rfl) ?hf3x10 ?hr3x10 (fun _ _ _ h => h) ?hy3x10 (by assumption) ?rest3x10
              case hi3x10 => (simp only [List.getElem?_toArray, List.getElem?_cons_succ, List.getElem?_cons_zero]; exact rfl)
              case hf3x10 => kernel_rfl
              case hr3x10 => kernel_rfl
              case hy3x10 => (refine Or.inl ⟨by rfl, ?_⟩; intro w hSw; (try dsimp only at hSw); go_simp; try with_reducible rfl)
              simp only [put_mk, List.set_cons_succ, List.set_cons_zero]
              refine wpAnyH_take (i := 11) (oi := ?o3x11) (v := ?v3x11) ?hi3x11 (by kernel_rfl) ?hf3x11 ?hr3x11 (fun _ _ _ h => h) ?hy3x11 (by assumption) ?rest3x11
              case hi3x11 => (simp only [List.getElem?_toArray, List.getElem?_cons_succ, List.getElem?_cons_zero]; exact rfl)
              case hf3x11 => kernel_rfl
              case hr3x11 => kernel_rfl
              case hy3x11 => (refine Or.inl ⟨by rfl, ?_⟩; intro w hSw; (try dsimp only at hSw); go_simp; try with_reducible rfl)
              simp only [put_mk, List.set_cons_succ, List.set_cons_zero]
              refine wpAnyH_done (by kernel_rfl) ?_ _
              refine NoPanic.normal ?_
              clear e0 e1 f0 f1 wk wk2
              go_wp2
              go_roundw
              case rel => exact ⟨k + 1, by omega, by go_num, HE7.out, fun _ => by rw [Nat.add_sub_cancel, hpp2.out]; exact Hb.out, Hhx.out.trans hHeld⟩
              case measure => simp [intOf]; omega
      all_goals
        have hb : farP (px, py) = true := by unfold farP; simp; omega
        have HE5 := hidA (HE4.out.trans (if_pos hb))
        clear hb HE4
        go_quiet (fail)
        clear p0 p1
        go_wp2
        go_ret
        exact ⟨ret_i HE5.out.symm, hx1.trans (by repeat (first | exact Ext.refl _ | assumption | refine Ext.setCell ?_ (by first | (simp; done) | (simp; omega)) _ | refine Ext.drewN ?_ _ | refine Ext.alloc ?_ _ | refine Ext.drew ?_ | refine Ext.trans ?_ (by assumption)))⟩
    · have hkn2 : n = k := by omega
      subst hkn2
      have HE5 := hidA (show E = 0 from by rw [HEk.out, Nat.sub_self]; rfl)
      go_wp2
      go_ret
      exact ⟨ret_i HE5.out.symm, hx⟩
end Go.Proofs.Ytpgdinpckolfpaa

namespace Go.Proofs.Ytpgdinpckolfpaa
open Go.RowKit
attribute [local go_sem ↓] Go.wp_at_zero Go.wp_at_succ
attribute [local go_sem] run_store_float

set_option maxRecDepth 100000 in
set_option maxHeartbeats 1600000 in
theorem eqPts_same (A B : Option Addr) (n c d : Nat) (M : List (Int × Int)) (w : World) (hn : M.length = n) (ha : Rd w A (ptv M)) (hb : Rd w B (ptv M)) (hnb : n ≤ 4000000000) :
    Calls Try.prog 26 #[.slice A n c, .slice B n d] w fun e w' => e = .returned (.bool true) ∧ Ext w w' := by
  have Hn := hidA hn
  clear hn
  go_enter Try.func26, Try.ntmps26
  go_wp2
  go_loopw [13] (fun i wr => ∃ k m : Nat, k ≤ n ∧ i = .int .i64 k ∧ wr = w.drewN m) (fun i _ => n - (intOf i).toNat)
  case atStart => exact ⟨0, 0, Nat.zero_le _, rfl, rfl⟩
  case round =>
    obtain ⟨k, m, hk, rfl, rfl⟩ := hrel
    by_cases hlt : k < n
    · have hkl : k < M.length := by have := Hn.out; omega
      obtain ⟨ad, rfl, hbk, e0, e1⟩ := pt_at ha hkl
      obtain ⟨ad2, rfl, hbk2, e2, e3⟩ := pt_at hb hkl
      have k0 : (0 : Int) ≤ k := by omega
      have k1 : (k : Int) < n := by omega
      generalize (M.getD k (0, 0)).1 = qx at *
      generalize (M.getD k (0, 0)).2 = qy at *
      clear ha hb
      go_wp2
      go_quiet (fail)
      go_wp2
      go_roundw
      case rel => exact ⟨k + 1, _, by omega, by go_num, rfl⟩
      case measure => simp [intOf]; omega
    · obtain rfl : k = n := by omega
      go_wp2
      go_ret
      exact ⟨rfl, (by repeat (first | exact Ext.refl _ | assumption | refine Ext.setCell ?_ (by first | (simp; done) | (simp; omega)) _ | refine Ext.drewN ?_ _ | refine Ext.alloc ?_ _ | refine Ext.drew ?_ | refine Ext.trans ?_ (by assumption)))⟩
theorem wayI_ok {bad : Int × Int → Bool} {l : List (Int × Int)} : ∀ m k, wayI bad l k m = 0 → ∀ i, k ≤ i → i < k + m → bad (l.getD i (0, 0)) = false ∧ (0 < i → stepBad (l.getD (i - 1) (0, 0)) (l.getD i (0, 0)) = false)
  | 0, k, _, i, h1, h2 => by omega
  | m + 1, k, h, i, h1, h2 => by
    unfold wayI at h
    split at h
    · cases h
    · rename_i hb
      split at h
      · cases h
      · rename_i hs
        by_cases e : i = k
        · subst e
          refine ⟨by simpa using hb, fun h0 => ?_⟩
          cases hq : stepBad (l.getD (i - 1) (0, 0)) (l.getD i (0, 0))
          · rfl
          · exact absurd ⟨h0, hq⟩ hs
        · exact wayI_ok m (k + 1) h i (by omega) (by omega)
/-- the step to place i -/
def lpo (l : List (Int × Int)) (i : Nat) : Nat × Nat := (leapO ((l.getD i (0, 0)).1 - (l.getD (i - 1) (0, 0)).1) ((l.getD i (0, 0)).2 - (l.getD (i - 1) (0, 0)).2)).getD (0, 0)
/-- a way that may be -/
structure WayOk (bad : Int × Int → Bool) (l : List (Int × Int)) : Prop where
  pos : 1 ≤ l.length
  le : l.length ≤ 65536
  ok : ∀ i, i < l.length → bad (l.getD i (0, 0)) = false
  st : ∀ i, 0 < i → i < l.length → leapO ((l.getD i (0, 0)).1 - (l.getD (i - 1) (0, 0)).1) ((l.getD i (0, 0)).2 - (l.getD (i - 1) (0, 0)).2) = some (lpo l i) ∧ (lpo l i).1 < 8 ∧ 1 ≤ (lpo l i).2 ∧ (lpo l i).2 ≤ 12
theorem wayOk {bad : Int × Int → Bool} {l : List (Int × Int)} (h : wayE bad l = 0) : WayOk bad l := by
  unfold wayE at h
  split at h
  · cases h
  · split at h
    · cases h
    · have hk := wayI_ok _ _ h
      refine ⟨by omega, by omega, fun i hi => (hk i (by omega) (by omega)).1, fun i h0 hi => ?_⟩
      have hs := (hk i (by omega) (by omega)).2 h0
      unfold stepBad at hs
      cases hl : leapO ((l.getD i (0, 0)).1 - (l.getD (i - 1) (0, 0)).1) ((l.getD i (0, 0)).2 - (l.getD (i - 1) (0, 0)).2) with
      | none => rw [hl] at hs; cases hs
      | some p =>
        obtain ⟨d, n⟩ := p
        have e : lpo l i = (d, n) := by unfold lpo; rw [hl]; rfl
        rw [hl] at hs
        have hsp := leapO_spec hl
        rw [e]
        exact ⟨rfl, hsp.1, hsp.2.1, by simpa using hs⟩
/-- whether a place is kept -/
def cornB (l : List (Int × Int)) (i : Nat) : Bool := i == 0 || i + 1 == l.length || !((lpo l i).1 == (lpo l (i + 1)).1 && (lpo l i).2 == 1 && (lpo l (i + 1)).2 == 1)
def cornL (l : List (Int × Int)) (k : Nat) : List (Int × Int) := ((List.range k).filter (cornB l)).map fun i => l.getD i (0, 0)
theorem cornL_succ (l : List (Int × Int)) (k : Nat) : cornL l (k + 1) = cornL l k ++ (if cornB l k = true then [l.getD k (0, 0)] else []) := by
  unfold cornL
  rw [List.range_succ, List.filter_append, List.map_append]
  cases h : cornB l k <;> simp [h]
theorem cornL_le (l : List (Int × Int)) (k : Nat) : (cornL l k).length ≤ k := by
  unfold cornL
  rw [List.length_map]
  have := List.length_filter_le (cornB l) (List.range k)
  simpa using this
set_option maxRecDepth 100000 in
set_option maxHeartbeats 6400000 in
theorem Corners_ok (A : Option Addr) (n c : Nat) (l : List (Int × Int)) (w : World) (hn : l.length = n) (hV : Rd w A (ptv l)) (hok : WayOk farP l) (hE : wayE farP l = 0) :
    Calls Try.prog 38 #[.slice A n c] w fun e w' => ∃ v, e = .returned (.tuple #[v, .int .i64 0]) ∧ OwnP w' w.heap.size v (cornL l n) ∧ Ext w w' := by
  have HCk := fun (w' : World) (h : Ext w w') => hidA (checkWay_any 77 #[] enters_place farP A n c l w' (fun p hp => farP_false hp) (fun x y w2 _ => place_any x y w2) hn (hV.ext h))
  rw [hE] at HCk
  have HBt := fun (qx qy px py : Int) (w : World) (h1 : farP (qx, qy) = false) (h2 : farP (px, py) = false) => hidA (between_any qx qy px py w (by have := farP_false h1; dsimp only at this; omega) (by have := farP_false h1; dsimp only at this; omega) (by have := farP_false h2; dsimp only at this; omega) (by have := farP_false h2; dsimp only at this; omega))
  have Hn := hidA hn
  have Hok := hidA hok
  have hn6 : n ≤ 65536 := by rw [← hn]; exact hok.le
  obtain ⟨ti, hi0, hz0, hz1, hz2⟩ := info_parts infoPt
  clear hok hE hn
  go_enter Try.func38, Try.ntmps38
  go_upto_region 6 with (go_at_call 80; refine ((HCk _ (Ext.refl _)).out).mono ?_; rintro e w1 ⟨rfl, hx1⟩)
  clear HCk
  go_loopw [5, 19] (fun s5 s19 wr => ∃ k : Nat, k ≤ n ∧ s19 = .int .i64 k ∧ OwnP wr w.heap.size s5 (cornL l k) ∧ Ext w wr) (fun _ s19 _ => n - (intOf s19).toNat)
  case atStart => exact ⟨0, Nat.zero_le _, rfl, World.ownsRow_nil w1 _ _ 2, hx1⟩
  case round =>
    clear hx1
    obtain ⟨k, hk, rfl, hO, hx⟩ := hrel
    by_cases hkn : k < n
    · have hkl : k < l.length := by have := Hn.out; omega
      obtain ⟨ad, rfl, hbk, d0, d1⟩ := pt_at (hV.ext hx) hkl
      have i0 : (0 : Int) ≤ k := by omega
      have i1 : (k : Int) < n := by omega
      have hfp := Hok.out.ok k hkl
      obtain ⟨px, py, hpp⟩ : ∃ px py, l.getD k (0, 0) = (px, py) := ⟨_, _, rfl⟩
      rw [hpp] at d0 d1 hfp
      dsimp only at d0 d1
      have Hpp := hidA hpp
      have hcl := cornL_le l k
      go_upto_region 8 with fail
      have kP : Bk (wr.alloc (.cells #[.int .i64 px, .int .i64 py] 32)) wr.heap.size 32 #[.int .i64 px, .int .i64 py] := Bk.new' rfl
      have hx2 := hx.alloc (.cells #[.int .i64 px, .int .i64 py] 32)
      have hO2 := hO.ext ((Ext.refl wr).alloc (.cells #[.int .i64 px, .int .i64 py] 32))
      clear d0 d1 hpp hO
      generalize wr.alloc (.cells #[.int .i64 px, .int .i64 py] 32) = w2 at *
      generalize wr.heap.size = ha at *
      by_cases hedge : k = 0 ∨ k + 1 = n
      · have Hcb := hidA (show cornB l k = true from by unfold cornB; have := Hn.out; rcases hedge with h | h <;> simp [h]; omega)
        have hg : ¬ (0 : Int) < k ∨ (0 : Int) < k ∧ ¬ (k : Int) < n - 1 := by omega
        have Hx2 := hidA hx2
        have p0 := kP.cell 0
        have p1 := kP.cell 1
        clear hedge hx2 kP hfp
        have wn := IntWalk.wrap64_in ((n : Int) - 1) ⟨by omega, by omega⟩
        have Wn := hidA wn
        clear wn
        rcases hg with hg1 | ⟨hg1, hg2⟩
        · go_upto_region 12 with fail
          have hown2 := hidA (hO2.ext ((Ext.refl w2).alloc (.cells #[.int .i64 px, .int .i64 py] 32)))
          have hnews : Hid (∀ j u, ([Value.int .i64 px, .int .i64 py] : List Value)[j]? = some u → (w2.alloc (.cells #[.int .i64 px, .int .i64 py] 32)).cell? ((⟨w2.heap.size, 0, none⟩ : Addr).add j) = some u) := World.news_of_block (cs := #[.int .i64 px, .int .i64 py]) (t := 32) (fr := (0, 0)) (heap_alloc_new w2 _)
          have hone : Hid (∀ u ∈ ([Value.int .i64 px, .int .i64 py] : List Value), u.oneCell' = true) := by intro u hu; simp at hu; rcases hu with rfl | rfl <;> rfl
          have hs9 := hidA (show w.heap.size ≤ (w2.alloc (.cells #[.int .i64 px, .int .i64 py] 32)).heap.size from by have := Hx2.out.size; rw [World.size_alloc]; omega)
          clear hO2
          go_wp2_with (at_builtin; (refine wpList_append_lies _ (by rfl) _ _ 46 (by rfl) w.heap.size 32 ti (.agg #[.int .i64 0, .int .i64 0]) 2 16 Try.underlying46 hi0 hz0 hz1 hz2 (by rfl) (by decide) _ _ _ (by rfl) hown2.out ⟨w2.heap.size, 0, none⟩ 1 1 [.int .i64 px, .int .i64 py] (by rfl) (by rfl) hnews.out hone.out (by omega) (by unfold maxLen; omega) (by omega) hs9.out (w2.heap.size + 1) (by simp) ?_; intro gg cap w9 hown9 hgrow9 hat hlt))
          have hx9 := (Hx2.out.alloc (.cells #[.int .i64 px, .int .i64 py] 32)).grown hgrow9 (fun b hb => (World.ownsRow.lt hown2.out b hb).1)
          have HO9 := hidA hown9
          have Hx9 := hidA hx9
          clear hown9 hgrow9 hat hlt hx9
          go_roundw
          case rel => exact ⟨k + 1, by omega, by go_num, by have h8 := HO9.out; rw [cornL_succ, Hcb.out, Hpp.out]; unfold OwnP; simp only [if_true, ptv_append, List.length_append, List.length_cons, List.length_nil]; exact h8, Hx9.out⟩
          case measure => simp [intOf]; omega
        · have wn := Wn.out
          go_upto_region 12 with fail
          clear wn
          have hown2 := hidA (hO2.ext ((Ext.refl w2).alloc (.cells #[.int .i64 px, .int .i64 py] 32)))
          have hnews : Hid (∀ j u, ([Value.int .i64 px, .int .i64 py] : List Value)[j]? = some u → (w2.alloc (.cells #[.int .i64 px, .int .i64 py] 32)).cell? ((⟨w2.heap.size, 0, none⟩ : Addr).add j) = some u) := World.news_of_block (cs := #[.int .i64 px, .int .i64 py]) (t := 32) (fr := (0, 0)) (heap_alloc_new w2 _)
          have hone : Hid (∀ u ∈ ([Value.int .i64 px, .int .i64 py] : List Value), u.oneCell' = true) := by intro u hu; simp at hu; rcases hu with rfl | rfl <;> rfl
          have hs9 := hidA (show w.heap.size ≤ (w2.alloc (.cells #[.int .i64 px, .int .i64 py] 32)).heap.size from by have := Hx2.out.size; rw [World.size_alloc]; omega)
          clear hO2
          go_wp2_with (at_builtin; (refine wpList_append_lies _ (by rfl) _ _ 46 (by rfl) w.heap.size 32 ti (.agg #[.int .i64 0, .int .i64 0]) 2 16 Try.underlying46 hi0 hz0 hz1 hz2 (by rfl) (by decide) _ _ _ (by rfl) hown2.out ⟨w2.heap.size, 0, none⟩ 1 1 [.int .i64 px, .int .i64 py] (by rfl) (by rfl) hnews.out hone.out (by omega) (by unfold maxLen; omega) (by omega) hs9.out (w2.heap.size + 1) (by simp) ?_; intro gg cap w9 hown9 hgrow9 hat hlt))
          have hx9 := (Hx2.out.alloc (.cells #[.int .i64 px, .int .i64 py] 32)).grown hgrow9 (fun b hb => (World.ownsRow.lt hown2.out b hb).1)
          have HO9 := hidA hown9
          have Hx9 := hidA hx9
          clear hown9 hgrow9 hat hlt hx9
          go_roundw
          case rel => exact ⟨k + 1, by omega, by go_num, by have h8 := HO9.out; rw [cornL_succ, Hcb.out, Hpp.out]; unfold OwnP; simp only [if_true, ptv_append, List.length_append, List.length_cons, List.length_nil]; exact h8, Hx9.out⟩
          case measure => simp [intOf]; omega
      · have hkp : 0 < k := by omega
        have hk1 : k + 1 < n := by omega
        have hg1 : (0 : Int) < k := by omega
        have hg2 : (k : Int) < n - 1 := by omega
        have s1 := Hok.out.st k hkp hkl
        have s2 := Hok.out.st (k + 1) (by omega) (by have := Hn.out; omega)
        rw [Nat.add_sub_cancel] at s2
        obtain ⟨qx, qy, hqq⟩ : ∃ qx qy, l.getD (k - 1) (0, 0) = (qx, qy) := ⟨_, _, rfl⟩
        obtain ⟨rx, ry, hrr⟩ : ∃ rx ry, l.getD (k + 1) (0, 0) = (rx, ry) := ⟨_, _, rfl⟩
        have hfq := Hok.out.ok (k - 1) (by omega)
        have hfr := Hok.out.ok (k + 1) (by have := Hn.out; omega)
        rw [Hpp.out, hqq] at s1
        rw [Hpp.out, hrr] at s2
        rw [hqq] at hfq
        rw [hrr] at hfr
        dsimp only at s1 s2
        have Hcb : Hid (cornB l k = !((lpo l k).1 == (lpo l (k + 1)).1 && (lpo l k).2 == 1 && (lpo l (k + 1)).2 == 1)) := by
          show _ = _
          unfold cornB
          have e1 : (k == 0) = false := by simp; omega
          have e2 : (k + 1 == l.length) = false := by simp; have := Hn.out; omega
          rw [e1, e2]
          simp
        have HB1 := fun (w : World) => HBt qx qy px py w hfq hfp
        have HB2 := fun (w : World) => HBt px py rx ry w hfp hfr
        unfold btV at HB1 HB2
        rw [s1.1] at HB1
        rw [s2.1] at HB2
        obtain ⟨d1, n1, hl1⟩ : ∃ d1 n1, lpo l k = (d1, n1) := ⟨_, _, rfl⟩
        obtain ⟨d2, n2, hl2⟩ : ∃ d2 n2, lpo l (k + 1) = (d2, n2) := ⟨_, _, rfl⟩
        rw [hl1] at HB1 Hcb
        rw [hl2] at HB2 Hcb
        simp only at HB1 HB2
        have e0 : ∀ w', Ext w2 w' → w'.cell? (ad.add ((k - 1) * 2)) = some (.int .i64 qx) := fun w' h => by
          obtain ⟨ad', e, _, d0, _⟩ := pt_at (hV.ext (hx2.trans h)) (show k - 1 < l.length by omega)
          injection e with e
          subst e
          rw [hqq] at d0
          exact d0
        have e1 : ∀ w', Ext w2 w' → w'.cell? ⟨(ad.add ((k - 1) * 2)).block, (ad.add ((k - 1) * 2)).off + 1, none⟩ = some (.int .i64 qy) := fun w' h => by
          obtain ⟨ad', e, _, _, d1⟩ := pt_at (hV.ext (hx2.trans h)) (show k - 1 < l.length by omega)
          injection e with e
          subst e
          rw [hqq] at d1
          exact d1
        have e2 : ∀ w', Ext w2 w' → w'.cell? (ad.add ((k + 1) * 2)) = some (.int .i64 rx) := fun w' h => by
          obtain ⟨ad', e, _, d0, _⟩ := pt_at (hV.ext (hx2.trans h)) (show k + 1 < l.length by have := Hn.out; omega)
          injection e with e
          subst e
          rw [hrr] at d0
          exact d0
        have e3 : ∀ w', Ext w2 w' → w'.cell? ⟨(ad.add ((k + 1) * 2)).block, (ad.add ((k + 1) * 2)).off + 1, none⟩ = some (.int .i64 ry) := fun w' h => by
          obtain ⟨ad', e, _, _, d1⟩ := pt_at (hV.ext (hx2.trans h)) (show k + 1 < l.length by have := Hn.out; omega)
          injection e with e
          subst e
          rw [hrr] at d1
          exact d1
        have f0 : ∀ w', Ext w2 w' → w'.cell? ⟨ha, 0, none⟩ = some (.int .i64 px) := fun w' h => (kP.ext h).cell 0
        have f1 : ∀ w', Ext w2 w' → w'.cell? ⟨ha, 1, none⟩ = some (.int .i64 py) := fun w' h => (kP.ext h).cell 1
        have j0 : (0 : Int) ≤ ((k - 1 : Nat) : Int) := by omega
        have j1 : ((k - 1 : Nat) : Int) < n := by omega
        have j2 : (0 : Int) ≤ ((k + 1 : Nat) : Int) := by omega
        have j3 : ((k + 1 : Nat) : Int) < n := by omega
        have j4 : (k : Int) + 1 < n := by omega
        have Hwk := hidA (show wrap64 ((k : Int) - 1) = ((k - 1 : Nat) : Int) by rw [IntWalk.wrap64_in _ ⟨by omega, by omega⟩]; omega)
        have Hwk2 := hidA (show IntKind.i64.wrap ((k : Int) - 1) = ((k - 1 : Nat) : Int) by rw [IntWalk.i64_in _ ⟨by omega, by omega⟩]; omega)
        have Hwk3 := hidA (show wrap64 ((k : Int) + 1) = (k : Int) + 1 from IntWalk.wrap64_in _ ⟨by omega, by omega⟩)
        have Hwk4 := hidA (show IntKind.i64.wrap ((k : Int) + 1) = (k : Int) + 1 from IntWalk.i64_in _ ⟨by omega, by omega⟩)
        have j5 : (0 : Int) ≤ (k : Int) + 1 := by omega
        have Hwn := hidA (IntWalk.wrap64_in ((n : Int) - 1) ⟨by omega, by omega⟩)
        have hcs : ¬ d1 = d2 ∨ (d1 = d2 ∧ ¬ n1 = 1) ∨ (d1 = d2 ∧ n1 = 1 ∧ ¬ n2 = 1) ∨ (d1 = d2 ∧ n1 = 1 ∧ n2 = 1) := by omega
        have Hx2 := hidA hx2
        have KP := hidA kP
        clear hedge s1 s2 hl1 hl2 hqq hrr hfq hfr hfp HBt hx2 kP
        have wn := Hwn.out
        go_upto_region 9 with fail
        clear wn
        have wk := Hwk.out
        have wk2 := Hwk2.out
        refine wp_region_noPanic ?_
        refine wp_region_held_drew (S := fun w' => Ext w2 w') (by kernel_rfl) ?_ (fun hHeld => ?_)
        · (repeat (first | exact Ext.refl _ | assumption | refine Ext.setCell ?_ (by first | (simp; done) | (simp; omega)) _ | refine Ext.drewN ?_ _ | refine Ext.alloc ?_ _ | refine Ext.drew ?_ | refine Ext.trans ?_ (by assumption)))
        refine wpAnyH_take (i := 0) (oi := ?o1x0) (v := ?v1x0) ?hi1x0 (by kernel_rfl) ?hf1x0 ?hr1x0 (fun _ _ _ h => h) ?hy1x0 (by assumption) ?rest1x0
        case hi1x0 => (simp only [List.getElem?_toArray, List.getElem?_cons_zero]; exact rfl)
        case hf1x0 => kernel_rfl
        case hr1x0 => kernel_rfl
        case hy1x0 => (refine Or.inl ⟨by rfl, ?_⟩; intro w hSw; (try dsimp only at hSw); go_simp; try with_reducible rfl)
        simp only [put_mk, List.set_cons_succ, List.set_cons_zero]
        refine wpAnyH_take (i := 1) (oi := ?o1x1) (v := ?v1x1) ?hi1x1 (by kernel_rfl) ?hf1x1 ?hr1x1 (fun _ _ _ h => h) ?hy1x1 (by assumption) ?rest1x1
        case hi1x1 => (simp only [List.getElem?_toArray, List.getElem?_cons_succ, List.getElem?_cons_zero]; exact rfl)
        case hf1x1 => kernel_rfl
        case hr1x1 => kernel_rfl
        case hy1x1 => (refine Or.inl ⟨by rfl, ?_⟩; intro w hSw; (try dsimp only at hSw); go_simp; try with_reducible rfl)
        simp only [put_mk, List.set_cons_succ, List.set_cons_zero]
        refine wpAnyH_take (i := 2) (oi := ?o1x2) (v := ?v1x2) ?hi1x2 (by kernel_rfl) ?hf1x2 ?hr1x2 (fun _ _ _ h => h) ?hy1x2 (by assumption) ?rest1x2
        case hi1x2 => (simp only [List.getElem?_toArray, List.getElem?_cons_succ, List.getElem?_cons_zero]; exact rfl)
        case hf1x2 => kernel_rfl
        case hr1x2 => kernel_rfl
        case hy1x2 => (refine Or.inl ⟨by rfl, ?_⟩; intro w hSw; (try dsimp only at hSw); go_simp; try with_reducible rfl)
        simp only [put_mk, List.set_cons_succ, List.set_cons_zero]
        refine wpAnyH_take (i := 3) (oi := ?o1x3) (v := ?v1x3) ?hi1x3 (by kernel_rfl) ?hf1x3 ?hr1x3 (fun _ _ _ h => h) ?hy1x3 (by assumption) ?rest1x3
        case hi1x3 => (simp only [List.getElem?_toArray, List.getElem?_cons_succ, List.getElem?_cons_zero]; exact rfl)
        case hf1x3 => kernel_rfl
        case hr1x3 => kernel_rfl
        case hy1x3 => (refine Or.inl ⟨by rfl, ?_⟩; intro w hSw; (try dsimp only at hSw); go_simp; try with_reducible rfl)
        simp only [put_mk, List.set_cons_succ, List.set_cons_zero]
        refine wpAnyH_take (i := 4) (oi := ?o1x4) (v := ?v1x4) ?hi1x4 (by kernel_rfl) ?hf1x4 ?hr1x4 (fun _ _ _ h => h) ?hy1x4 (by assumption) ?rest1x4
        case hi1x4 => (simp only [List.getElem?_toArray, List.getElem?_cons_succ, List.getElem?_cons_zero]; exact rfl)
        case hf1x4 => kernel_rfl
        case hr1x4 => kernel_rfl
        case hy1x4 => (refine Or.inl ⟨by rfl, ?_⟩; intro w hSw; (try dsimp only at hSw); go_simp; try with_reducible rfl)
        simp only [put_mk, List.set_cons_succ, List.set_cons_zero]
        refine wpAnyH_take (i := 5) (oi := ?o1x5) (v := ?v1x5) ?hi1x5 (by kernel_rfl) ?hf1x5 ?hr1x5 (fun _ _ _ h => h) ?hy1x5 (by assumption) ?rest1x5
        case hi1x5 => (simp only [List.getElem?_toArray, List.getElem?_cons_succ, List.getElem?_cons_zero]; exact rfl)
        case hf1x5 => kernel_rfl
        case hr1x5 => kernel_rfl
        case hy1x5 => (refine Or.inl ⟨by rfl, ?_⟩; intro w hSw; (try dsimp only at hSw); go_simp; try with_reducible rfl)
        simp only [put_mk, List.set_cons_succ, List.set_cons_zero]
        refine wpAnyH_ready (rs := [6]) (by kernel_rfl) (by simp) ?_
        refine AllReadyH.cons (o := ?o1x6) ?hi1x6 (fun K hK => ?_) AllReadyH.nil
        case hi1x6 => (simp only [List.getElem?_toArray, List.getElem?_cons_succ, List.getElem?_cons_zero]; exact rfl)
        go_simp
        go_at_call 78; refine ((HB1 _).out).mono ?_; rintro e w5 ⟨rfl, hx5⟩
        refine hK.out _ _ ?_ (fun hHeld => ?_)
        · (repeat (first | exact Ext.refl _ | assumption | refine Ext.setCell ?_ (by first | (simp; done) | (simp; omega)) _ | refine Ext.drewN ?_ _ | refine Ext.alloc ?_ _ | refine Ext.drew ?_ | refine Ext.trans ?_ (by assumption)))
        clear hK K
        refine wpAnyH_take (i := 7) (oi := ?o1x7) (v := ?v1x7) ?hi1x7 (by kernel_rfl) ?hf1x7 ?hr1x7 (fun _ _ _ h => h) ?hy1x7 (by assumption) ?rest1x7
        case hi1x7 => (simp only [List.getElem?_toArray, List.getElem?_cons_succ, List.getElem?_cons_zero]; exact rfl)
        case hf1x7 => kernel_rfl
        case hr1x7 => kernel_rfl
        case hy1x7 => (refine Or.inl ⟨by rfl, ?_⟩; intro w hSw; (try dsimp only at hSw); go_simp; try with_reducible rfl)
        simp only [put_mk, List.set_cons_succ, List.set_cons_zero]
        refine wpAnyH_take (i := 8) (oi := ?o1x8) (v := ?v1x8) ?hi1x8 (by kernel_rfl) ?hf1x8 ?hr1x8 (fun _ _ _ h => h) ?hy1x8 (by assumption) ?rest1x8
        case hi1x8 => (simp only [List.getElem?_toArray, List.getElem?_cons_succ, List.getElem?_cons_zero]; exact rfl)
        case hf1x8 => kernel_rfl
        case hr1x8 => kernel_rfl
        case hy1x8 => (refine Or.inl ⟨by rfl, ?_⟩; intro w hSw; (try dsimp only at hSw); go_simp; try with_reducible rfl)
        simp only [put_mk, List.set_cons_succ, List.set_cons_zero]
        refine wpAnyH_take (i := 9) (oi := ?o1x9) (v := ?v1x9) ?hi1x9 (by kernel_rfl) ?hf1x9 ?hr1x9 (fun _ _ _ h => h) ?hy1x9 (by assumption) ?rest1x9
        case hi1x9 => (simp only [List.getElem?_toArray, List.getElem?_cons_succ, List.getElem?_cons_zero]; exact rfl)
        case hf1x9 => kernel_rfl
        case hr1x9 => kernel_rfl
        case hy1x9 => (refine Or.inl ⟨by rfl, ?_⟩; intro w hSw; (try dsimp only at hSw); go_simp; try with_reducible rfl)
        simp only [put_mk, List.set_cons_succ, List.set_cons_zero]
        refine wpAnyH_take (i := 10) (oi := ?o1x10) (v := ?v1x10) ?hi1x10 (by kernel_rfl) ?hf1x10 ?hr1x10 (fun _ _ _ h => h) ?hy1x10 (by assumption) ?rest1x10
        case hi1x10 => (simp only [List.getElem?_toArray, List.getElem?_cons_succ, List.getElem?_cons_zero]; exact rfl)
        case hf1x10 => kernel_rfl
        case hr1x10 => kernel_rfl
        case hy1x10 => (refine Or.inl ⟨by rfl, ?_⟩; intro w hSw; (try dsimp only at hSw); go_simp; try with_reducible rfl)
        simp only [put_mk, List.set_cons_succ, List.set_cons_zero]
        refine wpAnyH_take (i := 11) (oi := ?o1x11) (v := ?v1x11) ?hi1x11 (by kernel_rfl) ?hf1x11 ?hr1x11 (fun _ _ _ h => h) ?hy1x11 (by assumption) ?rest1x11
        case hi1x11 => (simp only [List.getElem?_toArray, List.getElem?_cons_succ, List.getElem?_cons_zero]; exact rfl)
        case hf1x11 => kernel_rfl
        case hr1x11 => kernel_rfl
        case hy1x11 => (refine Or.inl ⟨by rfl, ?_⟩; intro w hSw; (try dsimp only at hSw); go_simp; try with_reducible rfl)
        simp only [put_mk, List.set_cons_succ, List.set_cons_zero]
        refine wpAnyH_done (by kernel_rfl) ?_ _
        refine NoPanic.normal ?_
        clear wk wk2 e0 e1
        have hx5 : Ext w2 w5 := hHeld
        have E2 := fun (w' : World) (h : Ext w5 w') => e2 w' (hx5.trans h)
        have E3 := fun (w' : World) (h : Ext w5 w') => e3 w' (hx5.trans h)
        have F0 := fun (w' : World) (h : Ext w5 w') => f0 w' (hx5.trans h)
        have F1 := fun (w' : World) (h : Ext w5 w') => f1 w' (hx5.trans h)
        clear e2 e3 f0 f1
        go_upto_region 10 with fail
        have wk := Hwk3.out
        have wk2 := Hwk4.out
        refine wp_region_noPanic ?_
        refine wp_region_held_drew (S := fun w' => Ext w5 w') (by kernel_rfl) ?_ (fun hHeld => ?_)
        · (repeat (first | exact Ext.refl _ | assumption | refine Ext.setCell ?_ (by first | (simp; done) | (simp; omega)) _ | refine Ext.drewN ?_ _ | refine Ext.alloc ?_ _ | refine Ext.drew ?_ | refine Ext.trans ?_ (by assumption)))
        refine wpAnyH_take (i := 0) (oi := ?o2x0) (v := ?v2x0) ?hi2x0 (by kernel_rfl) ?hf2x0 ?hr2x0 (fun _ _ _ h => h) ?hy2x0 (by assumption) ?rest2x0
        case hi2x0 => (simp only [List.getElem?_toArray, List.getElem?_cons_zero]; exact rfl)
        case hf2x0 => kernel_rfl
        case hr2x0 => kernel_rfl
        case hy2x0 => (refine Or.inl ⟨by rfl, ?_⟩; intro w hSw; (try dsimp only at hSw); go_simp; try with_reducible rfl)
        simp only [put_mk, List.set_cons_succ, List.set_cons_zero]
        refine wpAnyH_take (i := 1) (oi := ?o2x1) (v := ?v2x1) ?hi2x1 (by kernel_rfl) ?hf2x1 ?hr2x1 (fun _ _ _ h => h) ?hy2x1 (by assumption) ?rest2x1
        case hi2x1 => (simp only [List.getElem?_toArray, List.getElem?_cons_succ, List.getElem?_cons_zero]; exact rfl)
        case hf2x1 => kernel_rfl
        case hr2x1 => kernel_rfl
        case hy2x1 => (refine Or.inl ⟨by rfl, ?_⟩; intro w hSw; (try dsimp only at hSw); go_simp; try with_reducible rfl)
        simp only [put_mk, List.set_cons_succ, List.set_cons_zero]
        refine wpAnyH_take (i := 2) (oi := ?o2x2) (v := ?v2x2) ?hi2x2 (by kernel_rfl) ?hf2x2 ?hr2x2 (fun _ _ _ h => h) ?hy2x2 (by assumption) ?rest2x2
        case hi2x2 => (simp only [List.getElem?_toArray, List.getElem?_cons_succ, List.getElem?_cons_zero]; exact rfl)
        case hf2x2 => kernel_rfl
        case hr2x2 => kernel_rfl
        case hy2x2 => (refine Or.inl ⟨by rfl, ?_⟩; intro w hSw; (try dsimp only at hSw); go_simp; try with_reducible rfl)
        simp only [put_mk, List.set_cons_succ, List.set_cons_zero]
        refine wpAnyH_take (i := 3) (oi := ?o2x3) (v := ?v2x3) ?hi2x3 (by kernel_rfl) ?hf2x3 ?hr2x3 (fun _ _ _ h => h) ?hy2x3 (by assumption) ?rest2x3
        case hi2x3 => (simp only [List.getElem?_toArray, List.getElem?_cons_succ, List.getElem?_cons_zero]; exact rfl)
        case hf2x3 => kernel_rfl
        case hr2x3 => kernel_rfl
        case hy2x3 => (refine Or.inl ⟨by rfl, ?_⟩; intro w hSw; (try dsimp only at hSw); go_simp; try with_reducible rfl)
        simp only [put_mk, List.set_cons_succ, List.set_cons_zero]
        refine wpAnyH_take (i := 4) (oi := ?o2x4) (v := ?v2x4) ?hi2x4 (by kernel_rfl) ?hf2x4 ?hr2x4 (fun _ _ _ h => h) ?hy2x4 (by assumption) ?rest2x4
        case hi2x4 => (simp only [List.getElem?_toArray, List.getElem?_cons_succ, List.getElem?_cons_zero]; exact rfl)
        case hf2x4 => kernel_rfl
        case hr2x4 => kernel_rfl
        case hy2x4 => (refine Or.inl ⟨by rfl, ?_⟩; intro w hSw; (try dsimp only at hSw); go_simp; try with_reducible rfl)
        simp only [put_mk, List.set_cons_succ, List.set_cons_zero]
        refine wpAnyH_take (i := 5) (oi := ?o2x5) (v := ?v2x5) ?hi2x5 (by kernel_rfl) ?hf2x5 ?hr2x5 (fun _ _ _ h => h) ?hy2x5 (by assumption) ?rest2x5
        case hi2x5 => (simp only [List.getElem?_toArray, List.getElem?_cons_succ, List.getElem?_cons_zero]; exact rfl)
        case hf2x5 => kernel_rfl
        case hr2x5 => kernel_rfl
        case hy2x5 => (refine Or.inl ⟨by rfl, ?_⟩; intro w hSw; (try dsimp only at hSw); go_simp; try with_reducible rfl)
        simp only [put_mk, List.set_cons_succ, List.set_cons_zero]
        refine wpAnyH_ready (rs := [6]) (by kernel_rfl) (by simp) ?_
        refine AllReadyH.cons (o := ?o2x6) ?hi2x6 (fun K hK => ?_) AllReadyH.nil
        case hi2x6 => (simp only [List.getElem?_toArray, List.getElem?_cons_succ, List.getElem?_cons_zero]; exact rfl)
        go_simp
        go_at_call 78; refine ((HB2 _).out).mono ?_; rintro e w6 ⟨rfl, hx6⟩
        refine hK.out _ _ ?_ (fun hHeld => ?_)
        · (repeat (first | exact Ext.refl _ | assumption | refine Ext.setCell ?_ (by first | (simp; done) | (simp; omega)) _ | refine Ext.drewN ?_ _ | refine Ext.alloc ?_ _ | refine Ext.drew ?_ | refine Ext.trans ?_ (by assumption)))
        clear hK K
        refine wpAnyH_take (i := 7) (oi := ?o2x7) (v := ?v2x7) ?hi2x7 (by kernel_rfl) ?hf2x7 ?hr2x7 (fun _ _ _ h => h) ?hy2x7 (by assumption) ?rest2x7
        case hi2x7 => (simp only [List.getElem?_toArray, List.getElem?_cons_succ, List.getElem?_cons_zero]; exact rfl)
        case hf2x7 => kernel_rfl
        case hr2x7 => kernel_rfl
        case hy2x7 => (refine Or.inl ⟨by rfl, ?_⟩; intro w hSw; (try dsimp only at hSw); go_simp; try with_reducible rfl)
        simp only [put_mk, List.set_cons_succ, List.set_cons_zero]
        refine wpAnyH_take (i := 8) (oi := ?o2x8) (v := ?v2x8) ?hi2x8 (by kernel_rfl) ?hf2x8 ?hr2x8 (fun _ _ _ h => h) ?hy2x8 (by assumption) ?rest2x8
        case hi2x8 => (simp only [List.getElem?_toArray, List.getElem?_cons_succ, List.getElem?_cons_zero]; exact rfl)
        case hf2x8 => kernel_rfl
        case hr2x8 => kernel_rfl
        case hy2x8 => (refine Or.inl ⟨by rfl, ?_⟩; intro w hSw; (try dsimp only at hSw); go_simp; try with_reducible rfl)
        simp only [put_mk, List.set_cons_succ, List.set_cons_zero]
        refine wpAnyH_take (i := 9) (oi := ?o2x9) (v := ?v2x9) ?hi2x9 (by kernel_rfl) ?hf2x9 ?hr2x9 (fun _ _ _ h => h) ?hy2x9 (by assumption) ?rest2x9
        case hi2x9 => (simp only [List.getElem?_toArray, List.getElem?_cons_succ, List.getElem?_cons_zero]; exact rfl)
        case hf2x9 => kernel_rfl
        case hr2x9 => kernel_rfl
        case hy2x9 => (refine Or.inl ⟨by rfl, ?_⟩; intro w hSw; (try dsimp only at hSw); go_simp; try with_reducible rfl)
        simp only [put_mk, List.set_cons_succ, List.set_cons_zero]
        refine wpAnyH_take (i := 10) (oi := ?o2x10) (v := ?v2x10) ?hi2x10 (by kernel_rfl) ?hf2x10 ?hr2x10 (fun _ _ _ h => h) ?hy2x10 (by assumption) ?rest2x10
        case hi2x10 => (simp only [List.getElem?_toArray, List.getElem?_cons_succ, List.getElem?_cons_zero]; exact rfl)
        case hf2x10 => kernel_rfl
        case hr2x10 => kernel_rfl
        case hy2x10 => (refine Or.inl ⟨by rfl, ?_⟩; intro w hSw; (try dsimp only at hSw); go_simp; try with_reducible rfl)
        simp only [put_mk, List.set_cons_succ, List.set_cons_zero]
        refine wpAnyH_take (i := 11) (oi := ?o2x11) (v := ?v2x11) ?hi2x11 (by kernel_rfl) ?hf2x11 ?hr2x11 (fun _ _ _ h => h) ?hy2x11 (by assumption) ?rest2x11
        case hi2x11 => (simp only [List.getElem?_toArray, List.getElem?_cons_succ, List.getElem?_cons_zero]; exact rfl)
        case hf2x11 => kernel_rfl
        case hr2x11 => kernel_rfl
        case hy2x11 => (refine Or.inl ⟨by rfl, ?_⟩; intro w hSw; (try dsimp only at hSw); go_simp; try with_reducible rfl)
        simp only [put_mk, List.set_cons_succ, List.set_cons_zero]
        refine wpAnyH_done (by kernel_rfl) ?_ _
        refine NoPanic.normal ?_
        clear wk wk2
        have hx6 : Ext w2 w6 := hx5.trans hHeld
        have hO6 := hO2.ext hx6
        have kP6 := KP.out.ext hx6
        have hx66 := Hx2.out.trans hx6
        clear E2 E3 F0 F1 hO2 hx5 hx6 hHeld KP Hx2
        have p0 := kP6.cell 0
        have p1 := kP6.cell 1
        have Hx2 := hidA hx66
        have hO2 := hO6
        clear hO6 hx66 kP6
        rcases hcs with q1 | ⟨q1, q2⟩ | ⟨q1, q2, q3⟩ | ⟨q1, q2, q3⟩
        · have Hcb := hidA (show cornB l k = true from by rw [Hcb.out]; simp [q1])
          have q1' : ((d1 : Int) == d2) = false := by simp; omega
          go_upto_region 12 with fail
          have hown2 := hidA (hO2.ext ((Ext.refl w6).alloc (.cells #[.int .i64 px, .int .i64 py] 32)))
          have hnews : Hid (∀ j u, ([Value.int .i64 px, .int .i64 py] : List Value)[j]? = some u → (w6.alloc (.cells #[.int .i64 px, .int .i64 py] 32)).cell? ((⟨w6.heap.size, 0, none⟩ : Addr).add j) = some u) := World.news_of_block (cs := #[.int .i64 px, .int .i64 py]) (t := 32) (fr := (0, 0)) (heap_alloc_new w6 _)
          have hone : Hid (∀ u ∈ ([Value.int .i64 px, .int .i64 py] : List Value), u.oneCell' = true) := by intro u hu; simp at hu; rcases hu with rfl | rfl <;> rfl
          have hs9 := hidA (show w.heap.size ≤ (w6.alloc (.cells #[.int .i64 px, .int .i64 py] 32)).heap.size from by have := Hx2.out.size; rw [World.size_alloc]; omega)
          clear hO2
          go_wp2_with (at_builtin; (refine wpList_append_lies _ (by rfl) _ _ 46 (by rfl) w.heap.size 32 ti (.agg #[.int .i64 0, .int .i64 0]) 2 16 Try.underlying46 hi0 hz0 hz1 hz2 (by rfl) (by decide) _ _ _ (by rfl) hown2.out ⟨w6.heap.size, 0, none⟩ 1 1 [.int .i64 px, .int .i64 py] (by rfl) (by rfl) hnews.out hone.out (by omega) (by unfold maxLen; omega) (by omega) hs9.out (w6.heap.size + 1) (by simp) ?_; intro gg cap w9 hown9 hgrow9 hat hlt))
          have hx9 := (Hx2.out.alloc (.cells #[.int .i64 px, .int .i64 py] 32)).grown hgrow9 (fun b hb => (World.ownsRow.lt hown2.out b hb).1)
          have HO9 := hidA hown9
          have Hx9 := hidA hx9
          clear hown9 hgrow9 hat hlt hx9
          go_roundw
          case rel => exact ⟨k + 1, by omega, by go_num, by have h8 := HO9.out; rw [cornL_succ, Hcb.out, Hpp.out]; unfold OwnP; simp only [if_true, ptv_append, List.length_append, List.length_cons, List.length_nil]; exact h8, Hx9.out⟩
          case measure => simp [intOf]; omega
        · have Hcb := hidA (show cornB l k = true from by rw [Hcb.out]; simp [q2])
          have q1' : ((d1 : Int) == d2) = true := by simp; omega
          have q2' : ((n1 : Int) == 1) = false := by simp; omega
          go_upto_region 12 with fail
          have hown2 := hidA (hO2.ext ((Ext.refl w6).alloc (.cells #[.int .i64 px, .int .i64 py] 32)))
          have hnews : Hid (∀ j u, ([Value.int .i64 px, .int .i64 py] : List Value)[j]? = some u → (w6.alloc (.cells #[.int .i64 px, .int .i64 py] 32)).cell? ((⟨w6.heap.size, 0, none⟩ : Addr).add j) = some u) := World.news_of_block (cs := #[.int .i64 px, .int .i64 py]) (t := 32) (fr := (0, 0)) (heap_alloc_new w6 _)
          have hone : Hid (∀ u ∈ ([Value.int .i64 px, .int .i64 py] : List Value), u.oneCell' = true) := by intro u hu; simp at hu; rcases hu with rfl | rfl <;> rfl
          have hs9 := hidA (show w.heap.size ≤ (w6.alloc (.cells #[.int .i64 px, .int .i64 py] 32)).heap.size from by have := Hx2.out.size; rw [World.size_alloc]; omega)
          clear hO2
          go_wp2_with (at_builtin; (refine wpList_append_lies _ (by rfl) _ _ 46 (by rfl) w.heap.size 32 ti (.agg #[.int .i64 0, .int .i64 0]) 2 16 Try.underlying46 hi0 hz0 hz1 hz2 (by rfl) (by decide) _ _ _ (by rfl) hown2.out ⟨w6.heap.size, 0, none⟩ 1 1 [.int .i64 px, .int .i64 py] (by rfl) (by rfl) hnews.out hone.out (by omega) (by unfold maxLen; omega) (by omega) hs9.out (w6.heap.size + 1) (by simp) ?_; intro gg cap w9 hown9 hgrow9 hat hlt))
          have hx9 := (Hx2.out.alloc (.cells #[.int .i64 px, .int .i64 py] 32)).grown hgrow9 (fun b hb => (World.ownsRow.lt hown2.out b hb).1)
          have HO9 := hidA hown9
          have Hx9 := hidA hx9
          clear hown9 hgrow9 hat hlt hx9
          go_roundw
          case rel => exact ⟨k + 1, by omega, by go_num, by have h8 := HO9.out; rw [cornL_succ, Hcb.out, Hpp.out]; unfold OwnP; simp only [if_true, ptv_append, List.length_append, List.length_cons, List.length_nil]; exact h8, Hx9.out⟩
          case measure => simp [intOf]; omega
        · have Hcb := hidA (show cornB l k = true from by rw [Hcb.out]; simp [q3])
          have q1' : ((d1 : Int) == d2) = true := by simp; omega
          have q2' : ((n1 : Int) == 1) = true := by simp; omega
          have q3' : ((n2 : Int) == 1) = false := by simp; omega
          go_upto_region 12 with fail
          have hown2 := hidA (hO2.ext ((Ext.refl w6).alloc (.cells #[.int .i64 px, .int .i64 py] 32)))
          have hnews : Hid (∀ j u, ([Value.int .i64 px, .int .i64 py] : List Value)[j]? = some u → (w6.alloc (.cells #[.int .i64 px, .int .i64 py] 32)).cell? ((⟨w6.heap.size, 0, none⟩ : Addr).add j) = some u) := World.news_of_block (cs := #[.int .i64 px, .int .i64 py]) (t := 32) (fr := (0, 0)) (heap_alloc_new w6 _)
          have hone : Hid (∀ u ∈ ([Value.int .i64 px, .int .i64 py] : List Value), u.oneCell' = true) := by intro u hu; simp at hu; rcases hu with rfl | rfl <;> rfl
          have hs9 := hidA (show w.heap.size ≤ (w6.alloc (.cells #[.int .i64 px, .int .i64 py] 32)).heap.size from by have := Hx2.out.size; rw [World.size_alloc]; omega)
          clear hO2
          go_wp2_with (at_builtin; (refine wpList_append_lies _ (by rfl) _ _ 46 (by rfl) w.heap.size 32 ti (.agg #[.int .i64 0, .int .i64 0]) 2 16 Try.underlying46 hi0 hz0 hz1 hz2 (by rfl) (by decide) _ _ _ (by rfl) hown2.out ⟨w6.heap.size, 0, none⟩ 1 1 [.int .i64 px, .int .i64 py] (by rfl) (by rfl) hnews.out hone.out (by omega) (by unfold maxLen; omega) (by omega) hs9.out (w6.heap.size + 1) (by simp) ?_; intro gg cap w9 hown9 hgrow9 hat hlt))
          have hx9 := (Hx2.out.alloc (.cells #[.int .i64 px, .int .i64 py] 32)).grown hgrow9 (fun b hb => (World.ownsRow.lt hown2.out b hb).1)
          have HO9 := hidA hown9
          have Hx9 := hidA hx9
          clear hown9 hgrow9 hat hlt hx9
          go_roundw
          case rel => exact ⟨k + 1, by omega, by go_num, by have h8 := HO9.out; rw [cornL_succ, Hcb.out, Hpp.out]; unfold OwnP; simp only [if_true, ptv_append, List.length_append, List.length_cons, List.length_nil]; exact h8, Hx9.out⟩
          case measure => simp [intOf]; omega
        · have Hcb := hidA (show cornB l k = false from by rw [Hcb.out]; simp [q1, q2, q3])
          have q1' : ((d1 : Int) == d2) = true := by simp; omega
          have q2' : ((n1 : Int) == 1) = true := by simp; omega
          have q3' : ((n2 : Int) == 1) = true := by simp; omega
          have HO2 := hidA hO2
          clear hO2
          go_wp2
          go_roundw
          case rel => exact ⟨k + 1, by omega, by go_num, by rw [cornL_succ, Hcb.out]; simpa using HO2.out, Hx2.out⟩
          case measure => simp [intOf]; omega
    · have hkn2 : n = k := by omega
      subst hkn2
      have HO := hidA hO
      go_wp2
      go_ret2
      exact ⟨_, rfl, HO.out, hx⟩
end Go.Proofs.Ytpgdinpckolfpaa

namespace Go.Proofs.Ytpgdinpckolfpaa
open Go.RowKit
attribute [local go_sem ↓] Go.wp_at_zero Go.wp_at_succ
attribute [local go_sem] run_store_float

set_option maxRecDepth 100000 in
set_option maxHeartbeats 6400000 in
theorem pf_bad (X Y W H : Int) (A : Option Addr) (n c : Nat) (lf : List Nat) (gr wt br de : Nat) (sp : Int) (C : Option Addr) (m cc : Nat) (X' Y' W' H' : Int) (l : List Nat) (ax ay : Int) (w : World) (hn : lf.length = n) (hV : Rd w A (flt lf)) (hb : n ≤ 140737488351232) (hC : CoP w C m X' Y' W' H' l) (hm : m ≤ 140737488351232) (hE : grndE X Y W H lf gr wt br de sp m X' Y' W' H' l ≠ 0) :
    Calls Try.prog 70 #[.agg #[.int .i64 X, .int .i64 Y, .int .i64 W, .int .i64 H, .slice A n c], .agg #[.float .f32 gr, .float .f32 wt, .float .f32 br, .float .f32 de, .int .i64 sp, .slice C m cc], .agg #[.int .i64 ax, .int .i64 ay]] w fun e w' => e = .returned (.tuple #[.agg #[.int .i64 0, .slice none 0 0, .slice none 0 0], .int .i64 (grndE X Y W H lf gr wt br de sp m X' Y' W' H' l)]) ∧ Ext w w' := by
  have HC := fun (w' : World) (h : Ext w w') => hidA (chk_any X Y W H A n c lf gr wt br de sp C m cc X' Y' W' H' l w' hn (hV.ext h) hb (hC.ext h) hm)
  have hne : (grndE X Y W H lf gr wt br de sp m X' Y' W' H' l != 0) = true := by simpa using hE
  generalize grndE X Y W H lf gr wt br de sp m X' Y' W' H' l = E at *
  clear hn hV hb hC hm hE
  go_enter Try.func70, Try.ntmps70
  go_upto_region 1 with fail
  obtain ⟨w0, hw0⟩ : ∃ w0, w0 = (((w.alloc (.cells #[.int .i64 X, .int .i64 Y, .int .i64 W, .int .i64 H, .slice A n c] 26)).alloc (.cells #[.float .f32 gr, .float .f32 wt, .float .f32 br, .float .f32 de, .int .i64 sp, .slice C m cc] 30)).alloc (.cells #[.int .i64 ax, .int .i64 ay] 32)).alloc (.cells #[.int .i64 0, .slice none 0 0, .slice none 0 0] 124) := ⟨_, rfl⟩
  have kF : Bk w0 w.heap.size 26 #[.int .i64 X, .int .i64 Y, .int .i64 W, .int .i64 H, .slice A n c] := by rw [hw0]; exact (((Bk.new' rfl).alloc _).alloc _).alloc _
  have kR : Bk w0 (w.heap.size + 1) 30 #[.float .f32 gr, .float .f32 wt, .float .f32 br, .float .f32 de, .int .i64 sp, .slice C m cc] := by rw [hw0]; exact ((Bk.new' (by simp)).alloc _).alloc _
  have kA : Bk w0 (w.heap.size + 1 + 1) 32 #[.int .i64 ax, .int .i64 ay] := by rw [hw0]; exact (Bk.new' (by simp)).alloc _
  have kZ : Bk w0 (w.heap.size + 1 + 1 + 1) 124 #[.int .i64 0, .slice none 0 0, .slice none 0 0] := by rw [hw0]; exact Bk.new' (by simp)
  have hx0 : Ext w w0 := by rw [hw0]; exact ((((Ext.refl w).alloc _).alloc _).alloc _).alloc _
  rw [← hw0]
  clear hw0
  have hzl : w.heap.size ≤ w.heap.size + 1 + 1 + 1 := by omega
  generalize w.heap.size + 1 + 1 + 1 = hz at *
  generalize w.heap.size + 1 + 1 = ha at *
  generalize w.heap.size + 1 = hr' at *
  generalize hfe : w.heap.size = hf at kF ⊢
  have Hzl := hidA hzl
  clear hfe hzl
  have f0 := kF.cell 0
  have f1 := kF.cell 1
  have f2 := kF.cell 2
  have f3 := kF.cell 3
  have f4 := kF.cell 4
  have r0 := kR.cell 0
  have r1 := kR.cell 1
  have r2 := kR.cell 2
  have r3 := kR.cell 3
  have r4 := kR.cell 4
  have r5 := kR.cell 5
  go_upto_region 3 with (go_at_call 63; refine ((HC _ hx0).out).mono ?_; rintro e w1 ⟨rfl, hx1⟩)
  have kZ1 := kZ.ext hx1
  have hxa := hx0.trans hx1
  clear f0 f1 f2 f3 f4 r0 r1 r2 r3 r4 r5 kF kR kA kZ hx0 hx1 HC
  have z0 := kZ1.cell 0
  have z1 := kZ1.cell 1
  have z2 := kZ1.cell 2
  have y0 := kZ1.frozen 0
  have y1 := kZ1.frozen 1
  have y2 := kZ1.frozen 2
  have hx9 := hidA (((hxa.setCell (p := ⟨hz, 0, none⟩) Hzl.out (.int .i64 0)).setCell (p := ⟨hz, 1, none⟩) Hzl.out (.slice none 0 0)).setCell (p := ⟨hz, 2, none⟩) Hzl.out (.slice none 0 0))
  have kZ9 := ((kZ1.set 0 (.int .i64 0)).set 1 (.slice none 0 0)).set 2 (.slice none 0 0)
  have q0 := kZ9.cell 0
  have q1 := kZ9.cell 1
  have q2 := kZ9.cell 2
  clear kZ1 kZ9 hxa
  go_wp2
  refine bodyPost_ret (v := .tuple #[.agg #[.int .i64 0, .slice none 0 0, .slice none 0 0], .int .i64 E]) (by simp [results, Try.results70, go_sem, q0, q1, q2]) rfl ⟨rfl, hx9.out⟩
set_option maxRecDepth 100000 in
set_option maxHeartbeats 6400000 in
theorem pf_out (X Y W H : Int) (A : Option Addr) (n c : Nat) (lf : List Nat) (gr wt br de : Nat) (sp : Int) (C : Option Addr) (m cc : Nat) (X' Y' W' H' : Int) (l : List Nat) (ax ay : Int) (w : World) (hn : lf.length = n) (hV : Rd w A (flt lf)) (hb : n ≤ 140737488351232) (hC : CoP w C m X' Y' W' H' l) (hm : m ≤ 140737488351232) (hr : RegOk X Y W H) (hE : grndE X Y W H lf gr wt br de sp m X' Y' W' H' l = 0) (hi : insE X Y W H [(ax, ay)] ≠ 0) :
    Calls Try.prog 70 #[.agg #[.int .i64 X, .int .i64 Y, .int .i64 W, .int .i64 H, .slice A n c], .agg #[.float .f32 gr, .float .f32 wt, .float .f32 br, .float .f32 de, .int .i64 sp, .slice C m cc], .agg #[.int .i64 ax, .int .i64 ay]] w fun e w' => e = .returned (.tuple #[.agg #[.int .i64 0, .slice none 0 0, .slice none 0 0], .int .i64 (insE X Y W H [(ax, ay)])]) ∧ Ext w w' := by
  have HC := fun (w' : World) (h : Ext w w') => hidA (chk_any X Y W H A n c lf gr wt br de sp C m cc X' Y' W' H' l w' hn (hV.ext h) hb (hC.ext h) hm)
  rw [hE] at HC
  have HI := fun (w' : World) (B : Option Addr) (h : Rd w' B (ptv [(ax, ay)])) => hidA (inside_any X Y W H A B n c 1 1 [(ax, ay)] w' hr rfl h (by omega))
  have hne : (insE X Y W H [(ax, ay)] != 0) = true := by simpa using hi
  generalize insE X Y W H [(ax, ay)] = E at *
  clear hn hV hb hC hm hE hi hr
  go_enter Try.func70, Try.ntmps70
  go_upto_region 1 with fail
  obtain ⟨w0, hw0⟩ : ∃ w0, w0 = (((w.alloc (.cells #[.int .i64 X, .int .i64 Y, .int .i64 W, .int .i64 H, .slice A n c] 26)).alloc (.cells #[.float .f32 gr, .float .f32 wt, .float .f32 br, .float .f32 de, .int .i64 sp, .slice C m cc] 30)).alloc (.cells #[.int .i64 ax, .int .i64 ay] 32)).alloc (.cells #[.int .i64 0, .slice none 0 0, .slice none 0 0] 124) := ⟨_, rfl⟩
  have kF : Bk w0 w.heap.size 26 #[.int .i64 X, .int .i64 Y, .int .i64 W, .int .i64 H, .slice A n c] := by rw [hw0]; exact (((Bk.new' rfl).alloc _).alloc _).alloc _
  have kR : Bk w0 (w.heap.size + 1) 30 #[.float .f32 gr, .float .f32 wt, .float .f32 br, .float .f32 de, .int .i64 sp, .slice C m cc] := by rw [hw0]; exact ((Bk.new' (by simp)).alloc _).alloc _
  have kA : Bk w0 (w.heap.size + 1 + 1) 32 #[.int .i64 ax, .int .i64 ay] := by rw [hw0]; exact (Bk.new' (by simp)).alloc _
  have kZ : Bk w0 (w.heap.size + 1 + 1 + 1) 124 #[.int .i64 0, .slice none 0 0, .slice none 0 0] := by rw [hw0]; exact Bk.new' (by simp)
  have hx0 : Ext w w0 := by rw [hw0]; exact ((((Ext.refl w).alloc _).alloc _).alloc _).alloc _
  rw [← hw0]
  clear hw0
  have hzl : w.heap.size ≤ w.heap.size + 1 + 1 + 1 := by omega
  generalize w.heap.size + 1 + 1 + 1 = hz at *
  generalize w.heap.size + 1 + 1 = ha at *
  generalize w.heap.size + 1 = hr' at *
  generalize hfe : w.heap.size = hf at kF ⊢
  have Hzl := hidA hzl
  clear hfe hzl
  have f0 := kF.cell 0
  have f1 := kF.cell 1
  have f2 := kF.cell 2
  have f3 := kF.cell 3
  have f4 := kF.cell 4
  have r0 := kR.cell 0
  have r1 := kR.cell 1
  have r2 := kR.cell 2
  have r3 := kR.cell 3
  have r4 := kR.cell 4
  have r5 := kR.cell 5
  go_upto_region 4 with (go_at_call 63; refine ((HC _ hx0).out).mono ?_; rintro e w1 ⟨rfl, hx1⟩)
  have kF1 := kF.ext hx1
  have kA1 := kA.ext hx1
  have kZ0 := kZ.ext hx1
  have hxb := hx0.trans hx1
  clear f0 f1 f2 f3 f4 r0 r1 r2 r3 r4 r5 kF kR kA kZ hx0 hx1 HC
  have f0 := kF1.cell 0
  have f1 := kF1.cell 1
  have f2 := kF1.cell 2
  have f3 := kF1.cell 3
  have f4 := kF1.cell 4
  have a0 := kA1.cell 0
  have a1 := kA1.cell 1
  go_upto_region 6 with (go_at_call 64; refine ((HI _ _ (Rd.new rfl rfl)).out).mono ?_; rintro e w2 ⟨rfl, hx2⟩)
  have kZ1 := (kZ0.alloc (.cells #[.int .i64 ax, .int .i64 ay] 32)).ext hx2
  have hxa := (hxb.alloc (.cells #[.int .i64 ax, .int .i64 ay] 32)).trans hx2
  clear f0 f1 f2 f3 f4 a0 a1 kF1 kA1 kZ0 hxb hx2 HI
  have z0 := kZ1.cell 0
  have z1 := kZ1.cell 1
  have z2 := kZ1.cell 2
  have y0 := kZ1.frozen 0
  have y1 := kZ1.frozen 1
  have y2 := kZ1.frozen 2
  have hx9 := hidA (((hxa.setCell (p := ⟨hz, 0, none⟩) Hzl.out (.int .i64 0)).setCell (p := ⟨hz, 1, none⟩) Hzl.out (.slice none 0 0)).setCell (p := ⟨hz, 2, none⟩) Hzl.out (.slice none 0 0))
  have kZ9 := ((kZ1.set 0 (.int .i64 0)).set 1 (.slice none 0 0)).set 2 (.slice none 0 0)
  have q0 := kZ9.cell 0
  have q1 := kZ9.cell 1
  have q2 := kZ9.cell 2
  clear kZ1 kZ9 hxa
  go_wp2
  refine bodyPost_ret (v := .tuple #[.agg #[.int .i64 0, .slice none 0 0, .slice none 0 0], .int .i64 E]) (by simp [results, Try.results70, go_sem, q0, q1, q2]) rfl ⟨rfl, hx9.out⟩
set_option maxRecDepth 100000 in
set_option maxHeartbeats 6400000 in
/-- Costs hands on what pricesFrom gives -/
theorem Costs_of (X Y W H : Int) (A : Option Addr) (n c : Nat) (gr wt br de : Nat) (sp : Int) (C : Option Addr) (m cc : Nat) (ax ay : Int) (w : World) (Q : Value → Value → Int → World → Prop) (hQ : ∀ v u e w1 w2, Q v u e w1 → Ext w1 w2 → Q v u e w2)
    (HP : ∀ w', Ext w w' → Hid (Calls Try.prog 70 #[.agg #[.int .i64 X, .int .i64 Y, .int .i64 W, .int .i64 H, .slice A n c], .agg #[.float .f32 gr, .float .f32 wt, .float .f32 br, .float .f32 de, .int .i64 sp, .slice C m cc], .agg #[.int .i64 ax, .int .i64 ay]] w' fun e w'' => ∃ (a : Int) (A1 A2 : Option Addr) (n1 n2 c1 c2 : Nat) (ev : Int), e = .returned (.tuple #[.agg #[.int .i64 a, .slice A1 n1 c1, .slice A2 n2 c2], .int .i64 ev]) ∧ Ext w' w'' ∧ Q (.slice A1 n1 c1) (.slice A2 n2 c2) ev w'')) :
    Calls Try.prog 27 #[.agg #[.int .i64 X, .int .i64 Y, .int .i64 W, .int .i64 H, .slice A n c], .agg #[.float .f32 gr, .float .f32 wt, .float .f32 br, .float .f32 de, .int .i64 sp, .slice C m cc], .agg #[.int .i64 ax, .int .i64 ay]] w fun e w' => ∃ (A1 A2 : Option Addr) (n1 n2 c1 c2 : Nat) (ev : Int), e = .returned (.tuple #[.slice A1 n1 c1, .slice A2 n2 c2, .int .i64 ev]) ∧ Ext w w' ∧ Q (.slice A1 n1 c1) (.slice A2 n2 c2) ev w' := by
  go_enter Try.func27, Try.ntmps27
  go_upto_region 1 with fail
  obtain ⟨w0, hw0⟩ : ∃ w0, w0 = ((w.alloc (.cells #[.int .i64 X, .int .i64 Y, .int .i64 W, .int .i64 H, .slice A n c] 26)).alloc (.cells #[.float .f32 gr, .float .f32 wt, .float .f32 br, .float .f32 de, .int .i64 sp, .slice C m cc] 30)).alloc (.cells #[.int .i64 ax, .int .i64 ay] 32) := ⟨_, rfl⟩
  have kF : Bk w0 w.heap.size 26 #[.int .i64 X, .int .i64 Y, .int .i64 W, .int .i64 H, .slice A n c] := by rw [hw0]; exact ((Bk.new' rfl).alloc _).alloc _
  have kR : Bk w0 (w.heap.size + 1) 30 #[.float .f32 gr, .float .f32 wt, .float .f32 br, .float .f32 de, .int .i64 sp, .slice C m cc] := by rw [hw0]; exact (Bk.new' (by simp)).alloc _
  have kA : Bk w0 (w.heap.size + 1 + 1) 32 #[.int .i64 ax, .int .i64 ay] := by rw [hw0]; exact Bk.new' (by simp)
  have hx0 : Ext w w0 := by rw [hw0]; exact (((Ext.refl w).alloc _).alloc _).alloc _
  rw [← hw0]
  clear hw0
  generalize w.heap.size + 1 + 1 = ha at *
  generalize w.heap.size + 1 = hr' at *
  generalize hfe : w.heap.size = hf at kF ⊢
  clear hfe
  have f0 := kF.cell 0
  have f1 := kF.cell 1
  have f2 := kF.cell 2
  have f3 := kF.cell 3
  have f4 := kF.cell 4
  have r0 := kR.cell 0
  have r1 := kR.cell 1
  have r2 := kR.cell 2
  have r3 := kR.cell 3
  have r4 := kR.cell 4
  have r5 := kR.cell 5
  have a0 := kA.cell 0
  have a1 := kA.cell 1
  go_upto_region 2 with (go_at_call 70; refine ((HP _ hx0).out).mono ?_; rintro e w1 ⟨a, A1, A2, n1, n2, c1, c2, ev, rfl, hx1, hq⟩)
  clear f0 f1 f2 f3 f4 r0 r1 r2 r3 r4 r5 a0 a1 kF kR kA HP
  have kZ : Bk (w1.alloc (.cells #[.int .i64 a, .slice A1 n1 c1, .slice A2 n2 c2] 124)) w1.heap.size 124 #[.int .i64 a, .slice A1 n1 c1, .slice A2 n2 c2] := Bk.new' rfl
  have hxz := (Ext.refl w1).alloc (.cells #[.int .i64 a, .slice A1 n1 c1, .slice A2 n2 c2] 124)
  have Hq2 := hidA (hQ _ _ _ _ _ hq hxz)
  have hxw := (hx0.trans hx1).trans hxz
  clear hq hx0 hx1 hxz
  generalize w1.alloc (.cells #[.int .i64 a, .slice A1 n1 c1, .slice A2 n2 c2] 124) = w2 at *
  generalize w1.heap.size = hz at *
  have z1 := kZ.cell 1
  have z2 := kZ.cell 2
  go_quiet (fail)
  have hx3 : Ext w2 (w2.drewN nq) := (by repeat (first | exact Ext.refl _ | assumption | refine Ext.setCell ?_ (by first | (simp; done) | (simp; omega)) _ | refine Ext.drewN ?_ _ | refine Ext.alloc ?_ _ | refine Ext.drew ?_ | refine Ext.trans ?_ (by assumption)))
  go_wp2
  refine bodyPost_ret (v := .tuple #[.slice A1 n1 c1, .slice A2 n2 c2, .int .i64 ev]) (by simp [results, Try.results27, go_sem]) rfl ?_
  exact ⟨_, _, _, _, _, _, _, rfl, hxw.trans hx3, hQ _ _ _ _ _ Hq2.out hx3⟩
end Go.Proofs.Ytpgdinpckolfpaa

namespace Go.Proofs.Ytpgdinpckolfpaa
open Go.RowKit
attribute [local go_sem ↓] Go.wp_at_zero Go.wp_at_succ
attribute [local go_sem] run_store_float

set_option maxRecDepth 100000 in
set_option maxHeartbeats 6400000 in
theorem Wi_bad1 (X Y W H : Int) (A : Option Addr) (n c : Nat) (lf : List Nat) (gr wt br de : Nat) (sp : Int) (C : Option Addr) (m cc : Nat) (X' Y' W' H' : Int) (l : List Nat) (ax ay : Int) (mo : Nat) (w : World) (hn : lf.length = n) (hV : Rd w A (flt lf)) (hb : n ≤ 140737488351232) (hC : CoP w C m X' Y' W' H' l) (hm : m ≤ 140737488351232) (hE : grndE X Y W H lf gr wt br de sp m X' Y' W' H' l ≠ 0) :
    Calls Try.prog 28 #[.agg #[.int .i64 X, .int .i64 Y, .int .i64 W, .int .i64 H, .slice A n c], .agg #[.float .f32 gr, .float .f32 wt, .float .f32 br, .float .f32 de, .int .i64 sp, .slice C m cc], .agg #[.int .i64 ax, .int .i64 ay], .float .f32 mo] w fun e w' => e = .returned (.tuple #[.slice none 0 0, .int .i64 (grndE X Y W H lf gr wt br de sp m X' Y' W' H' l)]) ∧ Ext w w' := by
  have HC := fun (w' : World) (h : Ext w w') => hidA (chk_any X Y W H A n c lf gr wt br de sp C m cc X' Y' W' H' l w' hn (hV.ext h) hb (hC.ext h) hm)
  have hne : (grndE X Y W H lf gr wt br de sp m X' Y' W' H' l != 0) = true := by simpa using hE
  generalize grndE X Y W H lf gr wt br de sp m X' Y' W' H' l = E at *
  clear hn hV hb hC hm hE
  go_enter Try.func28, Try.ntmps28
  go_upto_region 1 with fail
  obtain ⟨w0, hw0⟩ : ∃ w0, w0 = ((w.alloc (.cells #[.int .i64 X, .int .i64 Y, .int .i64 W, .int .i64 H, .slice A n c] 26)).alloc (.cells #[.float .f32 gr, .float .f32 wt, .float .f32 br, .float .f32 de, .int .i64 sp, .slice C m cc] 30)).alloc (.cells #[.int .i64 ax, .int .i64 ay] 32) := ⟨_, rfl⟩
  have kF : Bk w0 w.heap.size 26 #[.int .i64 X, .int .i64 Y, .int .i64 W, .int .i64 H, .slice A n c] := by rw [hw0]; exact ((Bk.new' rfl).alloc _).alloc _
  have kR : Bk w0 (w.heap.size + 1) 30 #[.float .f32 gr, .float .f32 wt, .float .f32 br, .float .f32 de, .int .i64 sp, .slice C m cc] := by rw [hw0]; exact (Bk.new' (by simp)).alloc _
  have kA : Bk w0 (w.heap.size + 1 + 1) 32 #[.int .i64 ax, .int .i64 ay] := by rw [hw0]; exact Bk.new' (by simp)
  have hx0 : Ext w w0 := by rw [hw0]; exact (((Ext.refl w).alloc _).alloc _).alloc _
  rw [← hw0]
  clear hw0
  generalize w.heap.size + 1 + 1 = ha at *
  generalize w.heap.size + 1 = hr' at *
  generalize hfe : w.heap.size = hf at kF ⊢
  clear hfe
  have f0 := kF.cell 0
  have f1 := kF.cell 1
  have f2 := kF.cell 2
  have f3 := kF.cell 3
  have f4 := kF.cell 4
  have r0 := kR.cell 0
  have r1 := kR.cell 1
  have r2 := kR.cell 2
  have r3 := kR.cell 3
  have r4 := kR.cell 4
  have r5 := kR.cell 5
  clear kF kR kA
  go_wp2_with (go_at_call 63; refine ((HC _ hx0).out).mono ?_; rintro e w1 ⟨rfl, hx1⟩)
  go_ret2
  exact ⟨rfl, hx0.trans hx1⟩
set_option maxRecDepth 100000 in
set_option maxHeartbeats 6400000 in
theorem Wi_bad2 (X Y W H : Int) (A : Option Addr) (n c : Nat) (lf : List Nat) (gr wt br de : Nat) (sp : Int) (C : Option Addr) (m cc : Nat) (X' Y' W' H' : Int) (l : List Nat) (ax ay : Int) (mo : Nat) (w : World) (hn : lf.length = n) (hV : Rd w A (flt lf)) (hb : n ≤ 140737488351232) (hC : CoP w C m X' Y' W' H' l) (hm : m ≤ 140737488351232) (hr : RegOk X Y W H) (hE : grndE X Y W H lf gr wt br de sp m X' Y' W' H' l = 0) (hi : insE X Y W H [(ax, ay)] ≠ 0) :
    Calls Try.prog 28 #[.agg #[.int .i64 X, .int .i64 Y, .int .i64 W, .int .i64 H, .slice A n c], .agg #[.float .f32 gr, .float .f32 wt, .float .f32 br, .float .f32 de, .int .i64 sp, .slice C m cc], .agg #[.int .i64 ax, .int .i64 ay], .float .f32 mo] w fun e w' => e = .returned (.tuple #[.slice none 0 0, .int .i64 (insE X Y W H [(ax, ay)])]) ∧ Ext w w' := by
  have HC := fun (w' : World) (h : Ext w w') => hidA (chk_any X Y W H A n c lf gr wt br de sp C m cc X' Y' W' H' l w' hn (hV.ext h) hb (hC.ext h) hm)
  rw [hE] at HC
  have HI := fun (w' : World) (B : Option Addr) (h : Rd w' B (ptv [(ax, ay)])) => hidA (inside_any X Y W H A B n c 1 1 [(ax, ay)] w' hr rfl h (by omega))
  have hne : (insE X Y W H [(ax, ay)] != 0) = true := by simpa using hi
  generalize insE X Y W H [(ax, ay)] = E at *
  clear hn hV hb hC hm hE hi hr
  go_enter Try.func28, Try.ntmps28
  go_upto_region 1 with fail
  obtain ⟨w0, hw0⟩ : ∃ w0, w0 = ((w.alloc (.cells #[.int .i64 X, .int .i64 Y, .int .i64 W, .int .i64 H, .slice A n c] 26)).alloc (.cells #[.float .f32 gr, .float .f32 wt, .float .f32 br, .float .f32 de, .int .i64 sp, .slice C m cc] 30)).alloc (.cells #[.int .i64 ax, .int .i64 ay] 32) := ⟨_, rfl⟩
  have kF : Bk w0 w.heap.size 26 #[.int .i64 X, .int .i64 Y, .int .i64 W, .int .i64 H, .slice A n c] := by rw [hw0]; exact ((Bk.new' rfl).alloc _).alloc _
  have kR : Bk w0 (w.heap.size + 1) 30 #[.float .f32 gr, .float .f32 wt, .float .f32 br, .float .f32 de, .int .i64 sp, .slice C m cc] := by rw [hw0]; exact (Bk.new' (by simp)).alloc _
  have kA : Bk w0 (w.heap.size + 1 + 1) 32 #[.int .i64 ax, .int .i64 ay] := by rw [hw0]; exact Bk.new' (by simp)
  have hx0 : Ext w w0 := by rw [hw0]; exact (((Ext.refl w).alloc _).alloc _).alloc _
  rw [← hw0]
  clear hw0
  generalize w.heap.size + 1 + 1 = ha at *
  generalize w.heap.size + 1 = hr' at *
  generalize hfe : w.heap.size = hf at kF ⊢
  clear hfe
  have f0 := kF.cell 0
  have f1 := kF.cell 1
  have f2 := kF.cell 2
  have f3 := kF.cell 3
  have f4 := kF.cell 4
  have r0 := kR.cell 0
  have r1 := kR.cell 1
  have r2 := kR.cell 2
  have r3 := kR.cell 3
  have r4 := kR.cell 4
  have r5 := kR.cell 5
  go_upto_region 4 with (go_at_call 63; refine ((HC _ hx0).out).mono ?_; rintro e w1 ⟨rfl, hx1⟩)
  have kF1 := kF.ext hx1
  have kR1 := kR.ext hx1
  have kA1 := kA.ext hx1
  have hxa := hx0.trans hx1
  clear f0 f1 f2 f3 f4 r0 r1 r2 r3 r4 r5 kF kR kA hx0 hx1 HC
  have f0 := kF1.cell 0
  have f1 := kF1.cell 1
  have f2 := kF1.cell 2
  have f3 := kF1.cell 3
  have f4 := kF1.cell 4
  have a0 := kA1.cell 0
  have a1 := kA1.cell 1
  go_wp2_with (go_at_call 64; refine ((HI _ _ (Rd.new rfl rfl)).out).mono ?_; rintro e w2 ⟨rfl, hx2⟩)
  go_ret2
  exact ⟨rfl, hxa.trans (by repeat (first | exact Ext.refl _ | assumption | refine Ext.setCell ?_ (by first | (simp; done) | (simp; omega)) _ | refine Ext.drewN ?_ _ | refine Ext.alloc ?_ _ | refine Ext.drew ?_ | refine Ext.trans ?_ (by assumption)))⟩
set_option maxRecDepth 100000 in
set_option maxHeartbeats 6400000 in
theorem Wi_bad3 (X Y W H : Int) (A : Option Addr) (n c : Nat) (lf : List Nat) (gr wt br de : Nat) (sp : Int) (C : Option Addr) (m cc : Nat) (X' Y' W' H' : Int) (l : List Nat) (ax ay : Int) (mo : Nat) (w : World) (hn : lf.length = n) (hV : Rd w A (flt lf)) (hb : n ≤ 140737488351232) (hC : CoP w C m X' Y' W' H' l) (hm : m ≤ 140737488351232) (hr : RegOk X Y W H) (hE : grndE X Y W H lf gr wt br de sp m X' Y' W' H' l = 0) (hi : insE X Y W H [(ax, ay)] = 0) (hq : numE [mo] ≠ 0) :
    Calls Try.prog 28 #[.agg #[.int .i64 X, .int .i64 Y, .int .i64 W, .int .i64 H, .slice A n c], .agg #[.float .f32 gr, .float .f32 wt, .float .f32 br, .float .f32 de, .int .i64 sp, .slice C m cc], .agg #[.int .i64 ax, .int .i64 ay], .float .f32 mo] w fun e w' => e = .returned (.tuple #[.slice none 0 0, .int .i64 (numE [mo])]) ∧ Ext w w' := by
  have HC := fun (w' : World) (h : Ext w w') => hidA (chk_any X Y W H A n c lf gr wt br de sp C m cc X' Y' W' H' l w' hn (hV.ext h) hb (hC.ext h) hm)
  rw [hE] at HC
  have HI := fun (w' : World) (B : Option Addr) (h : Rd w' B (ptv [(ax, ay)])) => hidA (inside_any X Y W H A B n c 1 1 [(ax, ay)] w' hr rfl h (by omega))
  rw [hi] at HI
  have HM := fun (w' : World) (B : Option Addr) (h : Rd w' B (flt [mo])) => hidA (heights_any B 1 1 [mo] w' rfl h (by omega))
  have hne : (numE [mo] != 0) = true := by simpa using hq
  generalize numE [mo] = E at *
  clear hn hV hb hC hm hE hi hr hq
  go_enter Try.func28, Try.ntmps28
  go_upto_region 1 with fail
  obtain ⟨w0, hw0⟩ : ∃ w0, w0 = ((w.alloc (.cells #[.int .i64 X, .int .i64 Y, .int .i64 W, .int .i64 H, .slice A n c] 26)).alloc (.cells #[.float .f32 gr, .float .f32 wt, .float .f32 br, .float .f32 de, .int .i64 sp, .slice C m cc] 30)).alloc (.cells #[.int .i64 ax, .int .i64 ay] 32) := ⟨_, rfl⟩
  have kF : Bk w0 w.heap.size 26 #[.int .i64 X, .int .i64 Y, .int .i64 W, .int .i64 H, .slice A n c] := by rw [hw0]; exact ((Bk.new' rfl).alloc _).alloc _
  have kR : Bk w0 (w.heap.size + 1) 30 #[.float .f32 gr, .float .f32 wt, .float .f32 br, .float .f32 de, .int .i64 sp, .slice C m cc] := by rw [hw0]; exact (Bk.new' (by simp)).alloc _
  have kA : Bk w0 (w.heap.size + 1 + 1) 32 #[.int .i64 ax, .int .i64 ay] := by rw [hw0]; exact Bk.new' (by simp)
  have hx0 : Ext w w0 := by rw [hw0]; exact (((Ext.refl w).alloc _).alloc _).alloc _
  rw [← hw0]
  clear hw0
  generalize w.heap.size + 1 + 1 = ha at *
  generalize w.heap.size + 1 = hr' at *
  generalize hfe : w.heap.size = hf at kF ⊢
  clear hfe
  have f0 := kF.cell 0
  have f1 := kF.cell 1
  have f2 := kF.cell 2
  have f3 := kF.cell 3
  have f4 := kF.cell 4
  have r0 := kR.cell 0
  have r1 := kR.cell 1
  have r2 := kR.cell 2
  have r3 := kR.cell 3
  have r4 := kR.cell 4
  have r5 := kR.cell 5
  go_upto_region 4 with (go_at_call 63; refine ((HC _ hx0).out).mono ?_; rintro e w1 ⟨rfl, hx1⟩)
  have kF1 := kF.ext hx1
  have kR1 := kR.ext hx1
  have kA1 := kA.ext hx1
  have hxa := hx0.trans hx1
  clear f0 f1 f2 f3 f4 r0 r1 r2 r3 r4 r5 kF kR kA hx0 hx1 HC
  have f0 := kF1.cell 0
  have f1 := kF1.cell 1
  have f2 := kF1.cell 2
  have f3 := kF1.cell 3
  have f4 := kF1.cell 4
  have a0 := kA1.cell 0
  have a1 := kA1.cell 1
  go_upto_region 7 with (go_at_call 64; refine ((HI _ _ (Rd.new rfl rfl)).out).mono ?_; rintro e w2 ⟨rfl, hx2⟩)
  have kF2 := (kF1.alloc (.cells #[.int .i64 ax, .int .i64 ay] 32)).ext hx2
  have kR2 := (kR1.alloc (.cells #[.int .i64 ax, .int .i64 ay] 32)).ext hx2
  have kA2 := (kA1.alloc (.cells #[.int .i64 ax, .int .i64 ay] 32)).ext hx2
  have hxb := (hxa.alloc (.cells #[.int .i64 ax, .int .i64 ay] 32)).trans hx2
  clear f0 f1 f2 f3 f4 a0 a1 kF1 kR1 kA1 hxa hx2 HI
  go_wp2_with (go_at_call 59; refine ((HM _ _ (Rd.new rfl rfl)).out).mono ?_; rintro e w3 ⟨rfl, hw3⟩; subst hw3)
  go_ret2
  exact ⟨rfl, hxb.trans (by repeat (first | exact Ext.refl _ | assumption | refine Ext.setCell ?_ (by first | (simp; done) | (simp; omega)) _ | refine Ext.drewN ?_ _ | refine Ext.alloc ?_ _ | refine Ext.drew ?_ | refine Ext.trans ?_ (by assumption)))⟩
/-- whether one single is no greater than another -/
def leB (x y : Nat) : Bool := FloatKind.f32.format.order x y == some .lt || FloatKind.f32.format.order x y == some .eq
/-- the cells that are reached for a price -/
def nearL (X Y : Int) (Wn : Nat) (sn : Nat → Bool) (P : Nat → Nat) (mo : Nat) : Nat → List (Int × Int)
  | 0 => []
  | k + 1 => nearL X Y Wn sn P mo k ++ (if (sn k && leB (P k) mo) = true then [cpt X Y Wn k] else [])
theorem nearL_le (X Y : Int) (Wn : Nat) (sn : Nat → Bool) (P : Nat → Nat) (mo : Nat) : ∀ k, (nearL X Y Wn sn P mo k).length ≤ k
  | 0 => by simp [nearL]
  | k + 1 => by
    rw [nearL, List.length_append]
    have := nearL_le X Y Wn sn P mo k
    split <;> simp <;> omega
theorem nearL_congr {X Y : Int} {Wn : Nat} {sn sn' : Nat → Bool} {P P' : Nat → Nat} {mo : Nat} : ∀ k, (∀ j, j < k → sn j = sn' j ∧ P j = P' j) → nearL X Y Wn sn P mo k = nearL X Y Wn sn' P' mo k
  | 0, _ => rfl
  | k + 1, h => by
    rw [nearL, nearL, nearL_congr k (fun j hj => h j (by omega)), (h k (by omega)).1, (h k (by omega)).2]
theorem maxW {a : Nat} (h : a ≤ 65536) : a + 1 ≤ maxLen ∧ (a + 1) * 16 ≤ 140737488355328 := by unfold maxLen; omega
theorem nxt_kW {k n : Nat} (h : k < n) : n - (intOf (.int .i64 ((k : Int) + 1))).toNat < n - (intOf (.int .i64 (k : Int))).toNat := by
  simp [intOf]
  omega
theorem nx_w {k n : Nat} (h : k < n) (hn : n ≤ 65536) : n - (intOf (.int .i64 (wrap64 ((k : Int) + 1)))).toNat < n - (intOf (.int .i64 (k : Int))).toNat := by
  rw [IntWalk.wrap64_in _ ⟨by omega, by omega⟩]
  simp [intOf]
  omega
theorem OwnP.pushW {w : World} {base : Nat} {v : Value} {xs : List (Int × Int)} {ux uy : Int} (h : w.ownsRow base 32 2 v (xs.length + 1) (ptv xs ++ [.int .i64 ux, .int .i64 uy])) : OwnP w base v (xs ++ [(ux, uy)]) := by
  unfold OwnP
  rw [ptv_append, List.length_append]
  exact h
/-- what Within returns -/
def WiPost (R : RlR) (l : List Nat) (X Y : Int) (Wn Hn N src mo : Nat) (w : World) (e : Ending) (w' : World) : Prop := ∃ (v : Value) (base : Nat) (sn : Nat → Bool) (P : Nat → Nat), e = .returned (.tuple #[v, .int .i64 0]) ∧ PrOk N (edA R (fun j => l.getD j 0) Wn Hn N) src sn P ∧ OwnP w' base v (nearL X Y Wn sn P mo N) ∧ Ext w w'
set_option maxRecDepth 100000 in
set_option maxHeartbeats 6400000 in
theorem Wi_ok (X Y : Int) (Wn Hn : Nat) (A : Option Addr) (N c : Nat) (R : RlR) (C : Option Addr) (m cc src mo : Nat) (l : List Nat) (X' Y' W' H' : Int) (lc : List Nat) (w : World)
    (hr : Reg X Y Wn Hn) (hN : N = Wn * Hn) (hR : RlOk R N) (hl : l.length = N) (hh : ∀ j, j < N → Bd 20 (l.getD j 0)) (hs : src < N) (hV : Rd w A (flt l)) (hC : CoR w C m R.co) (hP : CoP w C m X' Y' W' H' lc) (hg : grndE X Y Wn Hn l R.gr R.wt R.br R.de R.sp m X' Y' W' H' lc = 0) (hq : numE [mo] = 0) :
    Calls Try.prog 28 #[.agg #[.int .i64 X, .int .i64 Y, .int .i64 (Wn : Int), .int .i64 (Hn : Int), .slice A N c], .agg #[.float .f32 R.gr, .float .f32 R.wt, .float .f32 R.br, .float .f32 R.de, .int .i64 (R.sp : Int), .slice C m cc], .agg #[.int .i64 (X + ((src % Wn : Nat) : Int)), .int .i64 (Y + ((src / Wn : Nat) : Int))], .float .f32 mo] w fun e w' => WiPost R l X Y Wn Hn N src mo w e w' := by
  have hm := grnd_m hg
  have hN6 : N ≤ 65536 := by rw [hN]; exact hr.n
  have HC := fun (w' : World) (h : Ext w w') => hidA (chk_any X Y Wn Hn A N c l R.gr R.wt R.br R.de R.sp C m cc X' Y' W' H' lc w' hl (hV.ext h) (by omega) (hP.ext h) (by omega))
  rw [hg] at HC
  have hin := cpt_in hr hN hs
  have HI := fun (w' : World) (B : Option Addr) (h : Rd w' B (ptv [(X + ((src % Wn : Nat) : Int), Y + ((src / Wn : Nat) : Int))])) => hidA (inside_any X Y Wn Hn A B N c 1 1 [(X + ((src % Wn : Nat) : Int), Y + ((src / Wn : Nat) : Int))] w' hr.ok rfl h (by omega))
  have hi0 : insE X Y Wn Hn [(X + ((src % Wn : Nat) : Int), Y + ((src / Wn : Nat) : Int))] = 0 := by
    unfold insE
    rw [if_pos]
    simpa using hin
  rw [hi0] at HI
  have HM := fun (w' : World) (B : Option Addr) (h : Rd w' B (flt [mo])) => hidA (heights_any B 1 1 [mo] w' rfl h (by omega))
  rw [hq] at HM
  have HPf := fun (w' : World) (h : Ext w w') => hidA (pricesFrom_ok X Y Wn Hn A N c R C m cc src l X' Y' W' H' lc w' hr hN hR hl hh hs (hV.ext h) (hC.ext h) (hP.ext h) hg)
  have HPt := fun (k : Nat) (w : World) (hk : k < N) => hidA (point_any X Y Wn Hn A N c R C m cc k w hr (by omega))
  unfold gcells at HPt
  obtain ⟨ti, hi0', hz0, hz1, hz2⟩ := info_parts infoPt
  clear hm hin hi0 hr hN hR hl hh hV hC hP hg hq hs
  generalize X + ((src % Wn : Nat) : Int) = ax at *
  generalize Y + ((src / Wn : Nat) : Int) = ay at *
  go_enter Try.func28, Try.ntmps28
  go_upto_region 1 with fail
  obtain ⟨w0, hw0⟩ : ∃ w0, w0 = ((w.alloc (.cells #[.int .i64 X, .int .i64 Y, .int .i64 (Wn : Int), .int .i64 (Hn : Int), .slice A N c] 26)).alloc (.cells #[.float .f32 R.gr, .float .f32 R.wt, .float .f32 R.br, .float .f32 R.de, .int .i64 (R.sp : Int), .slice C m cc] 30)).alloc (.cells #[.int .i64 ax, .int .i64 ay] 32) := ⟨_, rfl⟩
  have kF : Bk w0 w.heap.size 26 #[.int .i64 X, .int .i64 Y, .int .i64 (Wn : Int), .int .i64 (Hn : Int), .slice A N c] := by rw [hw0]; exact ((Bk.new' rfl).alloc _).alloc _
  have kR : Bk w0 (w.heap.size + 1) 30 #[.float .f32 R.gr, .float .f32 R.wt, .float .f32 R.br, .float .f32 R.de, .int .i64 (R.sp : Int), .slice C m cc] := by rw [hw0]; exact (Bk.new' (by simp)).alloc _
  have kA : Bk w0 (w.heap.size + 1 + 1) 32 #[.int .i64 ax, .int .i64 ay] := by rw [hw0]; exact Bk.new' (by simp)
  have hx0 : Ext w w0 := by rw [hw0]; exact (((Ext.refl w).alloc _).alloc _).alloc _
  rw [← hw0]
  clear hw0
  generalize w.heap.size + 1 + 1 = ha at *
  generalize w.heap.size + 1 = hr' at *
  generalize hfe : w.heap.size = hf at kF ⊢
  clear hfe
  have f0 := kF.cell 0
  have f1 := kF.cell 1
  have f2 := kF.cell 2
  have f3 := kF.cell 3
  have f4 := kF.cell 4
  have r0 := kR.cell 0
  have r1 := kR.cell 1
  have r2 := kR.cell 2
  have r3 := kR.cell 3
  have r4 := kR.cell 4
  have r5 := kR.cell 5
  go_upto_region 4 with (go_at_call 63; refine ((HC _ hx0).out).mono ?_; rintro e w1 ⟨rfl, hx1⟩)
  have kF1 := kF.ext hx1
  have kR1 := kR.ext hx1
  have kA1 := kA.ext hx1
  have hxa := hx0.trans hx1
  clear f0 f1 f2 f3 f4 r0 r1 r2 r3 r4 r5 kF kR kA hx0 hx1 HC
  have f0 := kF1.cell 0
  have f1 := kF1.cell 1
  have f2 := kF1.cell 2
  have f3 := kF1.cell 3
  have f4 := kF1.cell 4
  have a0 := kA1.cell 0
  have a1 := kA1.cell 1
  go_upto_region 7 with (go_at_call 64; refine ((HI _ _ (Rd.new rfl rfl)).out).mono ?_; rintro e w2 ⟨rfl, hx2⟩)
  have kF2 := (kF1.alloc (.cells #[.int .i64 ax, .int .i64 ay] 32)).ext hx2
  have kR2 := (kR1.alloc (.cells #[.int .i64 ax, .int .i64 ay] 32)).ext hx2
  have kA2 := (kA1.alloc (.cells #[.int .i64 ax, .int .i64 ay] 32)).ext hx2
  have hxb := (hxa.alloc (.cells #[.int .i64 ax, .int .i64 ay] 32)).trans hx2
  clear f0 f1 f2 f3 f4 a0 a1 kF1 kR1 kA1 hxa hx2 HI
  go_upto_region 10 with (go_at_call 59; refine ((HM _ _ (Rd.new rfl rfl)).out).mono ?_; rintro e w3 ⟨rfl, hw3⟩; subst hw3)
  have hxm : Ext w2 (w2.alloc (.cells #[.float .f32 mo] 27)) := (Ext.refl w2).alloc _
  have kF3 := kF2.ext hxm
  have kR3 := kR2.ext hxm
  have kA3 := kA2.ext hxm
  have hxc := hxb.trans hxm
  clear kF2 kR2 kA2 hxb hxm HM
  generalize w2.alloc (.cells #[.float .f32 mo] 27) = w3 at *
  have f0 := kF3.cell 0
  have f1 := kF3.cell 1
  have f2 := kF3.cell 2
  have f3 := kF3.cell 3
  have f4 := kF3.cell 4
  have r0 := kR3.cell 0
  have r1 := kR3.cell 1
  have r2 := kR3.cell 2
  have r3 := kR3.cell 3
  have r4 := kR3.cell 4
  have r5 := kR3.cell 5
  have a0 := kA3.cell 0
  have a1 := kA3.cell 1
  go_upto_region 11 with (go_at_call 70; refine ((HPf _ hxc).out).mono ?_; rintro e w4 ⟨go, gs, P, sn, rfl, _, _, kO, kS, hOk, hx4⟩)
  have kZ : Bk (w4.alloc (.cells #[.int .i64 src, .slice (some ⟨go, 0, none⟩) N N, .slice (some ⟨gs, 0, none⟩) N N] 124)) w4.heap.size 124 #[.int .i64 src, .slice (some ⟨go, 0, none⟩) N N, .slice (some ⟨gs, 0, none⟩) N N] := Bk.new' rfl
  have hxz : Ext w4 (w4.alloc (.cells #[.int .i64 src, .slice (some ⟨go, 0, none⟩) N N, .slice (some ⟨gs, 0, none⟩) N N] 124)) := (Ext.refl w4).alloc _
  have kO5 := kO.ext hxz
  have kS5 := kS.ext hxz
  have kF5 := kF3.ext (hx4.trans hxz)
  have kR5 := kR3.ext (hx4.trans hxz)
  have hxw := hxc.trans (hx4.trans hxz)
  have HOk := hidA hOk
  clear f0 f1 f2 f3 f4 r0 r1 r2 r3 r4 r5 a0 a1 kF3 kR3 kA3 kO kS hxc hx4 hxz HPf hOk
  generalize w4.alloc (.cells #[.int .i64 src, .slice (some ⟨go, 0, none⟩) N N, .slice (some ⟨gs, 0, none⟩) N N] 124) = w5 at *
  generalize w4.heap.size = hz at *
  have z2 := kZ.cell 2
  go_upto_region 13 with fail
  clear z2
  go_loopw [15, 47] (fun s15 s47 wr => ∃ k : Nat, k ≤ N ∧ s47 = .int .i64 k ∧ OwnP wr w5.heap.size s15 (nearL X Y Wn sn P mo k) ∧ Ext w5 wr) (fun _ s47 _ => N - (intOf s47).toNat)
  case atStart => exact ⟨0, Nat.zero_le _, rfl, World.ownsRow_nil _ _ _ _, Ext.refl _⟩
  case round =>
    obtain ⟨k, hk, rfl, hO, hx⟩ := hrel
    by_cases hkN : k < N
    · have HkN := hidA hkN
      have i0 : (0 : Int) ≤ k := by omega
      have i1 : (k : Int) < N := by omega
      have s1 : wr.cell? ⟨gs, k, none⟩ = some (.bool (sn k)) := by rw [(kS5.ext hx).cell]; exact bools_get _ hkN
      have Hlen := hidA (Nat.le_trans (nearL_le X Y Wn sn P mo k) (by omega : k ≤ 65536))
      have Hnx := hidA (show nearL X Y Wn sn P mo (k + 1) = nearL X Y Wn sn P mo k ++ (if (sn k && leB (P k) mo) = true then [cpt X Y Wn k] else []) from rfl)
      cases hsn : sn k
      · rw [hsn] at s1 Hnx
        rw [Bool.false_and, if_neg (by decide), List.append_nil] at Hnx
        have HO := hidA hO
        clear hO hsn
        go_wp2
        go_roundw
        case rel => exact ⟨k + 1, HkN.out, (by first | rfl | go_num), by rw [Hnx.out]; exact HO.out, hx⟩
        case measure => first | exact nx_w HkN.out hN6 | exact nxt_kW HkN.out
      · rw [hsn] at s1 Hnx
        rw [Bool.true_and] at Hnx
        have z1 := (kZ.ext hx).cell 1
        have o1 : wr.cell? ⟨go, k, none⟩ = some (.float .f32 (P k)) := by rw [(kO5.ext hx).cell]; exact flo_get _ hkN
        cases hle : leB (P k) mo
        · have hq2 : (FloatKind.f32.format.order (P k) mo == some .lt || FloatKind.f32.format.order (P k) mo == some .eq) = false := hle
          rw [hle, if_neg (by decide), List.append_nil] at Hnx
          have HO := hidA hO
          clear hO hsn hle
          go_wp2
          go_roundw
          case rel => exact ⟨k + 1, HkN.out, (by first | rfl | go_num), by rw [Hnx.out]; exact HO.out, hx⟩
          case measure => first | exact nx_w HkN.out hN6 | exact nxt_kW HkN.out
        · have hq2 : (FloatKind.f32.format.order (P k) mo == some .lt || FloatKind.f32.format.order (P k) mo == some .eq) = true := hle
          rw [hle, if_pos rfl] at Hnx
          have HPp := fun (w : World) => HPt k w hkN
          have Hcp := hidA (show cpt X Y Wn k = (X + ((k % Wn : Nat) : Int), Y + ((k / Wn : Nat) : Int)) from rfl)
          generalize X + ((k % Wn : Nat) : Int) = qx at *
          generalize Y + ((k / Wn : Nat) : Int) = qy at *
          have HO := hidA hO
          have honeN : Hid (∀ u ∈ ([.int .i64 qx, .int .i64 qy] : List Value), u.oneCell' = true) := by intro u hu; simp at hu; rcases hu with rfl | rfl <;> rfl
          have hmxN := hidA (maxW Hlen.out).1
          have hmbN := hidA (maxW Hlen.out).2
          clear hO hsn hle
          go_upto_region 16 with fail
          clear s1 o1 z1 hq2
          have HX := hidA hx
          have f0 := (kF5.ext HX.out).cell 0
          have f1 := (kF5.ext HX.out).cell 1
          have f2 := (kF5.ext HX.out).cell 2
          have f3 := (kF5.ext HX.out).cell 3
          have f4 := (kF5.ext HX.out).cell 4
          have r0 := (kR5.ext HX.out).cell 0
          have r1 := (kR5.ext HX.out).cell 1
          have r2 := (kR5.ext HX.out).cell 2
          have r3 := (kR5.ext HX.out).cell 3
          have r4 := (kR5.ext HX.out).cell 4
          have r5 := (kR5.ext HX.out).cell 5

          go_upto_region 17 with (first | (go_at_call 74; refine ((HPp _).out).mono ?_; rintro e wp ⟨rfl, hxp⟩; have hxn : Ext wr (wp.alloc (.cells #[.int .i64 qx, .int .i64 qy] 32)) := hxp.alloc _; have hownN := hidA (HO.out.ext hxn); have hnewN : Hid (∀ j u, ([.int .i64 qx, .int .i64 qy] : List Value)[j]? = some u → (wp.alloc (.cells #[.int .i64 qx, .int .i64 qy] 32)).cell? ((⟨wp.heap.size, 0, none⟩ : Addr).add j) = some u) := World.news_of_block (cs := #[.int .i64 qx, .int .i64 qy]) (t := 32) (fr := (0, 0)) (heap_alloc_new wp _); have hsN := hidA ((HX.out.trans hxn).size); have Hxn := hidA (HX.out.trans hxn)) | (at_builtin; (refine wpList_append_lies _ (by rfl) _ _ 46 (by rfl) w5.heap.size 32 ti (.agg #[.int .i64 0, .int .i64 0]) 2 16 Try.underlying46 hi0' hz0 hz1 hz2 (by rfl) (by decide) _ _ _ (by rfl) hownN.out ⟨wp.heap.size, 0, none⟩ 1 1 [.int .i64 qx, .int .i64 qy] (by rfl) (by rfl) hnewN.out honeN.out (by omega) hmxN.out hmbN.out hsN.out (wp.heap.size + 1) (by simp) ?_; intro gA capA wA hownA hgrowA hatA hltA)))
          have hxA : Ext w5 wA := Hxn.out.grown hgrowA (fun b hb => (World.ownsRow.lt hownN.out b hb).1)
          have hOA : OwnP wA w5.heap.size (.slice (some ⟨gA, 0, none⟩) ((nearL X Y Wn sn P mo k).length + 1) capA) (nearL X Y Wn sn P mo (k + 1)) := by
            rw [Hnx.out, Hcp.out]
            exact OwnP.pushW hownA
          have HOA := hidA hOA
          have HxA := hidA hxA
          clear f0 f1 f2 f3 f4 r0 r1 r2 r3 r4 r5 hownN hnewN honeN hsN Hxn hgrowA hatA hltA hownA hmxN hmbN hOA hxA hx
          go_wp2
          go_roundw
          case rel => exact ⟨k + 1, HkN.out, (by first | rfl | go_num), HOA.out, HxA.out⟩
          case measure => first | exact nx_w HkN.out hN6 | exact nxt_kW HkN.out
    · obtain rfl : k = N := by omega
      have HO := hidA hO
      have Hx9 := hidA (hxw.trans hx)
      clear hO hk hkN
      go_wp2
      go_ret2
      exact ⟨_, _, sn, P, rfl, HOk.out, HO.out, Hx9.out⟩
end Go.Proofs.Ytpgdinpckolfpaa

namespace Go.Proofs.Ytpgdinpckolfpaa
open Go.RowKit

theorem f32bits' (a : Nat) (w : World) : (callFunc 68 #[.float .f32 a]).run Try.prog w = .ok (.value (.int .u32 a)) w := by kernel_rfl

set_option maxHeartbeats 400000 in
theorem bits1_same (a : Nat) (w : World) : Calls Try.prog 76 #[.float .f32 a, .float .f32 a] w fun e w' => e = .returned (.bool true) ∧ w = w' := by
  have hf := f32bits' a
  go_enter Try.func76, Try.ntmps76
  go_wp2
  go_ret
  exact ⟨ret_b (by simp), rfl⟩

set_option maxHeartbeats 800000 in
theorem eqFunc_same (A B : Option Addr) (n c d : Nat) (l : List Nat) (w : World) (hn : l.length = n) (ha : Rd w A (flt l)) (hb : Rd w B (flt l)) (hnb : n ≤ 4000000000) :
    Calls Try.prog 75 #[.slice A n c, .slice B n d, .func (.func 76) #[] #[]] w fun e w' => e = .returned (.bool true) ∧ w = w' := by
  have Hn := hidA hn
  clear hn
  go_enter Try.func75, Try.ntmps75
  go_wp2
  go_loop [17] (fun i => ∃ k : Nat, k ≤ n ∧ i = .int .i64 k) (fun i => n - (intOf i).toNat)
  case atStart => exact ⟨0, Nat.zero_le _, rfl⟩
  case round =>
    obtain ⟨k, hk, rfl⟩ := hrel
    by_cases hlt : k < n
    · have hkl : k < l.length := by have := Hn.out; omega
      obtain ⟨ad, rfl, hbk, hc⟩ := ha.at (k := k) (by simpa using hkl)
      obtain ⟨ad2, rfl, hbk2, hc2⟩ := hb.at (k := k) (by simpa using hkl)
      have e0 := hc k _ (flt_get hkl)
      have e1 := hc2 k _ (flt_get hkl)
      clear hc hc2 ha hb
      go_wp2_with (go_at_call 76; refine (bits1_same _ _).mono ?_; rintro e w' ⟨rfl, rfl⟩)
      go_round
      case rel => exact ⟨k + 1, by omega, by go_num⟩
      case measure => simp [intOf]; omega
    · obtain rfl : k = n := by omega
      go_wp2
      go_ret
      exact ⟨rfl, rfl⟩

theorem bits_same (A B : Option Addr) (n c d : Nat) (l : List Nat) (w : World) (hn : l.length = n) (ha : Rd w A (flt l)) (hb : Rd w B (flt l)) (hnb : n ≤ 4000000000) :
    Calls Try.prog 30 #[.slice A n c, .slice B n d] w fun e w' => e = .returned (.bool true) ∧ w = w' := by
  go_enter Try.func30, Try.ntmps30
  go_wp2_with fail
  refine (eqFunc_same A B n c d l _ hn ha hb hnb).mono ?_
  rintro e w' ⟨rfl, rfl⟩
  go_wp2
  go_ret
  exact ⟨rfl, rfl⟩

end Go.Proofs.Ytpgdinpckolfpaa

namespace Go.Proofs.Ytpgdinpckolfpaa
open Go.RowKit
attribute [local go_sem ↓] Go.wp_at_zero Go.wp_at_succ
attribute [local go_sem] run_store_float

theorem Rd.of_bkC {w : World} {g : Nat} {t : TypeId} {cs : Array Value} (h : Bk w g t cs) : Rd w (some ⟨g, 0, none⟩) cs.toList := fun _ => ⟨_, rfl, h.lt, fun j u hu => by
  have hadd : (⟨g, 0, none⟩ : Addr).add j = ⟨g, j, none⟩ := by unfold Addr.add; split <;> simp_all
  rw [hadd, h.cell]
  simpa using hu⟩
theorem flo_listC (N : Nat) (g : Nat → Nat) : (flo N g).toList = flt ((List.range N).map g) := by simp [flo, flt]
theorem flo_congrC {N : Nat} {f g : Nat → Nat} (h : ∀ k, k < N → f k = g k) : flo N f = flo N g := by
  unfold flo
  congr 1
  apply List.map_congr_left
  intro j hj
  rw [h j (List.mem_range.1 hj)]
theorem bools_congrC {N : Nat} {f g : Nat → Bool} (h : ∀ k, k < N → f k = g k) : bools N f = bools N g := by
  unfold bools
  congr 1
  apply List.map_congr_left
  intro j hj
  rw [h j (List.mem_range.1 hj)]
theorem OwnP.anyC {w : World} {base : Nat} {v : Value} {xs : List (Int × Int)} (h : OwnP w base v xs) : ∃ A cap, v = .slice A xs.length cap ∧ Rd w A (ptv xs) := by
  rcases h.2 with ⟨h1, h2⟩ | ⟨g, cap, cur, hv, _⟩
  · have hx : xs = [] := List.eq_nil_of_length_eq_zero h2
    subst hx
    exact ⟨none, 0, h1, Rd.nil _ _⟩
  · subst hv
    exact ⟨_, cap, rfl, Rd.of_own h⟩
set_option maxRecDepth 100000 in
set_option maxHeartbeats 1600000 in
theorem eqBo_same (g g' n : Nat) (f : Nat → Bool) (w : World) (hg : Bk w g 4 (bools n f)) (hg' : Bk w g' 4 (bools n f)) (hn : n ≤ 65536) :
    Calls Try.prog 31 #[.slice (some ⟨g, 0, none⟩) n n, .slice (some ⟨g', 0, none⟩) n n] w fun e w' => e = .returned (.bool true) ∧ Ext w w' := by
  go_enter Try.func31, Try.ntmps31
  go_wp2
  go_loopw [13] (fun i wr => ∃ k : Nat, k ≤ n ∧ i = .int .i64 k ∧ Ext w wr) (fun i _ => n - (intOf i).toNat)
  case atStart => exact ⟨0, Nat.zero_le _, rfl, Ext.refl _⟩
  case round =>
    obtain ⟨k, hk, rfl, hx⟩ := hrel
    by_cases hlt : k < n
    · have Hlt := hidA hlt
      have c0 : wr.cell? ⟨g, k, none⟩ = some (.bool (f k)) := by rw [(hg.ext hx).cell]; exact bools_get _ hlt
      have c1 : wr.cell? ⟨g', k, none⟩ = some (.bool (f k)) := by rw [(hg'.ext hx).cell]; exact bools_get _ hlt
      have k0 : (0 : Int) ≤ k := by omega
      have k1 : (k : Int) < n := by omega
      generalize f k = b at *
      go_upto_region 6 with fail
      go_quiet (fail)
      have hx2 := hidA (hx.trans (show Ext wr (wr.drewN nq) from (by repeat (first | exact Ext.refl _ | assumption | refine Ext.setCell ?_ (by first | (simp; done) | (simp; omega)) _ | refine Ext.drewN ?_ _ | refine Ext.alloc ?_ _ | refine Ext.drew ?_ | refine Ext.trans ?_ (by assumption)))))
      clear c0 c1
      generalize wr.drewN nq = w2 at *
      go_wp2
      go_roundw
      case rel => exact ⟨k + 1, Hlt.out, (by first | rfl | go_num), hx2.out⟩
      case measure => first | exact nx_w Hlt.out hn | exact nxt_kW Hlt.out
    · obtain rfl : k = n := by omega
      go_wp2
      go_ret
      exact ⟨rfl, hx⟩
theorem first2C (a z : Int) : firstE [a, z] = if a = 0 then z else a := by
  by_cases h : a = 0
  · rw [if_pos h]
    unfold firstE
    rw [if_pos h]
    unfold firstE
    by_cases h2 : z = 0
    · rw [if_pos h2, h2]; rfl
    · rw [if_neg h2]
  · rw [if_neg h]
    unfold firstE
    rw [if_neg h]
set_option maxRecDepth 100000 in
set_option maxHeartbeats 6400000 in
theorem costs_bad (X Y W H : Int) (A : Option Addr) (n c : Nat) (lf : List Nat) (gr wt br de : Nat) (sp : Int) (C : Option Addr) (m cc : Nat) (X' Y' W' H' : Int) (l : List Nat) (ax ay : Int) (mo : Nat) (w : World) (hn : lf.length = n) (hV : Rd w A (flt lf)) (hb : n ≤ 140737488351232) (hC : CoP w C m X' Y' W' H' l) (hm : m ≤ 140737488351232)
    (E : Int) (hE : E ≠ 0) (hF : firstE [grndE X Y W H lf gr wt br de sp m X' Y' W' H' l, if hasB X Y W H ax ay = true then 0 else 5] = E)
    (HCo : ∀ w', Ext w w' → Hid (Calls Try.prog 27 #[.agg #[.int .i64 X, .int .i64 Y, .int .i64 W, .int .i64 H, .slice A n c], .agg #[.float .f32 gr, .float .f32 wt, .float .f32 br, .float .f32 de, .int .i64 sp, .slice C m cc], .agg #[.int .i64 ax, .int .i64 ay]] w' fun e w'' => e = .returned (.tuple #[.slice none 0 0, .slice none 0 0, .int .i64 E]) ∧ Ext w' w''))
    (HWi : ∀ w', Ext w w' → Hid (Calls Try.prog 28 #[.agg #[.int .i64 X, .int .i64 Y, .int .i64 W, .int .i64 H, .slice A n c], .agg #[.float .f32 gr, .float .f32 wt, .float .f32 br, .float .f32 de, .int .i64 sp, .slice C m cc], .agg #[.int .i64 ax, .int .i64 ay], .float .f32 mo] w' fun e w'' => e = .returned (.tuple #[.slice none 0 0, .int .i64 E]) ∧ Ext w' w'')) :
    Calls Try.prog 6 #[.agg #[.int .i64 X, .int .i64 Y, .int .i64 W, .int .i64 H, .slice A n c], .agg #[.float .f32 gr, .float .f32 wt, .float .f32 br, .float .f32 de, .int .i64 sp, .slice C m cc], .agg #[.int .i64 ax, .int .i64 ay], .float .f32 mo] w fun e w' => e = .returned (.bool true) ∧ Ext w w' := by
  have HGE := fun (w' : World) (h : Ext w w') => hidA (GroundError_any X Y W H A n c lf gr wt br de sp C m cc X' Y' W' H' l w' hn (hV.ext h) hb (hC.ext h) hm)
  have HL := fun (w : World) => hidA (leads_any w)
  have HWh := fun (b : Bool) (w : World) => hidA (when_any b 5 w)
  have HHa := fun (w : World) => hidA (has_any X Y W H ax ay w)
  have HS := fun (B : Option Addr) (w : World) (h : Rd w B ([grndE X Y W H lf gr wt br de sp m X' Y' W' H' l, if hasB X Y W H ax ay = true then 0 else 5].map (.int .i64))) => hidA (first_any B 2 2 _ w rfl h (by omega))
  rw [hF] at HS
  have hne : (E != 0) = true := by simpa using hE
  clear hn hV hb hC hm hE hF
  generalize grndE X Y W H lf gr wt br de sp m X' Y' W' H' l = ge at *
  generalize hasB X Y W H ax ay = ba at *
  go_enter Try.func6, Try.ntmps6
  go_upto_region 1 with fail
  obtain ⟨w0, hw0⟩ : ∃ w0, w0 = ((w.alloc (.cells #[.int .i64 X, .int .i64 Y, .int .i64 W, .int .i64 H, .slice A n c] 26)).alloc (.cells #[.float .f32 gr, .float .f32 wt, .float .f32 br, .float .f32 de, .int .i64 sp, .slice C m cc] 30)).alloc (.cells #[.int .i64 ax, .int .i64 ay] 32) := ⟨_, rfl⟩
  have kF : Bk w0 w.heap.size 26 #[.int .i64 X, .int .i64 Y, .int .i64 W, .int .i64 H, .slice A n c] := by rw [hw0]; exact ((Bk.new' rfl).alloc _).alloc _
  have kR : Bk w0 (w.heap.size + 1) 30 #[.float .f32 gr, .float .f32 wt, .float .f32 br, .float .f32 de, .int .i64 sp, .slice C m cc] := by rw [hw0]; exact (Bk.new' (by simp)).alloc _
  have kA : Bk w0 (w.heap.size + 1 + 1) 32 #[.int .i64 ax, .int .i64 ay] := by rw [hw0]; exact Bk.new' (by simp)
  have hx0 : Ext w w0 := by rw [hw0]; exact (((Ext.refl w).alloc _).alloc _).alloc _
  rw [← hw0]
  clear hw0
  generalize w.heap.size + 1 + 1 = ha' at *
  generalize w.heap.size + 1 = hr' at *
  generalize hfe : w.heap.size = hf at *
  clear hfe
  have x0 := kF.cell 0
  have x1 := kF.cell 1
  have x2 := kF.cell 2
  have x3 := kF.cell 3
  have x4 := kF.cell 4
  have y0 := kR.cell 0
  have y1 := kR.cell 1
  have y2 := kR.cell 2
  have y3 := kR.cell 3
  have y4 := kR.cell 4
  have y5 := kR.cell 5
  have u0 := kA.cell 0
  have u1 := kA.cell 1
  go_upto_region 2 with (go_at_call 27; refine ((HCo _ hx0).out).mono ?_; rintro e w1 ⟨rfl, hx1⟩)
  clear x0 x1 x2 x3 x4 y0 y1 y2 y3 y4 y5 u0 u1 HCo
  have x0 := (kF.ext hx1).cell 0
  have x1 := (kF.ext hx1).cell 1
  have x2 := (kF.ext hx1).cell 2
  have x3 := (kF.ext hx1).cell 3
  have x4 := (kF.ext hx1).cell 4
  have y0 := (kR.ext hx1).cell 0
  have y1 := (kR.ext hx1).cell 1
  have y2 := (kR.ext hx1).cell 2
  have y3 := (kR.ext hx1).cell 3
  have y4 := (kR.ext hx1).cell 4
  have y5 := (kR.ext hx1).cell 5
  have u0 := (kA.ext hx1).cell 0
  have u1 := (kA.ext hx1).cell 1
  go_upto_region 3 with (go_at_call 28; refine ((HWi _ (hx0.trans hx1)).out).mono ?_; rintro e w2 ⟨rfl, hx2⟩)
  clear x0 x1 x2 x3 x4 y0 y1 y2 y3 y4 y5 u0 u1 HWi
  have hx02 : Ext w0 w2 := hx1.trans hx2
  have f0 : ∀ w', Ext w2 w' → w'.cell? ⟨hf, 0, none⟩ = some (.int .i64 X) := fun w' h => (kF.ext (hx02.trans h)).cell 0
  have f1 : ∀ w', Ext w2 w' → w'.cell? ⟨hf, 1, none⟩ = some (.int .i64 Y) := fun w' h => (kF.ext (hx02.trans h)).cell 1
  have f2 : ∀ w', Ext w2 w' → w'.cell? ⟨hf, 2, none⟩ = some (.int .i64 W) := fun w' h => (kF.ext (hx02.trans h)).cell 2
  have f3 : ∀ w', Ext w2 w' → w'.cell? ⟨hf, 3, none⟩ = some (.int .i64 H) := fun w' h => (kF.ext (hx02.trans h)).cell 3
  have f4 : ∀ w', Ext w2 w' → w'.cell? ⟨hf, 4, none⟩ = some (.slice A n c) := fun w' h => (kF.ext (hx02.trans h)).cell 4
  have r0 : ∀ w', Ext w2 w' → w'.cell? ⟨hr', 0, none⟩ = some (.float .f32 gr) := fun w' h => (kR.ext (hx02.trans h)).cell 0
  have r1 : ∀ w', Ext w2 w' → w'.cell? ⟨hr', 1, none⟩ = some (.float .f32 wt) := fun w' h => (kR.ext (hx02.trans h)).cell 1
  have r2 : ∀ w', Ext w2 w' → w'.cell? ⟨hr', 2, none⟩ = some (.float .f32 br) := fun w' h => (kR.ext (hx02.trans h)).cell 2
  have r3 : ∀ w', Ext w2 w' → w'.cell? ⟨hr', 3, none⟩ = some (.float .f32 de) := fun w' h => (kR.ext (hx02.trans h)).cell 3
  have r4 : ∀ w', Ext w2 w' → w'.cell? ⟨hr', 4, none⟩ = some (.int .i64 sp) := fun w' h => (kR.ext (hx02.trans h)).cell 4
  have r5 : ∀ w', Ext w2 w' → w'.cell? ⟨hr', 5, none⟩ = some (.slice C m cc) := fun w' h => (kR.ext (hx02.trans h)).cell 5
  have a0 : ∀ w', Ext w2 w' → w'.cell? ⟨ha', 0, none⟩ = some (.int .i64 ax) := fun w' h => (kA.ext (hx02.trans h)).cell 0
  have a1 : ∀ w', Ext w2 w' → w'.cell? ⟨ha', 1, none⟩ = some (.int .i64 ay) := fun w' h => (kA.ext (hx02.trans h)).cell 1
  cases ba
  · have HS : ∀ (B : Option Addr) (w : World), Rd w B ([ge, 5].map (.int .i64)) → Hid (Calls Try.prog 17 #[.slice B 2 2] w fun e w' => e = .returned (.int .i64 E) ∧ w = w') := HS
    refine wp_region_noPanic ?_
    refine wp_region_held_drew (S := fun w' => Ext w2 w') (by kernel_rfl) ?_ (fun hHeld => ?_)
    · (repeat (first | exact Ext.refl _ | assumption | refine Ext.setCell ?_ (by first | (simp; done) | (simp; omega)) _ | refine Ext.drewN ?_ _ | refine Ext.alloc ?_ _ | refine Ext.drew ?_ | refine Ext.trans ?_ (by assumption)))
    refine wpAnyH_take (i := 0) (oi := ?o1x0) (v := ?v1x0) ?hi1x0 (by kernel_rfl) ?hf1x0 ?hr1x0 (fun _ _ _ h => h) ?hy1x0 (by assumption) ?rest1x0
    case hi1x0 => (simp only [List.getElem?_toArray, List.getElem?_cons_zero]; exact rfl)
    case hf1x0 => kernel_rfl
    case hr1x0 => kernel_rfl
    case hy1x0 => (refine Or.inl ⟨by rfl, ?_⟩; intro w hSw; (try dsimp only at hSw); go_simp; try with_reducible rfl)
    simp only [put_mk, List.set_cons_succ, List.set_cons_zero]
    refine wpAnyH_take (i := 1) (oi := ?o1x1) (v := ?v1x1) ?hi1x1 (by kernel_rfl) ?hf1x1 ?hr1x1 (fun _ _ _ h => h) ?hy1x1 (by assumption) ?rest1x1
    case hi1x1 => (simp only [List.getElem?_toArray, List.getElem?_cons_succ, List.getElem?_cons_zero]; exact rfl)
    case hf1x1 => kernel_rfl
    case hr1x1 => kernel_rfl
    case hy1x1 => (refine Or.inl ⟨by rfl, ?_⟩; intro w hSw; (try dsimp only at hSw); go_simp; try with_reducible rfl)
    simp only [put_mk, List.set_cons_succ, List.set_cons_zero]
    refine wpAnyH_take (i := 3) (oi := ?o1x3) (v := ?v1x3) ?hi1x3 (by kernel_rfl) ?hf1x3 ?hr1x3 (fun _ _ _ h => h) ?hy1x3 (by assumption) ?rest1x3
    case hi1x3 => (simp only [List.getElem?_toArray, List.getElem?_cons_succ, List.getElem?_cons_zero]; exact rfl)
    case hf1x3 => kernel_rfl
    case hr1x3 => kernel_rfl
    case hy1x3 => (refine Or.inl ⟨by rfl, ?_⟩; intro w hSw; (try dsimp only at hSw); go_simp; try with_reducible rfl)
    simp only [put_mk, List.set_cons_succ, List.set_cons_zero]
    refine wpAnyH_take (i := 4) (oi := ?o1x4) (v := ?v1x4) ?hi1x4 (by kernel_rfl) ?hf1x4 ?hr1x4 (fun _ _ _ h => h) ?hy1x4 (by assumption) ?rest1x4
    case hi1x4 => (simp only [List.getElem?_toArray, List.getElem?_cons_succ, List.getElem?_cons_zero]; exact rfl)
    case hf1x4 => kernel_rfl
    case hr1x4 => kernel_rfl
    case hy1x4 => (refine Or.inl ⟨by rfl, ?_⟩; intro w hSw; (try dsimp only at hSw); go_simp; try with_reducible rfl)
    simp only [put_mk, List.set_cons_succ, List.set_cons_zero]
    refine wpAnyH_take (i := 5) (oi := ?o1x5) (v := ?v1x5) ?hi1x5 (by kernel_rfl) ?hf1x5 ?hr1x5 (fun _ _ _ h => h) ?hy1x5 (by assumption) ?rest1x5
    case hi1x5 => (simp only [List.getElem?_toArray, List.getElem?_cons_succ, List.getElem?_cons_zero]; exact rfl)
    case hf1x5 => kernel_rfl
    case hr1x5 => kernel_rfl
    case hy1x5 => (refine Or.inl ⟨by rfl, ?_⟩; intro w hSw; (try dsimp only at hSw); go_simp; try with_reducible rfl)
    simp only [put_mk, List.set_cons_succ, List.set_cons_zero]
    refine wpAnyH_take (i := 6) (oi := ?o1x6) (v := ?v1x6) ?hi1x6 (by kernel_rfl) ?hf1x6 ?hr1x6 (fun _ _ _ h => h) ?hy1x6 (by assumption) ?rest1x6
    case hi1x6 => (simp only [List.getElem?_toArray, List.getElem?_cons_succ, List.getElem?_cons_zero]; exact rfl)
    case hf1x6 => kernel_rfl
    case hr1x6 => kernel_rfl
    case hy1x6 => (refine Or.inl ⟨by rfl, ?_⟩; intro w hSw; (try dsimp only at hSw); go_simp; try with_reducible rfl)
    simp only [put_mk, List.set_cons_succ, List.set_cons_zero]
    refine wpAnyH_take (i := 7) (oi := ?o1x7) (v := ?v1x7) ?hi1x7 (by kernel_rfl) ?hf1x7 ?hr1x7 (fun _ _ _ h => h) ?hy1x7 (by assumption) ?rest1x7
    case hi1x7 => (simp only [List.getElem?_toArray, List.getElem?_cons_succ, List.getElem?_cons_zero]; exact rfl)
    case hf1x7 => kernel_rfl
    case hr1x7 => kernel_rfl
    case hy1x7 => (refine Or.inl ⟨by rfl, ?_⟩; intro w hSw; (try dsimp only at hSw); go_simp; try with_reducible rfl)
    simp only [put_mk, List.set_cons_succ, List.set_cons_zero]
    refine wpAnyH_take (i := 8) (oi := ?o1x8) (v := ?v1x8) ?hi1x8 (by kernel_rfl) ?hf1x8 ?hr1x8 (fun _ _ _ h => h) ?hy1x8 (by assumption) ?rest1x8
    case hi1x8 => (simp only [List.getElem?_toArray, List.getElem?_cons_succ, List.getElem?_cons_zero]; exact rfl)
    case hf1x8 => kernel_rfl
    case hr1x8 => kernel_rfl
    case hy1x8 => (refine Or.inl ⟨by rfl, ?_⟩; intro w hSw; (try dsimp only at hSw); go_simp; try with_reducible rfl)
    simp only [put_mk, List.set_cons_succ, List.set_cons_zero]
    refine wpAnyH_ready (rs := [2]) (by kernel_rfl) (by simp) ?_
    refine AllReadyH.cons (o := ?o1x2) ?hi1x2 (fun K hK => ?_) AllReadyH.nil
    case hi1x2 => (simp only [List.getElem?_toArray, List.getElem?_cons_succ, List.getElem?_cons_zero]; exact rfl)
    go_simp
    refine ((HGE _ ((hx0.trans hx02).trans hHeld)).out).mono ?_
    rintro e w7 ⟨rfl, hx7⟩
    refine hK.out _ _ ?_ (fun hHeld => ?_)
    · (repeat (first | exact Ext.refl _ | assumption | refine Ext.setCell ?_ (by first | (simp; done) | (simp; omega)) _ | refine Ext.drewN ?_ _ | refine Ext.alloc ?_ _ | refine Ext.drew ?_ | refine Ext.trans ?_ (by assumption)))
    clear hK K
    refine wpAnyH_ready (rs := [9]) (by kernel_rfl) (by simp) ?_
    refine AllReadyH.cons (o := ?o1x9) ?hi1x9 (fun K hK => ?_) AllReadyH.nil
    case hi1x9 => (simp only [List.getElem?_toArray, List.getElem?_cons_succ, List.getElem?_cons_zero]; exact rfl)
    go_simp
    refine ((HHa _).out).mono ?_
    rintro e w7 ⟨rfl, hx7⟩
    refine hK.out _ _ ?_ (fun hHeld => ?_)
    · (repeat (first | exact Ext.refl _ | assumption | refine Ext.setCell ?_ (by first | (simp; done) | (simp; omega)) _ | refine Ext.drewN ?_ _ | refine Ext.alloc ?_ _ | refine Ext.drew ?_ | refine Ext.trans ?_ (by assumption)))
    clear hK K
    refine wpAnyH_take (i := 10) (oi := ?o1x10) (v := ?v1x10) ?hi1x10 (by kernel_rfl) ?hf1x10 ?hr1x10 (fun _ _ _ h => h) ?hy1x10 (by assumption) ?rest1x10
    case hi1x10 => (simp only [List.getElem?_toArray, List.getElem?_cons_succ, List.getElem?_cons_zero]; exact rfl)
    case hf1x10 => kernel_rfl
    case hr1x10 => kernel_rfl
    case hy1x10 => (refine Or.inl ⟨by rfl, ?_⟩; intro w hSw; (try dsimp only at hSw); go_simp; try with_reducible rfl)
    simp only [put_mk, List.set_cons_succ, List.set_cons_zero]
    refine wpAnyH_ready (rs := [11]) (by kernel_rfl) (by simp) ?_
    refine AllReadyH.cons (o := ?o1x11) ?hi1x11 (fun K hK => ?_) AllReadyH.nil
    case hi1x11 => (simp only [List.getElem?_toArray, List.getElem?_cons_succ, List.getElem?_cons_zero]; exact rfl)
    go_simp
    refine ((HWh _ _).out).mono ?_
    rintro e w7 ⟨rfl, hw7⟩
    subst hw7
    refine hK.out _ _ ?_ (fun hHeld => ?_)
    · (repeat (first | exact Ext.refl _ | assumption | refine Ext.setCell ?_ (by first | (simp; done) | (simp; omega)) _ | refine Ext.drewN ?_ _ | refine Ext.alloc ?_ _ | refine Ext.drew ?_ | refine Ext.trans ?_ (by assumption)))
    clear hK K
    refine wpAnyH_ready (rs := [12]) (by kernel_rfl) (by simp) ?_
    refine AllReadyH.cons (o := ?o1x12) ?hi1x12 (fun K hK => ?_) AllReadyH.nil
    case hi1x12 => (simp only [List.getElem?_toArray, List.getElem?_cons_succ, List.getElem?_cons_zero]; exact rfl)
    go_simp
    refine hK.out _ _ ?_ (fun hHeld => ?_)
    · (repeat (first | exact Ext.refl _ | assumption | refine Ext.setCell ?_ (by first | (simp; done) | (simp; omega)) _ | refine Ext.drewN ?_ _ | refine Ext.alloc ?_ _ | refine Ext.drew ?_ | refine Ext.trans ?_ (by assumption)))
    clear hK K
    refine wpAnyH_ready (rs := [13]) (by kernel_rfl) (by simp) ?_
    refine AllReadyH.cons (o := ?o1x13) ?hi1x13 (fun K hK => ?_) AllReadyH.nil
    case hi1x13 => (simp only [List.getElem?_toArray, List.getElem?_cons_succ, List.getElem?_cons_zero]; exact rfl)
    go_simp
    refine ((HS _ _ (Rd.new (by first | rfl | simp) (by first | rfl | simp))).out).mono ?_
    rintro e w7 ⟨rfl, hw7⟩
    subst hw7
    refine hK.out _ _ ?_ (fun hHeld => ?_)
    · (repeat (first | exact Ext.refl _ | assumption | refine Ext.setCell ?_ (by first | (simp; done) | (simp; omega)) _ | refine Ext.drewN ?_ _ | refine Ext.alloc ?_ _ | refine Ext.drew ?_ | refine Ext.trans ?_ (by assumption)))
    clear hK K
    refine wpAnyH_take (i := 14) (oi := ?o1x14) (v := ?v1x14) ?hi1x14 (by kernel_rfl) ?hf1x14 ?hr1x14 (fun _ _ _ h => h) ?hy1x14 (by assumption) ?rest1x14
    case hi1x14 => (simp only [List.getElem?_toArray, List.getElem?_cons_succ, List.getElem?_cons_zero]; exact rfl)
    case hf1x14 => kernel_rfl
    case hr1x14 => kernel_rfl
    case hy1x14 => (refine Or.inl ⟨by rfl, ?_⟩; intro w hSw; (try dsimp only at hSw); go_simp; try with_reducible rfl)
    simp only [put_mk, List.set_cons_succ, List.set_cons_zero]
    refine wpAnyH_done (by kernel_rfl) ?_ _
    refine NoPanic.normal ?_
    clear f0 f1 f2 f3 f4 r0 r1 r2 r3 r4 r5 a0 a1
    go_wp2_with (go_at_call 15; refine ((HL _).out).mono ?_; rintro e w3 ⟨rfl, hx3⟩)
    go_ret
    exact ⟨by first | rfl | simp, (hx0.trans hx02).trans (by repeat (first | exact Ext.refl _ | assumption | refine Ext.setCell ?_ (by first | (simp; done) | (simp; omega)) _ | refine Ext.drewN ?_ _ | refine Ext.alloc ?_ _ | refine Ext.drew ?_ | refine Ext.trans ?_ (by assumption)))⟩
  · have HS : ∀ (B : Option Addr) (w : World), Rd w B ([ge, 0].map (.int .i64)) → Hid (Calls Try.prog 17 #[.slice B 2 2] w fun e w' => e = .returned (.int .i64 E) ∧ w = w') := HS
    refine wp_region_noPanic ?_
    refine wp_region_held_drew (S := fun w' => Ext w2 w') (by kernel_rfl) ?_ (fun hHeld => ?_)
    · (repeat (first | exact Ext.refl _ | assumption | refine Ext.setCell ?_ (by first | (simp; done) | (simp; omega)) _ | refine Ext.drewN ?_ _ | refine Ext.alloc ?_ _ | refine Ext.drew ?_ | refine Ext.trans ?_ (by assumption)))
    refine wpAnyH_take (i := 0) (oi := ?o2x0) (v := ?v2x0) ?hi2x0 (by kernel_rfl) ?hf2x0 ?hr2x0 (fun _ _ _ h => h) ?hy2x0 (by assumption) ?rest2x0
    case hi2x0 => (simp only [List.getElem?_toArray, List.getElem?_cons_zero]; exact rfl)
    case hf2x0 => kernel_rfl
    case hr2x0 => kernel_rfl
    case hy2x0 => (refine Or.inl ⟨by rfl, ?_⟩; intro w hSw; (try dsimp only at hSw); go_simp; try with_reducible rfl)
    simp only [put_mk, List.set_cons_succ, List.set_cons_zero]
    refine wpAnyH_take (i := 1) (oi := ?o2x1) (v := ?v2x1) ?hi2x1 (by kernel_rfl) ?hf2x1 ?hr2x1 (fun _ _ _ h => h) ?hy2x1 (by assumption) ?rest2x1
    case hi2x1 => (simp only [List.getElem?_toArray, List.getElem?_cons_succ, List.getElem?_cons_zero]; exact rfl)
    case hf2x1 => kernel_rfl
    case hr2x1 => kernel_rfl
    case hy2x1 => (refine Or.inl ⟨by rfl, ?_⟩; intro w hSw; (try dsimp only at hSw); go_simp; try with_reducible rfl)
    simp only [put_mk, List.set_cons_succ, List.set_cons_zero]
    refine wpAnyH_take (i := 3) (oi := ?o2x3) (v := ?v2x3) ?hi2x3 (by kernel_rfl) ?hf2x3 ?hr2x3 (fun _ _ _ h => h) ?hy2x3 (by assumption) ?rest2x3
    case hi2x3 => (simp only [List.getElem?_toArray, List.getElem?_cons_succ, List.getElem?_cons_zero]; exact rfl)
    case hf2x3 => kernel_rfl
    case hr2x3 => kernel_rfl
    case hy2x3 => (refine Or.inl ⟨by rfl, ?_⟩; intro w hSw; (try dsimp only at hSw); go_simp; try with_reducible rfl)
    simp only [put_mk, List.set_cons_succ, List.set_cons_zero]
    refine wpAnyH_take (i := 4) (oi := ?o2x4) (v := ?v2x4) ?hi2x4 (by kernel_rfl) ?hf2x4 ?hr2x4 (fun _ _ _ h => h) ?hy2x4 (by assumption) ?rest2x4
    case hi2x4 => (simp only [List.getElem?_toArray, List.getElem?_cons_succ, List.getElem?_cons_zero]; exact rfl)
    case hf2x4 => kernel_rfl
    case hr2x4 => kernel_rfl
    case hy2x4 => (refine Or.inl ⟨by rfl, ?_⟩; intro w hSw; (try dsimp only at hSw); go_simp; try with_reducible rfl)
    simp only [put_mk, List.set_cons_succ, List.set_cons_zero]
    refine wpAnyH_take (i := 5) (oi := ?o2x5) (v := ?v2x5) ?hi2x5 (by kernel_rfl) ?hf2x5 ?hr2x5 (fun _ _ _ h => h) ?hy2x5 (by assumption) ?rest2x5
    case hi2x5 => (simp only [List.getElem?_toArray, List.getElem?_cons_succ, List.getElem?_cons_zero]; exact rfl)
    case hf2x5 => kernel_rfl
    case hr2x5 => kernel_rfl
    case hy2x5 => (refine Or.inl ⟨by rfl, ?_⟩; intro w hSw; (try dsimp only at hSw); go_simp; try with_reducible rfl)
    simp only [put_mk, List.set_cons_succ, List.set_cons_zero]
    refine wpAnyH_take (i := 6) (oi := ?o2x6) (v := ?v2x6) ?hi2x6 (by kernel_rfl) ?hf2x6 ?hr2x6 (fun _ _ _ h => h) ?hy2x6 (by assumption) ?rest2x6
    case hi2x6 => (simp only [List.getElem?_toArray, List.getElem?_cons_succ, List.getElem?_cons_zero]; exact rfl)
    case hf2x6 => kernel_rfl
    case hr2x6 => kernel_rfl
    case hy2x6 => (refine Or.inl ⟨by rfl, ?_⟩; intro w hSw; (try dsimp only at hSw); go_simp; try with_reducible rfl)
    simp only [put_mk, List.set_cons_succ, List.set_cons_zero]
    refine wpAnyH_take (i := 7) (oi := ?o2x7) (v := ?v2x7) ?hi2x7 (by kernel_rfl) ?hf2x7 ?hr2x7 (fun _ _ _ h => h) ?hy2x7 (by assumption) ?rest2x7
    case hi2x7 => (simp only [List.getElem?_toArray, List.getElem?_cons_succ, List.getElem?_cons_zero]; exact rfl)
    case hf2x7 => kernel_rfl
    case hr2x7 => kernel_rfl
    case hy2x7 => (refine Or.inl ⟨by rfl, ?_⟩; intro w hSw; (try dsimp only at hSw); go_simp; try with_reducible rfl)
    simp only [put_mk, List.set_cons_succ, List.set_cons_zero]
    refine wpAnyH_take (i := 8) (oi := ?o2x8) (v := ?v2x8) ?hi2x8 (by kernel_rfl) ?hf2x8 ?hr2x8 (fun _ _ _ h => h) ?hy2x8 (by assumption) ?rest2x8
    case hi2x8 => (simp only [List.getElem?_toArray, List.getElem?_cons_succ, List.getElem?_cons_zero]; exact rfl)
    case hf2x8 => kernel_rfl
    case hr2x8 => kernel_rfl
    case hy2x8 => (refine Or.inl ⟨by rfl, ?_⟩; intro w hSw; (try dsimp only at hSw); go_simp; try with_reducible rfl)
    simp only [put_mk, List.set_cons_succ, List.set_cons_zero]
    refine wpAnyH_ready (rs := [2]) (by kernel_rfl) (by simp) ?_
    refine AllReadyH.cons (o := ?o2x2) ?hi2x2 (fun K hK => ?_) AllReadyH.nil
    case hi2x2 => (simp only [List.getElem?_toArray, List.getElem?_cons_succ, List.getElem?_cons_zero]; exact rfl)
    go_simp
    refine ((HGE _ ((hx0.trans hx02).trans hHeld)).out).mono ?_
    rintro e w7 ⟨rfl, hx7⟩
    refine hK.out _ _ ?_ (fun hHeld => ?_)
    · (repeat (first | exact Ext.refl _ | assumption | refine Ext.setCell ?_ (by first | (simp; done) | (simp; omega)) _ | refine Ext.drewN ?_ _ | refine Ext.alloc ?_ _ | refine Ext.drew ?_ | refine Ext.trans ?_ (by assumption)))
    clear hK K
    refine wpAnyH_ready (rs := [9]) (by kernel_rfl) (by simp) ?_
    refine AllReadyH.cons (o := ?o2x9) ?hi2x9 (fun K hK => ?_) AllReadyH.nil
    case hi2x9 => (simp only [List.getElem?_toArray, List.getElem?_cons_succ, List.getElem?_cons_zero]; exact rfl)
    go_simp
    refine ((HHa _).out).mono ?_
    rintro e w7 ⟨rfl, hx7⟩
    refine hK.out _ _ ?_ (fun hHeld => ?_)
    · (repeat (first | exact Ext.refl _ | assumption | refine Ext.setCell ?_ (by first | (simp; done) | (simp; omega)) _ | refine Ext.drewN ?_ _ | refine Ext.alloc ?_ _ | refine Ext.drew ?_ | refine Ext.trans ?_ (by assumption)))
    clear hK K
    refine wpAnyH_take (i := 10) (oi := ?o2x10) (v := ?v2x10) ?hi2x10 (by kernel_rfl) ?hf2x10 ?hr2x10 (fun _ _ _ h => h) ?hy2x10 (by assumption) ?rest2x10
    case hi2x10 => (simp only [List.getElem?_toArray, List.getElem?_cons_succ, List.getElem?_cons_zero]; exact rfl)
    case hf2x10 => kernel_rfl
    case hr2x10 => kernel_rfl
    case hy2x10 => (refine Or.inl ⟨by rfl, ?_⟩; intro w hSw; (try dsimp only at hSw); go_simp; try with_reducible rfl)
    simp only [put_mk, List.set_cons_succ, List.set_cons_zero]
    refine wpAnyH_ready (rs := [11]) (by kernel_rfl) (by simp) ?_
    refine AllReadyH.cons (o := ?o2x11) ?hi2x11 (fun K hK => ?_) AllReadyH.nil
    case hi2x11 => (simp only [List.getElem?_toArray, List.getElem?_cons_succ, List.getElem?_cons_zero]; exact rfl)
    go_simp
    refine ((HWh _ _).out).mono ?_
    rintro e w7 ⟨rfl, hw7⟩
    subst hw7
    refine hK.out _ _ ?_ (fun hHeld => ?_)
    · (repeat (first | exact Ext.refl _ | assumption | refine Ext.setCell ?_ (by first | (simp; done) | (simp; omega)) _ | refine Ext.drewN ?_ _ | refine Ext.alloc ?_ _ | refine Ext.drew ?_ | refine Ext.trans ?_ (by assumption)))
    clear hK K
    refine wpAnyH_ready (rs := [12]) (by kernel_rfl) (by simp) ?_
    refine AllReadyH.cons (o := ?o2x12) ?hi2x12 (fun K hK => ?_) AllReadyH.nil
    case hi2x12 => (simp only [List.getElem?_toArray, List.getElem?_cons_succ, List.getElem?_cons_zero]; exact rfl)
    go_simp
    refine hK.out _ _ ?_ (fun hHeld => ?_)
    · (repeat (first | exact Ext.refl _ | assumption | refine Ext.setCell ?_ (by first | (simp; done) | (simp; omega)) _ | refine Ext.drewN ?_ _ | refine Ext.alloc ?_ _ | refine Ext.drew ?_ | refine Ext.trans ?_ (by assumption)))
    clear hK K
    refine wpAnyH_ready (rs := [13]) (by kernel_rfl) (by simp) ?_
    refine AllReadyH.cons (o := ?o2x13) ?hi2x13 (fun K hK => ?_) AllReadyH.nil
    case hi2x13 => (simp only [List.getElem?_toArray, List.getElem?_cons_succ, List.getElem?_cons_zero]; exact rfl)
    go_simp
    refine ((HS _ _ (Rd.new (by first | rfl | simp) (by first | rfl | simp))).out).mono ?_
    rintro e w7 ⟨rfl, hw7⟩
    subst hw7
    refine hK.out _ _ ?_ (fun hHeld => ?_)
    · (repeat (first | exact Ext.refl _ | assumption | refine Ext.setCell ?_ (by first | (simp; done) | (simp; omega)) _ | refine Ext.drewN ?_ _ | refine Ext.alloc ?_ _ | refine Ext.drew ?_ | refine Ext.trans ?_ (by assumption)))
    clear hK K
    refine wpAnyH_take (i := 14) (oi := ?o2x14) (v := ?v2x14) ?hi2x14 (by kernel_rfl) ?hf2x14 ?hr2x14 (fun _ _ _ h => h) ?hy2x14 (by assumption) ?rest2x14
    case hi2x14 => (simp only [List.getElem?_toArray, List.getElem?_cons_succ, List.getElem?_cons_zero]; exact rfl)
    case hf2x14 => kernel_rfl
    case hr2x14 => kernel_rfl
    case hy2x14 => (refine Or.inl ⟨by rfl, ?_⟩; intro w hSw; (try dsimp only at hSw); go_simp; try with_reducible rfl)
    simp only [put_mk, List.set_cons_succ, List.set_cons_zero]
    refine wpAnyH_done (by kernel_rfl) ?_ _
    refine NoPanic.normal ?_
    clear f0 f1 f2 f3 f4 r0 r1 r2 r3 r4 r5 a0 a1
    go_wp2_with (go_at_call 15; refine ((HL _).out).mono ?_; rintro e w3 ⟨rfl, hx3⟩)
    go_ret
    exact ⟨by first | rfl | simp, (hx0.trans hx02).trans (by repeat (first | exact Ext.refl _ | assumption | refine Ext.setCell ?_ (by first | (simp; done) | (simp; omega)) _ | refine Ext.drewN ?_ _ | refine Ext.alloc ?_ _ | refine Ext.drew ?_ | refine Ext.trans ?_ (by assumption)))⟩
set_option maxRecDepth 100000 in
set_option maxHeartbeats 6400000 in
theorem costs_good (X Y : Int) (Wn Hn : Nat) (A : Option Addr) (N c : Nat) (R : RlR) (C : Option Addr) (m cc k mo : Nat) (lf : List Nat) (X' Y' W' H' : Int) (l : List Nat) (w : World)
    (hr : Reg X Y Wn Hn) (hN : N = Wn * Hn) (hR : RlOk R N) (hn : lf.length = N) (hh : ∀ j, j < N → Bd 20 (lf.getD j 0)) (hk : k < N) (hV : Rd w A (flt lf)) (hCo : CoR w C m R.co) (hC : CoP w C m X' Y' W' H' l) (hm : m ≤ 140737488351232) (hg : grndE X Y Wn Hn lf R.gr R.wt R.br R.de R.sp m X' Y' W' H' l = 0) :
    Calls Try.prog 6 #[.agg #[.int .i64 X, .int .i64 Y, .int .i64 (Wn : Int), .int .i64 (Hn : Int), .slice A N c], .agg #[.float .f32 R.gr, .float .f32 R.wt, .float .f32 R.br, .float .f32 R.de, .int .i64 (R.sp : Int), .slice C m cc], .agg #[.int .i64 (X + ((k % Wn : Nat) : Int)), .int .i64 (Y + ((k / Wn : Nat) : Int))], .float .f32 mo] w fun e w' => e = .returned (.bool true) ∧ Ext w w' := by
  have hN6 : N ≤ 65536 := by rw [hN]; exact hr.n
  have hb : N ≤ 140737488351232 := by omega
  have hi1 := cpt_in hr hN hk
  have hi0 : insE X Y Wn Hn [(X + ((k % Wn : Nat) : Int), Y + ((k / Wn : Nat) : Int))] = 0 := by
    unfold insE
    rw [if_pos]
    simpa using hi1
  obtain ⟨E, hEe⟩ : ∃ E, E = edA R (fun j => lf.getD j 0) Wn Hn N := ⟨_, rfl⟩
  have HE := hidA (show EdOk N E from by rw [hEe]; exact edA_ok hR hN hh)
  have HCs := fun (w0 : World) (h0 : Ext w w0) => hidA (Costs_of X Y Wn Hn A N c R.gr R.wt R.br R.de R.sp C m cc (X + ((k % Wn : Nat) : Int)) (Y + ((k / Wn : Nat) : Int)) w0 (fun v u e w => ∃ go gs P sn, v = .slice (some ⟨go, 0, none⟩) N N ∧ u = .slice (some ⟨gs, 0, none⟩) N N ∧ e = 0 ∧ Bk w go 27 (flo N P) ∧ Bk w gs 4 (bools N sn) ∧ PrOk N E k sn P)
    (fun v u e w1 w2 ⟨go, gs, P, sn, h1, h2, h3, h4, h5, h6⟩ hx => ⟨go, gs, P, sn, h1, h2, h3, h4.ext hx, h5.ext hx, h6⟩)
    (fun w' h => hidA ((pricesFrom_ok X Y Wn Hn A N c R C m cc k lf X' Y' W' H' l w' hr hN hR hn hh hk (hV.ext (h0.trans h)) (hCo.ext (h0.trans h)) (hC.ext (h0.trans h)) hg).mono (by
      rintro e w'' ⟨go, gs, P, sn, rfl, _, _, h1, h2, h3, h4⟩
      exact ⟨k, _, _, _, _, _, _, _, rfl, h4, go, gs, P, sn, rfl, rfl, rfl, h1, h2, by rw [hEe]; exact h3⟩))))
  have HCq := fun (w0 : World) (h0 : Ext w w0) => hidA (show Calls Try.prog 27 #[.agg #[.int .i64 X, .int .i64 Y, .int .i64 (Wn : Int), .int .i64 (Hn : Int), .slice A N c], .agg #[.float .f32 R.gr, .float .f32 R.wt, .float .f32 R.br, .float .f32 R.de, .int .i64 (R.sp : Int), .slice C m cc], .agg #[.int .i64 (X + ((k % Wn : Nat) : Int)), .int .i64 (Y + ((k / Wn : Nat) : Int))]] w0 fun e w' => ∃ (go gs : Nat) (P : Nat → Nat) (sn : Nat → Bool), e = .returned (.tuple #[.slice (some ⟨go, 0, none⟩) N N, .slice (some ⟨gs, 0, none⟩) N N, .int .i64 0]) ∧ Ext w0 w' ∧ Bk w' go 27 (flo N P) ∧ Bk w' gs 4 (bools N sn) ∧ PrOk N E k sn P from
    (HCs w0 h0).out.mono (by
      rintro e w'' ⟨_, _, _, _, _, _, _, rfl, h1, go, gs, P, sn, e1, e2, e3, h4, h5, h6⟩
      exact ⟨go, gs, P, sn, by rw [e1, e2, e3], h1, h4, h5, h6⟩))
  clear HCs
  have HWi := fun (w' : World) (h : Ext w w') => hidA (show Calls Try.prog 28 #[.agg #[.int .i64 X, .int .i64 Y, .int .i64 (Wn : Int), .int .i64 (Hn : Int), .slice A N c], .agg #[.float .f32 R.gr, .float .f32 R.wt, .float .f32 R.br, .float .f32 R.de, .int .i64 (R.sp : Int), .slice C m cc], .agg #[.int .i64 (X + ((k % Wn : Nat) : Int)), .int .i64 (Y + ((k / Wn : Nat) : Int))], .float .f32 mo] w' fun e w'' => ∃ (v : Value) (ev : Int), e = .returned (.tuple #[v, .int .i64 ev]) ∧ Ext w' w'' ∧ (numE [mo] ≠ 0 ∧ v = .slice none 0 0 ∧ ev = numE [mo] ∨ numE [mo] = 0 ∧ ev = 0 ∧ ∃ (base : Nat) (sn : Nat → Bool) (P : Nat → Nat), PrOk N E k sn P ∧ OwnP w'' base v (nearL X Y Wn sn P mo N)) from by
    by_cases hq : numE [mo] = 0
    · refine (Wi_ok X Y Wn Hn A N c R C m cc k mo lf X' Y' W' H' l w' hr hN hR hn hh hk (hV.ext h) (hCo.ext h) (hC.ext h) hg hq).mono ?_
      rintro e w'' ⟨v, base, sn, P, rfl, h1, h2, h3⟩
      exact ⟨v, 0, rfl, h3, .inr ⟨hq, rfl, base, sn, P, by rw [hEe]; exact h1, h2⟩⟩
    · refine (Wi_bad3 X Y Wn Hn A N c lf R.gr R.wt R.br R.de R.sp C m cc X' Y' W' H' l (X + ((k % Wn : Nat) : Int)) (Y + ((k / Wn : Nat) : Int)) mo w' hn (hV.ext h) hb (hC.ext h) hm hr.ok hg hi0 hq).mono ?_
      rintro e w'' ⟨rfl, h1⟩
      exact ⟨_, _, rfl, h1, .inl ⟨hq, rfl, rfl⟩⟩)
  have HLo := fun (w' : World) (h : Ext w w') (h60 : N ≤ 60) => hidA (LeastOf_any X Y Wn Hn A N c R C m cc k lf w' hr hN hR hn hh hk h60 (hV.ext h) (hCo.ext h))
  unfold LeastPost at HLo
  rw [← hEe] at HLo
  have HNe := fun (w' : World) (B : Option Addr) (h : Rd w' B (flt [mo])) => hidA (numberError_any B 1 1 [mo] w' rfl h (by omega))
  have HPl := fun (j : Nat) (w : World) (hj : j < N) => hidA (show Calls Try.prog 33 #[.agg #[.int .i64 X, .int .i64 Y, .int .i64 (Wn : Int), .int .i64 (Hn : Int)], .int .i64 j] w fun e w' => e = .returned (.tuple #[.int .i64 (X + ((j % Wn : Nat) : Int)), .int .i64 (Y + ((j / Wn : Nat) : Int))]) ∧ Ext w w' from by
    have h9 := Place_any X Y Wn Hn j w hr.ok (by omega)
    rw [pK] at h9
    exact h9)
  have HGE := fun (w' : World) (h : Ext w w') => hidA (GroundError_any X Y Wn Hn A N c lf R.gr R.wt R.br R.de R.sp C m cc X' Y' W' H' l w' hn (hV.ext h) hb (hC.ext h) hm)
  have HL := fun (w : World) => hidA (leads_any w)
  have HWh := fun (b : Bool) (w : World) => hidA (when_any b 5 w)
  rw [hg] at HGE
  have hb1 : hasB X Y Wn Hn (X + ((k % Wn : Nat) : Int)) (Y + ((k / Wn : Nat) : Int)) = true := by rw [hasB_ok hr.ok]; exact decide_eq_true hi1
  have HHa := fun (w : World) => hidA (has_any X Y Wn Hn (X + ((k % Wn : Nat) : Int)) (Y + ((k / Wn : Nat) : Int)) w)
  rw [hb1] at HHa
  have HS : ∀ (B : Option Addr) (w : World), Rd w B ([0, 0].map (.int .i64)) → Hid (Calls Try.prog 17 #[.slice B 2 2] w fun e w' => e = .returned (.int .i64 0) ∧ w = w') := fun B w h => hidA (first_any B 2 2 [0, 0] w rfl h (by omega))
  obtain ⟨ti, hi0', hz0, hz1, hz2⟩ := info_parts infoPt
  clear hn hV hb hC hm hg hr hN hR hh hk hCo hi1 hi0 hb1 hEe
  generalize X + ((k % Wn : Nat) : Int) = ax at *
  generalize Y + ((k / Wn : Nat) : Int) = ay at *
  go_enter Try.func6, Try.ntmps6
  go_upto_region 1 with fail
  obtain ⟨w0, hw0⟩ : ∃ w0, w0 = ((w.alloc (.cells #[.int .i64 X, .int .i64 Y, .int .i64 (Wn : Int), .int .i64 (Hn : Int), .slice A N c] 26)).alloc (.cells #[.float .f32 R.gr, .float .f32 R.wt, .float .f32 R.br, .float .f32 R.de, .int .i64 (R.sp : Int), .slice C m cc] 30)).alloc (.cells #[.int .i64 ax, .int .i64 ay] 32) := ⟨_, rfl⟩
  have kF : Bk w0 w.heap.size 26 #[.int .i64 X, .int .i64 Y, .int .i64 (Wn : Int), .int .i64 (Hn : Int), .slice A N c] := by rw [hw0]; exact ((Bk.new' rfl).alloc _).alloc _
  have kR : Bk w0 (w.heap.size + 1) 30 #[.float .f32 R.gr, .float .f32 R.wt, .float .f32 R.br, .float .f32 R.de, .int .i64 (R.sp : Int), .slice C m cc] := by rw [hw0]; exact (Bk.new' (by simp)).alloc _
  have kA : Bk w0 (w.heap.size + 1 + 1) 32 #[.int .i64 ax, .int .i64 ay] := by rw [hw0]; exact Bk.new' (by simp)
  have hx0 : Ext w w0 := by rw [hw0]; exact (((Ext.refl w).alloc _).alloc _).alloc _
  rw [← hw0]
  clear hw0
  generalize w.heap.size + 1 + 1 = ha' at *
  generalize w.heap.size + 1 = hr' at *
  generalize hfe : w.heap.size = hf at *
  clear hfe
  have x0 := kF.cell 0
  have x1 := kF.cell 1
  have x2 := kF.cell 2
  have x3 := kF.cell 3
  have x4 := kF.cell 4
  have y0 := kR.cell 0
  have y1 := kR.cell 1
  have y2 := kR.cell 2
  have y3 := kR.cell 3
  have y4 := kR.cell 4
  have y5 := kR.cell 5
  have u0 := kA.cell 0
  have u1 := kA.cell 1
  go_upto_region 2 with (go_at_call 27; refine ((HCq _ hx0).out).mono ?_; rintro e w1 ⟨go, gs, P, sn, rfl, hx1, kO, kS, hOk⟩)
  clear x0 x1 x2 x3 x4 y0 y1 y2 y3 y4 y5 u0 u1 HCq
  have x0 := (kF.ext hx1).cell 0
  have x1 := (kF.ext hx1).cell 1
  have x2 := (kF.ext hx1).cell 2
  have x3 := (kF.ext hx1).cell 3
  have x4 := (kF.ext hx1).cell 4
  have y0 := (kR.ext hx1).cell 0
  have y1 := (kR.ext hx1).cell 1
  have y2 := (kR.ext hx1).cell 2
  have y3 := (kR.ext hx1).cell 3
  have y4 := (kR.ext hx1).cell 4
  have y5 := (kR.ext hx1).cell 5
  have u0 := (kA.ext hx1).cell 0
  have u1 := (kA.ext hx1).cell 1
  go_upto_region 3 with (go_at_call 28; refine ((HWi _ (hx0.trans hx1)).out).mono ?_; rintro e w2 ⟨v, ev, rfl, hx2, hwi⟩)
  clear x0 x1 x2 x3 x4 y0 y1 y2 y3 y4 y5 u0 u1 HWi
  have hx02 : Ext w0 w2 := hx1.trans hx2
  have HOk := hidA hOk
  have Hwi := hidA hwi
  have kO2 := kO.ext hx2
  have kS2 := kS.ext hx2
  clear hOk hwi kO kS
  have f0 : ∀ w', Ext w2 w' → w'.cell? ⟨hf, 0, none⟩ = some (.int .i64 X) := fun w' h => (kF.ext (hx02.trans h)).cell 0
  have f1 : ∀ w', Ext w2 w' → w'.cell? ⟨hf, 1, none⟩ = some (.int .i64 Y) := fun w' h => (kF.ext (hx02.trans h)).cell 1
  have f2 : ∀ w', Ext w2 w' → w'.cell? ⟨hf, 2, none⟩ = some (.int .i64 (Wn : Int)) := fun w' h => (kF.ext (hx02.trans h)).cell 2
  have f3 : ∀ w', Ext w2 w' → w'.cell? ⟨hf, 3, none⟩ = some (.int .i64 (Hn : Int)) := fun w' h => (kF.ext (hx02.trans h)).cell 3
  have f4 : ∀ w', Ext w2 w' → w'.cell? ⟨hf, 4, none⟩ = some (.slice A N c) := fun w' h => (kF.ext (hx02.trans h)).cell 4
  have r0 : ∀ w', Ext w2 w' → w'.cell? ⟨hr', 0, none⟩ = some (.float .f32 R.gr) := fun w' h => (kR.ext (hx02.trans h)).cell 0
  have r1 : ∀ w', Ext w2 w' → w'.cell? ⟨hr', 1, none⟩ = some (.float .f32 R.wt) := fun w' h => (kR.ext (hx02.trans h)).cell 1
  have r2 : ∀ w', Ext w2 w' → w'.cell? ⟨hr', 2, none⟩ = some (.float .f32 R.br) := fun w' h => (kR.ext (hx02.trans h)).cell 2
  have r3 : ∀ w', Ext w2 w' → w'.cell? ⟨hr', 3, none⟩ = some (.float .f32 R.de) := fun w' h => (kR.ext (hx02.trans h)).cell 3
  have r4 : ∀ w', Ext w2 w' → w'.cell? ⟨hr', 4, none⟩ = some (.int .i64 (R.sp : Int)) := fun w' h => (kR.ext (hx02.trans h)).cell 4
  have r5 : ∀ w', Ext w2 w' → w'.cell? ⟨hr', 5, none⟩ = some (.slice C m cc) := fun w' h => (kR.ext (hx02.trans h)).cell 5
  have a0 : ∀ w', Ext w2 w' → w'.cell? ⟨ha', 0, none⟩ = some (.int .i64 ax) := fun w' h => (kA.ext (hx02.trans h)).cell 0
  have a1 : ∀ w', Ext w2 w' → w'.cell? ⟨ha', 1, none⟩ = some (.int .i64 ay) := fun w' h => (kA.ext (hx02.trans h)).cell 1
  refine wp_region_noPanic ?_
  refine wp_region_held_drew (S := fun w' => Ext w2 w') (by kernel_rfl) ?_ (fun hHeld => ?_)
  · (repeat (first | exact Ext.refl _ | assumption | refine Ext.setCell ?_ (by first | (simp; done) | (simp; omega)) _ | refine Ext.drewN ?_ _ | refine Ext.alloc ?_ _ | refine Ext.drew ?_ | refine Ext.trans ?_ (by assumption)))
  refine wpAnyH_take (i := 0) (oi := ?o3x0) (v := ?v3x0) ?hi3x0 (by kernel_rfl) ?hf3x0 ?hr3x0 (fun _ _ _ h => h) ?hy3x0 (by assumption) ?rest3x0
  case hi3x0 => (simp only [List.getElem?_toArray, List.getElem?_cons_zero]; exact rfl)
  case hf3x0 => kernel_rfl
  case hr3x0 => kernel_rfl
  case hy3x0 => (refine Or.inl ⟨by rfl, ?_⟩; intro w hSw; (try dsimp only at hSw); go_simp; try with_reducible rfl)
  simp only [put_mk, List.set_cons_succ, List.set_cons_zero]
  refine wpAnyH_take (i := 1) (oi := ?o3x1) (v := ?v3x1) ?hi3x1 (by kernel_rfl) ?hf3x1 ?hr3x1 (fun _ _ _ h => h) ?hy3x1 (by assumption) ?rest3x1
  case hi3x1 => (simp only [List.getElem?_toArray, List.getElem?_cons_succ, List.getElem?_cons_zero]; exact rfl)
  case hf3x1 => kernel_rfl
  case hr3x1 => kernel_rfl
  case hy3x1 => (refine Or.inl ⟨by rfl, ?_⟩; intro w hSw; (try dsimp only at hSw); go_simp; try with_reducible rfl)
  simp only [put_mk, List.set_cons_succ, List.set_cons_zero]
  refine wpAnyH_take (i := 3) (oi := ?o3x3) (v := ?v3x3) ?hi3x3 (by kernel_rfl) ?hf3x3 ?hr3x3 (fun _ _ _ h => h) ?hy3x3 (by assumption) ?rest3x3
  case hi3x3 => (simp only [List.getElem?_toArray, List.getElem?_cons_succ, List.getElem?_cons_zero]; exact rfl)
  case hf3x3 => kernel_rfl
  case hr3x3 => kernel_rfl
  case hy3x3 => (refine Or.inl ⟨by rfl, ?_⟩; intro w hSw; (try dsimp only at hSw); go_simp; try with_reducible rfl)
  simp only [put_mk, List.set_cons_succ, List.set_cons_zero]
  refine wpAnyH_take (i := 4) (oi := ?o3x4) (v := ?v3x4) ?hi3x4 (by kernel_rfl) ?hf3x4 ?hr3x4 (fun _ _ _ h => h) ?hy3x4 (by assumption) ?rest3x4
  case hi3x4 => (simp only [List.getElem?_toArray, List.getElem?_cons_succ, List.getElem?_cons_zero]; exact rfl)
  case hf3x4 => kernel_rfl
  case hr3x4 => kernel_rfl
  case hy3x4 => (refine Or.inl ⟨by rfl, ?_⟩; intro w hSw; (try dsimp only at hSw); go_simp; try with_reducible rfl)
  simp only [put_mk, List.set_cons_succ, List.set_cons_zero]
  refine wpAnyH_take (i := 5) (oi := ?o3x5) (v := ?v3x5) ?hi3x5 (by kernel_rfl) ?hf3x5 ?hr3x5 (fun _ _ _ h => h) ?hy3x5 (by assumption) ?rest3x5
  case hi3x5 => (simp only [List.getElem?_toArray, List.getElem?_cons_succ, List.getElem?_cons_zero]; exact rfl)
  case hf3x5 => kernel_rfl
  case hr3x5 => kernel_rfl
  case hy3x5 => (refine Or.inl ⟨by rfl, ?_⟩; intro w hSw; (try dsimp only at hSw); go_simp; try with_reducible rfl)
  simp only [put_mk, List.set_cons_succ, List.set_cons_zero]
  refine wpAnyH_take (i := 6) (oi := ?o3x6) (v := ?v3x6) ?hi3x6 (by kernel_rfl) ?hf3x6 ?hr3x6 (fun _ _ _ h => h) ?hy3x6 (by assumption) ?rest3x6
  case hi3x6 => (simp only [List.getElem?_toArray, List.getElem?_cons_succ, List.getElem?_cons_zero]; exact rfl)
  case hf3x6 => kernel_rfl
  case hr3x6 => kernel_rfl
  case hy3x6 => (refine Or.inl ⟨by rfl, ?_⟩; intro w hSw; (try dsimp only at hSw); go_simp; try with_reducible rfl)
  simp only [put_mk, List.set_cons_succ, List.set_cons_zero]
  refine wpAnyH_take (i := 7) (oi := ?o3x7) (v := ?v3x7) ?hi3x7 (by kernel_rfl) ?hf3x7 ?hr3x7 (fun _ _ _ h => h) ?hy3x7 (by assumption) ?rest3x7
  case hi3x7 => (simp only [List.getElem?_toArray, List.getElem?_cons_succ, List.getElem?_cons_zero]; exact rfl)
  case hf3x7 => kernel_rfl
  case hr3x7 => kernel_rfl
  case hy3x7 => (refine Or.inl ⟨by rfl, ?_⟩; intro w hSw; (try dsimp only at hSw); go_simp; try with_reducible rfl)
  simp only [put_mk, List.set_cons_succ, List.set_cons_zero]
  refine wpAnyH_take (i := 8) (oi := ?o3x8) (v := ?v3x8) ?hi3x8 (by kernel_rfl) ?hf3x8 ?hr3x8 (fun _ _ _ h => h) ?hy3x8 (by assumption) ?rest3x8
  case hi3x8 => (simp only [List.getElem?_toArray, List.getElem?_cons_succ, List.getElem?_cons_zero]; exact rfl)
  case hf3x8 => kernel_rfl
  case hr3x8 => kernel_rfl
  case hy3x8 => (refine Or.inl ⟨by rfl, ?_⟩; intro w hSw; (try dsimp only at hSw); go_simp; try with_reducible rfl)
  simp only [put_mk, List.set_cons_succ, List.set_cons_zero]
  refine wpAnyH_ready (rs := [2]) (by kernel_rfl) (by simp) ?_
  refine AllReadyH.cons (o := ?o3x2) ?hi3x2 (fun K hK => ?_) AllReadyH.nil
  case hi3x2 => (simp only [List.getElem?_toArray, List.getElem?_cons_succ, List.getElem?_cons_zero]; exact rfl)
  go_simp
  refine ((HGE _ ((hx0.trans hx02).trans hHeld)).out).mono ?_
  rintro e w7 ⟨rfl, hx7⟩
  refine hK.out _ _ ?_ (fun hHeld => ?_)
  · (repeat (first | exact Ext.refl _ | assumption | refine Ext.setCell ?_ (by first | (simp; done) | (simp; omega)) _ | refine Ext.drewN ?_ _ | refine Ext.alloc ?_ _ | refine Ext.drew ?_ | refine Ext.trans ?_ (by assumption)))
  clear hK K
  refine wpAnyH_ready (rs := [9]) (by kernel_rfl) (by simp) ?_
  refine AllReadyH.cons (o := ?o3x9) ?hi3x9 (fun K hK => ?_) AllReadyH.nil
  case hi3x9 => (simp only [List.getElem?_toArray, List.getElem?_cons_succ, List.getElem?_cons_zero]; exact rfl)
  go_simp
  refine ((HHa _).out).mono ?_
  rintro e w7 ⟨rfl, hx7⟩
  refine hK.out _ _ ?_ (fun hHeld => ?_)
  · (repeat (first | exact Ext.refl _ | assumption | refine Ext.setCell ?_ (by first | (simp; done) | (simp; omega)) _ | refine Ext.drewN ?_ _ | refine Ext.alloc ?_ _ | refine Ext.drew ?_ | refine Ext.trans ?_ (by assumption)))
  clear hK K
  refine wpAnyH_take (i := 10) (oi := ?o3x10) (v := ?v3x10) ?hi3x10 (by kernel_rfl) ?hf3x10 ?hr3x10 (fun _ _ _ h => h) ?hy3x10 (by assumption) ?rest3x10
  case hi3x10 => (simp only [List.getElem?_toArray, List.getElem?_cons_succ, List.getElem?_cons_zero]; exact rfl)
  case hf3x10 => kernel_rfl
  case hr3x10 => kernel_rfl
  case hy3x10 => (refine Or.inl ⟨by rfl, ?_⟩; intro w hSw; (try dsimp only at hSw); go_simp; try with_reducible rfl)
  simp only [put_mk, List.set_cons_succ, List.set_cons_zero]
  refine wpAnyH_ready (rs := [11]) (by kernel_rfl) (by simp) ?_
  refine AllReadyH.cons (o := ?o3x11) ?hi3x11 (fun K hK => ?_) AllReadyH.nil
  case hi3x11 => (simp only [List.getElem?_toArray, List.getElem?_cons_succ, List.getElem?_cons_zero]; exact rfl)
  go_simp
  refine ((HWh _ _).out).mono ?_
  rintro e w7 ⟨rfl, hw7⟩
  subst hw7
  refine hK.out _ _ ?_ (fun hHeld => ?_)
  · (repeat (first | exact Ext.refl _ | assumption | refine Ext.setCell ?_ (by first | (simp; done) | (simp; omega)) _ | refine Ext.drewN ?_ _ | refine Ext.alloc ?_ _ | refine Ext.drew ?_ | refine Ext.trans ?_ (by assumption)))
  clear hK K
  refine wpAnyH_ready (rs := [12]) (by kernel_rfl) (by simp) ?_
  refine AllReadyH.cons (o := ?o3x12) ?hi3x12 (fun K hK => ?_) AllReadyH.nil
  case hi3x12 => (simp only [List.getElem?_toArray, List.getElem?_cons_succ, List.getElem?_cons_zero]; exact rfl)
  go_simp
  refine hK.out _ _ ?_ (fun hHeld => ?_)
  · (repeat (first | exact Ext.refl _ | assumption | refine Ext.setCell ?_ (by first | (simp; done) | (simp; omega)) _ | refine Ext.drewN ?_ _ | refine Ext.alloc ?_ _ | refine Ext.drew ?_ | refine Ext.trans ?_ (by assumption)))
  clear hK K
  refine wpAnyH_ready (rs := [13]) (by kernel_rfl) (by simp) ?_
  refine AllReadyH.cons (o := ?o3x13) ?hi3x13 (fun K hK => ?_) AllReadyH.nil
  case hi3x13 => (simp only [List.getElem?_toArray, List.getElem?_cons_succ, List.getElem?_cons_zero]; exact rfl)
  go_simp
  refine ((HS _ _ (Rd.new (by first | rfl | simp) (by first | rfl | simp))).out).mono ?_
  rintro e w7 ⟨rfl, hw7⟩
  subst hw7
  refine hK.out _ _ ?_ (fun hHeld => ?_)
  · (repeat (first | exact Ext.refl _ | assumption | refine Ext.setCell ?_ (by first | (simp; done) | (simp; omega)) _ | refine Ext.drewN ?_ _ | refine Ext.alloc ?_ _ | refine Ext.drew ?_ | refine Ext.trans ?_ (by assumption)))
  clear hK K
  refine wpAnyH_take (i := 14) (oi := ?o3x14) (v := ?v3x14) ?hi3x14 (by kernel_rfl) ?hf3x14 ?hr3x14 (fun _ _ _ h => h) ?hy3x14 (by assumption) ?rest3x14
  case hi3x14 => (simp only [List.getElem?_toArray, List.getElem?_cons_succ, List.getElem?_cons_zero]; exact rfl)
  case hf3x14 => kernel_rfl
  case hr3x14 => kernel_rfl
  case hy3x14 => (refine Or.inl ⟨by rfl, ?_⟩; intro w hSw; (try dsimp only at hSw); go_simp; try with_reducible rfl)
  simp only [put_mk, List.set_cons_succ, List.set_cons_zero]
  refine wpAnyH_done (by kernel_rfl) ?_ _
  refine NoPanic.normal ?_
  clear f0 f1 f2 f3 f4 r0 r1 r2 r3 r4 r5 a0 a1 HGE HHa HS HWh
  have X4 := hidA (fun (w' : World) (h : Ext w2 w') => (kF.ext (hx02.trans h)).cell 4)
  have hxw2 := hx0.trans hx02
  by_cases h60 : 60 < N
  · have d60 : decide ((60 : Int) < (N : Int)) = true := by simp; omega
    go_upto_region 6 with (go_at_call 15; refine ((HL _).out).mono ?_; rintro e w3 ⟨rfl, hx3⟩)
    have hxq : Ext w2 w3 := (by repeat (first | exact Ext.refl _ | assumption | refine Ext.setCell ?_ (by first | (simp; done) | (simp; omega)) _ | refine Ext.drewN ?_ _ | refine Ext.alloc ?_ _ | refine Ext.drew ?_ | refine Ext.trans ?_ (by assumption)))
    have x4' := X4.out _ hxq
    clear hx3 hHeld
    go_wp2
    go_ret
    exact ⟨by first | rfl | simp, hxw2.trans hxq⟩
  · have d60 : decide ((60 : Int) < (N : Int)) = false := by simp; omega
    have hN60 : N ≤ 60 := by omega
    have HLq := fun (w' : World) (h : Ext w w') => HLo w' h hN60
    clear HLo
    go_upto_region 6 with (go_at_call 15; refine ((HL _).out).mono ?_; rintro e w3 ⟨rfl, hx3⟩)
    have hxq : Ext w2 w3 := (by repeat (first | exact Ext.refl _ | assumption | refine Ext.setCell ?_ (by first | (simp; done) | (simp; omega)) _ | refine Ext.drewN ?_ _ | refine Ext.alloc ?_ _ | refine Ext.drew ?_ | refine Ext.trans ?_ (by assumption)))
    have hx03 := hx02.trans hxq
    clear hx3 hHeld HL
    have x0 := (kF.ext hx03).cell 0
    have x1 := (kF.ext hx03).cell 1
    have x2 := (kF.ext hx03).cell 2
    have x3 := (kF.ext hx03).cell 3
    have x4 := (kF.ext hx03).cell 4
    have y0 := (kR.ext hx03).cell 0
    have y1 := (kR.ext hx03).cell 1
    have y2 := (kR.ext hx03).cell 2
    have y3 := (kR.ext hx03).cell 3
    have y4 := (kR.ext hx03).cell 4
    have y5 := (kR.ext hx03).cell 5
    have u0 := (kA.ext hx03).cell 0
    have u1 := (kA.ext hx03).cell 1
    go_upto_region 9 with (go_at_call 29; refine ((HLq _ (hx0.trans hx03)).out).mono ?_; rintro e w4 ⟨ho, hi, hg, sn2, P2, H2, rfl, qO, qI, _, hOk2, _, hx4⟩)
    clear x0 x1 x2 x3 x4 y0 y1 y2 y3 y4 y5 u0 u1 HLq
    have Hu := hidA (fun j (hj : j < N) => HOk.out.unique HE.out hOk2 hj)
    rw [← flo_congrC (fun j hj => (Hu.out j hj).2)] at qO
    rw [← bools_congrC (fun j hj => (Hu.out j hj).1)] at qI
    have hx24 := hxq.trans hx4
    have HBi := fun (w' : World) (h : Ext w4 w') => hidA (bits_same (some ⟨go, 0, none⟩) (some ⟨ho, 0, none⟩) N N N ((List.range N).map P) w' (by simp) (by rw [← flo_listC]; exact Rd.of_bkC (kO2.ext (hx24.trans h))) (by rw [← flo_listC]; exact Rd.of_bkC (qO.ext h)) (by omega))
    have HBo := fun (w' : World) (h : Ext w4 w') => hidA (eqBo_same gs hi N sn w' (kS2.ext (hx24.trans h)) (qI.ext h) hN6)
    have hxw4 := hxw2.trans hx24
    have kF4 := kF.ext (hx02.trans hx24)
    clear kR kA hx4 hx03 hOk2 X4
    go_upto_region 11 with (first | (go_at_call 30; refine ((HBi _ (Ext.refl _)).out).mono ?_; rintro e w8 ⟨rfl, hw8⟩; subst hw8) | (go_at_call 31; refine ((HBo _ (Ext.refl _)).out).mono ?_; rintro e w5 ⟨rfl, hx5⟩))
    clear HBi HBo
    by_cases hq : numE [mo] = 0
    · obtain ⟨rfl, base, sn3, P3, hOk3, hO3⟩ : ev = 0 ∧ ∃ (base : Nat) (sn : Nat → Bool) (P : Nat → Nat), PrOk N E k sn P ∧ OwnP w2 base v (nearL X Y Wn sn P mo N) := by
        rcases Hwi.out with ⟨h, _⟩ | ⟨_, h1, h2⟩
        · exact absurd hq h
        · exact ⟨h1, h2⟩
      rw [hq] at HNe
      rw [nearL_congr (sn' := sn) (P' := P) N (fun j hj => hOk3.unique HE.out HOk.out hj)] at hO3
      obtain ⟨B3, c3, rfl, hr3⟩ := hO3.anyC
      have HR3 := hidA hr3
      clear Hwi hOk3 hO3 hq hr3
      go_upto_region 12 with (go_at_call 32; refine ((HNe _ _ (Rd.new rfl rfl)).out).mono ?_; rintro e w9 ⟨rfl, hw9⟩; subst hw9)
      have hxm : Ext w5 (w5.alloc (.cells #[.float .f32 mo] 27)) := (Ext.refl w5).alloc _
      have hx45 := hx5.trans hxm
      have HX45 := hidA hx45
      have kF5 := kF4.ext hx45
      have qO5 := qO.ext hx45
      have qI5 := qI.ext hx45
      have HR5 := hidA (HR3.out.ext (hx24.trans hx45))
      have hxw5 := hxw4.trans hx45
      clear hxm hx45 kF4 qO qI kO2 kS2 kF HNe HR3 hx24 hx5
      generalize w5.alloc (.cells #[.float .f32 mo] 27) = w6 at *
      have f4 := kF5.cell 4
      go_upto_region 16 with fail
      clear f4
      go_loopw [19, 129] (fun s19 s129 wr => ∃ j : Nat, j ≤ N ∧ s129 = .int .i64 j ∧ OwnP wr w6.heap.size s19 (nearL X Y Wn sn P mo j) ∧ Ext w6 wr) (fun _ s129 _ => N - (intOf s129).toNat)
      case atStart => exact ⟨0, Nat.zero_le _, rfl, World.ownsRow_nil _ _ _ _, Ext.refl _⟩
      case round =>
        obtain ⟨j, hj, rfl, hO, hx⟩ := hrel
        by_cases hjN : j < N
        · have HjN := hidA hjN
          have i0 : (0 : Int) ≤ j := by omega
          have i1 : (j : Int) < N := by omega
          have s1 : wr.cell? ⟨hi, j, none⟩ = some (.bool (sn j)) := by rw [(qI5.ext hx).cell]; exact bools_get _ hjN
          have Hlen := hidA (Nat.le_trans (nearL_le X Y Wn sn P mo j) (by omega : j ≤ 65536))
          have Hnx := hidA (show nearL X Y Wn sn P mo (j + 1) = nearL X Y Wn sn P mo j ++ (if (sn j && leB (P j) mo) = true then [cpt X Y Wn j] else []) from rfl)
          cases hsn : sn j
          · rw [hsn] at s1 Hnx
            rw [Bool.false_and, if_neg (by decide), List.append_nil] at Hnx
            have HO := hidA hO
            clear hO hsn
            go_wp2
            go_roundw
            case rel => exact ⟨j + 1, HjN.out, (by first | rfl | go_num), by rw [Hnx.out]; exact HO.out, hx⟩
            case measure => first | exact nx_w HjN.out hN6 | exact nxt_kW HjN.out
          · rw [hsn] at s1 Hnx
            rw [Bool.true_and] at Hnx
            have o1 : wr.cell? ⟨ho, j, none⟩ = some (.float .f32 (P j)) := by rw [(qO5.ext hx).cell]; exact flo_get _ hjN
            cases hle : leB (P j) mo
            · have hq2 : (FloatKind.f32.format.order (P j) mo == some .lt || FloatKind.f32.format.order (P j) mo == some .eq) = false := hle
              rw [hle, if_neg (by decide), List.append_nil] at Hnx
              have HO := hidA hO
              clear hO hsn hle
              go_wp2
              go_roundw
              case rel => exact ⟨j + 1, HjN.out, (by first | rfl | go_num), by rw [Hnx.out]; exact HO.out, hx⟩
              case measure => first | exact nx_w HjN.out hN6 | exact nxt_kW HjN.out
            · have hq2 : (FloatKind.f32.format.order (P j) mo == some .lt || FloatKind.f32.format.order (P j) mo == some .eq) = true := hle
              rw [hle, if_pos rfl] at Hnx
              have HPp := fun (w : World) => HPl j w hjN
              have Hcp := hidA (show cpt X Y Wn j = (X + ((j % Wn : Nat) : Int), Y + ((j / Wn : Nat) : Int)) from rfl)
              generalize X + ((j % Wn : Nat) : Int) = qx at *
              generalize Y + ((j / Wn : Nat) : Int) = qy at *
              have HO := hidA hO
              have honeN : Hid (∀ u ∈ ([.int .i64 qx, .int .i64 qy] : List Value), u.oneCell' = true) := by intro u hu; simp at hu; rcases hu with rfl | rfl <;> rfl
              have hmxN := hidA (maxW Hlen.out).1
              have hmbN := hidA (maxW Hlen.out).2
              have HX := hidA hx
              clear hO hsn hle
              go_upto_region 19 with fail
              clear s1 o1 hq2
              have f0 := (kF5.ext HX.out).cell 0
              have f1 := (kF5.ext HX.out).cell 1
              have f2 := (kF5.ext HX.out).cell 2
              have f3 := (kF5.ext HX.out).cell 3
              go_upto_region 20 with (go_at_call 33; refine ((HPp _).out).mono ?_; rintro e wp ⟨rfl, hxp⟩)
              have hxn : Ext wr (wp.alloc (.cells #[.int .i64 qx, .int .i64 qy] 32)) := hxp.alloc _
              have hownN := hidA (HO.out.ext hxn)
              have hnewN : Hid (∀ j u, ([.int .i64 qx, .int .i64 qy] : List Value)[j]? = some u → (wp.alloc (.cells #[.int .i64 qx, .int .i64 qy] 32)).cell? ((⟨wp.heap.size, 0, none⟩ : Addr).add j) = some u) := World.news_of_block (cs := #[.int .i64 qx, .int .i64 qy]) (t := 32) (fr := (0, 0)) (heap_alloc_new wp _)
              have hsN := hidA ((HX.out.trans hxn).size)
              have Hxn := hidA (HX.out.trans hxn)
              clear hxn hxp hx f0 f1 f2 f3
              go_upto_region 21 with (at_builtin; (refine wpList_append_lies _ (by rfl) _ _ 46 (by rfl) w6.heap.size 32 ti (.agg #[.int .i64 0, .int .i64 0]) 2 16 Try.underlying46 hi0' hz0 hz1 hz2 (by rfl) (by decide) _ _ _ (by rfl) hownN.out ⟨wp.heap.size, 0, none⟩ 1 1 [.int .i64 qx, .int .i64 qy] (by rfl) (by rfl) hnewN.out honeN.out (by omega) hmxN.out hmbN.out hsN.out (wp.heap.size + 1) (by simp) ?_; intro gA capA wA hownA hgrowA hatA hltA))
              have hxA : Ext w6 wA := Hxn.out.grown hgrowA (fun b hb => (World.ownsRow.lt hownN.out b hb).1)
              have hOA : OwnP wA w6.heap.size (.slice (some ⟨gA, 0, none⟩) ((nearL X Y Wn sn P mo j).length + 1) capA) (nearL X Y Wn sn P mo (j + 1)) := by
                rw [Hnx.out, Hcp.out]
                exact OwnP.pushW hownA
              have HOA := hidA hOA
              have HxA := hidA hxA
              clear hownN hnewN honeN hsN Hxn hgrowA hatA hltA hownA hmxN hmbN hOA hxA
              go_wp2
              go_roundw
              case rel => exact ⟨j + 1, HjN.out, (by first | rfl | go_num), HOA.out, HxA.out⟩
              case measure => first | exact nx_w HjN.out hN6 | exact nxt_kW HjN.out
        · obtain rfl : j = N := by omega
          obtain ⟨B4, c4, rfl, hr4⟩ := hO.anyC
          have hnl := nearL_le X Y Wn sn P mo j
          have HEq := hidA (eqPts_same B3 B4 _ c3 c4 (nearL X Y Wn sn P mo j) wr rfl (HR5.out.ext hx) hr4 (by omega))
          have Hend := hidA (hxw5.trans hx)
          generalize (nearL X Y Wn sn P mo j).length = q at *
          clear hO hr4 hx hj hjN hnl
          go_wp2_with (go_at_call 26; refine HEq.out.mono ?_; rintro e w9 ⟨rfl, hx9⟩)
          go_ret
          exact ⟨by first | rfl | simp, Hend.out.trans hx9⟩
    · obtain ⟨rfl, hev⟩ : v = .slice none 0 0 ∧ ev = numE [mo] := by
        rcases Hwi.out with ⟨_, h1, h2⟩ | ⟨h, _⟩
        · exact ⟨h1, h2⟩
        · exact absurd h hq
      have hne : (numE [mo] != 0) = true := by simpa using hq
      subst hev
      clear Hwi hq
      generalize numE [mo] = ev at *
      go_wp2_with (go_at_call 32; refine ((HNe _ _ (Rd.new rfl rfl)).out).mono ?_; rintro e w9 ⟨rfl, hw9⟩; subst hw9)
      go_ret
      exact ⟨by first | rfl | simp, hxw4.trans (by repeat (first | exact Ext.refl _ | assumption | refine Ext.setCell ?_ (by first | (simp; done) | (simp; omega)) _ | refine Ext.drewN ?_ _ | refine Ext.alloc ?_ _ | refine Ext.drew ?_ | refine Ext.trans ?_ (by assumption)))⟩
theorem costs_walk (X Y W H : Int) (A : Option Addr) (n c : Nat) (lf : List Nat) (gr wt br de : Nat) (sp : Int) (C : Option Addr) (m cc : Nat) (X' Y' W' H' : Int) (l : List Nat) (ax ay : Int) (mo : Nat) (w : World) (hn : lf.length = n) (hV : Rd w A (flt lf)) (hb : n ≤ 140737488351232) (hC : CoP w C m X' Y' W' H' l) (hm : m ≤ 140737488351232) :
    Calls Try.prog 6 #[.agg #[.int .i64 X, .int .i64 Y, .int .i64 W, .int .i64 H, .slice A n c], .agg #[.float .f32 gr, .float .f32 wt, .float .f32 br, .float .f32 de, .int .i64 sp, .slice C m cc], .agg #[.int .i64 ax, .int .i64 ay], .float .f32 mo] w fun e w' => e = .returned (.bool true) ∧ Ext w w' := by
  by_cases hg : grndE X Y W H lf gr wt br de sp m X' Y' W' H' l = 0
  · obtain ⟨Wn, Hn, R, rfl, rfl, hr, hl, hh, rfl, rfl, rfl, rfl, rfl, hR, hCo, hm1⟩ := grnd_ok hg hC
    by_cases hin : InR X Y Wn Hn ax ay
    · obtain ⟨k, hk, rfl, rfl⟩ := inR_cell hin
      exact costs_good X Y Wn Hn A n c R C m cc k mo lf X' Y' W' H' l w hr (by omega) (by rw [← hn, hl]; exact hR) hn (by rw [← hn, hl]; exact hh) (by omega) hV hCo hC hm hg
    · have hi : insE X Y Wn Hn [(ax, ay)] = 5 := by
        unfold insE
        rw [if_neg]
        simpa using hin
      refine costs_bad X Y Wn Hn A n c lf R.gr R.wt R.br R.de R.sp C m cc X' Y' W' H' l ax ay mo w hn hV hb hC hm 5 (by decide) ?_ (fun w' h => ?_) (fun w' h => ?_)
      · rw [hg, hasB_ok hr.ok, decide_eq_false hin]
        rfl
      · refine hidA ((Costs_of X Y Wn Hn A n c R.gr R.wt R.br R.de R.sp C m cc ax ay w' (fun v u e _ => v = .slice none 0 0 ∧ u = .slice none 0 0 ∧ e = 5) (fun _ _ _ _ _ h _ => h) (fun w2 h2 => hidA ((pf_out X Y Wn Hn A n c lf R.gr R.wt R.br R.de R.sp C m cc X' Y' W' H' l ax ay w2 hn (hV.ext (h.trans h2)) hb (hC.ext (h.trans h2)) hm hr.ok hg (by rw [hi]; decide)).mono ?_))).mono ?_)
        · rintro e w'' ⟨rfl, h3⟩
          exact ⟨0, none, none, 0, 0, 0, 0, _, rfl, h3, rfl, rfl, by rw [hi]⟩
        · rintro e w'' ⟨_, _, _, _, _, _, _, rfl, h1, e1, e2, e3⟩
          exact ⟨by rw [e1, e2, e3], h1⟩
      · have h9 := Wi_bad2 X Y Wn Hn A n c lf R.gr R.wt R.br R.de R.sp C m cc X' Y' W' H' l ax ay mo w' hn (hV.ext h) hb (hC.ext h) hm hr.ok hg (by rw [hi]; decide)
        rw [hi] at h9
        exact h9
  · refine costs_bad X Y W H A n c lf gr wt br de sp C m cc X' Y' W' H' l ax ay mo w hn hV hb hC hm _ hg ?_ (fun w' h => ?_) (fun w' h => hidA (Wi_bad1 X Y W H A n c lf gr wt br de sp C m cc X' Y' W' H' l ax ay mo w' hn (hV.ext h) hb (hC.ext h) hm hg))
    · rw [first2C, if_neg hg]
    · refine hidA ((Costs_of X Y W H A n c gr wt br de sp C m cc ax ay w' (fun v u e _ => v = .slice none 0 0 ∧ u = .slice none 0 0 ∧ e = grndE X Y W H lf gr wt br de sp m X' Y' W' H' l) (fun _ _ _ _ _ h _ => h) (fun w2 h2 => hidA ((pf_bad X Y W H A n c lf gr wt br de sp C m cc X' Y' W' H' l ax ay w2 hn (hV.ext (h.trans h2)) hb (hC.ext (h.trans h2)) hm hg).mono ?_))).mono ?_)
      · rintro e w'' ⟨rfl, h3⟩
        exact ⟨0, none, none, 0, 0, 0, 0, _, rfl, h3, rfl, rfl, rfl⟩
      · rintro e w'' ⟨_, _, _, _, _, _, _, rfl, h1, e1, e2, e3⟩
        exact ⟨by rw [e1, e2, e3], h1⟩
end Go.Proofs.Ytpgdinpckolfpaa
