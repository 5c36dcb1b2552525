/- Contract: the reference's Lengths. -/
import Derived.Test.YtpgdinpckolfpaaBxAA
import Derived.Deep.AppendLies
import Derived.Test.YtpgdinpckolfpaaBaseA
import Derived.Deep.QuietTactic
import Derived.BigQuiet
import Derived.Test.YtpgdinpckolfpaaRdN
namespace Go.Proofs.Ytpgdinpckolfpaa
open Go.RowKit
attribute [local go_sem ↓] Go.wp_at_zero Go.wp_at_succ
attribute [local go_sem] run_store_float

set_option maxRecDepth 100000 in
set_option maxHeartbeats 6400000 in
theorem WayErrorN_any (A : Option Addr) (n c : Nat) (l : List (Int × Int)) (w : World) (hn : l.length = n) (hV : Rd w A (ptv l)) (hb7 : n ≤ 140737488351232) :
    Calls Try.prog 39 #[.pointer none, .slice A n c] w fun e w' => e = .returned (.int .i64 (wayE farP l)) ∧ Ext w w' := by
  have Hn := hidA hn
  have hE : Hid (wayE farP l = if n = 0 then 10 else if 65536 < n then 4 else wayI farP l 0 n) := by show _ = _; unfold wayE; rw [hn]
  generalize wayE farP l = E at *
  clear hn
  go_enter Try.func39, Try.ntmps39
  by_cases h0 : n = 0
  · have HE2 := hidA (hE.out.trans (if_pos h0))
    clear hE
    subst h0
    go_wp2
    go_ret
    exact ⟨ret_i HE2.out.symm, Ext.refl _⟩
  have h0' : ¬ (n : Int) = 0 := by omega
  by_cases h6 : 65536 < n
  · have HE2 := hidA ((hE.out.trans (if_neg h0)).trans (if_pos h6))
    have h6' : (65536 : Int) < n := by omega
    clear hE
    go_wp2
    go_ret
    exact ⟨ret_i HE2.out.symm, Ext.refl _⟩
  have HE2 := hidA ((hE.out.trans (if_neg h0)).trans (if_neg h6))
  have h6' : ¬ (65536 : Int) < n := by omega
  clear hE
  have h65 : n ≤ 65536 := by omega
  go_upto_region 6 with fail
  go_loopw [17] (fun s17 wr => ∃ k : Nat, k ≤ n ∧ s17 = .int .i64 k ∧ E = wayI farP l k (n - k) ∧ (0 < k → farP (l.getD (k - 1) (0, 0)) = false) ∧ Ext w wr) (fun s17 _ => n - (intOf s17).toNat)
  case atStart => exact ⟨0, Nat.zero_le _, rfl, by rw [HE2.out]; rfl, fun h => by omega, Ext.refl _⟩
  case round =>
    obtain ⟨k, hk, rfl, hEk, hprev, hx⟩ := hrel
    have HEk := hidA hEk
    have Hprev := hidA hprev
    clear hEk hprev
    by_cases hkn : k < n
    · have hkl : k < l.length := by have := Hn.out; omega
      obtain ⟨ad, rfl, hbk, d0, d1⟩ := pt_at (hV.ext hx) hkl
      have HE3 := hidA (HEk.out.trans (wayI_step hkn))
      have i0 : (0 : Int) ≤ k := by omega
      have i1 : (k : Int) < n := by omega
      obtain ⟨px, py, hpp⟩ : ∃ px py, l.getD k (0, 0) = (px, py) := ⟨_, _, rfl⟩
      have hpp2 := hidA hpp
      rw [hpp] at d0 d1
      have HE4 := hidA (show E = if farP (px, py) = true then 5 else if 0 < k ∧ stepBad (l.getD (k - 1) (0, 0)) (px, py) = true then 2 else wayI farP l (k + 1) (n - (k + 1)) from by rw [HE3.out, hpp])
      clear hpp HE3 HEk
      dsimp only at d0 d1
      go_upto_region 8 with fail
      have kP : Bk (wr.alloc (.cells #[.int .i64 px, .int .i64 py] 32)) wr.heap.size 32 #[.int .i64 px, .int .i64 py] := Bk.new' rfl
      have hx1 := hx.alloc (.cells #[.int .i64 px, .int .i64 py] 32)
      clear d0 d1
      generalize wr.alloc (.cells #[.int .i64 px, .int .i64 py] 32) = w1 at *
      generalize wr.heap.size = ha at *
      have p0 := kP.cell 0
      have p1 := kP.cell 1
      rcases (by omega : px < -4194304 ∨ (¬ px < -4194304 ∧ 4194304 < px) ∨ (¬ px < -4194304 ∧ ¬ 4194304 < px ∧ py < -4194304) ∨ (¬ px < -4194304 ∧ ¬ 4194304 < px ∧ ¬ py < -4194304 ∧ 4194304 < py) ∨ (¬ px < -4194304 ∧ ¬ 4194304 < px ∧ ¬ py < -4194304 ∧ ¬ 4194304 < py)) with c1 | ⟨c1, c2⟩ | ⟨c1, c2, c3⟩ | ⟨c1, c2, c3, c4⟩ | ⟨c1, c2, c3, c4⟩
      case inr.inr.inr.inr =>
        have hb : farP (px, py) = false := by unfold farP; simp; omega
        have HE5 := hidA (HE4.out.trans (if_neg (by rw [hb]; decide)))
        have Hb := hidA hb
        have hpb := farP_false hb
        clear hb HE4
        go_quiet (fail)
        have kP2 : Bk (w1.drewN nq) ha 32 #[.int .i64 px, .int .i64 py] := kP.ext (by repeat (first | exact Ext.refl _ | assumption | refine Ext.setCell ?_ (by first | (simp; done) | (simp; omega)) _ | refine Ext.drewN ?_ _ | refine Ext.alloc ?_ _ | refine Ext.drew ?_ | refine Ext.trans ?_ (by assumption)))
        have hx3 : Ext w (w1.drewN nq) := hx1.trans (by repeat (first | exact Ext.refl _ | assumption | refine Ext.setCell ?_ (by first | (simp; done) | (simp; omega)) _ | refine Ext.drewN ?_ _ | refine Ext.alloc ?_ _ | refine Ext.drew ?_ | refine Ext.trans ?_ (by assumption)))
        clear p0 p1 kP hx1 c1 c2 c3 c4
        generalize w1.drewN nq = w2 at *
        by_cases hk0 : k = 0
        · subst hk0
          have HE6 := hidA (HE5.out.trans (if_neg (by omega)))
          clear HE5
          go_wp2
          go_roundw
          case rel => exact ⟨1, by omega, rfl, HE6.out, fun _ => by show farP (l.getD 0 (0, 0)) = false; rw [hpp2.out]; exact Hb.out, hx3⟩
          case measure => simp [intOf]; omega
        · have hkl1 : k - 1 < l.length := by omega
          have hpq := farP_false (Hprev.out (by omega))
          obtain ⟨qx, qy, hqq⟩ : ∃ qx qy, l.getD (k - 1) (0, 0) = (qx, qy) := ⟨_, _, rfl⟩
          rw [hqq] at hpq
          dsimp only at hpq hpb
          have HBt := fun (w : World) => hidA (Leap_any qx qy px py w (by omega) (by omega) (by omega) (by omega))
          have HE6 := hidA (show E = if stepBad (qx, qy) (px, py) = true then 2 else wayI farP l (k + 1) (n - (k + 1)) from by rw [HE5.out, hqq]; simp [show 0 < k by omega])
          have e0 : ∀ w', Ext w2 w' → w'.cell? (ad.add ((k - 1) * 2)) = some (.int .i64 qx) := fun w' h => by
            obtain ⟨ad', e, _, d0, d1⟩ := pt_at (hV.ext (hx3.trans h)) hkl1
            injection e with e
            subst e
            rw [hqq] at d0
            exact d0
          have e1 : ∀ w', Ext w2 w' → w'.cell? ⟨(ad.add ((k - 1) * 2)).block, (ad.add ((k - 1) * 2)).off + 1, none⟩ = some (.int .i64 qy) := fun w' h => by
            obtain ⟨ad', e, _, d0, d1⟩ := pt_at (hV.ext (hx3.trans h)) hkl1
            injection e with e
            subst e
            rw [hqq] at d1
            exact d1
          have f0 : ∀ w', Ext w2 w' → w'.cell? ⟨ha, 0, none⟩ = some (.int .i64 px) := fun w' h => (kP2.ext h).cell 0
          have f1 : ∀ w', Ext w2 w' → w'.cell? ⟨ha, 1, none⟩ = some (.int .i64 py) := fun w' h => (kP2.ext h).cell 1
          have j0 : (0 : Int) ≤ ((k - 1 : Nat) : Int) := by omega
          have j1 : ((k - 1 : Nat) : Int) < n := by omega
          have hk0' : (0 : Int) < k := by omega
          have Hwk := hidA (show wrap64 ((k : Int) - 1) = ((k - 1 : Nat) : Int) by rw [IntWalk.wrap64_in _ ⟨by omega, by omega⟩]; omega)
          have Hwk2 := hidA (show IntKind.i64.wrap ((k : Int) - 1) = ((k - 1 : Nat) : Int) by rw [IntWalk.i64_in _ ⟨by omega, by omega⟩]; omega)
          have Hhx := hidA hx3
          clear hpq hpb HE5 hqq kP2
          unfold lpV at HBt
          cases hlp : leapO (px - qx) (py - qy) with
          | none =>
            have HE7 := hidA (HE6.out.trans (if_pos (by unfold stepBad; rw [hlp])))
            rw [hlp] at HBt
            clear hlp
            have wk := Hwk.out
            have wk2 := Hwk2.out
            go_upto_region 11 with fail
            refine wp_region_noPanic ?_
            refine wp_region_held_drew (S := fun w' => Ext w2 w') (by kernel_rfl) ?_ (fun hHeld => ?_)
            · (repeat (first | exact Ext.refl _ | assumption | refine Ext.setCell ?_ (by first | (simp; done) | (simp; omega)) _ | refine Ext.drewN ?_ _ | refine Ext.alloc ?_ _ | refine Ext.drew ?_ | refine Ext.trans ?_ (by assumption)))
            refine wpAnyH_take (i := 0) (oi := ?o1x0) (v := ?v1x0) ?hi1x0 (by kernel_rfl) ?hf1x0 ?hr1x0 (fun _ _ _ h => h) ?hy1x0 (by assumption) ?rest1x0
            case hi1x0 => (simp only [List.getElem?_toArray, List.getElem?_cons_zero]; exact rfl)
            case hf1x0 => kernel_rfl
            case hr1x0 => kernel_rfl
            case hy1x0 => (refine Or.inl ⟨by rfl, ?_⟩; intro w hSw; (try dsimp only at hSw); go_simp; try with_reducible rfl)
            simp only [put_mk, List.set_cons_succ, List.set_cons_zero]
            refine wpAnyH_take (i := 1) (oi := ?o1x1) (v := ?v1x1) ?hi1x1 (by kernel_rfl) ?hf1x1 ?hr1x1 (fun _ _ _ h => h) ?hy1x1 (by assumption) ?rest1x1
            case hi1x1 => (simp only [List.getElem?_toArray, List.getElem?_cons_succ, List.getElem?_cons_zero]; exact rfl)
            case hf1x1 => kernel_rfl
            case hr1x1 => kernel_rfl
            case hy1x1 => (refine Or.inl ⟨by rfl, ?_⟩; intro w hSw; (try dsimp only at hSw); go_simp; try with_reducible rfl)
            simp only [put_mk, List.set_cons_succ, List.set_cons_zero]
            refine wpAnyH_take (i := 2) (oi := ?o1x2) (v := ?v1x2) ?hi1x2 (by kernel_rfl) ?hf1x2 ?hr1x2 (fun _ _ _ h => h) ?hy1x2 (by assumption) ?rest1x2
            case hi1x2 => (simp only [List.getElem?_toArray, List.getElem?_cons_succ, List.getElem?_cons_zero]; exact rfl)
            case hf1x2 => kernel_rfl
            case hr1x2 => kernel_rfl
            case hy1x2 => (refine Or.inl ⟨by rfl, ?_⟩; intro w hSw; (try dsimp only at hSw); go_simp; try with_reducible rfl)
            simp only [put_mk, List.set_cons_succ, List.set_cons_zero]
            refine wpAnyH_take (i := 3) (oi := ?o1x3) (v := ?v1x3) ?hi1x3 (by kernel_rfl) ?hf1x3 ?hr1x3 (fun _ _ _ h => h) ?hy1x3 (by assumption) ?rest1x3
            case hi1x3 => (simp only [List.getElem?_toArray, List.getElem?_cons_succ, List.getElem?_cons_zero]; exact rfl)
            case hf1x3 => kernel_rfl
            case hr1x3 => kernel_rfl
            case hy1x3 => (refine Or.inl ⟨by rfl, ?_⟩; intro w hSw; (try dsimp only at hSw); go_simp; try with_reducible rfl)
            simp only [put_mk, List.set_cons_succ, List.set_cons_zero]
            refine wpAnyH_take (i := 4) (oi := ?o1x4) (v := ?v1x4) ?hi1x4 (by kernel_rfl) ?hf1x4 ?hr1x4 (fun _ _ _ h => h) ?hy1x4 (by assumption) ?rest1x4
            case hi1x4 => (simp only [List.getElem?_toArray, List.getElem?_cons_succ, List.getElem?_cons_zero]; exact rfl)
            case hf1x4 => kernel_rfl
            case hr1x4 => kernel_rfl
            case hy1x4 => (refine Or.inl ⟨by rfl, ?_⟩; intro w hSw; (try dsimp only at hSw); go_simp; try with_reducible rfl)
            simp only [put_mk, List.set_cons_succ, List.set_cons_zero]
            refine wpAnyH_take (i := 5) (oi := ?o1x5) (v := ?v1x5) ?hi1x5 (by kernel_rfl) ?hf1x5 ?hr1x5 (fun _ _ _ h => h) ?hy1x5 (by assumption) ?rest1x5
            case hi1x5 => (simp only [List.getElem?_toArray, List.getElem?_cons_succ, List.getElem?_cons_zero]; exact rfl)
            case hf1x5 => kernel_rfl
            case hr1x5 => kernel_rfl
            case hy1x5 => (refine Or.inl ⟨by rfl, ?_⟩; intro w hSw; (try dsimp only at hSw); go_simp; try with_reducible rfl)
            simp only [put_mk, List.set_cons_succ, List.set_cons_zero]
            refine wpAnyH_ready (rs := [6]) (by kernel_rfl) (by simp) ?_
            refine AllReadyH.cons (o := ?o1x6) ?hi1x6 (fun K hK => ?_) AllReadyH.nil
            case hi1x6 => (simp only [List.getElem?_toArray, List.getElem?_cons_succ, List.getElem?_cons_zero]; exact rfl)
            go_simp
            go_at_call 36; refine ((HBt _).out).mono ?_; rintro e w5 ⟨rfl, hx5⟩
            refine hK.out _ _ ?_ (fun hHeld => ?_)
            · (repeat (first | exact Ext.refl _ | assumption | refine Ext.setCell ?_ (by first | (simp; done) | (simp; omega)) _ | refine Ext.drewN ?_ _ | refine Ext.alloc ?_ _ | refine Ext.drew ?_ | refine Ext.trans ?_ (by assumption)))
            clear hK K
            refine wpAnyH_take (i := 7) (oi := ?o1x7) (v := ?v1x7) ?hi1x7 (by kernel_rfl) ?hf1x7 ?hr1x7 (fun _ _ _ h => h) ?hy1x7 (by assumption) ?rest1x7
            case hi1x7 => (simp only [List.getElem?_toArray, List.getElem?_cons_succ, List.getElem?_cons_zero]; exact rfl)
            case hf1x7 => kernel_rfl
            case hr1x7 => kernel_rfl
            case hy1x7 => (refine Or.inl ⟨by rfl, ?_⟩; intro w hSw; (try dsimp only at hSw); go_simp; try with_reducible rfl)
            simp only [put_mk, List.set_cons_succ, List.set_cons_zero]
            refine wpAnyH_take (i := 8) (oi := ?o1x8) (v := ?v1x8) ?hi1x8 (by kernel_rfl) ?hf1x8 ?hr1x8 (fun _ _ _ h => h) ?hy1x8 (by assumption) ?rest1x8
            case hi1x8 => (simp only [List.getElem?_toArray, List.getElem?_cons_succ, List.getElem?_cons_zero]; exact rfl)
            case hf1x8 => kernel_rfl
            case hr1x8 => kernel_rfl
            case hy1x8 => (refine Or.inl ⟨by rfl, ?_⟩; intro w hSw; (try dsimp only at hSw); go_simp; try with_reducible rfl)
            simp only [put_mk, List.set_cons_succ, List.set_cons_zero]
            refine wpAnyH_take (i := 9) (oi := ?o1x9) (v := ?v1x9) ?hi1x9 (by kernel_rfl) ?hf1x9 ?hr1x9 (fun _ _ _ h => h) ?hy1x9 (by assumption) ?rest1x9
            case hi1x9 => (simp only [List.getElem?_toArray, List.getElem?_cons_succ, List.getElem?_cons_zero]; exact rfl)
            case hf1x9 => kernel_rfl
            case hr1x9 => kernel_rfl
            case hy1x9 => (refine Or.inl ⟨by rfl, ?_⟩; intro w hSw; (try dsimp only at hSw); go_simp; try with_reducible rfl)
            simp only [put_mk, List.set_cons_succ, List.set_cons_zero]
            refine wpAnyH_take (i := 10) (oi := ?o1x10) (v := ?v1x10) ?hi1x10 (by kernel_rfl) ?hf1x10 ?hr1x10 (fun _ _ _ h => h) ?hy1x10 (by assumption) ?rest1x10
            case hi1x10 => (simp only [List.getElem?_toArray, List.getElem?_cons_succ, List.getElem?_cons_zero]; exact rfl)
            case hf1x10 => kernel_rfl
            case hr1x10 => kernel_rfl
            case hy1x10 => (refine Or.inl ⟨by rfl, ?_⟩; intro w hSw; (try dsimp only at hSw); go_simp; try with_reducible rfl)
            simp only [put_mk, List.set_cons_succ, List.set_cons_zero]
            refine wpAnyH_take (i := 11) (oi := ?o1x11) (v := ?v1x11) ?hi1x11 (by kernel_rfl) ?hf1x11 ?hr1x11 (fun _ _ _ h => h) ?hy1x11 (by assumption) ?rest1x11
            case hi1x11 => (simp only [List.getElem?_toArray, List.getElem?_cons_succ, List.getElem?_cons_zero]; exact rfl)
            case hf1x11 => kernel_rfl
            case hr1x11 => kernel_rfl
            case hy1x11 => (refine Or.inl ⟨by rfl, ?_⟩; intro w hSw; (try dsimp only at hSw); go_simp; try with_reducible rfl)
            simp only [put_mk, List.set_cons_succ, List.set_cons_zero]
            refine wpAnyH_done (by kernel_rfl) ?_ _
            refine NoPanic.normal ?_
            clear e0 e1 f0 f1 wk wk2
            go_wp2
            go_ret
            exact ⟨ret_i HE7.out.symm, Hhx.out.trans hHeld⟩
          | some z =>
            obtain ⟨d, n'⟩ := z
            have hd8 := (leapO_spec hlp).1
            rw [hlp] at HBt
            have hn1 : ¬ n' = 0 := by have := (leapO_spec hlp).2.1; omega
            have hn2 : ¬ (n' : Int) = 0 := by omega
            have hdn : ((n' : Int) == 0) = false := by simp; omega
            by_cases h12 : 12 < n'
            · have HE7 := hidA (HE6.out.trans (if_pos (by unfold stepBad; rw [hlp]; simpa using h12)))
              have h13 : (12 : Int) < n' := by omega
              clear hlp
              have wk := Hwk.out
              have wk2 := Hwk2.out
              go_upto_region 11 with fail
              refine wp_region_noPanic ?_
              refine wp_region_held_drew (S := fun w' => Ext w2 w') (by kernel_rfl) ?_ (fun hHeld => ?_)
              · (repeat (first | exact Ext.refl _ | assumption | refine Ext.setCell ?_ (by first | (simp; done) | (simp; omega)) _ | refine Ext.drewN ?_ _ | refine Ext.alloc ?_ _ | refine Ext.drew ?_ | refine Ext.trans ?_ (by assumption)))
              refine wpAnyH_take (i := 0) (oi := ?o2x0) (v := ?v2x0) ?hi2x0 (by kernel_rfl) ?hf2x0 ?hr2x0 (fun _ _ _ h => h) ?hy2x0 (by assumption) ?rest2x0
              case hi2x0 => (simp only [List.getElem?_toArray, List.getElem?_cons_zero]; exact rfl)
              case hf2x0 => kernel_rfl
              case hr2x0 => kernel_rfl
              case hy2x0 => (refine Or.inl ⟨by rfl, ?_⟩; intro w hSw; (try dsimp only at hSw); go_simp; try with_reducible rfl)
              simp only [put_mk, List.set_cons_succ, List.set_cons_zero]
              refine wpAnyH_take (i := 1) (oi := ?o2x1) (v := ?v2x1) ?hi2x1 (by kernel_rfl) ?hf2x1 ?hr2x1 (fun _ _ _ h => h) ?hy2x1 (by assumption) ?rest2x1
              case hi2x1 => (simp only [List.getElem?_toArray, List.getElem?_cons_succ, List.getElem?_cons_zero]; exact rfl)
              case hf2x1 => kernel_rfl
              case hr2x1 => kernel_rfl
              case hy2x1 => (refine Or.inl ⟨by rfl, ?_⟩; intro w hSw; (try dsimp only at hSw); go_simp; try with_reducible rfl)
              simp only [put_mk, List.set_cons_succ, List.set_cons_zero]
              refine wpAnyH_take (i := 2) (oi := ?o2x2) (v := ?v2x2) ?hi2x2 (by kernel_rfl) ?hf2x2 ?hr2x2 (fun _ _ _ h => h) ?hy2x2 (by assumption) ?rest2x2
              case hi2x2 => (simp only [List.getElem?_toArray, List.getElem?_cons_succ, List.getElem?_cons_zero]; exact rfl)
              case hf2x2 => kernel_rfl
              case hr2x2 => kernel_rfl
              case hy2x2 => (refine Or.inl ⟨by rfl, ?_⟩; intro w hSw; (try dsimp only at hSw); go_simp; try with_reducible rfl)
              simp only [put_mk, List.set_cons_succ, List.set_cons_zero]
              refine wpAnyH_take (i := 3) (oi := ?o2x3) (v := ?v2x3) ?hi2x3 (by kernel_rfl) ?hf2x3 ?hr2x3 (fun _ _ _ h => h) ?hy2x3 (by assumption) ?rest2x3
              case hi2x3 => (simp only [List.getElem?_toArray, List.getElem?_cons_succ, List.getElem?_cons_zero]; exact rfl)
              case hf2x3 => kernel_rfl
              case hr2x3 => kernel_rfl
              case hy2x3 => (refine Or.inl ⟨by rfl, ?_⟩; intro w hSw; (try dsimp only at hSw); go_simp; try with_reducible rfl)
              simp only [put_mk, List.set_cons_succ, List.set_cons_zero]
              refine wpAnyH_take (i := 4) (oi := ?o2x4) (v := ?v2x4) ?hi2x4 (by kernel_rfl) ?hf2x4 ?hr2x4 (fun _ _ _ h => h) ?hy2x4 (by assumption) ?rest2x4
              case hi2x4 => (simp only [List.getElem?_toArray, List.getElem?_cons_succ, List.getElem?_cons_zero]; exact rfl)
              case hf2x4 => kernel_rfl
              case hr2x4 => kernel_rfl
              case hy2x4 => (refine Or.inl ⟨by rfl, ?_⟩; intro w hSw; (try dsimp only at hSw); go_simp; try with_reducible rfl)
              simp only [put_mk, List.set_cons_succ, List.set_cons_zero]
              refine wpAnyH_take (i := 5) (oi := ?o2x5) (v := ?v2x5) ?hi2x5 (by kernel_rfl) ?hf2x5 ?hr2x5 (fun _ _ _ h => h) ?hy2x5 (by assumption) ?rest2x5
              case hi2x5 => (simp only [List.getElem?_toArray, List.getElem?_cons_succ, List.getElem?_cons_zero]; exact rfl)
              case hf2x5 => kernel_rfl
              case hr2x5 => kernel_rfl
              case hy2x5 => (refine Or.inl ⟨by rfl, ?_⟩; intro w hSw; (try dsimp only at hSw); go_simp; try with_reducible rfl)
              simp only [put_mk, List.set_cons_succ, List.set_cons_zero]
              refine wpAnyH_ready (rs := [6]) (by kernel_rfl) (by simp) ?_
              refine AllReadyH.cons (o := ?o2x6) ?hi2x6 (fun K hK => ?_) AllReadyH.nil
              case hi2x6 => (simp only [List.getElem?_toArray, List.getElem?_cons_succ, List.getElem?_cons_zero]; exact rfl)
              go_simp
              go_at_call 36; refine ((HBt _).out).mono ?_; rintro e w5 ⟨rfl, hx5⟩
              refine hK.out _ _ ?_ (fun hHeld => ?_)
              · (repeat (first | exact Ext.refl _ | assumption | refine Ext.setCell ?_ (by first | (simp; done) | (simp; omega)) _ | refine Ext.drewN ?_ _ | refine Ext.alloc ?_ _ | refine Ext.drew ?_ | refine Ext.trans ?_ (by assumption)))
              clear hK K
              refine wpAnyH_take (i := 7) (oi := ?o2x7) (v := ?v2x7) ?hi2x7 (by kernel_rfl) ?hf2x7 ?hr2x7 (fun _ _ _ h => h) ?hy2x7 (by assumption) ?rest2x7
              case hi2x7 => (simp only [List.getElem?_toArray, List.getElem?_cons_succ, List.getElem?_cons_zero]; exact rfl)
              case hf2x7 => kernel_rfl
              case hr2x7 => kernel_rfl
              case hy2x7 => (refine Or.inl ⟨by rfl, ?_⟩; intro w hSw; (try dsimp only at hSw); go_simp; try with_reducible rfl)
              simp only [put_mk, List.set_cons_succ, List.set_cons_zero]
              refine wpAnyH_take (i := 8) (oi := ?o2x8) (v := ?v2x8) ?hi2x8 (by kernel_rfl) ?hf2x8 ?hr2x8 (fun _ _ _ h => h) ?hy2x8 (by assumption) ?rest2x8
              case hi2x8 => (simp only [List.getElem?_toArray, List.getElem?_cons_succ, List.getElem?_cons_zero]; exact rfl)
              case hf2x8 => kernel_rfl
              case hr2x8 => kernel_rfl
              case hy2x8 => (refine Or.inl ⟨by rfl, ?_⟩; intro w hSw; (try dsimp only at hSw); go_simp; try with_reducible rfl)
              simp only [put_mk, List.set_cons_succ, List.set_cons_zero]
              refine wpAnyH_take (i := 9) (oi := ?o2x9) (v := ?v2x9) ?hi2x9 (by kernel_rfl) ?hf2x9 ?hr2x9 (fun _ _ _ h => h) ?hy2x9 (by assumption) ?rest2x9
              case hi2x9 => (simp only [List.getElem?_toArray, List.getElem?_cons_succ, List.getElem?_cons_zero]; exact rfl)
              case hf2x9 => kernel_rfl
              case hr2x9 => kernel_rfl
              case hy2x9 => (refine Or.inl ⟨by rfl, ?_⟩; intro w hSw; (try dsimp only at hSw); go_simp; try with_reducible rfl)
              simp only [put_mk, List.set_cons_succ, List.set_cons_zero]
              refine wpAnyH_take (i := 10) (oi := ?o2x10) (v := ?v2x10) ?hi2x10 (by kernel_rfl) ?hf2x10 ?hr2x10 (fun _ _ _ h => h) ?hy2x10 (by assumption) ?rest2x10
              case hi2x10 => (simp only [List.getElem?_toArray, List.getElem?_cons_succ, List.getElem?_cons_zero]; exact rfl)
              case hf2x10 => kernel_rfl
              case hr2x10 => kernel_rfl
              case hy2x10 => (refine Or.inl ⟨by rfl, ?_⟩; intro w hSw; (try dsimp only at hSw); go_simp; try with_reducible rfl)
              simp only [put_mk, List.set_cons_succ, List.set_cons_zero]
              refine wpAnyH_take (i := 11) (oi := ?o2x11) (v := ?v2x11) ?hi2x11 (by kernel_rfl) ?hf2x11 ?hr2x11 (fun _ _ _ h => h) ?hy2x11 (by assumption) ?rest2x11
              case hi2x11 => (simp only [List.getElem?_toArray, List.getElem?_cons_succ, List.getElem?_cons_zero]; exact rfl)
              case hf2x11 => kernel_rfl
              case hr2x11 => kernel_rfl
              case hy2x11 => (refine Or.inl ⟨by rfl, ?_⟩; intro w hSw; (try dsimp only at hSw); go_simp; try with_reducible rfl)
              simp only [put_mk, List.set_cons_succ, List.set_cons_zero]
              refine wpAnyH_done (by kernel_rfl) ?_ _
              refine NoPanic.normal ?_
              clear e0 e1 f0 f1 wk wk2
              go_wp2
              go_ret
              exact ⟨ret_i HE7.out.symm, Hhx.out.trans hHeld⟩
            · have HE7 := hidA (HE6.out.trans (if_neg (by unfold stepBad; rw [hlp]; simpa using h12)))
              have h13 : ¬ (12 : Int) < n' := by omega
              clear hlp
              have wk := Hwk.out
              have wk2 := Hwk2.out
              go_upto_region 11 with fail
              refine wp_region_noPanic ?_
              refine wp_region_held_drew (S := fun w' => Ext w2 w') (by kernel_rfl) ?_ (fun hHeld => ?_)
              · (repeat (first | exact Ext.refl _ | assumption | refine Ext.setCell ?_ (by first | (simp; done) | (simp; omega)) _ | refine Ext.drewN ?_ _ | refine Ext.alloc ?_ _ | refine Ext.drew ?_ | refine Ext.trans ?_ (by assumption)))
              refine wpAnyH_take (i := 0) (oi := ?o3x0) (v := ?v3x0) ?hi3x0 (by kernel_rfl) ?hf3x0 ?hr3x0 (fun _ _ _ h => h) ?hy3x0 (by assumption) ?rest3x0
              case hi3x0 => (simp only [List.getElem?_toArray, List.getElem?_cons_zero]; exact rfl)
              case hf3x0 => kernel_rfl
              case hr3x0 => kernel_rfl
              case hy3x0 => (refine Or.inl ⟨by rfl, ?_⟩; intro w hSw; (try dsimp only at hSw); go_simp; try with_reducible rfl)
              simp only [put_mk, List.set_cons_succ, List.set_cons_zero]
              refine wpAnyH_take (i := 1) (oi := ?o3x1) (v := ?v3x1) ?hi3x1 (by kernel_rfl) ?hf3x1 ?hr3x1 (fun _ _ _ h => h) ?hy3x1 (by assumption) ?rest3x1
              case hi3x1 => (simp only [List.getElem?_toArray, List.getElem?_cons_succ, List.getElem?_cons_zero]; exact rfl)
              case hf3x1 => kernel_rfl
              case hr3x1 => kernel_rfl
              case hy3x1 => (refine Or.inl ⟨by rfl, ?_⟩; intro w hSw; (try dsimp only at hSw); go_simp; try with_reducible rfl)
              simp only [put_mk, List.set_cons_succ, List.set_cons_zero]
              refine wpAnyH_take (i := 2) (oi := ?o3x2) (v := ?v3x2) ?hi3x2 (by kernel_rfl) ?hf3x2 ?hr3x2 (fun _ _ _ h => h) ?hy3x2 (by assumption) ?rest3x2
              case hi3x2 => (simp only [List.getElem?_toArray, List.getElem?_cons_succ, List.getElem?_cons_zero]; exact rfl)
              case hf3x2 => kernel_rfl
              case hr3x2 => kernel_rfl
              case hy3x2 => (refine Or.inl ⟨by rfl, ?_⟩; intro w hSw; (try dsimp only at hSw); go_simp; try with_reducible rfl)
              simp only [put_mk, List.set_cons_succ, List.set_cons_zero]
              refine wpAnyH_take (i := 3) (oi := ?o3x3) (v := ?v3x3) ?hi3x3 (by kernel_rfl) ?hf3x3 ?hr3x3 (fun _ _ _ h => h) ?hy3x3 (by assumption) ?rest3x3
              case hi3x3 => (simp only [List.getElem?_toArray, List.getElem?_cons_succ, List.getElem?_cons_zero]; exact rfl)
              case hf3x3 => kernel_rfl
              case hr3x3 => kernel_rfl
              case hy3x3 => (refine Or.inl ⟨by rfl, ?_⟩; intro w hSw; (try dsimp only at hSw); go_simp; try with_reducible rfl)
              simp only [put_mk, List.set_cons_succ, List.set_cons_zero]
              refine wpAnyH_take (i := 4) (oi := ?o3x4) (v := ?v3x4) ?hi3x4 (by kernel_rfl) ?hf3x4 ?hr3x4 (fun _ _ _ h => h) ?hy3x4 (by assumption) ?rest3x4
              case hi3x4 => (simp only [List.getElem?_toArray, List.getElem?_cons_succ, List.getElem?_cons_zero]; exact rfl)
              case hf3x4 => kernel_rfl
              case hr3x4 => kernel_rfl
              case hy3x4 => (refine Or.inl ⟨by rfl, ?_⟩; intro w hSw; (try dsimp only at hSw); go_simp; try with_reducible rfl)
              simp only [put_mk, List.set_cons_succ, List.set_cons_zero]
              refine wpAnyH_take (i := 5) (oi := ?o3x5) (v := ?v3x5) ?hi3x5 (by kernel_rfl) ?hf3x5 ?hr3x5 (fun _ _ _ h => h) ?hy3x5 (by assumption) ?rest3x5
              case hi3x5 => (simp only [List.getElem?_toArray, List.getElem?_cons_succ, List.getElem?_cons_zero]; exact rfl)
              case hf3x5 => kernel_rfl
              case hr3x5 => kernel_rfl
              case hy3x5 => (refine Or.inl ⟨by rfl, ?_⟩; intro w hSw; (try dsimp only at hSw); go_simp; try with_reducible rfl)
              simp only [put_mk, List.set_cons_succ, List.set_cons_zero]
              refine wpAnyH_ready (rs := [6]) (by kernel_rfl) (by simp) ?_
              refine AllReadyH.cons (o := ?o3x6) ?hi3x6 (fun K hK => ?_) AllReadyH.nil
              case hi3x6 => (simp only [List.getElem?_toArray, List.getElem?_cons_succ, List.getElem?_cons_zero]; exact rfl)
              go_simp
              go_at_call 36; refine ((HBt _).out).mono ?_; rintro e w5 ⟨rfl, hx5⟩
              refine hK.out _ _ ?_ (fun hHeld => ?_)
              · (repeat (first | exact Ext.refl _ | assumption | refine Ext.setCell ?_ (by first | (simp; done) | (simp; omega)) _ | refine Ext.drewN ?_ _ | refine Ext.alloc ?_ _ | refine Ext.drew ?_ | refine Ext.trans ?_ (by assumption)))
              clear hK K
              refine wpAnyH_take (i := 7) (oi := ?o3x7) (v := ?v3x7) ?hi3x7 (by kernel_rfl) ?hf3x7 ?hr3x7 (fun _ _ _ h => h) ?hy3x7 (by assumption) ?rest3x7
              case hi3x7 => (simp only [List.getElem?_toArray, List.getElem?_cons_succ, List.getElem?_cons_zero]; exact rfl)
              case hf3x7 => kernel_rfl
              case hr3x7 => kernel_rfl
              case hy3x7 => (refine Or.inl ⟨by rfl, ?_⟩; intro w hSw; (try dsimp only at hSw); go_simp; try with_reducible rfl)
              simp only [put_mk, List.set_cons_succ, List.set_cons_zero]
              refine wpAnyH_take (i := 8) (oi := ?o3x8) (v := ?v3x8) ?hi3x8 (by kernel_rfl) ?hf3x8 ?hr3x8 (fun _ _ _ h => h) ?hy3x8 (by assumption) ?rest3x8
              case hi3x8 => (simp only [List.getElem?_toArray, List.getElem?_cons_succ, List.getElem?_cons_zero]; exact rfl)
              case hf3x8 => kernel_rfl
              case hr3x8 => kernel_rfl
              case hy3x8 => (refine Or.inl ⟨by rfl, ?_⟩; intro w hSw; (try dsimp only at hSw); go_simp; try with_reducible rfl)
              simp only [put_mk, List.set_cons_succ, List.set_cons_zero]
              refine wpAnyH_take (i := 9) (oi := ?o3x9) (v := ?v3x9) ?hi3x9 (by kernel_rfl) ?hf3x9 ?hr3x9 (fun _ _ _ h => h) ?hy3x9 (by assumption) ?rest3x9
              case hi3x9 => (simp only [List.getElem?_toArray, List.getElem?_cons_succ, List.getElem?_cons_zero]; exact rfl)
              case hf3x9 => kernel_rfl
              case hr3x9 => kernel_rfl
              case hy3x9 => (refine Or.inl ⟨by rfl, ?_⟩; intro w hSw; (try dsimp only at hSw); go_simp; try with_reducible rfl)
              simp only [put_mk, List.set_cons_succ, List.set_cons_zero]
              refine wpAnyH_take (i := 10) (oi := ?o3x10) (v := ?v3x10) ?hi3x10 (by kernel_rfl) ?hf3x10 ?hr3x10 (fun _ _ _ h => h) ?hy3x10 (by assumption) ?rest3x10
              case hi3x10 => (simp only [List.getElem?_toArray, List.getElem?_cons_succ, List.getElem?_cons_zero]; exact rfl)
              case hf3x10 => kernel_rfl
              case hr3x10 => kernel_rfl
              case hy3x10 => (refine Or.inl ⟨by rfl, ?_⟩; intro w hSw; (try dsimp only at hSw); go_simp; try with_reducible rfl)
              simp only [put_mk, List.set_cons_succ, List.set_cons_zero]
              refine wpAnyH_take (i := 11) (oi := ?o3x11) (v := ?v3x11) ?hi3x11 (by kernel_rfl) ?hf3x11 ?hr3x11 (fun _ _ _ h => h) ?hy3x11 (by assumption) ?rest3x11
              case hi3x11 => (simp only [List.getElem?_toArray, List.getElem?_cons_succ, List.getElem?_cons_zero]; exact rfl)
              case hf3x11 => kernel_rfl
              case hr3x11 => kernel_rfl
              case hy3x11 => (refine Or.inl ⟨by rfl, ?_⟩; intro w hSw; (try dsimp only at hSw); go_simp; try with_reducible rfl)
              simp only [put_mk, List.set_cons_succ, List.set_cons_zero]
              refine wpAnyH_done (by kernel_rfl) ?_ _
              refine NoPanic.normal ?_
              clear e0 e1 f0 f1 wk wk2
              go_wp2
              go_roundw
              case rel => exact ⟨k + 1, by omega, by go_num, HE7.out, fun _ => by rw [Nat.add_sub_cancel, hpp2.out]; exact Hb.out, Hhx.out.trans hHeld⟩
              case measure => simp [intOf]; omega
      all_goals
        have hb : farP (px, py) = true := by unfold farP; simp; omega
        have HE5 := hidA (HE4.out.trans (if_pos hb))
        clear hb HE4
        go_quiet (fail)
        clear p0 p1
        go_wp2
        go_ret
        exact ⟨ret_i HE5.out.symm, hx1.trans (by repeat (first | exact Ext.refl _ | assumption | refine Ext.setCell ?_ (by first | (simp; done) | (simp; omega)) _ | refine Ext.drewN ?_ _ | refine Ext.alloc ?_ _ | refine Ext.drew ?_ | refine Ext.trans ?_ (by assumption)))⟩
    · have hkn2 : n = k := by omega
      subst hkn2
      have HE5 := hidA (show E = 0 from by rw [HEk.out, Nat.sub_self]; rfl)
      go_wp2
      go_ret
      exact ⟨ret_i HE5.out.symm, hx⟩
end Go.Proofs.Ytpgdinpckolfpaa

namespace Go.Proofs.Ytpgdinpckolfpaa
open Go.RowKit
attribute [local go_sem ↓] Go.wp_at_zero Go.wp_at_succ
attribute [local go_sem] run_store_float

set_option maxRecDepth 100000 in
set_option maxHeartbeats 1600000 in
theorem eqPts_same (A B : Option Addr) (n c d : Nat) (M : List (Int × Int)) (w : World) (hn : M.length = n) (ha : Rd w A (ptv M)) (hb : Rd w B (ptv M)) (hnb : n ≤ 4000000000) :
    Calls Try.prog 26 #[.slice A n c, .slice B n d] w fun e w' => e = .returned (.bool true) ∧ Ext w w' := by
  have Hn := hidA hn
  clear hn
  go_enter Try.func26, Try.ntmps26
  go_wp2
  go_loopw [13] (fun i wr => ∃ k m : Nat, k ≤ n ∧ i = .int .i64 k ∧ wr = w.drewN m) (fun i _ => n - (intOf i).toNat)
  case atStart => exact ⟨0, 0, Nat.zero_le _, rfl, rfl⟩
  case round =>
    obtain ⟨k, m, hk, rfl, rfl⟩ := hrel
    by_cases hlt : k < n
    · have hkl : k < M.length := by have := Hn.out; omega
      obtain ⟨ad, rfl, hbk, e0, e1⟩ := pt_at ha hkl
      obtain ⟨ad2, rfl, hbk2, e2, e3⟩ := pt_at hb hkl
      have k0 : (0 : Int) ≤ k := by omega
      have k1 : (k : Int) < n := by omega
      generalize (M.getD k (0, 0)).1 = qx at *
      generalize (M.getD k (0, 0)).2 = qy at *
      clear ha hb
      go_wp2
      go_quiet (fail)
      go_wp2
      go_roundw
      case rel => exact ⟨k + 1, _, by omega, by go_num, rfl⟩
      case measure => simp [intOf]; omega
    · obtain rfl : k = n := by omega
      go_wp2
      go_ret
      exact ⟨rfl, (by repeat (first | exact Ext.refl _ | assumption | refine Ext.setCell ?_ (by first | (simp; done) | (simp; omega)) _ | refine Ext.drewN ?_ _ | refine Ext.alloc ?_ _ | refine Ext.drew ?_ | refine Ext.trans ?_ (by assumption)))⟩
theorem wayI_ok {bad : Int × Int → Bool} {l : List (Int × Int)} : ∀ m k, wayI bad l k m = 0 → ∀ i, k ≤ i → i < k + m → bad (l.getD i (0, 0)) = false ∧ (0 < i → stepBad (l.getD (i - 1) (0, 0)) (l.getD i (0, 0)) = false)
  | 0, k, _, i, h1, h2 => by omega
  | m + 1, k, h, i, h1, h2 => by
    unfold wayI at h
    split at h
    · cases h
    · rename_i hb
      split at h
      · cases h
      · rename_i hs
        by_cases e : i = k
        · subst e
          refine ⟨by simpa using hb, fun h0 => ?_⟩
          cases hq : stepBad (l.getD (i - 1) (0, 0)) (l.getD i (0, 0))
          · rfl
          · exact absurd ⟨h0, hq⟩ hs
        · exact wayI_ok m (k + 1) h i (by omega) (by omega)
/-- the step to place i -/
def lpo (l : List (Int × Int)) (i : Nat) : Nat × Nat := (leapO ((l.getD i (0, 0)).1 - (l.getD (i - 1) (0, 0)).1) ((l.getD i (0, 0)).2 - (l.getD (i - 1) (0, 0)).2)).getD (0, 0)
/-- a way that may be -/
structure WayOk (bad : Int × Int → Bool) (l : List (Int × Int)) : Prop where
  pos : 1 ≤ l.length
  le : l.length ≤ 65536
  ok : ∀ i, i < l.length → bad (l.getD i (0, 0)) = false
  st : ∀ i, 0 < i → i < l.length → leapO ((l.getD i (0, 0)).1 - (l.getD (i - 1) (0, 0)).1) ((l.getD i (0, 0)).2 - (l.getD (i - 1) (0, 0)).2) = some (lpo l i) ∧ (lpo l i).1 < 8 ∧ 1 ≤ (lpo l i).2 ∧ (lpo l i).2 ≤ 12
theorem wayOk {bad : Int × Int → Bool} {l : List (Int × Int)} (h : wayE bad l = 0) : WayOk bad l := by
  unfold wayE at h
  split at h
  · cases h
  · split at h
    · cases h
    · have hk := wayI_ok _ _ h
      refine ⟨by omega, by omega, fun i hi => (hk i (by omega) (by omega)).1, fun i h0 hi => ?_⟩
      have hs := (hk i (by omega) (by omega)).2 h0
      unfold stepBad at hs
      cases hl : leapO ((l.getD i (0, 0)).1 - (l.getD (i - 1) (0, 0)).1) ((l.getD i (0, 0)).2 - (l.getD (i - 1) (0, 0)).2) with
      | none => rw [hl] at hs; cases hs
      | some p =>
        obtain ⟨d, n⟩ := p
        have e : lpo l i = (d, n) := by unfold lpo; rw [hl]; rfl
        rw [hl] at hs
        have hsp := leapO_spec hl
        rw [e]
        exact ⟨rfl, hsp.1, hsp.2.1, by simpa using hs⟩
/-- whether a place is kept -/
def cornB (l : List (Int × Int)) (i : Nat) : Bool := i == 0 || i + 1 == l.length || !((lpo l i).1 == (lpo l (i + 1)).1 && (lpo l i).2 == 1 && (lpo l (i + 1)).2 == 1)
def cornL (l : List (Int × Int)) (k : Nat) : List (Int × Int) := ((List.range k).filter (cornB l)).map fun i => l.getD i (0, 0)
theorem cornL_succ (l : List (Int × Int)) (k : Nat) : cornL l (k + 1) = cornL l k ++ (if cornB l k = true then [l.getD k (0, 0)] else []) := by
  unfold cornL
  rw [List.range_succ, List.filter_append, List.map_append]
  cases h : cornB l k <;> simp [h]
theorem cornL_le (l : List (Int × Int)) (k : Nat) : (cornL l k).length ≤ k := by
  unfold cornL
  rw [List.length_map]
  have := List.length_filter_le (cornB l) (List.range k)
  simpa using this
set_option maxRecDepth 100000 in
set_option maxHeartbeats 6400000 in
theorem Corners_ok (A : Option Addr) (n c : Nat) (l : List (Int × Int)) (w : World) (hn : l.length = n) (hV : Rd w A (ptv l)) (hok : WayOk farP l) (hE : wayE farP l = 0) :
    Calls Try.prog 38 #[.slice A n c] w fun e w' => ∃ v, e = .returned (.tuple #[v, .int .i64 0]) ∧ OwnP w' w.heap.size v (cornL l n) ∧ Ext w w' := by
  have HCk := fun (w' : World) (h : Ext w w') => hidA (checkWay_any 77 #[] enters_place farP A n c l w' (fun p hp => farP_false hp) (fun x y w2 _ => place_any x y w2) hn (hV.ext h))
  rw [hE] at HCk
  have HBt := fun (qx qy px py : Int) (w : World) (h1 : farP (qx, qy) = false) (h2 : farP (px, py) = false) => hidA (between_any qx qy px py w (by have := farP_false h1; dsimp only at this; omega) (by have := farP_false h1; dsimp only at this; omega) (by have := farP_false h2; dsimp only at this; omega) (by have := farP_false h2; dsimp only at this; omega))
  have Hn := hidA hn
  have Hok := hidA hok
  have hn6 : n ≤ 65536 := by rw [← hn]; exact hok.le
  obtain ⟨ti, hi0, hz0, hz1, hz2⟩ := info_parts infoPt
  clear hok hE hn
  go_enter Try.func38, Try.ntmps38
  go_upto_region 6 with (go_at_call 80; refine ((HCk _ (Ext.refl _)).out).mono ?_; rintro e w1 ⟨rfl, hx1⟩)
  clear HCk
  go_loopw [5, 19] (fun s5 s19 wr => ∃ k : Nat, k ≤ n ∧ s19 = .int .i64 k ∧ OwnP wr w.heap.size s5 (cornL l k) ∧ Ext w wr) (fun _ s19 _ => n - (intOf s19).toNat)
  case atStart => exact ⟨0, Nat.zero_le _, rfl, World.ownsRow_nil w1 _ _ 2, hx1⟩
  case round =>
    clear hx1
    obtain ⟨k, hk, rfl, hO, hx⟩ := hrel
    by_cases hkn : k < n
    · have hkl : k < l.length := by have := Hn.out; omega
      obtain ⟨ad, rfl, hbk, d0, d1⟩ := pt_at (hV.ext hx) hkl
      have i0 : (0 : Int) ≤ k := by omega
      have i1 : (k : Int) < n := by omega
      have hfp := Hok.out.ok k hkl
      obtain ⟨px, py, hpp⟩ : ∃ px py, l.getD k (0, 0) = (px, py) := ⟨_, _, rfl⟩
      rw [hpp] at d0 d1 hfp
      dsimp only at d0 d1
      have Hpp := hidA hpp
      have hcl := cornL_le l k
      go_upto_region 8 with fail
      have kP : Bk (wr.alloc (.cells #[.int .i64 px, .int .i64 py] 32)) wr.heap.size 32 #[.int .i64 px, .int .i64 py] := Bk.new' rfl
      have hx2 := hx.alloc (.cells #[.int .i64 px, .int .i64 py] 32)
      have hO2 := hO.ext ((Ext.refl wr).alloc (.cells #[.int .i64 px, .int .i64 py] 32))
      clear d0 d1 hpp hO
      generalize wr.alloc (.cells #[.int .i64 px, .int .i64 py] 32) = w2 at *
      generalize wr.heap.size = ha at *
      by_cases hedge : k = 0 ∨ k + 1 = n
      · have Hcb := hidA (show cornB l k = true from by unfold cornB; have := Hn.out; rcases hedge with h | h <;> simp [h]; omega)
        have hg : ¬ (0 : Int) < k ∨ (0 : Int) < k ∧ ¬ (k : Int) < n - 1 := by omega
        have Hx2 := hidA hx2
        have p0 := kP.cell 0
        have p1 := kP.cell 1
        clear hedge hx2 kP hfp
        have wn := IntWalk.wrap64_in ((n : Int) - 1) ⟨by omega, by omega⟩
        have Wn := hidA wn
        clear wn
        rcases hg with hg1 | ⟨hg1, hg2⟩
        · go_upto_region 12 with fail
          have hown2 := hidA (hO2.ext ((Ext.refl w2).alloc (.cells #[.int .i64 px, .int .i64 py] 32)))
          have hnews : Hid (∀ j u, ([Value.int .i64 px, .int .i64 py] : List Value)[j]? = some u → (w2.alloc (.cells #[.int .i64 px, .int .i64 py] 32)).cell? ((⟨w2.heap.size, 0, none⟩ : Addr).add j) = some u) := World.news_of_block (cs := #[.int .i64 px, .int .i64 py]) (t := 32) (fr := (0, 0)) (heap_alloc_new w2 _)
          have hone : Hid (∀ u ∈ ([Value.int .i64 px, .int .i64 py] : List Value), u.oneCell' = true) := by intro u hu; simp at hu; rcases hu with rfl | rfl <;> rfl
          have hs9 := hidA (show w.heap.size ≤ (w2.alloc (.cells #[.int .i64 px, .int .i64 py] 32)).heap.size from by have := Hx2.out.size; rw [World.size_alloc]; omega)
          clear hO2
          go_wp2_with (at_builtin; (refine wpList_append_lies _ (by rfl) _ _ 46 (by rfl) w.heap.size 32 ti (.agg #[.int .i64 0, .int .i64 0]) 2 16 Try.underlying46 hi0 hz0 hz1 hz2 (by rfl) (by decide) _ _ _ (by rfl) hown2.out ⟨w2.heap.size, 0, none⟩ 1 1 [.int .i64 px, .int .i64 py] (by rfl) (by rfl) hnews.out hone.out (by omega) (by unfold maxLen; omega) (by omega) hs9.out (w2.heap.size + 1) (by simp) ?_; intro gg cap w9 hown9 hgrow9 hat hlt))
          have hx9 := (Hx2.out.alloc (.cells #[.int .i64 px, .int .i64 py] 32)).grown hgrow9 (fun b hb => (World.ownsRow.lt hown2.out b hb).1)
          have HO9 := hidA hown9
          have Hx9 := hidA hx9
          clear hown9 hgrow9 hat hlt hx9
          go_roundw
          case rel => exact ⟨k + 1, by omega, by go_num, by have h8 := HO9.out; rw [cornL_succ, Hcb.out, Hpp.out]; unfold OwnP; simp only [if_true, ptv_append, List.length_append, List.length_cons, List.length_nil]; exact h8, Hx9.out⟩
          case measure => simp [intOf]; omega
        · have wn := Wn.out
          go_upto_region 12 with fail
          clear wn
          have hown2 := hidA (hO2.ext ((Ext.refl w2).alloc (.cells #[.int .i64 px, .int .i64 py] 32)))
          have hnews : Hid (∀ j u, ([Value.int .i64 px, .int .i64 py] : List Value)[j]? = some u → (w2.alloc (.cells #[.int .i64 px, .int .i64 py] 32)).cell? ((⟨w2.heap.size, 0, none⟩ : Addr).add j) = some u) := World.news_of_block (cs := #[.int .i64 px, .int .i64 py]) (t := 32) (fr := (0, 0)) (heap_alloc_new w2 _)
          have hone : Hid (∀ u ∈ ([Value.int .i64 px, .int .i64 py] : List Value), u.oneCell' = true) := by intro u hu; simp at hu; rcases hu with rfl | rfl <;> rfl
          have hs9 := hidA (show w.heap.size ≤ (w2.alloc (.cells #[.int .i64 px, .int .i64 py] 32)).heap.size from by have := Hx2.out.size; rw [World.size_alloc]; omega)
          clear hO2
          go_wp2_with (at_builtin; (refine wpList_append_lies _ (by rfl) _ _ 46 (by rfl) w.heap.size 32 ti (.agg #[.int .i64 0, .int .i64 0]) 2 16 Try.underlying46 hi0 hz0 hz1 hz2 (by rfl) (by decide) _ _ _ (by rfl) hown2.out ⟨w2.heap.size, 0, none⟩ 1 1 [.int .i64 px, .int .i64 py] (by rfl) (by rfl) hnews.out hone.out (by omega) (by unfold maxLen; omega) (by omega) hs9.out (w2.heap.size + 1) (by simp) ?_; intro gg cap w9 hown9 hgrow9 hat hlt))
          have hx9 := (Hx2.out.alloc (.cells #[.int .i64 px, .int .i64 py] 32)).grown hgrow9 (fun b hb => (World.ownsRow.lt hown2.out b hb).1)
          have HO9 := hidA hown9
          have Hx9 := hidA hx9
          clear hown9 hgrow9 hat hlt hx9
          go_roundw
          case rel => exact ⟨k + 1, by omega, by go_num, by have h8 := HO9.out; rw [cornL_succ, Hcb.out, Hpp.out]; unfold OwnP; simp only [if_true, ptv_append, List.length_append, List.length_cons, List.length_nil]; exact h8, Hx9.out⟩
          case measure => simp [intOf]; omega
      · have hkp : 0 < k := by omega
        have hk1 : k + 1 < n := by omega
        have hg1 : (0 : Int) < k := by omega
        have hg2 : (k : Int) < n - 1 := by omega
        have s1 := Hok.out.st k hkp hkl
        have s2 := Hok.out.st (k + 1) (by omega) (by have := Hn.out; omega)
        rw [Nat.add_sub_cancel] at s2
        obtain ⟨qx, qy, hqq⟩ : ∃ qx qy, l.getD (k - 1) (0, 0) = (qx, qy) := ⟨_, _, rfl⟩
        obtain ⟨rx, ry, hrr⟩ : ∃ rx ry, l.getD (k + 1) (0, 0) = (rx, ry) := ⟨_, _, rfl⟩
        have hfq := Hok.out.ok (k - 1) (by omega)
        have hfr := Hok.out.ok (k + 1) (by have := Hn.out; omega)
        rw [Hpp.out, hqq] at s1
        rw [Hpp.out, hrr] at s2
        rw [hqq] at hfq
        rw [hrr] at hfr
        dsimp only at s1 s2
        have Hcb : Hid (cornB l k = !((lpo l k).1 == (lpo l (k + 1)).1 && (lpo l k).2 == 1 && (lpo l (k + 1)).2 == 1)) := by
          show _ = _
          unfold cornB
          have e1 : (k == 0) = false := by simp; omega
          have e2 : (k + 1 == l.length) = false := by simp; have := Hn.out; omega
          rw [e1, e2]
          simp
        have HB1 := fun (w : World) => HBt qx qy px py w hfq hfp
        have HB2 := fun (w : World) => HBt px py rx ry w hfp hfr
        unfold btV at HB1 HB2
        rw [s1.1] at HB1
        rw [s2.1] at HB2
        obtain ⟨d1, n1, hl1⟩ : ∃ d1 n1, lpo l k = (d1, n1) := ⟨_, _, rfl⟩
        obtain ⟨d2, n2, hl2⟩ : ∃ d2 n2, lpo l (k + 1) = (d2, n2) := ⟨_, _, rfl⟩
        rw [hl1] at HB1 Hcb
        rw [hl2] at HB2 Hcb
        simp only at HB1 HB2
        have e0 : ∀ w', Ext w2 w' → w'.cell? (ad.add ((k - 1) * 2)) = some (.int .i64 qx) := fun w' h => by
          obtain ⟨ad', e, _, d0, _⟩ := pt_at (hV.ext (hx2.trans h)) (show k - 1 < l.length by omega)
          injection e with e
          subst e
          rw [hqq] at d0
          exact d0
        have e1 : ∀ w', Ext w2 w' → w'.cell? ⟨(ad.add ((k - 1) * 2)).block, (ad.add ((k - 1) * 2)).off + 1, none⟩ = some (.int .i64 qy) := fun w' h => by
          obtain ⟨ad', e, _, _, d1⟩ := pt_at (hV.ext (hx2.trans h)) (show k - 1 < l.length by omega)
          injection e with e
          subst e
          rw [hqq] at d1
          exact d1
        have e2 : ∀ w', Ext w2 w' → w'.cell? (ad.add ((k + 1) * 2)) = some (.int .i64 rx) := fun w' h => by
          obtain ⟨ad', e, _, d0, _⟩ := pt_at (hV.ext (hx2.trans h)) (show k + 1 < l.length by have := Hn.out; omega)
          injection e with e
          subst e
          rw [hrr] at d0
          exact d0
        have e3 : ∀ w', Ext w2 w' → w'.cell? ⟨(ad.add ((k + 1) * 2)).block, (ad.add ((k + 1) * 2)).off + 1, none⟩ = some (.int .i64 ry) := fun w' h => by
          obtain ⟨ad', e, _, _, d1⟩ := pt_at (hV.ext (hx2.trans h)) (show k + 1 < l.length by have := Hn.out; omega)
          injection e with e
          subst e
          rw [hrr] at d1
          exact d1
        have f0 : ∀ w', Ext w2 w' → w'.cell? ⟨ha, 0, none⟩ = some (.int .i64 px) := fun w' h => (kP.ext h).cell 0
        have f1 : ∀ w', Ext w2 w' → w'.cell? ⟨ha, 1, none⟩ = some (.int .i64 py) := fun w' h => (kP.ext h).cell 1
        have j0 : (0 : Int) ≤ ((k - 1 : Nat) : Int) := by omega
        have j1 : ((k - 1 : Nat) : Int) < n := by omega
        have j2 : (0 : Int) ≤ ((k + 1 : Nat) : Int) := by omega
        have j3 : ((k + 1 : Nat) : Int) < n := by omega
        have j4 : (k : Int) + 1 < n := by omega
        have Hwk := hidA (show wrap64 ((k : Int) - 1) = ((k - 1 : Nat) : Int) by rw [IntWalk.wrap64_in _ ⟨by omega, by omega⟩]; omega)
        have Hwk2 := hidA (show IntKind.i64.wrap ((k : Int) - 1) = ((k - 1 : Nat) : Int) by rw [IntWalk.i64_in _ ⟨by omega, by omega⟩]; omega)
        have Hwk3 := hidA (show wrap64 ((k : Int) + 1) = (k : Int) + 1 from IntWalk.wrap64_in _ ⟨by omega, by omega⟩)
        have Hwk4 := hidA (show IntKind.i64.wrap ((k : Int) + 1) = (k : Int) + 1 from IntWalk.i64_in _ ⟨by omega, by omega⟩)
        have j5 : (0 : Int) ≤ (k : Int) + 1 := by omega
        have Hwn := hidA (IntWalk.wrap64_in ((n : Int) - 1) ⟨by omega, by omega⟩)
        have hcs : ¬ d1 = d2 ∨ (d1 = d2 ∧ ¬ n1 = 1) ∨ (d1 = d2 ∧ n1 = 1 ∧ ¬ n2 = 1) ∨ (d1 = d2 ∧ n1 = 1 ∧ n2 = 1) := by omega
        have Hx2 := hidA hx2
        have KP := hidA kP
        clear hedge s1 s2 hl1 hl2 hqq hrr hfq hfr hfp HBt hx2 kP
        have wn := Hwn.out
        go_upto_region 9 with fail
        clear wn
        have wk := Hwk.out
        have wk2 := Hwk2.out
        refine wp_region_noPanic ?_
        refine wp_region_held_drew (S := fun w' => Ext w2 w') (by kernel_rfl) ?_ (fun hHeld => ?_)
        · (repeat (first | exact Ext.refl _ | assumption | refine Ext.setCell ?_ (by first | (simp; done) | (simp; omega)) _ | refine Ext.drewN ?_ _ | refine Ext.alloc ?_ _ | refine Ext.drew ?_ | refine Ext.trans ?_ (by assumption)))
        refine wpAnyH_take (i := 0) (oi := ?o1x0) (v := ?v1x0) ?hi1x0 (by kernel_rfl) ?hf1x0 ?hr1x0 (fun _ _ _ h => h) ?hy1x0 (by assumption) ?rest1x0
        case hi1x0 => (simp only [List.getElem?_toArray, List.getElem?_cons_zero]; exact rfl)
        case hf1x0 => kernel_rfl
        case hr1x0 => kernel_rfl
        case hy1x0 => (refine Or.inl ⟨by rfl, ?_⟩; intro w hSw; (try dsimp only at hSw); go_simp; try with_reducible rfl)
        simp only [put_mk, List.set_cons_succ, List.set_cons_zero]
        refine wpAnyH_take (i := 1) (oi := ?o1x1) (v := ?v1x1) ?hi1x1 (by kernel_rfl) ?hf1x1 ?hr1x1 (fun _ _ _ h => h) ?hy1x1 (by assumption) ?rest1x1
        case hi1x1 => (simp only [List.getElem?_toArray, List.getElem?_cons_succ, List.getElem?_cons_zero]; exact rfl)
        case hf1x1 => kernel_rfl
        case hr1x1 => kernel_rfl
        case hy1x1 => (refine Or.inl ⟨by rfl, ?_⟩; intro w hSw; (try dsimp only at hSw); go_simp; try with_reducible rfl)
        simp only [put_mk, List.set_cons_succ, List.set_cons_zero]
        refine wpAnyH_take (i := 2) (oi := ?o1x2) (v := ?v1x2) ?hi1x2 (by kernel_rfl) ?hf1x2 ?hr1x2 (fun _ _ _ h => h) ?hy1x2 (by assumption) ?rest1x2
        case hi1x2 => (simp only [List.getElem?_toArray, List.getElem?_cons_succ, List.getElem?_cons_zero]; exact rfl)
        case hf1x2 => kernel_rfl
        case hr1x2 => kernel_rfl
        case hy1x2 => (refine Or.inl ⟨by rfl, ?_⟩; intro w hSw; (try dsimp only at hSw); go_simp; try with_reducible rfl)
        simp only [put_mk, List.set_cons_succ, List.set_cons_zero]
        refine wpAnyH_take (i := 3) (oi := ?o1x3) (v := ?v1x3) ?hi1x3 (by kernel_rfl) ?hf1x3 ?hr1x3 (fun _ _ _ h => h) ?hy1x3 (by assumption) ?rest1x3
        case hi1x3 => (simp only [List.getElem?_toArray, List.getElem?_cons_succ, List.getElem?_cons_zero]; exact rfl)
        case hf1x3 => kernel_rfl
        case hr1x3 => kernel_rfl
        case hy1x3 => (refine Or.inl ⟨by rfl, ?_⟩; intro w hSw; (try dsimp only at hSw); go_simp; try with_reducible rfl)
        simp only [put_mk, List.set_cons_succ, List.set_cons_zero]
        refine wpAnyH_take (i := 4) (oi := ?o1x4) (v := ?v1x4) ?hi1x4 (by kernel_rfl) ?hf1x4 ?hr1x4 (fun _ _ _ h => h) ?hy1x4 (by assumption) ?rest1x4
        case hi1x4 => (simp only [List.getElem?_toArray, List.getElem?_cons_succ, List.getElem?_cons_zero]; exact rfl)
        case hf1x4 => kernel_rfl
        case hr1x4 => kernel_rfl
        case hy1x4 => (refine Or.inl ⟨by rfl, ?_⟩; intro w hSw; (try dsimp only at hSw); go_simp; try with_reducible rfl)
        simp only [put_mk, List.set_cons_succ, List.set_cons_zero]
        refine wpAnyH_take (i := 5) (oi := ?o1x5) (v := ?v1x5) ?hi1x5 (by kernel_rfl) ?hf1x5 ?hr1x5 (fun _ _ _ h => h) ?hy1x5 (by assumption) ?rest1x5
        case hi1x5 => (simp only [List.getElem?_toArray, List.getElem?_cons_succ, List.getElem?_cons_zero]; exact rfl)
        case hf1x5 => kernel_rfl
        case hr1x5 => kernel_rfl
        case hy1x5 => (refine Or.inl ⟨by rfl, ?_⟩; intro w hSw; (try dsimp only at hSw); go_simp; try with_reducible rfl)
        simp only [put_mk, List.set_cons_succ, List.set_cons_zero]
        refine wpAnyH_ready (rs := [6]) (by kernel_rfl) (by simp) ?_
        refine AllReadyH.cons (o := ?o1x6) ?hi1x6 (fun K hK => ?_) AllReadyH.nil
        case hi1x6 => (simp only [List.getElem?_toArray, List.getElem?_cons_succ, List.getElem?_cons_zero]; exact rfl)
        go_simp
        go_at_call 78; refine ((HB1 _).out).mono ?_; rintro e w5 ⟨rfl, hx5⟩
        refine hK.out _ _ ?_ (fun hHeld => ?_)
        · (repeat (first | exact Ext.refl _ | assumption | refine Ext.setCell ?_ (by first | (simp; done) | (simp; omega)) _ | refine Ext.drewN ?_ _ | refine Ext.alloc ?_ _ | refine Ext.drew ?_ | refine Ext.trans ?_ (by assumption)))
        clear hK K
        refine wpAnyH_take (i := 7) (oi := ?o1x7) (v := ?v1x7) ?hi1x7 (by kernel_rfl) ?hf1x7 ?hr1x7 (fun _ _ _ h => h) ?hy1x7 (by assumption) ?rest1x7
        case hi1x7 => (simp only [List.getElem?_toArray, List.getElem?_cons_succ, List.getElem?_cons_zero]; exact rfl)
        case hf1x7 => kernel_rfl
        case hr1x7 => kernel_rfl
        case hy1x7 => (refine Or.inl ⟨by rfl, ?_⟩; intro w hSw; (try dsimp only at hSw); go_simp; try with_reducible rfl)
        simp only [put_mk, List.set_cons_succ, List.set_cons_zero]
        refine wpAnyH_take (i := 8) (oi := ?o1x8) (v := ?v1x8) ?hi1x8 (by kernel_rfl) ?hf1x8 ?hr1x8 (fun _ _ _ h => h) ?hy1x8 (by assumption) ?rest1x8
        case hi1x8 => (simp only [List.getElem?_toArray, List.getElem?_cons_succ, List.getElem?_cons_zero]; exact rfl)
        case hf1x8 => kernel_rfl
        case hr1x8 => kernel_rfl
        case hy1x8 => (refine Or.inl ⟨by rfl, ?_⟩; intro w hSw; (try dsimp only at hSw); go_simp; try with_reducible rfl)
        simp only [put_mk, List.set_cons_succ, List.set_cons_zero]
        refine wpAnyH_take (i := 9) (oi := ?o1x9) (v := ?v1x9) ?hi1x9 (by kernel_rfl) ?hf1x9 ?hr1x9 (fun _ _ _ h => h) ?hy1x9 (by assumption) ?rest1x9
        case hi1x9 => (simp only [List.getElem?_toArray, List.getElem?_cons_succ, List.getElem?_cons_zero]; exact rfl)
        case hf1x9 => kernel_rfl
        case hr1x9 => kernel_rfl
        case hy1x9 => (refine Or.inl ⟨by rfl, ?_⟩; intro w hSw; (try dsimp only at hSw); go_simp; try with_reducible rfl)
        simp only [put_mk, List.set_cons_succ, List.set_cons_zero]
        refine wpAnyH_take (i := 10) (oi := ?o1x10) (v := ?v1x10) ?hi1x10 (by kernel_rfl) ?hf1x10 ?hr1x10 (fun _ _ _ h => h) ?hy1x10 (by assumption) ?rest1x10
        case hi1x10 => (simp only [List.getElem?_toArray, List.getElem?_cons_succ, List.getElem?_cons_zero]; exact rfl)
        case hf1x10 => kernel_rfl
        case hr1x10 => kernel_rfl
        case hy1x10 => (refine Or.inl ⟨by rfl, ?_⟩; intro w hSw; (try dsimp only at hSw); go_simp; try with_reducible rfl)
        simp only [put_mk, List.set_cons_succ, List.set_cons_zero]
        refine wpAnyH_take (i := 11) (oi := ?o1x11) (v := ?v1x11) ?hi1x11 (by kernel_rfl) ?hf1x11 ?hr1x11 (fun _ _ _ h => h) ?hy1x11 (by assumption) ?rest1x11
        case hi1x11 => (simp only [List.getElem?_toArray, List.getElem?_cons_succ, List.getElem?_cons_zero]; exact rfl)
        case hf1x11 => kernel_rfl
        case hr1x11 => kernel_rfl
        case hy1x11 => (refine Or.inl ⟨by rfl, ?_⟩; intro w hSw; (try dsimp only at hSw); go_simp; try with_reducible rfl)
        simp only [put_mk, List.set_cons_succ, List.set_cons_zero]
        refine wpAnyH_done (by kernel_rfl) ?_ _
        refine NoPanic.normal ?_
        clear wk wk2 e0 e1
        have hx5 : Ext w2 w5 := hHeld
        have E2 := fun (w' : World) (h : Ext w5 w') => e2 w' (hx5.trans h)
        have E3 := fun (w' : World) (h : Ext w5 w') => e3 w' (hx5.trans h)
        have F0 := fun (w' : World) (h : Ext w5 w') => f0 w' (hx5.trans h)
        have F1 := fun (w' : World) (h : Ext w5 w') => f1 w' (hx5.trans h)
        clear e2 e3 f0 f1
        go_upto_region 10 with fail
        have wk := Hwk3.out
        have wk2 := Hwk4.out
        refine wp_region_noPanic ?_
        refine wp_region_held_drew (S := fun w' => Ext w5 w') (by kernel_rfl) ?_ (fun hHeld => ?_)
        · (repeat (first | exact Ext.refl _ | assumption | refine Ext.setCell ?_ (by first | (simp; done) | (simp; omega)) _ | refine Ext.drewN ?_ _ | refine Ext.alloc ?_ _ | refine Ext.drew ?_ | refine Ext.trans ?_ (by assumption)))
        refine wpAnyH_take (i := 0) (oi := ?o2x0) (v := ?v2x0) ?hi2x0 (by kernel_rfl) ?hf2x0 ?hr2x0 (fun _ _ _ h => h) ?hy2x0 (by assumption) ?rest2x0
        case hi2x0 => (simp only [List.getElem?_toArray, List.getElem?_cons_zero]; exact rfl)
        case hf2x0 => kernel_rfl
        case hr2x0 => kernel_rfl
        case hy2x0 => (refine Or.inl ⟨by rfl, ?_⟩; intro w hSw; (try dsimp only at hSw); go_simp; try with_reducible rfl)
        simp only [put_mk, List.set_cons_succ, List.set_cons_zero]
        refine wpAnyH_take (i := 1) (oi := ?o2x1) (v := ?v2x1) ?hi2x1 (by kernel_rfl) ?hf2x1 ?hr2x1 (fun _ _ _ h => h) ?hy2x1 (by assumption) ?rest2x1
        case hi2x1 => (simp only [List.getElem?_toArray, List.getElem?_cons_succ, List.getElem?_cons_zero]; exact rfl)
        case hf2x1 => kernel_rfl
        case hr2x1 => kernel_rfl
        case hy2x1 => (refine Or.inl ⟨by rfl, ?_⟩; intro w hSw; (try dsimp only at hSw); go_simp; try with_reducible rfl)
        simp only [put_mk, List.set_cons_succ, List.set_cons_zero]
        refine wpAnyH_take (i := 2) (oi := ?o2x2) (v := ?v2x2) ?hi2x2 (by kernel_rfl) ?hf2x2 ?hr2x2 (fun _ _ _ h => h) ?hy2x2 (by assumption) ?rest2x2
        case hi2x2 => (simp only [List.getElem?_toArray, List.getElem?_cons_succ, List.getElem?_cons_zero]; exact rfl)
        case hf2x2 => kernel_rfl
        case hr2x2 => kernel_rfl
        case hy2x2 => (refine Or.inl ⟨by rfl, ?_⟩; intro w hSw; (try dsimp only at hSw); go_simp; try with_reducible rfl)
        simp only [put_mk, List.set_cons_succ, List.set_cons_zero]
        refine wpAnyH_take (i := 3) (oi := ?o2x3) (v := ?v2x3) ?hi2x3 (by kernel_rfl) ?hf2x3 ?hr2x3 (fun _ _ _ h => h) ?hy2x3 (by assumption) ?rest2x3
        case hi2x3 => (simp only [List.getElem?_toArray, List.getElem?_cons_succ, List.getElem?_cons_zero]; exact rfl)
        case hf2x3 => kernel_rfl
        case hr2x3 => kernel_rfl
        case hy2x3 => (refine Or.inl ⟨by rfl, ?_⟩; intro w hSw; (try dsimp only at hSw); go_simp; try with_reducible rfl)
        simp only [put_mk, List.set_cons_succ, List.set_cons_zero]
        refine wpAnyH_take (i := 4) (oi := ?o2x4) (v := ?v2x4) ?hi2x4 (by kernel_rfl) ?hf2x4 ?hr2x4 (fun _ _ _ h => h) ?hy2x4 (by assumption) ?rest2x4
        case hi2x4 => (simp only [List.getElem?_toArray, List.getElem?_cons_succ, List.getElem?_cons_zero]; exact rfl)
        case hf2x4 => kernel_rfl
        case hr2x4 => kernel_rfl
        case hy2x4 => (refine Or.inl ⟨by rfl, ?_⟩; intro w hSw; (try dsimp only at hSw); go_simp; try with_reducible rfl)
        simp only [put_mk, List.set_cons_succ, List.set_cons_zero]
        refine wpAnyH_take (i := 5) (oi := ?o2x5) (v := ?v2x5) ?hi2x5 (by kernel_rfl) ?hf2x5 ?hr2x5 (fun _ _ _ h => h) ?hy2x5 (by assumption) ?rest2x5
        case hi2x5 => (simp only [List.getElem?_toArray, List.getElem?_cons_succ, List.getElem?_cons_zero]; exact rfl)
        case hf2x5 => kernel_rfl
        case hr2x5 => kernel_rfl
        case hy2x5 => (refine Or.inl ⟨by rfl, ?_⟩; intro w hSw; (try dsimp only at hSw); go_simp; try with_reducible rfl)
        simp only [put_mk, List.set_cons_succ, List.set_cons_zero]
        refine wpAnyH_ready (rs := [6]) (by kernel_rfl) (by simp) ?_
        refine AllReadyH.cons (o := ?o2x6) ?hi2x6 (fun K hK => ?_) AllReadyH.nil
        case hi2x6 => (simp only [List.getElem?_toArray, List.getElem?_cons_succ, List.getElem?_cons_zero]; exact rfl)
        go_simp
        go_at_call 78; refine ((HB2 _).out).mono ?_; rintro e w6 ⟨rfl, hx6⟩
        refine hK.out _ _ ?_ (fun hHeld => ?_)
        · (repeat (first | exact Ext.refl _ | assumption | refine Ext.setCell ?_ (by first | (simp; done) | (simp; omega)) _ | refine Ext.drewN ?_ _ | refine Ext.alloc ?_ _ | refine Ext.drew ?_ | refine Ext.trans ?_ (by assumption)))
        clear hK K
        refine wpAnyH_take (i := 7) (oi := ?o2x7) (v := ?v2x7) ?hi2x7 (by kernel_rfl) ?hf2x7 ?hr2x7 (fun _ _ _ h => h) ?hy2x7 (by assumption) ?rest2x7
        case hi2x7 => (simp only [List.getElem?_toArray, List.getElem?_cons_succ, List.getElem?_cons_zero]; exact rfl)
        case hf2x7 => kernel_rfl
        case hr2x7 => kernel_rfl
        case hy2x7 => (refine Or.inl ⟨by rfl, ?_⟩; intro w hSw; (try dsimp only at hSw); go_simp; try with_reducible rfl)
        simp only [put_mk, List.set_cons_succ, List.set_cons_zero]
        refine wpAnyH_take (i := 8) (oi := ?o2x8) (v := ?v2x8) ?hi2x8 (by kernel_rfl) ?hf2x8 ?hr2x8 (fun _ _ _ h => h) ?hy2x8 (by assumption) ?rest2x8
        case hi2x8 => (simp only [List.getElem?_toArray, List.getElem?_cons_succ, List.getElem?_cons_zero]; exact rfl)
        case hf2x8 => kernel_rfl
        case hr2x8 => kernel_rfl
        case hy2x8 => (refine Or.inl ⟨by rfl, ?_⟩; intro w hSw; (try dsimp only at hSw); go_simp; try with_reducible rfl)
        simp only [put_mk, List.set_cons_succ, List.set_cons_zero]
        refine wpAnyH_take (i := 9) (oi := ?o2x9) (v := ?v2x9) ?hi2x9 (by kernel_rfl) ?hf2x9 ?hr2x9 (fun _ _ _ h => h) ?hy2x9 (by assumption) ?rest2x9
        case hi2x9 => (simp only [List.getElem?_toArray, List.getElem?_cons_succ, List.getElem?_cons_zero]; exact rfl)
        case hf2x9 => kernel_rfl
        case hr2x9 => kernel_rfl
        case hy2x9 => (refine Or.inl ⟨by rfl, ?_⟩; intro w hSw; (try dsimp only at hSw); go_simp; try with_reducible rfl)
        simp only [put_mk, List.set_cons_succ, List.set_cons_zero]
        refine wpAnyH_take (i := 10) (oi := ?o2x10) (v := ?v2x10) ?hi2x10 (by kernel_rfl) ?hf2x10 ?hr2x10 (fun _ _ _ h => h) ?hy2x10 (by assumption) ?rest2x10
        case hi2x10 => (simp only [List.getElem?_toArray, List.getElem?_cons_succ, List.getElem?_cons_zero]; exact rfl)
        case hf2x10 => kernel_rfl
        case hr2x10 => kernel_rfl
        case hy2x10 => (refine Or.inl ⟨by rfl, ?_⟩; intro w hSw; (try dsimp only at hSw); go_simp; try with_reducible rfl)
        simp only [put_mk, List.set_cons_succ, List.set_cons_zero]
        refine wpAnyH_take (i := 11) (oi := ?o2x11) (v := ?v2x11) ?hi2x11 (by kernel_rfl) ?hf2x11 ?hr2x11 (fun _ _ _ h => h) ?hy2x11 (by assumption) ?rest2x11
        case hi2x11 => (simp only [List.getElem?_toArray, List.getElem?_cons_succ, List.getElem?_cons_zero]; exact rfl)
        case hf2x11 => kernel_rfl
        case hr2x11 => kernel_rfl
        case hy2x11 => (refine Or.inl ⟨by rfl, ?_⟩; intro w hSw; (try dsimp only at hSw); go_simp; try with_reducible rfl)
        simp only [put_mk, List.set_cons_succ, List.set_cons_zero]
        refine wpAnyH_done (by kernel_rfl) ?_ _
        refine NoPanic.normal ?_
        clear wk wk2
        have hx6 : Ext w2 w6 := hx5.trans hHeld
        have hO6 := hO2.ext hx6
        have kP6 := KP.out.ext hx6
        have hx66 := Hx2.out.trans hx6
        clear E2 E3 F0 F1 hO2 hx5 hx6 hHeld KP Hx2
        have p0 := kP6.cell 0
        have p1 := kP6.cell 1
        have Hx2 := hidA hx66
        have hO2 := hO6
        clear hO6 hx66 kP6
        rcases hcs with q1 | ⟨q1, q2⟩ | ⟨q1, q2, q3⟩ | ⟨q1, q2, q3⟩
        · have Hcb := hidA (show cornB l k = true from by rw [Hcb.out]; simp [q1])
          have q1' : ((d1 : Int) == d2) = false := by simp; omega
          go_upto_region 12 with fail
          have hown2 := hidA (hO2.ext ((Ext.refl w6).alloc (.cells #[.int .i64 px, .int .i64 py] 32)))
          have hnews : Hid (∀ j u, ([Value.int .i64 px, .int .i64 py] : List Value)[j]? = some u → (w6.alloc (.cells #[.int .i64 px, .int .i64 py] 32)).cell? ((⟨w6.heap.size, 0, none⟩ : Addr).add j) = some u) := World.news_of_block (cs := #[.int .i64 px, .int .i64 py]) (t := 32) (fr := (0, 0)) (heap_alloc_new w6 _)
          have hone : Hid (∀ u ∈ ([Value.int .i64 px, .int .i64 py] : List Value), u.oneCell' = true) := by intro u hu; simp at hu; rcases hu with rfl | rfl <;> rfl
          have hs9 := hidA (show w.heap.size ≤ (w6.alloc (.cells #[.int .i64 px, .int .i64 py] 32)).heap.size from by have := Hx2.out.size; rw [World.size_alloc]; omega)
          clear hO2
          go_wp2_with (at_builtin; (refine wpList_append_lies _ (by rfl) _ _ 46 (by rfl) w.heap.size 32 ti (.agg #[.int .i64 0, .int .i64 0]) 2 16 Try.underlying46 hi0 hz0 hz1 hz2 (by rfl) (by decide) _ _ _ (by rfl) hown2.out ⟨w6.heap.size, 0, none⟩ 1 1 [.int .i64 px, .int .i64 py] (by rfl) (by rfl) hnews.out hone.out (by omega) (by unfold maxLen; omega) (by omega) hs9.out (w6.heap.size + 1) (by simp) ?_; intro gg cap w9 hown9 hgrow9 hat hlt))
          have hx9 := (Hx2.out.alloc (.cells #[.int .i64 px, .int .i64 py] 32)).grown hgrow9 (fun b hb => (World.ownsRow.lt hown2.out b hb).1)
          have HO9 := hidA hown9
          have Hx9 := hidA hx9
          clear hown9 hgrow9 hat hlt hx9
          go_roundw
          case rel => exact ⟨k + 1, by omega, by go_num, by have h8 := HO9.out; rw [cornL_succ, Hcb.out, Hpp.out]; unfold OwnP; simp only [if_true, ptv_append, List.length_append, List.length_cons, List.length_nil]; exact h8, Hx9.out⟩
          case measure => simp [intOf]; omega
        · have Hcb := hidA (show cornB l k = true from by rw [Hcb.out]; simp [q2])
          have q1' : ((d1 : Int) == d2) = true := by simp; omega
          have q2' : ((n1 : Int) == 1) = false := by simp; omega
          go_upto_region 12 with fail
          have hown2 := hidA (hO2.ext ((Ext.refl w6).alloc (.cells #[.int .i64 px, .int .i64 py] 32)))
          have hnews : Hid (∀ j u, ([Value.int .i64 px, .int .i64 py] : List Value)[j]? = some u → (w6.alloc (.cells #[.int .i64 px, .int .i64 py] 32)).cell? ((⟨w6.heap.size, 0, none⟩ : Addr).add j) = some u) := World.news_of_block (cs := #[.int .i64 px, .int .i64 py]) (t := 32) (fr := (0, 0)) (heap_alloc_new w6 _)
          have hone : Hid (∀ u ∈ ([Value.int .i64 px, .int .i64 py] : List Value), u.oneCell' = true) := by intro u hu; simp at hu; rcases hu with rfl | rfl <;> rfl
          have hs9 := hidA (show w.heap.size ≤ (w6.alloc (.cells #[.int .i64 px, .int .i64 py] 32)).heap.size from by have := Hx2.out.size; rw [World.size_alloc]; omega)
          clear hO2
          go_wp2_with (at_builtin; (refine wpList_append_lies _ (by rfl) _ _ 46 (by rfl) w.heap.size 32 ti (.agg #[.int .i64 0, .int .i64 0]) 2 16 Try.underlying46 hi0 hz0 hz1 hz2 (by rfl) (by decide) _ _ _ (by rfl) hown2.out ⟨w6.heap.size, 0, none⟩ 1 1 [.int .i64 px, .int .i64 py] (by rfl) (by rfl) hnews.out hone.out (by omega) (by unfold maxLen; omega) (by omega) hs9.out (w6.heap.size + 1) (by simp) ?_; intro gg cap w9 hown9 hgrow9 hat hlt))
          have hx9 := (Hx2.out.alloc (.cells #[.int .i64 px, .int .i64 py] 32)).grown hgrow9 (fun b hb => (World.ownsRow.lt hown2.out b hb).1)
          have HO9 := hidA hown9
          have Hx9 := hidA hx9
          clear hown9 hgrow9 hat hlt hx9
          go_roundw
          case rel => exact ⟨k + 1, by omega, by go_num, by have h8 := HO9.out; rw [cornL_succ, Hcb.out, Hpp.out]; unfold OwnP; simp only [if_true, ptv_append, List.length_append, List.length_cons, List.length_nil]; exact h8, Hx9.out⟩
          case measure => simp [intOf]; omega
        · have Hcb := hidA (show cornB l k = true from by rw [Hcb.out]; simp [q3])
          have q1' : ((d1 : Int) == d2) = true := by simp; omega
          have q2' : ((n1 : Int) == 1) = true := by simp; omega
          have q3' : ((n2 : Int) == 1) = false := by simp; omega
          go_upto_region 12 with fail
          have hown2 := hidA (hO2.ext ((Ext.refl w6).alloc (.cells #[.int .i64 px, .int .i64 py] 32)))
          have hnews : Hid (∀ j u, ([Value.int .i64 px, .int .i64 py] : List Value)[j]? = some u → (w6.alloc (.cells #[.int .i64 px, .int .i64 py] 32)).cell? ((⟨w6.heap.size, 0, none⟩ : Addr).add j) = some u) := World.news_of_block (cs := #[.int .i64 px, .int .i64 py]) (t := 32) (fr := (0, 0)) (heap_alloc_new w6 _)
          have hone : Hid (∀ u ∈ ([Value.int .i64 px, .int .i64 py] : List Value), u.oneCell' = true) := by intro u hu; simp at hu; rcases hu with rfl | rfl <;> rfl
          have hs9 := hidA (show w.heap.size ≤ (w6.alloc (.cells #[.int .i64 px, .int .i64 py] 32)).heap.size from by have := Hx2.out.size; rw [World.size_alloc]; omega)
          clear hO2
          go_wp2_with (at_builtin; (refine wpList_append_lies _ (by rfl) _ _ 46 (by rfl) w.heap.size 32 ti (.agg #[.int .i64 0, .int .i64 0]) 2 16 Try.underlying46 hi0 hz0 hz1 hz2 (by rfl) (by decide) _ _ _ (by rfl) hown2.out ⟨w6.heap.size, 0, none⟩ 1 1 [.int .i64 px, .int .i64 py] (by rfl) (by rfl) hnews.out hone.out (by omega) (by unfold maxLen; omega) (by omega) hs9.out (w6.heap.size + 1) (by simp) ?_; intro gg cap w9 hown9 hgrow9 hat hlt))
          have hx9 := (Hx2.out.alloc (.cells #[.int .i64 px, .int .i64 py] 32)).grown hgrow9 (fun b hb => (World.ownsRow.lt hown2.out b hb).1)
          have HO9 := hidA hown9
          have Hx9 := hidA hx9
          clear hown9 hgrow9 hat hlt hx9
          go_roundw
          case rel => exact ⟨k + 1, by omega, by go_num, by have h8 := HO9.out; rw [cornL_succ, Hcb.out, Hpp.out]; unfold OwnP; simp only [if_true, ptv_append, List.length_append, List.length_cons, List.length_nil]; exact h8, Hx9.out⟩
          case measure => simp [intOf]; omega
        · have Hcb := hidA (show cornB l k = false from by rw [Hcb.out]; simp [q1, q2, q3])
          have q1' : ((d1 : Int) == d2) = true := by simp; omega
          have q2' : ((n1 : Int) == 1) = true := by simp; omega
          have q3' : ((n2 : Int) == 1) = true := by simp; omega
          have HO2 := hidA hO2
          clear hO2
          go_wp2
          go_roundw
          case rel => exact ⟨k + 1, by omega, by go_num, by rw [cornL_succ, Hcb.out]; simpa using HO2.out, Hx2.out⟩
          case measure => simp [intOf]; omega
    · have hkn2 : n = k := by omega
      subst hkn2
      have HO := hidA hO
      go_wp2
      go_ret2
      exact ⟨_, rfl, HO.out, hx⟩
end Go.Proofs.Ytpgdinpckolfpaa

namespace Go.Proofs.Ytpgdinpckolfpaa
open Go.RowKit
attribute [local go_sem ↓] Go.wp_at_zero Go.wp_at_succ
attribute [local go_sem] run_store_float

/-- the lengths of the first i steps -/
def lnL (l : List (Int × Int)) : Nat → List Nat
  | 0 => []
  | i + 1 => lnL l i ++ [lenR (lpo l (i + 1)).1 (lpo l (i + 1)).2]
theorem lnL_length (l : List (Int × Int)) : ∀ i, (lnL l i).length = i
  | 0 => rfl
  | i + 1 => by rw [lnL, List.length_append, lnL_length l i]; rfl
theorem flt_append (l m : List Nat) : flt (l ++ m) = flt l ++ flt m := by simp [flt]
/-- singles of the call's own -/
def OwnFl (w : World) (base : Nat) (v : Value) (xs : List Nat) : Prop := w.ownsRow base 27 1 v xs.length (flt xs)
theorem OwnFl.ext {w w' : World} {base : Nat} {v : Value} {xs : List Nat} (h : OwnFl w base v xs) (hx : Ext w w') : OwnFl w' base v xs := World.ownsRow.kept h (grown_ext hx none) (by cases h : v.ownBlock <;> simp)
theorem OwnFl.push {w : World} {base : Nat} {v : Value} {xs : List Nat} {x : Nat} (h : w.ownsRow base 27 1 v (xs.length + 1) (flt xs ++ [.float .f32 x])) : OwnFl w base v (xs ++ [x]) := by
  unfold OwnFl
  rw [flt_append, List.length_append]
  exact h
theorem Rd.ptailY {w : World} {ad : Addr} {p : Int × Int} {r : List (Int × Int)} (h : Rd w (some ad) (ptv (p :: r))) : Rd w (some (ad.add 2)) (ptv r) := by
  intro hne
  obtain ⟨a, e, hb, hc⟩ := h (by rw [ptv_cons]; simp)
  injection e with e
  subst e
  refine ⟨_, rfl, by rw [add_block]; exact hb, fun j u hu => ?_⟩
  rw [add_add']
  exact hc _ _ (by rw [ptv_cons, Nat.add_comm 2 j]; simpa using hu)
theorem maxY {a : Nat} (h : a ≤ 65536) : a + 1 ≤ maxLen ∧ (a + 1) * 4 ≤ 140737488355328 := by unfold maxLen; omega
theorem nxt_y {k n : Nat} (h : k < n - 1) : n - (intOf (.int .i64 ((k : Int) + 1))).toNat < n - (intOf (.int .i64 (k : Int))).toNat := by
  simp [intOf]
  omega
set_option maxRecDepth 100000 in
set_option maxHeartbeats 6400000 in
theorem lengths_any {bad : Int × Int → Bool} (hbad : ∀ p, bad p = false → -4194304 ≤ p.1 ∧ p.1 ≤ 4194304 ∧ -4194304 ≤ p.2 ∧ p.2 ≤ 4194304) (A : Option Addr) (n c : Nat) (l : List (Int × Int)) (w : World) (hn : l.length = n) (hV : Rd w A (ptv l)) (hnc : n ≤ c) (hok : WayOk bad l) :
    Calls Try.prog 86 #[.slice A n c] w fun e w' => ∃ v, e = .returned v ∧ OwnFl w' w.heap.size v (lnL l (n - 1)) ∧ Ext w w' := by
  have Hn := hidA hn
  have Hok := hidA hok
  have HBt := fun (qx qy px py : Int) (w : World) (h1 : bad (qx, qy) = false) (h2 : bad (px, py) = false) => hidA (between_any qx qy px py w (by have := hbad _ h1; dsimp only at this; omega) (by have := hbad _ h1; dsimp only at this; omega) (by have := hbad _ h2; dsimp only at this; omega) (by have := hbad _ h2; dsimp only at this; omega))
  have hn6 : n ≤ 65536 := by have := hok.le; omega
  have hn1 : 1 ≤ n := by have := hok.pos; omega
  obtain ⟨ti, hi0, hz0, hz1, hz2⟩ := info_parts infoFlo
  obtain ⟨p0, r, hpr⟩ : ∃ p0 r, l = p0 :: r := by
    cases l with
    | nil => simp at hn; omega
    | cons p0 r => exact ⟨p0, r, rfl⟩
  obtain ⟨adP, rfl, _, _⟩ := hV (by rw [hpr, ptv_cons]; simp)
  have HRd := hidA hV
  have HTl : Hid (Rd w (some (adP.add 2)) (ptv r)) := Rd.ptailY (by rw [← hpr]; exact hV)
  have hadd : adP.add 2 = ⟨adP.block, adP.off + 2, none⟩ := add_pos _ (by omega)
  rw [hadd] at HTl
  have Hrl := hidA (show r.length + 1 = n from by rw [← hn, hpr]; rfl)
  have Hgt := hidA (fun i => show l.getD (i + 1) (0, 0) = r.getD i (0, 0) from by rw [hpr]; simp)
  have hnc1 : (1 : Int) ≤ n := by omega
  have hncc : (n : Int) ≤ c := by omega
  clear hn hok hV hpr hadd
  go_enter Try.func86, Try.ntmps86
  by_cases hc1 : c = 1
  · subst hc1
    obtain rfl : n = 1 := by omega
    go_upto_region 3 with fail
    go_loopw [3, 9] (fun s3 s9 wq => s3 = .slice none 0 0 ∧ s9 = .int .i64 0 ∧ wq = w) (fun _ _ _ => 0)
    case atStart => exact ⟨rfl, rfl, rfl⟩
    case round =>
      obtain ⟨rfl, rfl, hwq⟩ := hrel
      rw [hwq]
      clear hwq
      go_wp2
      go_ret
      exact ⟨_, rfl, World.ownsRow_nil _ _ _ _, Ext.refl _⟩
  · have hc2 : ¬ (c : Int) = 1 := by omega
    go_upto_region 3 with fail
    obtain ⟨adT, hadT⟩ : ∃ adT : Addr, adT = ⟨adP.block, adP.off + 2, none⟩ := ⟨_, rfl⟩
    rw [← hadT] at HTl ⊢
    clear hadT hc1 hc2 hnc1 hncc
    go_loopw [3, 9] (fun s3 s9 wq => ∃ i : Nat, i ≤ n - 1 ∧ s9 = .int .i64 i ∧ OwnFl wq w.heap.size s3 (lnL l i) ∧ Ext w wq) (fun _ s9 _ => n - (intOf s9).toNat)
    case atStart => exact ⟨0, Nat.zero_le _, rfl, World.ownsRow_nil _ _ _ _, Ext.refl _⟩
    case round =>
      obtain ⟨i, hi, rfl, hO, hx⟩ := hrel
      by_cases hin : i < n - 1
      · have Hin := hidA hin
        obtain ⟨ad1, e1, hb1, c0, c1⟩ := pt_at (HRd.out.ext hx) (k := i) (by have := Hn.out; omega)
        injection e1 with e1
        subst e1
        obtain ⟨ad2, e2, hb2, d0, d1⟩ := pt_at (HTl.out.ext hx) (k := i) (by have := Hrl.out; omega)
        injection e2 with e2
        subst e2
        rw [← Hgt.out i] at d0 d1
        have hst := Hok.out.st (i + 1) (by omega) (by have := Hn.out; omega)
        have hf1 := Hok.out.ok i (by have := Hn.out; omega)
        have hf2 := Hok.out.ok (i + 1) (by have := Hn.out; omega)
        rw [Nat.add_sub_cancel] at hst
        have Hnx := hidA (show lnL l (i + 1) = lnL l i ++ [lenR (lpo l (i + 1)).1 (lpo l (i + 1)).2] from rfl)
        obtain ⟨px, py, hpp⟩ : ∃ px py, l.getD i (0, 0) = (px, py) := ⟨_, _, rfl⟩
        obtain ⟨qx, qy, hqq⟩ : ∃ qx qy, l.getD (i + 1) (0, 0) = (qx, qy) := ⟨_, _, rfl⟩
        obtain ⟨d, m, hdm⟩ : ∃ d m, lpo l (i + 1) = (d, m) := ⟨_, _, rfl⟩
        rw [hdm] at hst Hnx
        rw [hpp] at hst hf1 c0 c1
        rw [hqq] at hst hf2 d0 d1
        dsimp only at hst c0 c1 d0 d1 Hnx
        obtain ⟨hs1, hd8, hm1, hm2⟩ := hst
        have HB1 := fun (w : World) => HBt px py qx qy w hf1 hf2
        unfold btV at HB1
        rw [hs1] at HB1
        simp only [] at HB1
        have HL1 := fun (w : World) => hidA (length_any d m w hd8 hm1 hm2)
        obtain ⟨x, hxl⟩ : ∃ x, x = lenR d m := ⟨_, rfl⟩
        rw [← hxl] at HL1 Hnx
        have Hpp := hidA hpp
        have Hlen := hidA (show (lnL l i).length ≤ 65536 from by rw [lnL_length]; omega)
        have i0 : (0 : Int) ≤ i := by omega
        have i1 : (i : Int) < ((n - 1 : Nat) : Int) := by omega
        have i2 : (i : Int) < n := by omega
        clear hpp hqq hdm hs1 hf1 hf2 hin hi hxl
        go_upto_region 5 with fail
        have kB : Bk (wr.alloc (.cells #[.int .i64 qx, .int .i64 qy] 32)) wr.heap.size 32 #[.int .i64 qx, .int .i64 qy] := Bk.new' rfl
        have hxw := (Ext.refl wr).alloc (.cells #[.int .i64 qx, .int .i64 qy] 32)
        have hnB : u3.ownBlock ≠ some wr.heap.size := fun e => Nat.lt_irrefl _ (World.ownsRow.lt hO _ e).2
        have Hnb := hidA hnB
        have hO4 := hO.ext hxw
        have hx4 := hx.trans hxw
        clear c0 c1 d0 d1 hO hx hxw hb1 hb2 hnB
        generalize wr.alloc (.cells #[.int .i64 qx, .int .i64 qy] 32) = w4 at *
        generalize wr.heap.size = hb at *
        have KW : ∀ w', Ext w w' → w'.cell? (adP.add (i * 2)) = some (.int .i64 px) ∧ w'.cell? ⟨(adP.add (i * 2)).block, (adP.add (i * 2)).off + 1, none⟩ = some (.int .i64 py) := fun w' h => by
          obtain ⟨ad', e, _, g0, g1⟩ := pt_at (HRd.out.ext h) (k := i) (by have := Hn.out; have := Hin.out; omega)
          injection e with e
          subst e
          rw [Hpp.out] at g0 g1
          exact ⟨g0, g1⟩
        have KS : ∀ w', Ext w4 w' → (fun w' => w'.cell? (adP.add (i * 2)) = some (.int .i64 px) ∧ w'.cell? ⟨(adP.add (i * 2)).block, (adP.add (i * 2)).off + 1, none⟩ = some (.int .i64 py) ∧ w'.cell? ⟨hb, 0, none⟩ = some (.int .i64 qx) ∧ w'.cell? ⟨hb, 1, none⟩ = some (.int .i64 qy)) w' := fun w' h => ⟨(KW _ (hx4.trans h)).1, (KW _ (hx4.trans h)).2, (kB.ext h).cell 0, (kB.ext h).cell 1⟩
        have hone : Hid (∀ u ∈ ([.float .f32 x] : List Value), u.oneCell' = true) := by intro u hu; simp at hu; subst hu; rfl
        have hmx2 := hidA (maxY Hlen.out).1
        have hmb := hidA (maxY Hlen.out).2
        have hltB := kB.lt
        refine wp_region_noPanic ?_
        refine wp_region_held_drew (S := fun w' => w'.cell? (adP.add (i * 2)) = some (.int .i64 px) ∧ w'.cell? ⟨(adP.add (i * 2)).block, (adP.add (i * 2)).off + 1, none⟩ = some (.int .i64 py) ∧ w'.cell? ⟨hb, 0, none⟩ = some (.int .i64 qx) ∧ w'.cell? ⟨hb, 1, none⟩ = some (.int .i64 qy)) (by kernel_rfl) ?_ (fun hHeld => ?_)
        · (first | exact hS9 | exact KS _ (by repeat (first | exact Ext.refl _ | assumption | refine Ext.setCell ?_ (by first | (simp; done) | (simp; omega)) _ | refine Ext.drewN ?_ _ | refine Ext.alloc ?_ _ | refine Ext.drew ?_ | refine Ext.trans ?_ (by assumption))))
        refine wpAnyH_take (i := 0) (oi := ?o1x0) (v := ?v1x0) ?hi1x0 (by kernel_rfl) ?hf1x0 ?hr1x0 (fun _ _ _ h => h) ?hy1x0 (by assumption) ?rest1x0
        case hi1x0 => (simp only [List.getElem?_toArray, List.getElem?_cons_zero]; exact rfl)
        case hf1x0 => kernel_rfl
        case hr1x0 => kernel_rfl
        case hy1x0 => (refine Or.inl ⟨by rfl, ?_⟩; intro w hSw; (try dsimp only at hSw); go_simp; try with_reducible rfl)
        simp only [put_mk, List.set_cons_succ, List.set_cons_zero]
        refine wpAnyH_take (i := 1) (oi := ?o1x1) (v := ?v1x1) ?hi1x1 (by kernel_rfl) ?hf1x1 ?hr1x1 (fun _ _ _ h => h) ?hy1x1 (by assumption) ?rest1x1
        case hi1x1 => (simp only [List.getElem?_toArray, List.getElem?_cons_succ, List.getElem?_cons_zero]; exact rfl)
        case hf1x1 => kernel_rfl
        case hr1x1 => kernel_rfl
        case hy1x1 => (refine Or.inl ⟨by rfl, ?_⟩; intro w hSw; (try dsimp only at hSw); go_simp; try with_reducible rfl)
        simp only [put_mk, List.set_cons_succ, List.set_cons_zero]
        refine wpAnyH_take (i := 2) (oi := ?o1x2) (v := ?v1x2) ?hi1x2 (by kernel_rfl) ?hf1x2 ?hr1x2 (fun _ _ _ h => h) ?hy1x2 (by assumption) ?rest1x2
        case hi1x2 => (simp only [List.getElem?_toArray, List.getElem?_cons_succ, List.getElem?_cons_zero]; exact rfl)
        case hf1x2 => kernel_rfl
        case hr1x2 => kernel_rfl
        case hy1x2 => (refine Or.inl ⟨by rfl, ?_⟩; intro w hSw; (try dsimp only at hSw); go_simp; try with_reducible rfl)
        simp only [put_mk, List.set_cons_succ, List.set_cons_zero]
        refine wpAnyH_take (i := 3) (oi := ?o1x3) (v := ?v1x3) ?hi1x3 (by kernel_rfl) ?hf1x3 ?hr1x3 (fun _ _ _ h => h) ?hy1x3 (by assumption) ?rest1x3
        case hi1x3 => (simp only [List.getElem?_toArray, List.getElem?_cons_succ, List.getElem?_cons_zero]; exact rfl)
        case hf1x3 => kernel_rfl
        case hr1x3 => kernel_rfl
        case hy1x3 => (refine Or.inl ⟨by rfl, ?_⟩; intro w hSw; (try dsimp only at hSw); go_simp; try with_reducible rfl)
        simp only [put_mk, List.set_cons_succ, List.set_cons_zero]
        refine wpAnyH_take (i := 4) (oi := ?o1x4) (v := ?v1x4) ?hi1x4 (by kernel_rfl) ?hf1x4 ?hr1x4 (fun _ _ _ h => h) ?hy1x4 (by assumption) ?rest1x4
        case hi1x4 => (simp only [List.getElem?_toArray, List.getElem?_cons_succ, List.getElem?_cons_zero]; exact rfl)
        case hf1x4 => kernel_rfl
        case hr1x4 => kernel_rfl
        case hy1x4 => (refine Or.inl ⟨by rfl, ?_⟩; intro w hSw; (try dsimp only at hSw); go_simp; try with_reducible rfl)
        simp only [put_mk, List.set_cons_succ, List.set_cons_zero]
        refine wpAnyH_take (i := 5) (oi := ?o1x5) (v := ?v1x5) ?hi1x5 (by kernel_rfl) ?hf1x5 ?hr1x5 (fun _ _ _ h => h) ?hy1x5 (by assumption) ?rest1x5
        case hi1x5 => (simp only [List.getElem?_toArray, List.getElem?_cons_succ, List.getElem?_cons_zero]; exact rfl)
        case hf1x5 => kernel_rfl
        case hr1x5 => kernel_rfl
        case hy1x5 => (refine Or.inl ⟨by rfl, ?_⟩; intro w hSw; (try dsimp only at hSw); go_simp; try with_reducible rfl)
        simp only [put_mk, List.set_cons_succ, List.set_cons_zero]
        refine wpAnyH_ready (rs := [6]) (by kernel_rfl) (by simp) ?_
        refine AllReadyH.cons (o := ?o1x6) ?hi1x6 (fun K hK => ?_) AllReadyH.nil
        case hi1x6 => (simp only [List.getElem?_toArray, List.getElem?_cons_succ, List.getElem?_cons_zero]; exact rfl)
        go_simp
        go_at_call 78
        refine ((HB1 _).out).mono ?_
        rintro e wb ⟨rfl, hxb⟩
        refine hK.out _ _ ?_ (fun hHeld => ?_)
        · (first | exact hS9 | exact KS _ (by repeat (first | exact Ext.refl _ | assumption | refine Ext.setCell ?_ (by first | (simp; done) | (simp; omega)) _ | refine Ext.drewN ?_ _ | refine Ext.alloc ?_ _ | refine Ext.drew ?_ | refine Ext.trans ?_ (by assumption))))
        clear hK K
        refine wpAnyH_take (i := 7) (oi := ?o1x7) (v := ?v1x7) ?hi1x7 (by kernel_rfl) ?hf1x7 ?hr1x7 (fun _ _ _ h => h) ?hy1x7 (by assumption) ?rest1x7
        case hi1x7 => (simp only [List.getElem?_toArray, List.getElem?_cons_succ, List.getElem?_cons_zero]; exact rfl)
        case hf1x7 => kernel_rfl
        case hr1x7 => kernel_rfl
        case hy1x7 => (refine Or.inl ⟨by rfl, ?_⟩; intro w hSw; (try dsimp only at hSw); go_simp; try with_reducible rfl)
        simp only [put_mk, List.set_cons_succ, List.set_cons_zero]
        refine wpAnyH_take (i := 8) (oi := ?o1x8) (v := ?v1x8) ?hi1x8 (by kernel_rfl) ?hf1x8 ?hr1x8 (fun _ _ _ h => h) ?hy1x8 (by assumption) ?rest1x8
        case hi1x8 => (simp only [List.getElem?_toArray, List.getElem?_cons_succ, List.getElem?_cons_zero]; exact rfl)
        case hf1x8 => kernel_rfl
        case hr1x8 => kernel_rfl
        case hy1x8 => (refine Or.inl ⟨by rfl, ?_⟩; intro w hSw; (try dsimp only at hSw); go_simp; try with_reducible rfl)
        simp only [put_mk, List.set_cons_succ, List.set_cons_zero]
        refine wpAnyH_ready (rs := [9]) (by kernel_rfl) (by simp) ?_
        refine AllReadyH.cons (o := ?o1x9) ?hi1x9 (fun K hK => ?_) AllReadyH.nil
        case hi1x9 => (simp only [List.getElem?_toArray, List.getElem?_cons_succ, List.getElem?_cons_zero]; exact rfl)
        go_simp
        go_at_call 116
        refine ((HL1 _).out).mono ?_
        rintro e wl ⟨rfl, hwl⟩
        subst wl
        refine hK.out _ _ ?_ (fun hHeld => ?_)
        · (first | exact hS9 | exact KS _ (by repeat (first | exact Ext.refl _ | assumption | refine Ext.setCell ?_ (by first | (simp; done) | (simp; omega)) _ | refine Ext.drewN ?_ _ | refine Ext.alloc ?_ _ | refine Ext.drew ?_ | refine Ext.trans ?_ (by assumption))))
        clear hK K
        refine wpAnyH_ready (rs := [10]) (by kernel_rfl) (by simp) ?_
        refine AllReadyH.cons (o := ?o1x10) ?hi1x10 (fun K hK => ?_) AllReadyH.nil
        case hi1x10 => (simp only [List.getElem?_toArray, List.getElem?_cons_succ, List.getElem?_cons_zero]; exact rfl)
        go_simp
        have hxe : Ext w4 (wb.alloc (.cells #[.float .f32 x] 27)) := (show Ext w4 wb from (by repeat (first | exact Ext.refl _ | assumption | refine Ext.setCell ?_ (by first | (simp; done) | (simp; omega)) _ | refine Ext.drewN ?_ _ | refine Ext.alloc ?_ _ | refine Ext.drew ?_ | refine Ext.trans ?_ (by assumption)))).alloc _
        have hxa := hidA (hx4.trans hxe)
        have kBa := hidA (kB.ext hxe)
        have hown2 := hidA (hO4.ext hxe)
        have hnews : Hid (∀ j u, ([.float .f32 x] : List Value)[j]? = some u → (wb.alloc (.cells #[.float .f32 x] 27)).cell? ((⟨wb.heap.size, 0, none⟩ : Addr).add j) = some u) := World.news_of_block (cs := #[.float .f32 x]) (t := 27) (fr := (0, 0)) (heap_alloc_new wb _)
        have hs9 := hidA (show w.heap.size ≤ (wb.alloc (.cells #[.float .f32 x] 27)).heap.size from hxa.out.size)
        have hsz1 := hidA (show (wb.alloc (.cells #[.float .f32 x] 27)).heap.size = wb.heap.size + 1 from by rw [World.size_alloc])
        refine hK.out _ _ ?_ (fun hHeld => ?_)
        · (first | exact hS9 | exact KS _ (by repeat (first | exact Ext.refl _ | assumption | refine Ext.setCell ?_ (by first | (simp; done) | (simp; omega)) _ | refine Ext.drewN ?_ _ | refine Ext.alloc ?_ _ | refine Ext.drew ?_ | refine Ext.trans ?_ (by assumption))))
        clear hK K
        refine wpAnyH_ready (rs := [11]) (by kernel_rfl) (by simp) ?_
        refine AllReadyH.cons (o := ?o1x11) ?hi1x11 (fun K hK => ?_) AllReadyH.nil
        case hi1x11 => (simp only [List.getElem?_toArray, List.getElem?_cons_succ, List.getElem?_cons_zero]; exact rfl)
        refine step_append_lies _ (by rfl) (.tmp 14) (.tmp 24) 24 (by rfl) w.heap.size 27 ti (.float .f32 0) 1 4 Try.underlying24 hi0 hz0 hz1 hz2 (by rfl) (by decide) _ _ _ (by rfl) hown2.out ⟨wb.heap.size, 0, none⟩ 1 1 [.float .f32 x] (by rfl) (by rfl) hnews.out hone.out (by omega) hmx2.out hmb.out hs9.out (wb.heap.size + 1) hsz1.out ?_
        intro gg cap9 w9 hown9 hgrow9 hat hlt
        have hx9 : Ext w w9 := hxa.out.grown hgrow9 (fun b hb => (World.ownsRow.lt hown2.out b hb).1)
        have kB9 : Bk w9 hb 32 #[.int .i64 qx, .int .i64 qy] := kBa.out.grown hgrow9 (fun e => Hnb.out e.symm)
        have hS9 : (fun w' => w'.cell? (adP.add (i * 2)) = some (.int .i64 px) ∧ w'.cell? ⟨(adP.add (i * 2)).block, (adP.add (i * 2)).off + 1, none⟩ = some (.int .i64 py) ∧ w'.cell? ⟨hb, 0, none⟩ = some (.int .i64 qx) ∧ w'.cell? ⟨hb, 1, none⟩ = some (.int .i64 qy)) w9 := ⟨(KW _ hx9).1, (KW _ hx9).2, kB9.cell 0, kB9.cell 1⟩
        refine hK.out _ _ ?_ (fun hHeld => ?_)
        · (first | exact hS9 | exact KS _ (by repeat (first | exact Ext.refl _ | assumption | refine Ext.setCell ?_ (by first | (simp; done) | (simp; omega)) _ | refine Ext.drewN ?_ _ | refine Ext.alloc ?_ _ | refine Ext.drew ?_ | refine Ext.trans ?_ (by assumption))))
        clear hK K
        simp only [put_mk, List.set_cons_succ, List.set_cons_zero]
        refine wpAnyH_take (i := 12) (oi := ?o1x12) (v := ?v1x12) ?hi1x12 (by kernel_rfl) ?hf1x12 ?hr1x12 (fun _ _ _ h => h) ?hy1x12 (by assumption) ?rest1x12
        case hi1x12 => (simp only [List.getElem?_toArray, List.getElem?_cons_succ, List.getElem?_cons_zero]; exact rfl)
        case hf1x12 => kernel_rfl
        case hr1x12 => kernel_rfl
        case hy1x12 => (refine Or.inl ⟨by rfl, ?_⟩; intro w hSw; (try dsimp only at hSw); go_simp; try with_reducible rfl)
        simp only [put_mk, List.set_cons_succ, List.set_cons_zero]
        refine wpAnyH_done (by kernel_rfl) ?_ _
        refine NoPanic.normal ?_
        have HO9 := hidA (show OwnFl w9 w.heap.size (.slice (some ⟨gg, 0, none⟩) ((lnL l i).length + 1) cap9) (lnL l (i + 1)) from by
          rw [Hnx.out]
          exact OwnFl.push hown9)
        have Hx9 := hidA hx9
        clear Hnx Hlen hxa kBa Hnb hown2 hnews hone hs9 hsz1 hmx2 hmb KS KW hltB hown9 hgrow9 hat hlt hx9 kB9 hS9 hHeld kB HB1 HL1 hO4 hx4 hxe
        go_wp2
        go_roundw
        case rel => exact ⟨i + 1, Hin.out, (by first | rfl | go_num), HO9.out, Hx9.out⟩
        case measure => exact nxt_y Hin.out
      · obtain rfl : i = n - 1 := by omega
        have HO := hidA hO
        clear hO hi hin
        go_wp2
        go_ret
        exact ⟨_, rfl, HO.out, hx⟩
end Go.Proofs.Ytpgdinpckolfpaa

namespace Go.Proofs.Ytpgdinpckolfpaa
open Go.RowKit
attribute [local go_sem ↓] Go.wp_at_zero Go.wp_at_succ

theorem sqrt_ext (d r : Nat) (h : Ieee.double.sqrt d = some r) (w : World) : (callFunc 131 #[.float .f64 d]).run Try.prog w = .ok (.value (.float .f64 r)) w := by
  have e : (callFunc 131 #[.float .f64 d]).run Try.prog w = ((match FloatKind.f64.format.sqrt d with | some r => (pure (.float .f64 r) : Sem Value) | none => do pure (.float .f64 (← choose (.nanBits .f64 d d)))) >>= fun v => pure (Next.value v)).run Try.prog w := by kernel_rfl
  have h2 : FloatKind.f64.format.sqrt d = some r := h
  rw [e, h2]
  rfl
theorem Sqrt_any (d r : Nat) (h : Ieee.double.sqrt d = some r) (w : World) :
    Calls Try.prog 120 #[.float .f64 d] w fun e w' => e = .returned (.float .f64 r) ∧ w' = w := by
  have h := sqrt_ext d r h
  go_enter Try.func120, Try.ntmps120
  go_wp2
  go_ret
  exact ⟨rfl, rfl⟩
theorem noiseRoot_any {K b : Nat} (hb : Bd K b) (hs : b < 2147483648) (hK : K ≤ 110) (w : World) :
    Calls Try.prog 96 #[.float .f32 b] w fun e w' => e = .returned (.float .f32 (rootB b)) ∧ w' = w := by
  obtain ⟨d, r, h1, h2, h3, _⟩ := root_ok hb hs hK
  have c1 := fun (w : World) => run_convert_float_float (P := Try.prog) w 27 165 .f32 .f64 b d (by kernel_rfl) Try.underlying165 h1
  have c2 := fun (w : World) => run_convert_float_float (P := Try.prog) w 165 27 .f64 .f32 r (rootB b) (by kernel_rfl) Try.underlying27 h3
  have hA := fun (w : World) => hidA (Sqrt_any d r h2 w)
  clear h1 h2 h3 hb hs hK
  generalize rootB b = q at *
  go_enter Try.func96, Try.ntmps96
  go_wp2_with fail
  refine ((hA _).out).mono ?_
  rintro e w1 ⟨rfl, hw1⟩
  rw [hw1]
  clear hw1 w1
  go_wp2_with fail
  go_ret
  exact ⟨rfl, rfl⟩
theorem refRoot_any {K b : Nat} (hb : Bd K b) (hs : b < 2147483648) (hK : K ≤ 110) (w : World) :
    Calls Try.prog 99 #[.float .f32 b] w fun e w' => e = .returned (.float .f32 (rootB b)) ∧ w' = w := by
  obtain ⟨d, r, h1, h2, h3, _⟩ := root_ok hb hs hK
  have c1 := fun (w : World) => run_convert_float_float (P := Try.prog) w 27 165 .f32 .f64 b d (by kernel_rfl) Try.underlying165 h1
  have c2 := fun (w : World) => run_convert_float_float (P := Try.prog) w 165 27 .f64 .f32 r (rootB b) (by kernel_rfl) Try.underlying27 h3
  have hA := fun (w : World) => hidA (Sqrt_any d r h2 w)
  clear h1 h2 h3 hb hs hK
  generalize rootB b = q at *
  go_enter Try.func99, Try.ntmps99
  go_wp2_with fail
  refine ((hA _).out).mono ?_
  rintro e w1 ⟨rfl, hw1⟩
  rw [hw1]
  clear hw1 w1
  go_wp2_with fail
  go_ret
  exact ⟨rfl, rfl⟩
end Go.Proofs.Ytpgdinpckolfpaa

namespace Go.Proofs.Ytpgdinpckolfpaa
open Go.RowKit
attribute [local go_sem ↓] Go.wp_at_zero Go.wp_at_succ

theorem rootTwo : rootB 1073741824 = 1068827891 := by decide +kernel
theorem rootTwo_any (w : World) :
    Calls Try.prog 99 #[.float .f32 1073741824] w fun e w' => e = .returned (.float .f32 1068827891) ∧ w' = w := by
  have h := refRoot_any (K := 2) (b := 1073741824) (by unfold Bd; decide) (by decide) (by decide) w
  rw [rootTwo] at h
  exact h
theorem longR_any (d : Nat) (w : World) (h : d < 8) :
    Calls Try.prog 107 #[.int .i64 d] w fun e w' => e = .returned (.float .f32 (longN d)) ∧ w' = w := by
  have hd : d = 0 ∨ d = 1 ∨ d = 2 ∨ d = 3 ∨ d = 4 ∨ d = 5 ∨ d = 6 ∨ d = 7 := by omega
  have HR := fun (w : World) => hidA (rootTwo_any w)
  rcases hd with rfl | rfl | rfl | rfl | rfl | rfl | rfl | rfl
  all_goals
    go_enter Try.func107, Try.ntmps107
    go_wp2_with (go_at_call 99; refine ((HR _).out).mono ?_; rintro e w' ⟨rfl, hw'⟩; subst hw')
    go_ret
    exact ⟨rfl, rfl⟩
theorem reachR_any (d n : Nat) (w : World) (h : d < 8) (h1 : 1 ≤ n) (h2 : n ≤ 12) :
    Calls Try.prog 67 #[.int .i64 d, .int .i64 n] w fun e w' => e = .returned (.float .f32 (lenR d n)) ∧ w' = w := by
  by_cases hn : n = 1
  · subst hn
    have HL := fun (w : World) => hidA (longR_any d w h)
    have hl : lenR d 1 = longN d := by unfold lenR; rw [if_pos rfl]
    rw [hl]
    go_enter Try.func67, Try.ntmps67
    go_wp2_with (go_at_call 107; refine ((HL _).out).mono ?_; rintro e w' ⟨rfl, hw'⟩; subst hw')
    go_ret
    exact ⟨rfl, rfl⟩
  · have hl : lenR d n = fmul (floatOfInt .f32 (n : Int)) (longN d) := by unfold lenR; rw [if_neg hn]
    have hm := len_mul (d := d) h1 h2
    have hn1 : ¬ (n : Int) = 1 := by omega
    have hnb : ((n : Int) == 1) = false := by simp [hn1]
    obtain ⟨⟨_, _, hev⟩, _⟩ := lens n (by omega) h1
    rw [hl]
    by_cases hd : d % 2 = 1
    · have e : longN d = 1068827891 := by unfold longN; rw [if_pos hd]
      rw [e] at hm ⊢
      have hd4 : d = 1 ∨ d = 3 ∨ d = 5 ∨ d = 7 := by omega
      have q := fun (w : World) => run_float_arith (P := Try.prog) w .mul 27 .f32 _ _ _ hm
      have HR := fun (w : World) => hidA (rootTwo_any w)
      clear hm hl hev e
      generalize fmul (floatOfInt .f32 (n : Int)) 1068827891 = r at *
      rcases hd4 with rfl | rfl | rfl | rfl
      all_goals
        go_enter Try.func67, Try.ntmps67
        go_wp2_with (go_at_call 99; refine ((HR _).out).mono ?_; rintro e w' ⟨rfl, hw'⟩; subst hw')
        go_ret
        exact ⟨rfl, rfl⟩
    · have e : longN d = 1065353216 := by unfold longN; rw [if_neg hd]
      rw [e, hev]
      have hd4 : d = 0 ∨ d = 2 ∨ d = 4 ∨ d = 6 := by omega
      clear hm hl hev e
      rcases hd4 with rfl | rfl | rfl | rfl
      all_goals
        go_enter Try.func67, Try.ntmps67
        go_wp2
        go_ret
        exact ⟨rfl, rfl⟩

/-- the height at the place i steps on -/
def btwV (V : Nat → Nat) (Wn Hn k d i : Nat) : Nat := V ((besK Wn Hn k d i).getD 0)
theorem low_val {x : Nat} (h : Bd 20 x) : valI 3380609024 ≤ valI x := by
  refine val_key_le.2 ?_
  unfold keyI
  unfold Bd at h
  split <;> split <;> omega
theorem topN_val {V : Nat → Nat} {Wn Hn N k d : Nat} (hV : ∀ j, j < N → Bd 20 (V j)) (h0 : 0 < N) (hN : N = Wn * Hn) (n : Nat) : valI (topN V Wn Hn k d (n + 1)) = max (valI (topN V Wn Hn k d n)) (valI (btwV V Wn Hn k d (n + 1))) := by
  rw [topN]
  refine max_val (bd_Fin (topN_bd hV h0 hN n) (by omega)) (bd_Fin (hV _ ?_) (by omega))
  cases h : besK Wn Hn k d (n + 1) with
  | none => exact h0
  | some t => rw [hN]; exact besK_lt h
theorem btwV_bd {V : Nat → Nat} {Wn Hn N k d i : Nat} (hV : ∀ j, j < N → Bd 20 (V j)) (h0 : 0 < N) (hN : N = Wn * Hn) : Bd 20 (btwV V Wn Hn k d i) := by
  refine hV _ ?_
  cases h : besK Wn Hn k d i with
  | none => exact h0
  | some t => rw [hN]; exact besK_lt h
theorem top_ge {V : Nat → Nat} {Wn Hn N k d : Nat} (hV : ∀ j, j < N → Bd 20 (V j)) (h0 : 0 < N) (hN : N = Wn * Hn) : ∀ n j, 1 ≤ j → j ≤ n → valI (btwV V Wn Hn k d j) ≤ valI (topN V Wn Hn k d n)
  | 0, j, h1, h2 => by omega
  | n + 1, j, h1, h2 => by
    rw [topN_val hV h0 hN]
    by_cases e : j = n + 1
    · subst e; exact Int.le_max_right _ _
    · exact Int.le_trans (top_ge hV h0 hN n j h1 (by omega)) (Int.le_max_left _ _)
theorem top_lt {V : Nat → Nat} {Wn Hn N k d : Nat} {x : Int} (hV : ∀ j, j < N → Bd 20 (V j)) (h0 : 0 < N) (hN : N = Wn * Hn) : ∀ n, 1 ≤ n → (∀ j, 1 ≤ j → j ≤ n → valI (btwV V Wn Hn k d j) < x) → valI (topN V Wn Hn k d n) < x
  | 0, h1, h2 => by omega
  | n + 1, h1, h2 => by
    rw [topN_val hV h0 hN]
    have ha := h2 (n + 1) h1 (Nat.le_refl _)
    have hb : valI (topN V Wn Hn k d n) < x := by
      cases n with
      | zero => rw [topN]; exact Int.lt_of_le_of_lt (low_val (btwV_bd hV h0 hN)) ha
      | succ n => exact top_lt hV h0 hN (n + 1) (by omega) fun j h3 h4 => h2 j h3 (by omega)
    omega
/-- a place between, and its cell -/
theorem bes_cell {X Y : Int} {Wn Hn k d i m : Nat} (h : besK Wn Hn k d i = some m) :
    InR X Y Wn Hn (X + ((k % Wn : Nat) : Int) + i * stepX d) (Y + ((k / Wn : Nat) : Int) + i * stepY d) ∧ cellN X Y Wn (X + ((k % Wn : Nat) : Int) + i * stepX d) (Y + ((k / Wn : Nat) : Int) + i * stepY d) = (m : Int) := by
  unfold besK at h
  split at h
  · rename_i hc
    obtain ⟨c1, c2, c3, c4⟩ := hc
    injection h with h
    unfold InR cellN
    generalize (i : Int) * stepX d = px at *
    generalize (i : Int) * stepY d = py at *
    generalize k % Wn = a at *
    generalize k / Wn = b at *
    refine ⟨⟨by omega, by omega, by omega, by omega⟩, ?_⟩
    obtain ⟨u, hu⟩ := Int.eq_ofNat_of_zero_le c1
    obtain ⟨v, hv⟩ := Int.eq_ofNat_of_zero_le c3
    rw [show X + (a : Int) + px = X + (u : Int) by omega, show Y + (b : Int) + py - Y = (v : Int) by omega]
    rw [hu, hv, Int.toNat_natCast, Int.toNat_natCast] at h
    rw [← h, Int.natCast_add, Int.natCast_mul]
    generalize (v : Int) * (Wn : Int) = vw
    omega
  · cases h
end Go.Proofs.Ytpgdinpckolfpaa

namespace Go.Proofs.Ytpgdinpckolfpaa
open Go.RowKit
attribute [local go_sem ↓] Go.wp_at_zero Go.wp_at_succ
attribute [local go_sem] run_store_float

theorem nx_y {j q : Nat} (h1 : j + 1 < q) : q - (intOf (.int .i64 ((j : Int) + 1 + 1))).toNat < q - (intOf (.int .i64 ((j + 1 : Nat) : Int))).toNat := by
  simp [intOf]
  omega
set_option maxRecDepth 100000 in
set_option maxHeartbeats 6400000 in
theorem LengthsR_any {bad : Int × Int → Bool} (hbad : ∀ p, bad p = false → -4194304 ≤ p.1 ∧ p.1 ≤ 4194304 ∧ -4194304 ≤ p.2 ∧ p.2 ≤ 4194304) (A : Option Addr) (n c : Nat) (l : List (Int × Int)) (w : World) (hn : l.length = n) (hV : Rd w A (ptv l)) (hok : WayOk bad l) :
    Calls Try.prog 51 #[.slice A n c] w fun e w' => ∃ v, e = .returned v ∧ OwnFl w' w.heap.size v (lnL l (n - 1)) ∧ Ext w w' := by
  have Hn := hidA hn
  have Hok := hidA hok
  have HBt := fun (qx qy px py : Int) (w : World) (h1 : bad (qx, qy) = false) (h2 : bad (px, py) = false) => hidA (Leap_any qx qy px py w (by have := hbad _ h1; dsimp only at this; omega) (by have := hbad _ h1; dsimp only at this; omega) (by have := hbad _ h2; dsimp only at this; omega) (by have := hbad _ h2; dsimp only at this; omega))
  have hn6 : n ≤ 65536 := by have := hok.le; omega
  have hn1 : 1 ≤ n := by have := hok.pos; omega
  obtain ⟨ti, hi0, hz0, hz1, hz2⟩ := info_parts infoFlo
  have HRd := hidA hV
  clear hn hok hV
  go_enter Try.func51, Try.ntmps51
  go_upto_region 3 with fail
  go_loopw [3, 4] (fun s3 s4 wz => ∃ i : Nat, i + 1 ≤ n ∧ s4 = .int .i64 ((i + 1 : Nat) : Int) ∧ OwnFl wz w.heap.size s3 (lnL l i) ∧ Ext w wz) (fun _ s4 _ => n - (intOf s4).toNat)
  case atStart => exact ⟨0, hn1, rfl, World.ownsRow_nil _ _ _ _, Ext.refl _⟩
  case round =>
    obtain ⟨i, hi, rfl, hO, hx⟩ := hrel
    by_cases hin : i + 1 < n
    · have Hin := hidA hin
      obtain ⟨ad1, rfl, hb1, c0, c1⟩ := pt_at (HRd.out.ext hx) (k := i) (by have := Hn.out; omega)
      obtain ⟨ad2, e2, hb2, d0, d1⟩ := pt_at (HRd.out.ext hx) (k := i + 1) (by have := Hn.out; omega)
      injection e2 with e2
      subst e2
      have hst := Hok.out.st (i + 1) (by omega) (by have := Hn.out; omega)
      have hf1 := Hok.out.ok i (by have := Hn.out; omega)
      have hf2 := Hok.out.ok (i + 1) (by have := Hn.out; omega)
      rw [Nat.add_sub_cancel] at hst
      have Hnx := hidA (show lnL l (i + 1) = lnL l i ++ [lenR (lpo l (i + 1)).1 (lpo l (i + 1)).2] from rfl)
      obtain ⟨px, py, hpp⟩ : ∃ px py, l.getD i (0, 0) = (px, py) := ⟨_, _, rfl⟩
      obtain ⟨qx, qy, hqq⟩ : ∃ qx qy, l.getD (i + 1) (0, 0) = (qx, qy) := ⟨_, _, rfl⟩
      obtain ⟨d, m, hdm⟩ : ∃ d m, lpo l (i + 1) = (d, m) := ⟨_, _, rfl⟩
      rw [hdm] at hst Hnx
      rw [hpp] at hst hf1 c0 c1
      rw [hqq] at hst hf2 d0 d1
      dsimp only at hst c0 c1 d0 d1 Hnx
      obtain ⟨hs1, hd8, hm1, hm2⟩ := hst
      have HB1 := fun (w : World) => HBt px py qx qy w hf1 hf2
      unfold lpV at HB1
      rw [hs1] at HB1
      simp only [] at HB1
      have HL1 := fun (w : World) => hidA (reachR_any d m w hd8 hm1 hm2)
      obtain ⟨x, hxl⟩ : ∃ x, x = lenR d m := ⟨_, rfl⟩
      rw [← hxl] at HL1 Hnx
      have Hlen := hidA (show (lnL l i).length ≤ 65536 from by rw [lnL_length]; omega)
      have i0 : (0 : Int) ≤ i := by omega
      have i1 : (i : Int) < n := by omega
      have i2 : (0 : Int) ≤ (i : Int) + 1 := by omega
      have i3 : (i : Int) + 1 < n := by omega
      have i4 : IntKind.i64.wrap (i : Int) = (i : Int) := IntWalk.i64_in _ (by omega)
      have c0' : ∀ w', Ext wr w' → w'.cell? (ad1.add (i * 2)) = some (.int .i64 px) := fun w' h => (h.cell _ (by rw [add_block]; exact hb1)).trans c0
      have c1' : ∀ w', Ext wr w' → w'.cell? ⟨(ad1.add (i * 2)).block, (ad1.add (i * 2)).off + 1, none⟩ = some (.int .i64 py) := fun w' h => (h.cell ⟨(ad1.add (i * 2)).block, (ad1.add (i * 2)).off + 1, none⟩ (by show (ad1.add (i * 2)).block < _; rw [add_block]; exact hb1)).trans c1
      have d0' : ∀ w', Ext wr w' → w'.cell? (ad1.add ((i + 1) * 2)) = some (.int .i64 qx) := fun w' h => (h.cell _ (by rw [add_block]; exact hb1)).trans d0
      have d1' : ∀ w', Ext wr w' → w'.cell? ⟨(ad1.add ((i + 1) * 2)).block, (ad1.add ((i + 1) * 2)).off + 1, none⟩ = some (.int .i64 qy) := fun w' h => (h.cell ⟨(ad1.add ((i + 1) * 2)).block, (ad1.add ((i + 1) * 2)).off + 1, none⟩ (by show (ad1.add ((i + 1) * 2)).block < _; rw [add_block]; exact hb1)).trans d1
      clear hpp hqq hdm hs1 hf1 hf2 hin hi c0 c1 d0 d1 hb1 hb2 hxl
      go_upto_region 5 with fail
      refine wp_region_noPanic ?_
      refine wp_region_held_drew (S := fun w' => Ext wr w') (by kernel_rfl) ?_ (fun hHeld => ?_)
      · (repeat (first | exact Ext.refl _ | assumption | refine Ext.setCell ?_ (by first | (simp; done) | (simp; omega)) _ | refine Ext.drewN ?_ _ | refine Ext.alloc ?_ _ | refine Ext.drew ?_ | refine Ext.trans ?_ (by assumption)))
      refine wpAnyH_take (i := 0) (oi := ?o1x0) (v := ?v1x0) ?hi1x0 (by kernel_rfl) ?hf1x0 ?hr1x0 (fun _ _ _ h => h) ?hy1x0 (by assumption) ?rest1x0
      case hi1x0 => (simp only [List.getElem?_toArray, List.getElem?_cons_zero]; exact rfl)
      case hf1x0 => kernel_rfl
      case hr1x0 => kernel_rfl
      case hy1x0 => (refine Or.inl ⟨by rfl, ?_⟩; intro w hSw; (try dsimp only at hSw); go_simp; try with_reducible rfl)
      simp only [put_mk, List.set_cons_succ, List.set_cons_zero]
      refine wpAnyH_take (i := 1) (oi := ?o1x1) (v := ?v1x1) ?hi1x1 (by kernel_rfl) ?hf1x1 ?hr1x1 (fun _ _ _ h => h) ?hy1x1 (by assumption) ?rest1x1
      case hi1x1 => (simp only [List.getElem?_toArray, List.getElem?_cons_succ, List.getElem?_cons_zero]; exact rfl)
      case hf1x1 => kernel_rfl
      case hr1x1 => kernel_rfl
      case hy1x1 => (refine Or.inl ⟨by rfl, ?_⟩; intro w hSw; (try dsimp only at hSw); go_simp; try with_reducible rfl)
      simp only [put_mk, List.set_cons_succ, List.set_cons_zero]
      refine wpAnyH_take (i := 2) (oi := ?o1x2) (v := ?v1x2) ?hi1x2 (by kernel_rfl) ?hf1x2 ?hr1x2 (fun _ _ _ h => h) ?hy1x2 (by assumption) ?rest1x2
      case hi1x2 => (simp only [List.getElem?_toArray, List.getElem?_cons_succ, List.getElem?_cons_zero]; exact rfl)
      case hf1x2 => kernel_rfl
      case hr1x2 => kernel_rfl
      case hy1x2 => (refine Or.inl ⟨by rfl, ?_⟩; intro w hSw; (try dsimp only at hSw); go_simp; try with_reducible rfl)
      simp only [put_mk, List.set_cons_succ, List.set_cons_zero]
      refine wpAnyH_take (i := 3) (oi := ?o1x3) (v := ?v1x3) ?hi1x3 (by kernel_rfl) ?hf1x3 ?hr1x3 (fun _ _ _ h => h) ?hy1x3 (by assumption) ?rest1x3
      case hi1x3 => (simp only [List.getElem?_toArray, List.getElem?_cons_succ, List.getElem?_cons_zero]; exact rfl)
      case hf1x3 => kernel_rfl
      case hr1x3 => kernel_rfl
      case hy1x3 => (refine Or.inl ⟨by rfl, ?_⟩; intro w hSw; (try dsimp only at hSw); go_simp; try with_reducible rfl)
      simp only [put_mk, List.set_cons_succ, List.set_cons_zero]
      refine wpAnyH_take (i := 4) (oi := ?o1x4) (v := ?v1x4) ?hi1x4 (by kernel_rfl) ?hf1x4 ?hr1x4 (fun _ _ _ h => h) ?hy1x4 (by assumption) ?rest1x4
      case hi1x4 => (simp only [List.getElem?_toArray, List.getElem?_cons_succ, List.getElem?_cons_zero]; exact rfl)
      case hf1x4 => kernel_rfl
      case hr1x4 => kernel_rfl
      case hy1x4 => (refine Or.inl ⟨by rfl, ?_⟩; intro w hSw; (try dsimp only at hSw); go_simp; try with_reducible rfl)
      simp only [put_mk, List.set_cons_succ, List.set_cons_zero]
      refine wpAnyH_take (i := 5) (oi := ?o1x5) (v := ?v1x5) ?hi1x5 (by kernel_rfl) ?hf1x5 ?hr1x5 (fun _ _ _ h => h) ?hy1x5 (by assumption) ?rest1x5
      case hi1x5 => (simp only [List.getElem?_toArray, List.getElem?_cons_succ, List.getElem?_cons_zero]; exact rfl)
      case hf1x5 => kernel_rfl
      case hr1x5 => kernel_rfl
      case hy1x5 => (refine Or.inl ⟨by rfl, ?_⟩; intro w hSw; (try dsimp only at hSw); go_simp; try with_reducible rfl)
      simp only [put_mk, List.set_cons_succ, List.set_cons_zero]
      refine wpAnyH_take (i := 6) (oi := ?o1x6) (v := ?v1x6) ?hi1x6 (by kernel_rfl) ?hf1x6 ?hr1x6 (fun _ _ _ h => h) ?hy1x6 (by assumption) ?rest1x6
      case hi1x6 => (simp only [List.getElem?_toArray, List.getElem?_cons_succ, List.getElem?_cons_zero]; exact rfl)
      case hf1x6 => kernel_rfl
      case hr1x6 => kernel_rfl
      case hy1x6 => (refine Or.inl ⟨by rfl, ?_⟩; intro w hSw; (try dsimp only at hSw); go_simp; try with_reducible rfl)
      simp only [put_mk, List.set_cons_succ, List.set_cons_zero]
      refine wpAnyH_take (i := 7) (oi := ?o1x7) (v := ?v1x7) ?hi1x7 (by kernel_rfl) ?hf1x7 ?hr1x7 (fun _ _ _ h => h) ?hy1x7 (by assumption) ?rest1x7
      case hi1x7 => (simp only [List.getElem?_toArray, List.getElem?_cons_succ, List.getElem?_cons_zero]; exact rfl)
      case hf1x7 => kernel_rfl
      case hr1x7 => kernel_rfl
      case hy1x7 => (refine Or.inl ⟨by rfl, ?_⟩; intro w hSw; (try dsimp only at hSw); go_simp; try with_reducible rfl)
      simp only [put_mk, List.set_cons_succ, List.set_cons_zero]
      refine wpAnyH_take (i := 8) (oi := ?o1x8) (v := ?v1x8) ?hi1x8 (by kernel_rfl) ?hf1x8 ?hr1x8 (fun _ _ _ h => h) ?hy1x8 (by assumption) ?rest1x8
      case hi1x8 => (simp only [List.getElem?_toArray, List.getElem?_cons_succ, List.getElem?_cons_zero]; exact rfl)
      case hf1x8 => kernel_rfl
      case hr1x8 => kernel_rfl
      case hy1x8 => (refine Or.inl ⟨by rfl, ?_⟩; intro w hSw; (try dsimp only at hSw); go_simp; try with_reducible rfl)
      simp only [put_mk, List.set_cons_succ, List.set_cons_zero]
      refine wpAnyH_ready (rs := [9]) (by kernel_rfl) (by simp) ?_
      refine AllReadyH.cons (o := ?o1x9) ?hi1x9 (fun K hK => ?_) AllReadyH.nil
      case hi1x9 => (simp only [List.getElem?_toArray, List.getElem?_cons_succ, List.getElem?_cons_zero]; exact rfl)
      go_simp
      go_at_call 36
      refine ((HB1 _).out).mono ?_
      rintro e wb ⟨rfl, hxb⟩
      refine hK.out _ _ ?_ (fun hHeld => ?_)
      · (repeat (first | exact Ext.refl _ | assumption | refine Ext.setCell ?_ (by first | (simp; done) | (simp; omega)) _ | refine Ext.drewN ?_ _ | refine Ext.alloc ?_ _ | refine Ext.drew ?_ | refine Ext.trans ?_ (by assumption)))
      clear hK K
      refine wpAnyH_take (i := 10) (oi := ?o1x10) (v := ?v1x10) ?hi1x10 (by kernel_rfl) ?hf1x10 ?hr1x10 (fun _ _ _ h => h) ?hy1x10 (by assumption) ?rest1x10
      case hi1x10 => (simp only [List.getElem?_toArray, List.getElem?_cons_succ, List.getElem?_cons_zero]; exact rfl)
      case hf1x10 => kernel_rfl
      case hr1x10 => kernel_rfl
      case hy1x10 => (refine Or.inl ⟨by rfl, ?_⟩; intro w hSw; (try dsimp only at hSw); go_simp; try with_reducible rfl)
      simp only [put_mk, List.set_cons_succ, List.set_cons_zero]
      refine wpAnyH_take (i := 11) (oi := ?o1x11) (v := ?v1x11) ?hi1x11 (by kernel_rfl) ?hf1x11 ?hr1x11 (fun _ _ _ h => h) ?hy1x11 (by assumption) ?rest1x11
      case hi1x11 => (simp only [List.getElem?_toArray, List.getElem?_cons_succ, List.getElem?_cons_zero]; exact rfl)
      case hf1x11 => kernel_rfl
      case hr1x11 => kernel_rfl
      case hy1x11 => (refine Or.inl ⟨by rfl, ?_⟩; intro w hSw; (try dsimp only at hSw); go_simp; try with_reducible rfl)
      simp only [put_mk, List.set_cons_succ, List.set_cons_zero]
      refine wpAnyH_take (i := 12) (oi := ?o1x12) (v := ?v1x12) ?hi1x12 (by kernel_rfl) ?hf1x12 ?hr1x12 (fun _ _ _ h => h) ?hy1x12 (by assumption) ?rest1x12
      case hi1x12 => (simp only [List.getElem?_toArray, List.getElem?_cons_succ, List.getElem?_cons_zero]; exact rfl)
      case hf1x12 => kernel_rfl
      case hr1x12 => kernel_rfl
      case hy1x12 => (refine Or.inl ⟨by rfl, ?_⟩; intro w hSw; (try dsimp only at hSw); go_simp; try with_reducible rfl)
      simp only [put_mk, List.set_cons_succ, List.set_cons_zero]
      refine wpAnyH_take (i := 13) (oi := ?o1x13) (v := ?v1x13) ?hi1x13 (by kernel_rfl) ?hf1x13 ?hr1x13 (fun _ _ _ h => h) ?hy1x13 (by assumption) ?rest1x13
      case hi1x13 => (simp only [List.getElem?_toArray, List.getElem?_cons_succ, List.getElem?_cons_zero]; exact rfl)
      case hf1x13 => kernel_rfl
      case hr1x13 => kernel_rfl
      case hy1x13 => (refine Or.inl ⟨by rfl, ?_⟩; intro w hSw; (try dsimp only at hSw); go_simp; try with_reducible rfl)
      simp only [put_mk, List.set_cons_succ, List.set_cons_zero]
      refine wpAnyH_take (i := 14) (oi := ?o1x14) (v := ?v1x14) ?hi1x14 (by kernel_rfl) ?hf1x14 ?hr1x14 (fun _ _ _ h => h) ?hy1x14 (by assumption) ?rest1x14
      case hi1x14 => (simp only [List.getElem?_toArray, List.getElem?_cons_succ, List.getElem?_cons_zero]; exact rfl)
      case hf1x14 => kernel_rfl
      case hr1x14 => kernel_rfl
      case hy1x14 => (refine Or.inl ⟨by rfl, ?_⟩; intro w hSw; (try dsimp only at hSw); go_simp; try with_reducible rfl)
      simp only [put_mk, List.set_cons_succ, List.set_cons_zero]
      refine wpAnyH_done (by kernel_rfl) ?_ _
      refine NoPanic.normal ?_
      have hO5 := hO.ext hHeld
      have hx5 := hx.trans hHeld
      clear c0' c1' d0' d1' hO hx HB1
      generalize hwb : wb = w5 at *
      clear hwb
      have hxn : Ext w5 (w5.alloc (.cells #[.float .f32 x] 27)) := (Ext.refl w5).alloc _
      have hownN := hidA (hO5.ext hxn)
      have hnewN : Hid (∀ j u, ([.float .f32 x] : List Value)[j]? = some u → (w5.alloc (.cells #[.float .f32 x] 27)).cell? ((⟨w5.heap.size, 0, none⟩ : Addr).add j) = some u) := World.news_of_block (cs := #[.float .f32 x]) (t := 27) (fr := (0, 0)) (heap_alloc_new w5 _)
      have honeN : Hid (∀ u ∈ ([.float .f32 x] : List Value), u.oneCell' = true) := by intro u hu; simp at hu; subst hu; rfl
      have hsN := hidA (hx5.trans hxn).size
      have hmxN := hidA (maxY Hlen.out).1
      have hmbN := hidA (maxY Hlen.out).2
      have Hxn := hidA (hx5.trans hxn)
      clear hxn hO5 hx5 hxb hHeld
      go_upto_region 4 with (first | (go_at_call 67; refine ((HL1 _).out).mono ?_; rintro e wl ⟨rfl, hwl⟩; subst wl) | (at_builtin; (refine wpList_append_lies _ (by rfl) _ _ 24 (by rfl) w.heap.size 27 ti (.float .f32 0) 1 4 Try.underlying24 hi0 hz0 hz1 hz2 (by rfl) (by decide) _ _ _ (by rfl) hownN.out ⟨w5.heap.size, 0, none⟩ 1 1 [.float .f32 x] (by rfl) (by rfl) hnewN.out honeN.out (by omega) hmxN.out hmbN.out hsN.out (w5.heap.size + 1) (by simp) ?_; intro gA capA wA hownA hgrowA hatA hltA)))
      have hxA : Ext w wA := Hxn.out.grown hgrowA (fun b hb => (World.ownsRow.lt hownN.out b hb).1)
      have hOA : OwnFl wA w.heap.size (.slice (some ⟨gA, 0, none⟩) ((lnL l i).length + 1) capA) (lnL l (i + 1)) := by
        rw [Hnx.out]
        exact OwnFl.push hownA
      have HOA := hidA hOA
      have HxA := hidA hxA
      clear hownN hnewN honeN hsN Hxn hgrowA hatA hltA hownA hmxN hmbN hOA hxA HL1
      go_wp2
      go_roundw
      case rel => exact ⟨i + 1, Hin.out, (by first | rfl | go_num), HOA.out, HxA.out⟩
      case measure => exact nx_y Hin.out
    · obtain rfl : n = i + 1 := by omega
      have HO := hidA hO
      clear hO hi hin
      go_wp2
      go_ret
      exact ⟨_, rfl, HO.out, hx⟩
end Go.Proofs.Ytpgdinpckolfpaa
