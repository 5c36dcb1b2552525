/- Contract: the reference's WayOf. -/
import Derived.Test.YtpgdinpckolfpaaRdV
import Derived.Test.YtpgdinpckolfpaaRwAB
import Derived.Test.YtpgdinpckolfpaaRwAC
import Derived.Test.YtpgdinpckolfpaaRdO
import Derived.Deep.LoopGhost
import Derived.Test.YtpgdinpckolfpaaRwAD
namespace Go.Proofs.Ytpgdinpckolfpaa
open Go.RowKit
attribute [local go_sem ↓] Go.wp_at_zero Go.wp_at_succ
attribute [local go_sem] run_store_float

/-- whether a place is too far away -/
def farP (p : Int × Int) : Bool := decide (p.1 < -4194304) || decide (4194304 < p.1) || decide (p.2 < -4194304) || decide (4194304 < p.2)
theorem farP_false {p : Int × Int} (h : farP p = false) : -4194304 ≤ p.1 ∧ p.1 ≤ 4194304 ∧ -4194304 ≤ p.2 ∧ p.2 ≤ 4194304 := by
  unfold farP at h
  simp at h
  omega
theorem noisePlace_any (x y : Int) (w : World) :
    Calls Try.prog 112 #[.int .i64 x, .int .i64 y] w fun e w' => e = .returned (.int .i64 (if farP (x, y) = true then 5 else 0)) ∧ w = w' := by
  rcases (by omega : x < -4194304 ∨ (¬ x < -4194304 ∧ 4194304 < x) ∨ (¬ x < -4194304 ∧ ¬ 4194304 < x ∧ y < -4194304) ∨ (¬ x < -4194304 ∧ ¬ 4194304 < x ∧ ¬ y < -4194304 ∧ 4194304 < y) ∨ (¬ x < -4194304 ∧ ¬ 4194304 < x ∧ ¬ y < -4194304 ∧ ¬ 4194304 < y)) with c1 | ⟨c1, c2⟩ | ⟨c1, c2, c3⟩ | ⟨c1, c2, c3, c4⟩ | ⟨c1, c2, c3, c4⟩
  case inr.inr.inr.inr =>
    have hf : farP (x, y) = false := by unfold farP; simp; omega
    rw [hf]
    clear hf
    go_enter Try.func112, Try.ntmps112
    go_wp2
    go_ret
    exact ⟨rfl, rfl⟩
  all_goals
    have hf : farP (x, y) = true := by unfold farP; simp; omega
    rw [hf]
    clear hf
    go_enter Try.func112, Try.ntmps112
    go_wp2
    go_ret
    exact ⟨rfl, rfl⟩
theorem place_any (x y : Int) (w : World) :
    Calls Try.prog 77 #[.agg #[.int .i64 x, .int .i64 y]] w fun e w' => e = .returned (.int .i64 (if farP (x, y) = true then 5 else 0)) ∧ Ext w w' := by
  have HN := fun (w : World) => hidA (noisePlace_any x y w)
  generalize (if farP (x, y) = true then (5 : Int) else 0) = e0 at *
  go_enter Try.func77, Try.ntmps77
  go_wp2_with (go_at_call 112; refine ((HN _).out).mono ?_; rintro e w3 ⟨rfl, rfl⟩)
  go_ret
  exact ⟨rfl, (by repeat (first | exact Ext.refl _ | assumption | refine Ext.setCell ?_ (by first | (simp; done) | (simp; omega)) _ | refine Ext.drewN ?_ _ | refine Ext.alloc ?_ _ | refine Ext.drew ?_ | refine Ext.trans ?_ (by assumption)))⟩
theorem enters_place : ∀ args w, (callFunc 77 args).run Try.prog w = .ok (.enter 77 args) w := enters_of Try.func77 (by kernel_rfl) rfl
/-- a step that a way may not have -/
def stepBad (a b : Int × Int) : Bool := match leapO (b.1 - a.1) (b.2 - a.2) with
  | none => true
  | some (_, n) => decide (12 < n)
/-- the error of a way, from place k on -/
def wayI (bad : Int × Int → Bool) (l : List (Int × Int)) : Nat → Nat → Int
  | _, 0 => 0
  | k, m + 1 => if bad (l.getD k (0, 0)) = true then 5 else if 0 < k ∧ stepBad (l.getD (k - 1) (0, 0)) (l.getD k (0, 0)) = true then 2 else wayI bad l (k + 1) m
def wayE (bad : Int × Int → Bool) (l : List (Int × Int)) : Int := if l.length = 0 then 10 else if 65536 < l.length then 4 else wayI bad l 0 l.length
theorem wayI_step {bad : Int × Int → Bool} {l : List (Int × Int)} {k n : Nat} (h : k < n) : wayI bad l k (n - k) = if bad (l.getD k (0, 0)) = true then 5 else if 0 < k ∧ stepBad (l.getD (k - 1) (0, 0)) (l.getD k (0, 0)) = true then 2 else wayI bad l (k + 1) (n - (k + 1)) := by
  obtain ⟨m, hm⟩ : ∃ m, n - k = m + 1 := ⟨n - k - 1, by omega⟩
  rw [hm, wayI, show n - (k + 1) = m by omega]
theorem pt_at {w : World} {A : Option Addr} {l : List (Int × Int)} (h : Rd w A (ptv l)) {k : Nat} (hk : k < l.length) : ∃ ad, A = some ad ∧ ad.block < w.heap.size ∧ w.cell? (ad.add (k * 2)) = some (.int .i64 (l.getD k (0, 0)).1) ∧ w.cell? ⟨(ad.add (k * 2)).block, (ad.add (k * 2)).off + 1, none⟩ = some (.int .i64 (l.getD k (0, 0)).2) := by
  obtain ⟨ad, rfl, hb, hc⟩ := h (by rintro e; have := ptv_length l; rw [e] at this; simp at this; omega)
  have ek : l.getD k (0, 0) = l[k] := by simp [List.getD_eq_getElem?_getD, hk]
  rw [ek]
  refine ⟨ad, rfl, hb, hc _ _ (ptv_get hk).1, ?_⟩
  have := hc _ _ (ptv_get hk).2
  rw [show ad.add (k * 2 + 1) = ⟨(ad.add (k * 2)).block, (ad.add (k * 2)).off + 1, none⟩ from (add_off ad (k * 2) (by omega)).symm] at this
  exact this
set_option maxRecDepth 100000 in
set_option maxHeartbeats 6400000 in
theorem checkWay_any (fid : Nat) (caps : Array Value) (henter : ∀ args w, (callFunc fid args).run Try.prog w = .ok (.enter fid args) w) (bad : Int × Int → Bool) (A : Option Addr) (n c : Nat) (l : List (Int × Int)) (w : World)
    (hbad : ∀ p, bad p = false → -4194304 ≤ p.1 ∧ p.1 ≤ 4194304 ∧ -4194304 ≤ p.2 ∧ p.2 ≤ 4194304) (hp : ∀ (x y : Int) (w' : World), Ext w w' → Calls Try.prog fid (#[.agg #[.int .i64 x, .int .i64 y]] ++ caps) w' fun e w'' => e = .returned (.int .i64 (if bad (x, y) = true then 5 else 0)) ∧ Ext w' w'')
    (hn : l.length = n) (hV : Rd w A (ptv l)) :
    Calls Try.prog 80 #[.slice A n c, .func (.func fid) #[] caps] w fun e w' => e = .returned (.int .i64 (wayE bad l)) ∧ Ext w w' := by
  have HP := hidA hp
  have Hbad := hidA hbad
  have Hn := hidA hn
  have hE : Hid (wayE bad l = if n = 0 then 10 else if 65536 < n then 4 else wayI bad l 0 n) := by show _ = _; unfold wayE; rw [hn]
  generalize wayE bad l = E at *
  clear hp hbad hn
  go_enter Try.func80, Try.ntmps80
  by_cases h0 : n = 0
  · have HE2 := hidA (hE.out.trans (if_pos h0))
    have HA2 := fun (w : World) => hidA (show Calls Try.prog 69 #[.slice A n c] w fun e w' => e = .returned (.int .i64 10) ∧ w = w' from by have h := amount_any A n c w; rw [if_pos h0] at h; exact h)
    clear hE h0
    go_wp2_with (go_at_call 69; refine (HA2 _).out.mono ?_; rintro e w3 ⟨rfl, rfl⟩)
    go_ret
    exact ⟨ret_i HE2.out.symm, Ext.refl _⟩
  by_cases h6 : 65536 < n
  · have HE2 := hidA ((hE.out.trans (if_neg h0)).trans (if_pos h6))
    have HA2 := fun (w : World) => hidA (show Calls Try.prog 69 #[.slice A n c] w fun e w' => e = .returned (.int .i64 4) ∧ w = w' from by have h := amount_any A n c w; rw [if_neg h0, if_pos h6] at h; exact h)
    clear hE h0 h6
    go_wp2_with (go_at_call 69; refine (HA2 _).out.mono ?_; rintro e w3 ⟨rfl, rfl⟩)
    go_ret
    exact ⟨ret_i HE2.out.symm, Ext.refl _⟩
  have HE2 := hidA ((hE.out.trans (if_neg h0)).trans (if_neg h6))
  have HA2 := fun (w : World) => hidA (show Calls Try.prog 69 #[.slice A n c] w fun e w' => e = .returned (.int .i64 0) ∧ w = w' from by have h := amount_any A n c w; rw [if_neg h0, if_neg h6] at h; exact h)
  clear hE
  have h65 : n ≤ 65536 := by omega
  go_upto_region 5 with (go_at_call 69; refine (HA2 _).out.mono ?_; rintro e w3 ⟨rfl, rfl⟩)
  go_loopw [18] (fun s18 wr => ∃ k : Nat, k ≤ n ∧ s18 = .int .i64 k ∧ E = wayI bad l k (n - k) ∧ (0 < k → bad (l.getD (k - 1) (0, 0)) = false) ∧ Ext w wr) (fun s18 _ => n - (intOf s18).toNat)
  case atStart => exact ⟨0, Nat.zero_le _, rfl, by rw [HE2.out]; rfl, fun h => by omega, Ext.refl _⟩
  case round =>
    obtain ⟨k, hk, rfl, hEk, hprev, hx⟩ := hrel
    have HEk := hidA hEk
    have Hprev := hidA hprev
    clear hEk hprev
    by_cases hkn : k < n
    · have hkl : k < l.length := by have := Hn.out; omega
      obtain ⟨ad, rfl, hbk, d0, d1⟩ := pt_at (hV.ext hx) hkl
      have HE3 := hidA (HEk.out.trans (wayI_step hkn))
      have i0 : (0 : Int) ≤ k := by omega
      have i1 : (k : Int) < n := by omega
      obtain ⟨px, py, hpp⟩ : ∃ px py, l.getD k (0, 0) = (px, py) := ⟨_, _, rfl⟩
      have hpp2 := hidA hpp
      rw [hpp] at d0 d1
      have HE4 := hidA (show E = if bad (px, py) = true then 5 else if 0 < k ∧ stepBad (l.getD (k - 1) (0, 0)) (px, py) = true then 2 else wayI bad l (k + 1) (n - (k + 1)) from by rw [HE3.out, hpp])
      have HP1 := fun (w' : World) (h : Ext w w') => HP.out px py w' h
      clear hpp HE3 HEk
      dsimp only at d0 d1
      cases hb : bad (px, py)
      · have HE5 := hidA (HE4.out.trans (if_neg (by rw [hb]; decide)))
        have Hb := hidA hb
        have hpb := Hbad.out _ hb
        rw [hb] at HP1
        simp only [Bool.false_eq_true, if_false] at HP1
        have HP2 := hidA HP1
        clear hb HE4 HP1
        go_upto_region 7 with fail
        have kP : Bk (wr.alloc (.cells #[.int .i64 px, .int .i64 py] 32)) wr.heap.size 32 #[.int .i64 px, .int .i64 py] := Bk.new' rfl
        have hx1 := hx.alloc (.cells #[.int .i64 px, .int .i64 py] 32)
        clear d0 d1
        generalize wr.alloc (.cells #[.int .i64 px, .int .i64 py] 32) = w1 at *
        generalize wr.heap.size = ha at *
        have p0 := kP.cell 0
        have p1 := kP.cell 1
        go_wp2_with fail
        refine (HP2.out _ hx1).mono ?_
        rintro e w2 ⟨rfl, hx2⟩
        have kP2 := kP.ext hx2
        have hx3 := hx1.trans hx2
        clear p0 p1 kP hx1 hx2 HP2
        by_cases hk0 : k = 0
        · subst hk0
          have HE6 := hidA (HE5.out.trans (if_neg (by omega)))
          clear HE5
          go_wp2
          go_roundw
          case rel => exact ⟨1, by omega, rfl, HE6.out, fun _ => by show bad (l.getD 0 (0, 0)) = false; rw [hpp2.out]; exact Hb.out, hx3⟩
          case measure => simp [intOf]; omega
        · have hkl1 : k - 1 < l.length := by omega
          have hpq := Hbad.out _ (Hprev.out (by omega))
          obtain ⟨qx, qy, hqq⟩ : ∃ qx qy, l.getD (k - 1) (0, 0) = (qx, qy) := ⟨_, _, rfl⟩
          rw [hqq] at hpq
          dsimp only at hpq hpb
          have HBt := fun (w : World) => hidA (between_any qx qy px py w (by omega) (by omega) (by omega) (by omega))
          have HE6 := hidA (show E = if stepBad (qx, qy) (px, py) = true then 2 else wayI bad l (k + 1) (n - (k + 1)) from by rw [HE5.out, hqq]; simp [show 0 < k by omega])
          have e0 : ∀ w', Ext w2 w' → w'.cell? (ad.add ((k - 1) * 2)) = some (.int .i64 qx) := fun w' h => by
            obtain ⟨ad', e, _, d0, d1⟩ := pt_at (hV.ext (hx3.trans h)) hkl1
            injection e with e
            subst e
            rw [hqq] at d0
            exact d0
          have e1 : ∀ w', Ext w2 w' → w'.cell? ⟨(ad.add ((k - 1) * 2)).block, (ad.add ((k - 1) * 2)).off + 1, none⟩ = some (.int .i64 qy) := fun w' h => by
            obtain ⟨ad', e, _, d0, d1⟩ := pt_at (hV.ext (hx3.trans h)) hkl1
            injection e with e
            subst e
            rw [hqq] at d1
            exact d1
          have f0 : ∀ w', Ext w2 w' → w'.cell? ⟨ha, 0, none⟩ = some (.int .i64 px) := fun w' h => (kP2.ext h).cell 0
          have f1 : ∀ w', Ext w2 w' → w'.cell? ⟨ha, 1, none⟩ = some (.int .i64 py) := fun w' h => (kP2.ext h).cell 1
          have j0 : (0 : Int) ≤ ((k - 1 : Nat) : Int) := by omega
          have j1 : ((k - 1 : Nat) : Int) < n := by omega
          have hk0' : ¬ (k : Int) = 0 := by omega
          have Hwk := hidA (show wrap64 ((k : Int) - 1) = ((k - 1 : Nat) : Int) by rw [IntWalk.wrap64_in _ ⟨by omega, by omega⟩]; omega)
          have Hwk2 := hidA (show IntKind.i64.wrap ((k : Int) - 1) = ((k - 1 : Nat) : Int) by rw [IntWalk.i64_in _ ⟨by omega, by omega⟩]; omega)
          have Hhx := hidA hx3
          clear hpq hpb HE5 hqq kP2
          unfold btV at HBt
          cases hlp : leapO (px - qx) (py - qy) with
          | none =>
            have HE7 := hidA (HE6.out.trans (if_pos (by unfold stepBad; rw [hlp])))
            rw [hlp] at HBt
            clear hlp
            have wk := Hwk.out
            have wk2 := Hwk2.out
            go_upto_region 11 with fail
            refine wp_region_noPanic ?_
            refine wp_region_held_drew (S := fun w' => Ext w2 w') (by kernel_rfl) ?_ (fun hHeld => ?_)
            · (repeat (first | exact Ext.refl _ | assumption | refine Ext.setCell ?_ (by first | (simp; done) | (simp; omega)) _ | refine Ext.drewN ?_ _ | refine Ext.alloc ?_ _ | refine Ext.drew ?_ | refine Ext.trans ?_ (by assumption)))
            refine wpAnyH_take (i := 0) (oi := ?o1x0) (v := ?v1x0) ?hi1x0 (by kernel_rfl) ?hf1x0 ?hr1x0 (fun _ _ _ h => h) ?hy1x0 (by assumption) ?rest1x0
            case hi1x0 => (simp only [List.getElem?_toArray, List.getElem?_cons_zero]; exact rfl)
            case hf1x0 => kernel_rfl
            case hr1x0 => kernel_rfl
            case hy1x0 => (refine Or.inl ⟨by rfl, ?_⟩; intro w hSw; (try dsimp only at hSw); go_simp; try with_reducible rfl)
            simp only [put_mk, List.set_cons_succ, List.set_cons_zero]
            refine wpAnyH_take (i := 1) (oi := ?o1x1) (v := ?v1x1) ?hi1x1 (by kernel_rfl) ?hf1x1 ?hr1x1 (fun _ _ _ h => h) ?hy1x1 (by assumption) ?rest1x1
            case hi1x1 => (simp only [List.getElem?_toArray, List.getElem?_cons_succ, List.getElem?_cons_zero]; exact rfl)
            case hf1x1 => kernel_rfl
            case hr1x1 => kernel_rfl
            case hy1x1 => (refine Or.inl ⟨by rfl, ?_⟩; intro w hSw; (try dsimp only at hSw); go_simp; try with_reducible rfl)
            simp only [put_mk, List.set_cons_succ, List.set_cons_zero]
            refine wpAnyH_take (i := 2) (oi := ?o1x2) (v := ?v1x2) ?hi1x2 (by kernel_rfl) ?hf1x2 ?hr1x2 (fun _ _ _ h => h) ?hy1x2 (by assumption) ?rest1x2
            case hi1x2 => (simp only [List.getElem?_toArray, List.getElem?_cons_succ, List.getElem?_cons_zero]; exact rfl)
            case hf1x2 => kernel_rfl
            case hr1x2 => kernel_rfl
            case hy1x2 => (refine Or.inl ⟨by rfl, ?_⟩; intro w hSw; (try dsimp only at hSw); go_simp; try with_reducible rfl)
            simp only [put_mk, List.set_cons_succ, List.set_cons_zero]
            refine wpAnyH_take (i := 3) (oi := ?o1x3) (v := ?v1x3) ?hi1x3 (by kernel_rfl) ?hf1x3 ?hr1x3 (fun _ _ _ h => h) ?hy1x3 (by assumption) ?rest1x3
            case hi1x3 => (simp only [List.getElem?_toArray, List.getElem?_cons_succ, List.getElem?_cons_zero]; exact rfl)
            case hf1x3 => kernel_rfl
            case hr1x3 => kernel_rfl
            case hy1x3 => (refine Or.inl ⟨by rfl, ?_⟩; intro w hSw; (try dsimp only at hSw); go_simp; try with_reducible rfl)
            simp only [put_mk, List.set_cons_succ, List.set_cons_zero]
            refine wpAnyH_take (i := 4) (oi := ?o1x4) (v := ?v1x4) ?hi1x4 (by kernel_rfl) ?hf1x4 ?hr1x4 (fun _ _ _ h => h) ?hy1x4 (by assumption) ?rest1x4
            case hi1x4 => (simp only [List.getElem?_toArray, List.getElem?_cons_succ, List.getElem?_cons_zero]; exact rfl)
            case hf1x4 => kernel_rfl
            case hr1x4 => kernel_rfl
            case hy1x4 => (refine Or.inl ⟨by rfl, ?_⟩; intro w hSw; (try dsimp only at hSw); go_simp; try with_reducible rfl)
            simp only [put_mk, List.set_cons_succ, List.set_cons_zero]
            refine wpAnyH_take (i := 5) (oi := ?o1x5) (v := ?v1x5) ?hi1x5 (by kernel_rfl) ?hf1x5 ?hr1x5 (fun _ _ _ h => h) ?hy1x5 (by assumption) ?rest1x5
            case hi1x5 => (simp only [List.getElem?_toArray, List.getElem?_cons_succ, List.getElem?_cons_zero]; exact rfl)
            case hf1x5 => kernel_rfl
            case hr1x5 => kernel_rfl
            case hy1x5 => (refine Or.inl ⟨by rfl, ?_⟩; intro w hSw; (try dsimp only at hSw); go_simp; try with_reducible rfl)
            simp only [put_mk, List.set_cons_succ, List.set_cons_zero]
            refine wpAnyH_ready (rs := [6]) (by kernel_rfl) (by simp) ?_
            refine AllReadyH.cons (o := ?o1x6) ?hi1x6 (fun K hK => ?_) AllReadyH.nil
            case hi1x6 => (simp only [List.getElem?_toArray, List.getElem?_cons_succ, List.getElem?_cons_zero]; exact rfl)
            go_simp
            go_at_call 78; refine ((HBt _).out).mono ?_; rintro e w5 ⟨rfl, hx5⟩
            refine hK.out _ _ ?_ (fun hHeld => ?_)
            · (repeat (first | exact Ext.refl _ | assumption | refine Ext.setCell ?_ (by first | (simp; done) | (simp; omega)) _ | refine Ext.drewN ?_ _ | refine Ext.alloc ?_ _ | refine Ext.drew ?_ | refine Ext.trans ?_ (by assumption)))
            clear hK K
            refine wpAnyH_take (i := 7) (oi := ?o1x7) (v := ?v1x7) ?hi1x7 (by kernel_rfl) ?hf1x7 ?hr1x7 (fun _ _ _ h => h) ?hy1x7 (by assumption) ?rest1x7
            case hi1x7 => (simp only [List.getElem?_toArray, List.getElem?_cons_succ, List.getElem?_cons_zero]; exact rfl)
            case hf1x7 => kernel_rfl
            case hr1x7 => kernel_rfl
            case hy1x7 => (refine Or.inl ⟨by rfl, ?_⟩; intro w hSw; (try dsimp only at hSw); go_simp; try with_reducible rfl)
            simp only [put_mk, List.set_cons_succ, List.set_cons_zero]
            refine wpAnyH_take (i := 8) (oi := ?o1x8) (v := ?v1x8) ?hi1x8 (by kernel_rfl) ?hf1x8 ?hr1x8 (fun _ _ _ h => h) ?hy1x8 (by assumption) ?rest1x8
            case hi1x8 => (simp only [List.getElem?_toArray, List.getElem?_cons_succ, List.getElem?_cons_zero]; exact rfl)
            case hf1x8 => kernel_rfl
            case hr1x8 => kernel_rfl
            case hy1x8 => (refine Or.inl ⟨by rfl, ?_⟩; intro w hSw; (try dsimp only at hSw); go_simp; try with_reducible rfl)
            simp only [put_mk, List.set_cons_succ, List.set_cons_zero]
            refine wpAnyH_take (i := 9) (oi := ?o1x9) (v := ?v1x9) ?hi1x9 (by kernel_rfl) ?hf1x9 ?hr1x9 (fun _ _ _ h => h) ?hy1x9 (by assumption) ?rest1x9
            case hi1x9 => (simp only [List.getElem?_toArray, List.getElem?_cons_succ, List.getElem?_cons_zero]; exact rfl)
            case hf1x9 => kernel_rfl
            case hr1x9 => kernel_rfl
            case hy1x9 => (refine Or.inl ⟨by rfl, ?_⟩; intro w hSw; (try dsimp only at hSw); go_simp; try with_reducible rfl)
            simp only [put_mk, List.set_cons_succ, List.set_cons_zero]
            refine wpAnyH_take (i := 10) (oi := ?o1x10) (v := ?v1x10) ?hi1x10 (by kernel_rfl) ?hf1x10 ?hr1x10 (fun _ _ _ h => h) ?hy1x10 (by assumption) ?rest1x10
            case hi1x10 => (simp only [List.getElem?_toArray, List.getElem?_cons_succ, List.getElem?_cons_zero]; exact rfl)
            case hf1x10 => kernel_rfl
            case hr1x10 => kernel_rfl
            case hy1x10 => (refine Or.inl ⟨by rfl, ?_⟩; intro w hSw; (try dsimp only at hSw); go_simp; try with_reducible rfl)
            simp only [put_mk, List.set_cons_succ, List.set_cons_zero]
            refine wpAnyH_take (i := 11) (oi := ?o1x11) (v := ?v1x11) ?hi1x11 (by kernel_rfl) ?hf1x11 ?hr1x11 (fun _ _ _ h => h) ?hy1x11 (by assumption) ?rest1x11
            case hi1x11 => (simp only [List.getElem?_toArray, List.getElem?_cons_succ, List.getElem?_cons_zero]; exact rfl)
            case hf1x11 => kernel_rfl
            case hr1x11 => kernel_rfl
            case hy1x11 => (refine Or.inl ⟨by rfl, ?_⟩; intro w hSw; (try dsimp only at hSw); go_simp; try with_reducible rfl)
            simp only [put_mk, List.set_cons_succ, List.set_cons_zero]
            refine wpAnyH_done (by kernel_rfl) ?_ _
            refine NoPanic.normal ?_
            clear e0 e1 f0 f1 wk wk2
            go_wp2
            go_ret
            exact ⟨ret_i HE7.out.symm, Hhx.out.trans hHeld⟩
          | some z =>
            obtain ⟨d, n'⟩ := z
            have hd8 := (leapO_spec hlp).1
            rw [hlp] at HBt
            have hdn : ((d : Int) == -1) = false := by simp
            by_cases h12 : 12 < n'
            · have HE7 := hidA (HE6.out.trans (if_pos (by unfold stepBad; rw [hlp]; simpa using h12)))
              have h13 : (12 : Int) < n' := by omega
              clear hlp
              have wk := Hwk.out
              have wk2 := Hwk2.out
              go_upto_region 11 with fail
              refine wp_region_noPanic ?_
              refine wp_region_held_drew (S := fun w' => Ext w2 w') (by kernel_rfl) ?_ (fun hHeld => ?_)
              · (repeat (first | exact Ext.refl _ | assumption | refine Ext.setCell ?_ (by first | (simp; done) | (simp; omega)) _ | refine Ext.drewN ?_ _ | refine Ext.alloc ?_ _ | refine Ext.drew ?_ | refine Ext.trans ?_ (by assumption)))
              refine wpAnyH_take (i := 0) (oi := ?o2x0) (v := ?v2x0) ?hi2x0 (by kernel_rfl) ?hf2x0 ?hr2x0 (fun _ _ _ h => h) ?hy2x0 (by assumption) ?rest2x0
              case hi2x0 => (simp only [List.getElem?_toArray, List.getElem?_cons_zero]; exact rfl)
              case hf2x0 => kernel_rfl
              case hr2x0 => kernel_rfl
              case hy2x0 => (refine Or.inl ⟨by rfl, ?_⟩; intro w hSw; (try dsimp only at hSw); go_simp; try with_reducible rfl)
              simp only [put_mk, List.set_cons_succ, List.set_cons_zero]
              refine wpAnyH_take (i := 1) (oi := ?o2x1) (v := ?v2x1) ?hi2x1 (by kernel_rfl) ?hf2x1 ?hr2x1 (fun _ _ _ h => h) ?hy2x1 (by assumption) ?rest2x1
              case hi2x1 => (simp only [List.getElem?_toArray, List.getElem?_cons_succ, List.getElem?_cons_zero]; exact rfl)
              case hf2x1 => kernel_rfl
              case hr2x1 => kernel_rfl
              case hy2x1 => (refine Or.inl ⟨by rfl, ?_⟩; intro w hSw; (try dsimp only at hSw); go_simp; try with_reducible rfl)
              simp only [put_mk, List.set_cons_succ, List.set_cons_zero]
              refine wpAnyH_take (i := 2) (oi := ?o2x2) (v := ?v2x2) ?hi2x2 (by kernel_rfl) ?hf2x2 ?hr2x2 (fun _ _ _ h => h) ?hy2x2 (by assumption) ?rest2x2
              case hi2x2 => (simp only [List.getElem?_toArray, List.getElem?_cons_succ, List.getElem?_cons_zero]; exact rfl)
              case hf2x2 => kernel_rfl
              case hr2x2 => kernel_rfl
              case hy2x2 => (refine Or.inl ⟨by rfl, ?_⟩; intro w hSw; (try dsimp only at hSw); go_simp; try with_reducible rfl)
              simp only [put_mk, List.set_cons_succ, List.set_cons_zero]
              refine wpAnyH_take (i := 3) (oi := ?o2x3) (v := ?v2x3) ?hi2x3 (by kernel_rfl) ?hf2x3 ?hr2x3 (fun _ _ _ h => h) ?hy2x3 (by assumption) ?rest2x3
              case hi2x3 => (simp only [List.getElem?_toArray, List.getElem?_cons_succ, List.getElem?_cons_zero]; exact rfl)
              case hf2x3 => kernel_rfl
              case hr2x3 => kernel_rfl
              case hy2x3 => (refine Or.inl ⟨by rfl, ?_⟩; intro w hSw; (try dsimp only at hSw); go_simp; try with_reducible rfl)
              simp only [put_mk, List.set_cons_succ, List.set_cons_zero]
              refine wpAnyH_take (i := 4) (oi := ?o2x4) (v := ?v2x4) ?hi2x4 (by kernel_rfl) ?hf2x4 ?hr2x4 (fun _ _ _ h => h) ?hy2x4 (by assumption) ?rest2x4
              case hi2x4 => (simp only [List.getElem?_toArray, List.getElem?_cons_succ, List.getElem?_cons_zero]; exact rfl)
              case hf2x4 => kernel_rfl
              case hr2x4 => kernel_rfl
              case hy2x4 => (refine Or.inl ⟨by rfl, ?_⟩; intro w hSw; (try dsimp only at hSw); go_simp; try with_reducible rfl)
              simp only [put_mk, List.set_cons_succ, List.set_cons_zero]
              refine wpAnyH_take (i := 5) (oi := ?o2x5) (v := ?v2x5) ?hi2x5 (by kernel_rfl) ?hf2x5 ?hr2x5 (fun _ _ _ h => h) ?hy2x5 (by assumption) ?rest2x5
              case hi2x5 => (simp only [List.getElem?_toArray, List.getElem?_cons_succ, List.getElem?_cons_zero]; exact rfl)
              case hf2x5 => kernel_rfl
              case hr2x5 => kernel_rfl
              case hy2x5 => (refine Or.inl ⟨by rfl, ?_⟩; intro w hSw; (try dsimp only at hSw); go_simp; try with_reducible rfl)
              simp only [put_mk, List.set_cons_succ, List.set_cons_zero]
              refine wpAnyH_ready (rs := [6]) (by kernel_rfl) (by simp) ?_
              refine AllReadyH.cons (o := ?o2x6) ?hi2x6 (fun K hK => ?_) AllReadyH.nil
              case hi2x6 => (simp only [List.getElem?_toArray, List.getElem?_cons_succ, List.getElem?_cons_zero]; exact rfl)
              go_simp
              go_at_call 78; refine ((HBt _).out).mono ?_; rintro e w5 ⟨rfl, hx5⟩
              refine hK.out _ _ ?_ (fun hHeld => ?_)
              · (repeat (first | exact Ext.refl _ | assumption | refine Ext.setCell ?_ (by first | (simp; done) | (simp; omega)) _ | refine Ext.drewN ?_ _ | refine Ext.alloc ?_ _ | refine Ext.drew ?_ | refine Ext.trans ?_ (by assumption)))
              clear hK K
              refine wpAnyH_take (i := 7) (oi := ?o2x7) (v := ?v2x7) ?hi2x7 (by kernel_rfl) ?hf2x7 ?hr2x7 (fun _ _ _ h => h) ?hy2x7 (by assumption) ?rest2x7
              case hi2x7 => (simp only [List.getElem?_toArray, List.getElem?_cons_succ, List.getElem?_cons_zero]; exact rfl)
              case hf2x7 => kernel_rfl
              case hr2x7 => kernel_rfl
              case hy2x7 => (refine Or.inl ⟨by rfl, ?_⟩; intro w hSw; (try dsimp only at hSw); go_simp; try with_reducible rfl)
              simp only [put_mk, List.set_cons_succ, List.set_cons_zero]
              refine wpAnyH_take (i := 8) (oi := ?o2x8) (v := ?v2x8) ?hi2x8 (by kernel_rfl) ?hf2x8 ?hr2x8 (fun _ _ _ h => h) ?hy2x8 (by assumption) ?rest2x8
              case hi2x8 => (simp only [List.getElem?_toArray, List.getElem?_cons_succ, List.getElem?_cons_zero]; exact rfl)
              case hf2x8 => kernel_rfl
              case hr2x8 => kernel_rfl
              case hy2x8 => (refine Or.inl ⟨by rfl, ?_⟩; intro w hSw; (try dsimp only at hSw); go_simp; try with_reducible rfl)
              simp only [put_mk, List.set_cons_succ, List.set_cons_zero]
              refine wpAnyH_take (i := 9) (oi := ?o2x9) (v := ?v2x9) ?hi2x9 (by kernel_rfl) ?hf2x9 ?hr2x9 (fun _ _ _ h => h) ?hy2x9 (by assumption) ?rest2x9
              case hi2x9 => (simp only [List.getElem?_toArray, List.getElem?_cons_succ, List.getElem?_cons_zero]; exact rfl)
              case hf2x9 => kernel_rfl
              case hr2x9 => kernel_rfl
              case hy2x9 => (refine Or.inl ⟨by rfl, ?_⟩; intro w hSw; (try dsimp only at hSw); go_simp; try with_reducible rfl)
              simp only [put_mk, List.set_cons_succ, List.set_cons_zero]
              refine wpAnyH_take (i := 10) (oi := ?o2x10) (v := ?v2x10) ?hi2x10 (by kernel_rfl) ?hf2x10 ?hr2x10 (fun _ _ _ h => h) ?hy2x10 (by assumption) ?rest2x10
              case hi2x10 => (simp only [List.getElem?_toArray, List.getElem?_cons_succ, List.getElem?_cons_zero]; exact rfl)
              case hf2x10 => kernel_rfl
              case hr2x10 => kernel_rfl
              case hy2x10 => (refine Or.inl ⟨by rfl, ?_⟩; intro w hSw; (try dsimp only at hSw); go_simp; try with_reducible rfl)
              simp only [put_mk, List.set_cons_succ, List.set_cons_zero]
              refine wpAnyH_take (i := 11) (oi := ?o2x11) (v := ?v2x11) ?hi2x11 (by kernel_rfl) ?hf2x11 ?hr2x11 (fun _ _ _ h => h) ?hy2x11 (by assumption) ?rest2x11
              case hi2x11 => (simp only [List.getElem?_toArray, List.getElem?_cons_succ, List.getElem?_cons_zero]; exact rfl)
              case hf2x11 => kernel_rfl
              case hr2x11 => kernel_rfl
              case hy2x11 => (refine Or.inl ⟨by rfl, ?_⟩; intro w hSw; (try dsimp only at hSw); go_simp; try with_reducible rfl)
              simp only [put_mk, List.set_cons_succ, List.set_cons_zero]
              refine wpAnyH_done (by kernel_rfl) ?_ _
              refine NoPanic.normal ?_
              clear e0 e1 f0 f1 wk wk2
              go_wp2
              go_ret
              exact ⟨ret_i HE7.out.symm, Hhx.out.trans hHeld⟩
            · have HE7 := hidA (HE6.out.trans (if_neg (by unfold stepBad; rw [hlp]; simpa using h12)))
              have h13 : ¬ (12 : Int) < n' := by omega
              clear hlp
              have wk := Hwk.out
              have wk2 := Hwk2.out
              go_upto_region 11 with fail
              refine wp_region_noPanic ?_
              refine wp_region_held_drew (S := fun w' => Ext w2 w') (by kernel_rfl) ?_ (fun hHeld => ?_)
              · (repeat (first | exact Ext.refl _ | assumption | refine Ext.setCell ?_ (by first | (simp; done) | (simp; omega)) _ | refine Ext.drewN ?_ _ | refine Ext.alloc ?_ _ | refine Ext.drew ?_ | refine Ext.trans ?_ (by assumption)))
              refine wpAnyH_take (i := 0) (oi := ?o3x0) (v := ?v3x0) ?hi3x0 (by kernel_rfl) ?hf3x0 ?hr3x0 (fun _ _ _ h => h) ?hy3x0 (by assumption) ?rest3x0
              case hi3x0 => (simp only [List.getElem?_toArray, List.getElem?_cons_zero]; exact rfl)
              case hf3x0 => kernel_rfl
              case hr3x0 => kernel_rfl
              case hy3x0 => (refine Or.inl ⟨by rfl, ?_⟩; intro w hSw; (try dsimp only at hSw); go_simp; try with_reducible rfl)
              simp only [put_mk, List.set_cons_succ, List.set_cons_zero]
              refine wpAnyH_take (i := 1) (oi := ?o3x1) (v := ?v3x1) ?hi3x1 (by kernel_rfl) ?hf3x1 ?hr3x1 (fun _ _ _ h => h) ?hy3x1 (by assumption) ?rest3x1
              case hi3x1 => (simp only [List.getElem?_toArray, List.getElem?_cons_succ, List.getElem?_cons_zero]; exact rfl)
              case hf3x1 => kernel_rfl
              case hr3x1 => kernel_rfl
              case hy3x1 => (refine Or.inl ⟨by rfl, ?_⟩; intro w hSw; (try dsimp only at hSw); go_simp; try with_reducible rfl)
              simp only [put_mk, List.set_cons_succ, List.set_cons_zero]
              refine wpAnyH_take (i := 2) (oi := ?o3x2) (v := ?v3x2) ?hi3x2 (by kernel_rfl) ?hf3x2 ?hr3x2 (fun _ _ _ h => h) ?hy3x2 (by assumption) ?rest3x2
              case hi3x2 => (simp only [List.getElem?_toArray, List.getElem?_cons_succ, List.getElem?_cons_zero]; exact rfl)
              case hf3x2 => kernel_rfl
              case hr3x2 => kernel_rfl
              case hy3x2 => (refine Or.inl ⟨by rfl, ?_⟩; intro w hSw; (try dsimp only at hSw); go_simp; try with_reducible rfl)
              simp only [put_mk, List.set_cons_succ, List.set_cons_zero]
              refine wpAnyH_take (i := 3) (oi := ?o3x3) (v := ?v3x3) ?hi3x3 (by kernel_rfl) ?hf3x3 ?hr3x3 (fun _ _ _ h => h) ?hy3x3 (by assumption) ?rest3x3
              case hi3x3 => (simp only [List.getElem?_toArray, List.getElem?_cons_succ, List.getElem?_cons_zero]; exact rfl)
              case hf3x3 => kernel_rfl
              case hr3x3 => kernel_rfl
              case hy3x3 => (refine Or.inl ⟨by rfl, ?_⟩; intro w hSw; (try dsimp only at hSw); go_simp; try with_reducible rfl)
              simp only [put_mk, List.set_cons_succ, List.set_cons_zero]
              refine wpAnyH_take (i := 4) (oi := ?o3x4) (v := ?v3x4) ?hi3x4 (by kernel_rfl) ?hf3x4 ?hr3x4 (fun _ _ _ h => h) ?hy3x4 (by assumption) ?rest3x4
              case hi3x4 => (simp only [List.getElem?_toArray, List.getElem?_cons_succ, List.getElem?_cons_zero]; exact rfl)
              case hf3x4 => kernel_rfl
              case hr3x4 => kernel_rfl
              case hy3x4 => (refine Or.inl ⟨by rfl, ?_⟩; intro w hSw; (try dsimp only at hSw); go_simp; try with_reducible rfl)
              simp only [put_mk, List.set_cons_succ, List.set_cons_zero]
              refine wpAnyH_take (i := 5) (oi := ?o3x5) (v := ?v3x5) ?hi3x5 (by kernel_rfl) ?hf3x5 ?hr3x5 (fun _ _ _ h => h) ?hy3x5 (by assumption) ?rest3x5
              case hi3x5 => (simp only [List.getElem?_toArray, List.getElem?_cons_succ, List.getElem?_cons_zero]; exact rfl)
              case hf3x5 => kernel_rfl
              case hr3x5 => kernel_rfl
              case hy3x5 => (refine Or.inl ⟨by rfl, ?_⟩; intro w hSw; (try dsimp only at hSw); go_simp; try with_reducible rfl)
              simp only [put_mk, List.set_cons_succ, List.set_cons_zero]
              refine wpAnyH_ready (rs := [6]) (by kernel_rfl) (by simp) ?_
              refine AllReadyH.cons (o := ?o3x6) ?hi3x6 (fun K hK => ?_) AllReadyH.nil
              case hi3x6 => (simp only [List.getElem?_toArray, List.getElem?_cons_succ, List.getElem?_cons_zero]; exact rfl)
              go_simp
              go_at_call 78; refine ((HBt _).out).mono ?_; rintro e w5 ⟨rfl, hx5⟩
              refine hK.out _ _ ?_ (fun hHeld => ?_)
              · (repeat (first | exact Ext.refl _ | assumption | refine Ext.setCell ?_ (by first | (simp; done) | (simp; omega)) _ | refine Ext.drewN ?_ _ | refine Ext.alloc ?_ _ | refine Ext.drew ?_ | refine Ext.trans ?_ (by assumption)))
              clear hK K
              refine wpAnyH_take (i := 7) (oi := ?o3x7) (v := ?v3x7) ?hi3x7 (by kernel_rfl) ?hf3x7 ?hr3x7 (fun _ _ _ h => h) ?hy3x7 (by assumption) ?rest3x7
              case hi3x7 => (simp only [List.getElem?_toArray, List.getElem?_cons_succ, List.getElem?_cons_zero]; exact rfl)
              case hf3x7 => kernel_rfl
              case hr3x7 => kernel_rfl
              case hy3x7 => (refine Or.inl ⟨by rfl, ?_⟩; intro w hSw; (try dsimp only at hSw); go_simp; try with_reducible rfl)
              simp only [put_mk, List.set_cons_succ, List.set_cons_zero]
              refine wpAnyH_take (i := 8) (oi := ?o3x8) (v := ?v3x8) ?hi3x8 (by kernel_rfl) ?hf3x8 ?hr3x8 (fun _ _ _ h => h) ?hy3x8 (by assumption) ?rest3x8
              case hi3x8 => (simp only [List.getElem?_toArray, List.getElem?_cons_succ, List.getElem?_cons_zero]; exact rfl)
              case hf3x8 => kernel_rfl
              case hr3x8 => kernel_rfl
              case hy3x8 => (refine Or.inl ⟨by rfl, ?_⟩; intro w hSw; (try dsimp only at hSw); go_simp; try with_reducible rfl)
              simp only [put_mk, List.set_cons_succ, List.set_cons_zero]
              refine wpAnyH_take (i := 9) (oi := ?o3x9) (v := ?v3x9) ?hi3x9 (by kernel_rfl) ?hf3x9 ?hr3x9 (fun _ _ _ h => h) ?hy3x9 (by assumption) ?rest3x9
              case hi3x9 => (simp only [List.getElem?_toArray, List.getElem?_cons_succ, List.getElem?_cons_zero]; exact rfl)
              case hf3x9 => kernel_rfl
              case hr3x9 => kernel_rfl
              case hy3x9 => (refine Or.inl ⟨by rfl, ?_⟩; intro w hSw; (try dsimp only at hSw); go_simp; try with_reducible rfl)
              simp only [put_mk, List.set_cons_succ, List.set_cons_zero]
              refine wpAnyH_take (i := 10) (oi := ?o3x10) (v := ?v3x10) ?hi3x10 (by kernel_rfl) ?hf3x10 ?hr3x10 (fun _ _ _ h => h) ?hy3x10 (by assumption) ?rest3x10
              case hi3x10 => (simp only [List.getElem?_toArray, List.getElem?_cons_succ, List.getElem?_cons_zero]; exact rfl)
              case hf3x10 => kernel_rfl
              case hr3x10 => kernel_rfl
              case hy3x10 => (refine Or.inl ⟨by rfl, ?_⟩; intro w hSw; (try dsimp only at hSw); go_simp; try with_reducible rfl)
              simp only [put_mk, List.set_cons_succ, List.set_cons_zero]
              refine wpAnyH_take (i := 11) (oi := ?o3x11) (v := ?v3x11) ?hi3x11 (by kernel_rfl) ?hf3x11 ?hr3x11 (fun _ _ _ h => h) ?hy3x11 (by assumption) ?rest3x11
              case hi3x11 => (simp only [List.getElem?_toArray, List.getElem?_cons_succ, List.getElem?_cons_zero]; exact rfl)
              case hf3x11 => kernel_rfl
              case hr3x11 => kernel_rfl
              case hy3x11 => (refine Or.inl ⟨by rfl, ?_⟩; intro w hSw; (try dsimp only at hSw); go_simp; try with_reducible rfl)
              simp only [put_mk, List.set_cons_succ, List.set_cons_zero]
              refine wpAnyH_done (by kernel_rfl) ?_ _
              refine NoPanic.normal ?_
              clear e0 e1 f0 f1 wk wk2
              go_wp2
              go_roundw
              case rel => exact ⟨k + 1, by omega, by go_num, HE7.out, fun _ => by rw [Nat.add_sub_cancel, hpp2.out]; exact Hb.out, Hhx.out.trans hHeld⟩
              case measure => simp [intOf]; omega
      · have HE5 := hidA (HE4.out.trans (if_pos hb))
        rw [hb] at HP1
        simp only [if_true] at HP1
        have HP2 := hidA HP1
        clear hb HE4 HP1
        go_wp2_with fail
        refine (HP2.out _ (by repeat (first | exact Ext.refl _ | assumption | refine Ext.setCell ?_ (by first | (simp; done) | (simp; omega)) _ | refine Ext.drewN ?_ _ | refine Ext.alloc ?_ _ | refine Ext.drew ?_ | refine Ext.trans ?_ (by assumption)))).mono ?_
        rintro e w2 ⟨rfl, hx2⟩
        go_wp2
        go_ret
        exact ⟨ret_i HE5.out.symm, (by repeat (first | exact Ext.refl _ | assumption | refine Ext.setCell ?_ (by first | (simp; done) | (simp; omega)) _ | refine Ext.drewN ?_ _ | refine Ext.alloc ?_ _ | refine Ext.drew ?_ | refine Ext.trans ?_ (by assumption)))⟩
    · have hkn2 : n = k := by omega
      subst hkn2
      have HE5 := hidA (show E = 0 from by rw [HEk.out, Nat.sub_self]; rfl)
      go_wp2
      go_ret
      exact ⟨ret_i HE5.out.symm, hx⟩
end Go.Proofs.Ytpgdinpckolfpaa

namespace Go.Proofs.Ytpgdinpckolfpaa
open Go.RowKit
attribute [local go_sem ↓] Go.wp_at_zero Go.wp_at_succ
attribute [local go_sem] run_store_float

/-- the error of how many places there are -/
def amtE (q : Nat) : Int := if q = 0 then 10 else if 65536 < q then 4 else 0
/-- the cell of a place -/
def kOf (X Y : Int) (Wn : Nat) (p : Int × Int) : Nat := (p.2 - Y).toNat * Wn + (p.1 - X).toNat
theorem kOf_in {X Y : Int} {Wn Hn : Nat} {p : Int × Int} (h : InR X Y Wn Hn p.1 p.2) : kOf X Y Wn p < Wn * Hn ∧ p.1 = X + ((kOf X Y Wn p % Wn : Nat) : Int) ∧ p.2 = Y + ((kOf X Y Wn p / Wn : Nat) : Int) := by
  unfold InR at h
  unfold kOf
  obtain ⟨a, ha⟩ := Int.eq_ofNat_of_zero_le (show 0 ≤ p.1 - X by omega)
  obtain ⟨b, hb⟩ := Int.eq_ofNat_of_zero_le (show 0 ≤ p.2 - Y by omega)
  have h1 : a < Wn := by omega
  have h2 : b < Hn := by omega
  rw [ha, hb, Int.toNat_natCast, Int.toNat_natCast]
  refine ⟨?_, ?_, ?_⟩
  · calc b * Wn + a < b * Wn + Wn := by omega
      _ = (b + 1) * Wn := by rw [Nat.add_mul, Nat.one_mul]
      _ ≤ Hn * Wn := Nat.mul_le_mul_right _ h2
      _ = Wn * Hn := Nat.mul_comm _ _
  · rw [Nat.mul_comm, Nat.mul_add_mod, Nat.mod_eq_of_lt h1]; omega
  · rw [Nat.mul_comm, Nat.mul_add_div (by omega), Nat.div_eq_of_lt h1]; omega
/-- the price of the first steps of a way -/
def prA (R : RlR) (V : Nat → Nat) (X Y : Int) (Wn Hn : Nat) (ps : List (Int × Int)) : Nat → Option Nat
  | 0 => some 0
  | i + 1 => match prA R V X Y Wn Hn ps i with
    | none => none
    | some s => match stepF R V Wn Hn (kOf X Y Wn (ps.getD i (0, 0))) (kOf X Y Wn (ps.getD (i + 1) (0, 0))) with
      | none => none
      | some c => some (fadd s c)
theorem prA_none {R : RlR} {V : Nat → Nat} {X Y : Int} {Wn Hn : Nat} {ps : List (Int × Int)} {i : Nat} (h : prA R V X Y Wn Hn ps i = none) : ∀ j, i ≤ j → prA R V X Y Wn Hn ps j = none
  | 0, hj => by
    obtain rfl : i = 0 := by omega
    exact h
  | j + 1, hj => by
    by_cases e : i = j + 1
    · subst e; exact h
    · rw [prA, prA_none h j (by omega)]
theorem stepF_bd {R : RlR} {V : Nat → Nat} {Wn Hn N k t c : Nat} (hR : RlOk R N) (hN : N = Wn * Hn) (hW : 1 ≤ Wn) (hV : ∀ j, j < N → Bd 20 (V j)) (hk : k < N) (ht : t < N) (h : stepF R V Wn Hn k t = some c) : Bd 56 c ∧ 2 ^ 149 ≤ valI c := by
  unfold stepF at h
  cases hl : leapO (dX Wn k t) (dY Wn k t) with
  | none => rw [hl] at h; cases h
  | some p =>
    obtain ⟨d, n⟩ := p
    rw [hl] at h
    dsimp only at h
    split at h
    · rename_i hs
      obtain ⟨_, h1, _, _⟩ := leap_grid hW (by rw [← hN]; exact hk) (by rw [← hN]; exact ht) hl
      have h12 : n ≤ 12 := by have := hR.sp; unfold spanN at hs; omega
      exact costF_ok hR (hV k hk) (hV t ht) ht h1 h12 h
    · cases h
theorem fadd_lt (x y : Nat) : fadd x y < 4294967296 := by
  unfold fadd
  cases h : floatBits .add .f32 x y with
  | none => simp
  | some r => exact bits_lt h (by simp)
theorem fmul_lt (x y : Nat) : fmul x y < 4294967296 := by
  unfold fmul
  cases h : floatBits .mul .f32 x y with
  | none => simp
  | some r => exact bits_lt h (by simp)
theorem costF_lt {R : RlR} {V : Nat → Nat} {k t d n top c : Nat} (h : costF R V k t d n top = some c) : c < 4294967296 := by
  unfold costF at h
  split at h
  · cases h
  · split at h
    · split at h
      · injection h with h; subst h; unfold costB; exact fadd_lt _ _
      · cases h
    · injection h with h; subst h
      unfold costC
      split
      · unfold costN; exact fmul_lt _ _
      · exact fmul_lt _ _
theorem stepF_lt {R : RlR} {V : Nat → Nat} {Wn Hn k t c : Nat} (h : stepF R V Wn Hn k t = some c) : c < 4294967296 := by
  unfold stepF at h
  split at h
  · cases h
  · split at h
    · exact costF_lt h
    · cases h
theorem prA_bd {R : RlR} {V : Nat → Nat} {X Y : Int} {Wn Hn N : Nat} {ps : List (Int × Int)} (hR : RlOk R N) (hN : N = Wn * Hn) (hW : 1 ≤ Wn) (hV : ∀ j, j < N → Bd 20 (V j)) (hin : ∀ j, j < ps.length → kOf X Y Wn (ps.getD j (0, 0)) < N) : ∀ i s, i < ps.length → prA R V X Y Wn Hn ps i = some s → Bd 84 s ∧ 0 ≤ valI s
  | 0, s, _, h => by
    rw [prA] at h
    injection h with h
    subst h
    exact ⟨by unfold Bd; decide, by decide +kernel⟩
  | i + 1, s, hi, h => by
    rw [prA] at h
    cases h1 : prA R V X Y Wn Hn ps i with
    | none => rw [h1] at h; cases h
    | some a =>
      rw [h1] at h
      dsimp only at h
      obtain ⟨a1, a2⟩ := prA_bd hR hN hW hV hin i a (by omega) h1
      cases h2 : stepF R V Wn Hn (kOf X Y Wn (ps.getD i (0, 0))) (kOf X Y Wn (ps.getD (i + 1) (0, 0))) with
      | none => rw [h2] at h; cases h
      | some c =>
        rw [h2] at h
        dsimp only at h
        injection h with h
        subst h
        obtain ⟨c1, c2⟩ := stepF_bd hR hN hW hV (hin i (by omega)) (hin (i + 1) hi) h2
        have h3 := fadd_ge a1 (c1.mono (by omega)) (by omega) (by omega)
        exact ⟨fadd_cap a1 c1 (by omega), by omega⟩
theorem add0 {c : Nat} (hc : Bd 56 c) (h1 : 2 ^ 149 ≤ valI c) (hlt : c < 4294967296) : fadd 0 c = c := by
  obtain ⟨a, b⟩ := fadd_ok (x := 0) (y := c) (K := 56) (by unfold Bd; omega) hc (by omega)
  have hk := add_key (x := 0) (y := c) fin_zero (bd_Fin hc (by omega)) (show Ieee.single.add 0 c = some (fadd 0 c) from a)
  have hz : valI 0 = 0 := by decide +kernel
  rw [hz, Int.zero_add, rkey_val (bd_Fin hc (by omega))] at hk
  exact val_one (bits_lt a (by simp)) hlt (val_key_eq.2 hk) (by rw [val_key_eq.2 hk]; omega)
/-- the rest of a way in memory -/
theorem Rd.ptail {w : World} {ad : Addr} {p : Int × Int} {r : List (Int × Int)} (h : Rd w (some ad) (ptv (p :: r))) : Rd w (some (ad.add 2)) (ptv r) := by
  intro hne
  obtain ⟨a, e, hb, hc⟩ := h (by rw [ptv_cons]; simp)
  injection e with e
  subst e
  refine ⟨_, rfl, by rw [add_block]; exact hb, fun j u hu => ?_⟩
  rw [add_add']
  exact hc _ _ (by rw [ptv_cons, Nat.add_comm 2 j]; simpa using hu)
set_option maxRecDepth 100000 in
set_option maxHeartbeats 6400000 in
theorem Price_bad1 (X Y W H : Int) (A : Option Addr) (n c : Nat) (lf : List Nat) (gr wt br de : Nat) (sp : Int) (C : Option Addr) (m cc : Nat) (X' Y' W' H' : Int) (l : List Nat) (B : Option Addr) (q d : Nat) (w : World) (hn : lf.length = n) (hV : Rd w A (flt lf)) (hb : n ≤ 140737488351232) (hC : CoP w C m X' Y' W' H' l) (hm : m ≤ 140737488351232) (hE : grndE X Y W H lf gr wt br de sp m X' Y' W' H' l ≠ 0) :
    Calls Try.prog 23 #[.agg #[.int .i64 X, .int .i64 Y, .int .i64 W, .int .i64 H, .slice A n c], .agg #[.float .f32 gr, .float .f32 wt, .float .f32 br, .float .f32 de, .int .i64 sp, .slice C m cc], .slice B q d] w fun e w' => e = .returned (.tuple #[.float .f32 0, .int .i64 (grndE X Y W H lf gr wt br de sp m X' Y' W' H' l)]) ∧ Ext w w' := by
  have HC := fun (w' : World) (h : Ext w w') => hidA (chk_any X Y W H A n c lf gr wt br de sp C m cc X' Y' W' H' l w' hn (hV.ext h) hb (hC.ext h) hm)
  have hne : (grndE X Y W H lf gr wt br de sp m X' Y' W' H' l != 0) = true := by simpa using hE
  generalize grndE X Y W H lf gr wt br de sp m X' Y' W' H' l = E at *
  clear hn hV hb hC hm hE
  go_enter Try.func23, Try.ntmps23
  go_upto_region 1 with fail
  obtain ⟨w0, hw0⟩ : ∃ w0, w0 = (w.alloc (.cells #[.int .i64 X, .int .i64 Y, .int .i64 W, .int .i64 H, .slice A n c] 26)).alloc (.cells #[.float .f32 gr, .float .f32 wt, .float .f32 br, .float .f32 de, .int .i64 sp, .slice C m cc] 30) := ⟨_, rfl⟩
  have kF : Bk w0 w.heap.size 26 #[.int .i64 X, .int .i64 Y, .int .i64 W, .int .i64 H, .slice A n c] := by rw [hw0]; exact (Bk.new' rfl).alloc _
  have kR : Bk w0 (w.heap.size + 1) 30 #[.float .f32 gr, .float .f32 wt, .float .f32 br, .float .f32 de, .int .i64 sp, .slice C m cc] := by rw [hw0]; exact Bk.new' (by simp)
  have hx0 : Ext w w0 := by rw [hw0]; exact ((Ext.refl w).alloc _).alloc _
  rw [← hw0]
  clear hw0
  generalize w.heap.size + 1 = hr' at *
  generalize hfe : w.heap.size = hf at *
  clear hfe
  have f0 := kF.cell 0
  have f1 := kF.cell 1
  have f2 := kF.cell 2
  have f3 := kF.cell 3
  have f4 := kF.cell 4
  have r0 := kR.cell 0
  have r1 := kR.cell 1
  have r2 := kR.cell 2
  have r3 := kR.cell 3
  have r4 := kR.cell 4
  have r5 := kR.cell 5
  clear kF kR
  go_wp2_with (go_at_call 63; refine ((HC _ hx0).out).mono ?_; rintro e w1 ⟨rfl, hx1⟩)
  go_ret2
  exact ⟨rfl, hx0.trans hx1⟩
set_option maxRecDepth 100000 in
set_option maxHeartbeats 6400000 in
theorem Price_bad2 (X Y W H : Int) (A : Option Addr) (n c : Nat) (lf : List Nat) (gr wt br de : Nat) (sp : Int) (C : Option Addr) (m cc : Nat) (X' Y' W' H' : Int) (l : List Nat) (B : Option Addr) (q d : Nat) (w : World) (hn : lf.length = n) (hV : Rd w A (flt lf)) (hb : n ≤ 140737488351232) (hC : CoP w C m X' Y' W' H' l) (hm : m ≤ 140737488351232) (hE : grndE X Y W H lf gr wt br de sp m X' Y' W' H' l = 0) (hq : amtE q ≠ 0) :
    Calls Try.prog 23 #[.agg #[.int .i64 X, .int .i64 Y, .int .i64 W, .int .i64 H, .slice A n c], .agg #[.float .f32 gr, .float .f32 wt, .float .f32 br, .float .f32 de, .int .i64 sp, .slice C m cc], .slice B q d] w fun e w' => e = .returned (.tuple #[.float .f32 0, .int .i64 (amtE q)]) ∧ Ext w w' := by
  have HC := fun (w' : World) (h : Ext w w') => hidA (chk_any X Y W H A n c lf gr wt br de sp C m cc X' Y' W' H' l w' hn (hV.ext h) hb (hC.ext h) hm)
  rw [hE] at HC
  have HA := fun (w : World) => hidA (amount_any B q d w)
  have HA : ∀ w : World, Hid (Calls Try.prog 69 #[.slice B q d] w fun e w' => e = .returned (.int .i64 (amtE q)) ∧ w = w') := HA
  have hne : (amtE q != 0) = true := by simpa using hq
  generalize amtE q = E at *
  clear hn hV hb hC hm hE hq
  go_enter Try.func23, Try.ntmps23
  go_upto_region 1 with fail
  obtain ⟨w0, hw0⟩ : ∃ w0, w0 = (w.alloc (.cells #[.int .i64 X, .int .i64 Y, .int .i64 W, .int .i64 H, .slice A n c] 26)).alloc (.cells #[.float .f32 gr, .float .f32 wt, .float .f32 br, .float .f32 de, .int .i64 sp, .slice C m cc] 30) := ⟨_, rfl⟩
  have kF : Bk w0 w.heap.size 26 #[.int .i64 X, .int .i64 Y, .int .i64 W, .int .i64 H, .slice A n c] := by rw [hw0]; exact (Bk.new' rfl).alloc _
  have kR : Bk w0 (w.heap.size + 1) 30 #[.float .f32 gr, .float .f32 wt, .float .f32 br, .float .f32 de, .int .i64 sp, .slice C m cc] := by rw [hw0]; exact Bk.new' (by simp)
  have hx0 : Ext w w0 := by rw [hw0]; exact ((Ext.refl w).alloc _).alloc _
  rw [← hw0]
  clear hw0
  generalize w.heap.size + 1 = hr' at *
  generalize hfe : w.heap.size = hf at *
  clear hfe
  have f0 := kF.cell 0
  have f1 := kF.cell 1
  have f2 := kF.cell 2
  have f3 := kF.cell 3
  have f4 := kF.cell 4
  have r0 := kR.cell 0
  have r1 := kR.cell 1
  have r2 := kR.cell 2
  have r3 := kR.cell 3
  have r4 := kR.cell 4
  have r5 := kR.cell 5
  clear kF kR
  go_wp2_with (first | (go_at_call 63; refine ((HC _ hx0).out).mono ?_; rintro e w1 ⟨rfl, hx1⟩) | (go_at_call 69; refine ((HA _).out).mono ?_; rintro e w2 ⟨rfl, hw2⟩; subst hw2))
  go_ret2
  exact ⟨rfl, hx0.trans hx1⟩
set_option maxRecDepth 100000 in
set_option maxHeartbeats 6400000 in
theorem Price_bad3 (X Y W H : Int) (A : Option Addr) (n c : Nat) (lf : List Nat) (gr wt br de : Nat) (sp : Int) (C : Option Addr) (m cc : Nat) (X' Y' W' H' : Int) (l : List Nat) (B : Option Addr) (q d : Nat) (w : World) (hn : lf.length = n) (hV : Rd w A (flt lf)) (hb : n ≤ 140737488351232) (hC : CoP w C m X' Y' W' H' l) (hm : m ≤ 140737488351232) (ps : List (Int × Int)) (hr : RegOk X Y W H) (hl : ps.length = q) (hP : Rd w B (ptv ps)) (hq8 : q ≤ 140737488351232) (hE : grndE X Y W H lf gr wt br de sp m X' Y' W' H' l = 0) (hq : amtE q = 0) (hi : insE X Y W H ps ≠ 0) :
    Calls Try.prog 23 #[.agg #[.int .i64 X, .int .i64 Y, .int .i64 W, .int .i64 H, .slice A n c], .agg #[.float .f32 gr, .float .f32 wt, .float .f32 br, .float .f32 de, .int .i64 sp, .slice C m cc], .slice B q d] w fun e w' => e = .returned (.tuple #[.float .f32 0, .int .i64 (insE X Y W H ps)]) ∧ Ext w w' := by
  have HC := fun (w' : World) (h : Ext w w') => hidA (chk_any X Y W H A n c lf gr wt br de sp C m cc X' Y' W' H' l w' hn (hV.ext h) hb (hC.ext h) hm)
  rw [hE] at HC
  have HA := fun (w : World) => hidA (amount_any B q d w)
  have HA : ∀ w : World, Hid (Calls Try.prog 69 #[.slice B q d] w fun e w' => e = .returned (.int .i64 (amtE q)) ∧ w = w') := HA
  rw [hq] at HA
  have HI := fun (w' : World) (h : Ext w w') => hidA (inside_any X Y W H A B n c q d ps w' hr hl (hP.ext h) hq8)
  have hne : (insE X Y W H ps != 0) = true := by simpa using hi
  generalize insE X Y W H ps = E at *
  clear hn hV hb hC hm hE hq hi hr hl hP hq8
  go_enter Try.func23, Try.ntmps23
  go_upto_region 1 with fail
  obtain ⟨w0, hw0⟩ : ∃ w0, w0 = (w.alloc (.cells #[.int .i64 X, .int .i64 Y, .int .i64 W, .int .i64 H, .slice A n c] 26)).alloc (.cells #[.float .f32 gr, .float .f32 wt, .float .f32 br, .float .f32 de, .int .i64 sp, .slice C m cc] 30) := ⟨_, rfl⟩
  have kF : Bk w0 w.heap.size 26 #[.int .i64 X, .int .i64 Y, .int .i64 W, .int .i64 H, .slice A n c] := by rw [hw0]; exact (Bk.new' rfl).alloc _
  have kR : Bk w0 (w.heap.size + 1) 30 #[.float .f32 gr, .float .f32 wt, .float .f32 br, .float .f32 de, .int .i64 sp, .slice C m cc] := by rw [hw0]; exact Bk.new' (by simp)
  have hx0 : Ext w w0 := by rw [hw0]; exact ((Ext.refl w).alloc _).alloc _
  rw [← hw0]
  clear hw0
  generalize w.heap.size + 1 = hr' at *
  generalize hfe : w.heap.size = hf at *
  clear hfe
  have f0 := kF.cell 0
  have f1 := kF.cell 1
  have f2 := kF.cell 2
  have f3 := kF.cell 3
  have f4 := kF.cell 4
  have r0 := kR.cell 0
  have r1 := kR.cell 1
  have r2 := kR.cell 2
  have r3 := kR.cell 3
  have r4 := kR.cell 4
  have r5 := kR.cell 5
  go_wp2_with (first | (go_at_call 63; refine ((HC _ hx0).out).mono ?_; rintro e w1 ⟨rfl, hx1⟩; have g0 := (kF.ext hx1).cell 0; have g1 := (kF.ext hx1).cell 1; have g2 := (kF.ext hx1).cell 2; have g3 := (kF.ext hx1).cell 3; have g4 := (kF.ext hx1).cell 4) | (go_at_call 69; refine ((HA _).out).mono ?_; rintro e w2 ⟨rfl, hw2⟩; subst hw2) | (go_at_call 64; refine ((HI _ (hx0.trans hx1)).out).mono ?_; rintro e w3 ⟨rfl, hx3⟩))
  go_ret2
  exact ⟨rfl, hx0.trans (hx1.trans hx3)⟩
theorem nxt_m {i q : Nat} (h : q ≤ 65536) (h1 : i < q - 1) : q - (intOf (.int .i64 ((i : Int) + 1))).toNat < q - (intOf (.int .i64 (i : Int))).toNat := by
  simp [intOf]
  omega
/-- what Price returns where the arguments are right -/
def PriPost (o : Option Nat) (w : World) (e : Ending) (w' : World) : Prop := e = .returned (.tuple #[.float .f32 (o.getD 0), .int .i64 (if o.isSome then 0 else 11)]) ∧ Ext w w'
set_option maxRecDepth 100000 in
set_option maxHeartbeats 6400000 in
theorem Price_ok (X Y : Int) (Wn Hn : Nat) (A : Option Addr) (N c : Nat) (R : RlR) (C : Option Addr) (m cc : Nat) (lf : List Nat) (X' Y' W' H' : Int) (l : List Nat) (B : Option Addr) (q d : Nat) (ps : List (Int × Int)) (w : World)
    (hr : Reg X Y Wn Hn) (hN : N = Wn * Hn) (hR : RlOk R N) (hn : lf.length = N) (hh : ∀ j, j < N → Bd 20 (lf.getD j 0)) (hV : Rd w A (flt lf)) (hCo : CoR w C m R.co) (hC : CoP w C m X' Y' W' H' l) (hm : m ≤ 140737488351232) (hg : grndE X Y Wn Hn lf R.gr R.wt R.br R.de R.sp m X' Y' W' H' l = 0)
    (hl : ps.length = q) (hP : Rd w B (ptv ps)) (hqd : q ≤ d) (hq : amtE q = 0) (hin : ∀ p, p ∈ ps → InR X Y Wn Hn p.1 p.2) :
    Calls Try.prog 23 #[.agg #[.int .i64 X, .int .i64 Y, .int .i64 (Wn : Int), .int .i64 (Hn : Int), .slice A N c], .agg #[.float .f32 R.gr, .float .f32 R.wt, .float .f32 R.br, .float .f32 R.de, .int .i64 (R.sp : Int), .slice C m cc], .slice B q d] w fun e w' => PriPost (prA R (fun j => lf.getD j 0) X Y Wn Hn ps (q - 1)) w e w' := by
  have hb : N ≤ 140737488351232 := by have := hr.n; omega
  have hq6 : 1 ≤ q ∧ q ≤ 65536 := by
    unfold amtE at hq
    split at hq
    · cases hq
    · split at hq
      · cases hq
      · omega
  have HC := fun (w' : World) (h : Ext w w') => hidA (chk_any X Y Wn Hn A N c lf R.gr R.wt R.br R.de R.sp C m cc X' Y' W' H' l w' hn (hV.ext h) hb (hC.ext h) hm)
  rw [hg] at HC
  have HA := fun (w : World) => hidA (amount_any B q d w)
  have HA : ∀ w : World, Hid (Calls Try.prog 69 #[.slice B q d] w fun e w' => e = .returned (.int .i64 (amtE q)) ∧ w = w') := HA
  rw [hq] at HA
  have HI := fun (w' : World) (h : Ext w w') => hidA (inside_any X Y Wn Hn A B N c q d ps w' hr.ok hl (hP.ext h) (by omega))
  have hi0 : insE X Y Wn Hn ps = 0 := by
    unfold insE
    rw [if_pos]
    exact List.all_eq_true.2 fun p hp => decide_eq_true (hin p hp)
  rw [hi0] at HI
  have hin2 : ∀ j, j < ps.length → InR X Y Wn Hn (ps.getD j (0, 0)).1 (ps.getD j (0, 0)).2 := fun j hj => by
    rw [show ps.getD j (0, 0) = ps[j] by simp [List.getD_eq_getElem?_getD, hj]]
    exact hin _ (List.getElem_mem hj)
  have hkin : ∀ j, j < ps.length → kOf X Y Wn (ps.getD j (0, 0)) < N := fun j hj => by rw [hN]; exact (kOf_in (hin2 j hj)).1
  have HSt := hidA (fun (i : Nat) (h1 : i + 1 < q) (w' : World) (h : Ext w w') => by
    have a1 := kOf_in (hin2 i (by omega))
    have a2 := kOf_in (hin2 (i + 1) (by omega))
    have h9 := gstep_any X Y Wn Hn A N c R C m cc (kOf X Y Wn (ps.getD i (0, 0))) (kOf X Y Wn (ps.getD (i + 1) (0, 0))) lf w' hr hN hR hn hh (hkin i (by omega)) (hkin (i + 1) (by omega)) (hV.ext h) (hCo.ext h)
    rw [← a1.2.1, ← a1.2.2, ← a2.2.1, ← a2.2.2] at h9
    unfold gcells stV at h9
    exact h9)
  have HBd := hidA (fun i s (h1 : i < q) => prA_bd (X := X) (Y := Y) hR hN hr.w1 hh hkin i s (by omega))
  have HSb := hidA (fun i c (h1 : i + 1 < q) (h : stepF R (fun j => lf.getD j 0) Wn Hn (kOf X Y Wn (ps.getD i (0, 0))) (kOf X Y Wn (ps.getD (i + 1) (0, 0))) = some c) => stepF_bd hR hN hr.w1 hh (hkin i (by omega)) (hkin (i + 1) (by omega)) h)
  have HPn := hidA (fun i (h : prA R (fun j => lf.getD j 0) X Y Wn Hn ps i = none) => prA_none h (q - 1))
  have HPs := hidA (fun i => (rfl : prA R (fun j => lf.getD j 0) X Y Wn Hn ps (i + 1) = match prA R (fun j => lf.getD j 0) X Y Wn Hn ps i with
    | none => none
    | some s => match stepF R (fun j => lf.getD j 0) Wn Hn (kOf X Y Wn (ps.getD i (0, 0))) (kOf X Y Wn (ps.getD (i + 1) (0, 0))) with
      | none => none
      | some c => some (fadd s c)))
  obtain ⟨Pf, hPf⟩ : ∃ Pf : Nat → Option Nat, Pf = fun i => prA R (fun j => lf.getD j 0) X Y Wn Hn ps i := ⟨_, rfl⟩
  obtain ⟨Sf, hSf⟩ : ∃ Sf : Nat → Option Nat, Sf = fun i => stepF R (fun j => lf.getD j 0) Wn Hn (kOf X Y Wn (ps.getD i (0, 0))) (kOf X Y Wn (ps.getD (i + 1) (0, 0))) := ⟨_, rfl⟩
  have HPf := hidA (fun i => congrFun hPf i)
  have HSf := hidA (fun i => congrFun hSf i)
  have hP0 : Pf 0 = some 0 := by rw [hPf]; rfl
  rw [show prA R (fun j => lf.getD j 0) X Y Wn Hn ps (q - 1) = Pf (q - 1) by rw [hPf]]
  have HSz := hidA (fun (i : Nat) (h1 : i + 1 < q) (w' : World) (h : Ext w w') => by
    have h9 := HSt.out i h1 w' h
    rw [show stepF R (fun j => lf.getD j 0) Wn Hn (kOf X Y Wn (ps.getD i (0, 0))) (kOf X Y Wn (ps.getD (i + 1) (0, 0))) = Sf i by rw [hSf]] at h9
    exact h9)
  have HPz := hidA (fun i => show Pf (i + 1) = match Pf i with
    | none => none
    | some s => match Sf i with
      | none => none
      | some c => some (fadd s c) from by rw [hPf, hSf]; exact HPs.out i)
  have HBe : Hid (∀ i s, i < q → Pf i = some s → Bd 84 s ∧ 0 ≤ valI s) := hidA (fun i s h1 h => HBd.out i s h1 (by rw [hPf] at h; exact h))
  have HSe : Hid (∀ i c, i + 1 < q → Sf i = some c → Bd 56 c ∧ 2 ^ 149 ≤ valI c) := hidA (fun i c h1 h => HSb.out i c h1 (by rw [hSf] at h; exact h))
  have HNz := hidA (fun i (h : Pf i = none) (h2 : i ≤ q - 1) => show Pf (q - 1) = none from by rw [hPf] at h ⊢; exact HPn.out i h h2)
  have Hl := hidA hl
  have Hq6 := hidA hq6
  clear hn hV hb hC hm hg hr hN hR hh hCo hin hin2 hkin hi0 hPf hSf hq HPf HSf HBd HSb HSt HPs HPn
  go_enter Try.func23, Try.ntmps23
  go_upto_region 1 with fail
  obtain ⟨w0, hw0⟩ : ∃ w0, w0 = (w.alloc (.cells #[.int .i64 X, .int .i64 Y, .int .i64 (Wn : Int), .int .i64 (Hn : Int), .slice A N c] 26)).alloc (.cells #[.float .f32 R.gr, .float .f32 R.wt, .float .f32 R.br, .float .f32 R.de, .int .i64 (R.sp : Int), .slice C m cc] 30) := ⟨_, rfl⟩
  have kF : Bk w0 w.heap.size 26 #[.int .i64 X, .int .i64 Y, .int .i64 (Wn : Int), .int .i64 (Hn : Int), .slice A N c] := by rw [hw0]; exact (Bk.new' rfl).alloc _
  have kR : Bk w0 (w.heap.size + 1) 30 #[.float .f32 R.gr, .float .f32 R.wt, .float .f32 R.br, .float .f32 R.de, .int .i64 (R.sp : Int), .slice C m cc] := by rw [hw0]; exact Bk.new' (by simp)
  have hx0 : Ext w w0 := by rw [hw0]; exact ((Ext.refl w).alloc _).alloc _
  rw [← hw0]
  clear hw0
  generalize w.heap.size + 1 = hr' at *
  generalize hfe : w.heap.size = hf at *
  clear hfe
  have f0 := kF.cell 0
  have f1 := kF.cell 1
  have f2 := kF.cell 2
  have f3 := kF.cell 3
  have f4 := kF.cell 4
  have r0 := kR.cell 0
  have r1 := kR.cell 1
  have r2 := kR.cell 2
  have r3 := kR.cell 3
  have r4 := kR.cell 4
  have r5 := kR.cell 5
  have hq0 : 1 ≤ q := hq6.1
  have hqi : (1 : Int) ≤ q := by omega
  have hqdi : (q : Int) ≤ d := by omega
  obtain ⟨adB, rfl, hbB, hcB⟩ := hP (by rintro e; have := ptv_length ps; rw [e] at this; simp at this; omega)
  by_cases hd1 : d = 1
  · subst hd1
    obtain rfl : q = 1 := by omega
    go_upto_region 12 with (first | (go_at_call 63; refine ((HC _ hx0).out).mono ?_; rintro e w1 ⟨rfl, hx1⟩; have g0 := (kF.ext hx1).cell 0; have g1 := (kF.ext hx1).cell 1; have g2 := (kF.ext hx1).cell 2; have g3 := (kF.ext hx1).cell 3; have g4 := (kF.ext hx1).cell 4) | (go_at_call 69; refine ((HA _).out).mono ?_; rintro e w2 ⟨rfl, hw2⟩; subst hw2) | (go_at_call 64; refine ((HI _ (hx0.trans hx1)).out).mono ?_; rintro e w3 ⟨rfl, hx3⟩))
    go_loopw [11, 36] (fun s11 s36 wr => s11 = .float .f32 0 ∧ s36 = .int .i64 0 ∧ Ext w3 wr) (fun _ _ _ => 0)
    case atStart => exact ⟨rfl, rfl, Ext.refl _⟩
    case round =>
      obtain ⟨rfl, rfl, hx⟩ := hrel
      go_wp2
      go_ret2
      exact ⟨by rw [hP0]; rfl, hx0.trans (hx1.trans (hx3.trans hx))⟩
  · have hd2 : ¬ (d : Int) = 1 := by omega
    obtain ⟨p0, r, rfl⟩ : ∃ p0 r, ps = p0 :: r := by
      cases ps with
      | nil => have := Hl.out; simp at this; omega
      | cons p0 r => exact ⟨p0, r, rfl⟩
    have HPt : Rd w (some (adB.add 2)) (ptv r) := Rd.ptail (fun _ => ⟨adB, rfl, hbB, hcB⟩)
    have HPl : Rd w (some adB) (ptv (p0 :: r)) := fun _ => ⟨adB, rfl, hbB, hcB⟩
    have hadd : adB.add 2 = ⟨adB.block, adB.off + 2, none⟩ := add_pos _ (by omega)
    go_upto_region 12 with (first | (go_at_call 63; refine ((HC _ hx0).out).mono ?_; rintro e w1 ⟨rfl, hx1⟩; have g0 := (kF.ext hx1).cell 0; have g1 := (kF.ext hx1).cell 1; have g2 := (kF.ext hx1).cell 2; have g3 := (kF.ext hx1).cell 3; have g4 := (kF.ext hx1).cell 4) | (go_at_call 69; refine ((HA _).out).mono ?_; rintro e w2 ⟨rfl, hw2⟩; subst hw2) | (go_at_call 64; refine ((HI _ (hx0.trans hx1)).out).mono ?_; rintro e w3 ⟨rfl, hx3⟩))
    rw [hadd] at HPt
    obtain ⟨adT, hadT⟩ : ∃ adT : Addr, adT = ⟨adB.block, adB.off + 2, none⟩ := ⟨_, rfl⟩
    rw [← hadT] at HPt ⊢
    have hx03 := hx0.trans (hx1.trans hx3)
    have kF3 := kF.ext (hx1.trans hx3)
    have kR3 := kR.ext (hx1.trans hx3)
    have Hl2 := hidA (show r.length + 1 = q from Hl.out)
    clear f0 f1 f2 f3 f4 r0 r1 r2 r3 r4 r5 g0 g1 g2 g3 g4 kF kR hx0 hx1 hx3 HC HA HI hadd hadT hcB
    go_loopw [11, 36] (fun s11 s36 wr => ∃ i s : Nat, i ≤ q - 1 ∧ s36 = .int .i64 i ∧ s11 = .float .f32 s ∧ Pf i = some s ∧ Ext w3 wr) (fun _ s36 _ => q - (intOf s36).toNat)
    case atStart => exact ⟨0, 0, Nat.zero_le _, rfl, rfl, hP0, Ext.refl _⟩
    case round =>
      obtain ⟨i, s, hi, rfl, rfl, hpf, hx⟩ := hrel
      have hxw := hx03.trans hx
      by_cases hiq : i < q - 1
      · obtain ⟨ad1, e1, hb1, c0, c1⟩ := pt_at (HPl.ext hxw) (k := i) (by have := Hl.out; omega)
        injection e1 with e1
        subst e1
        obtain ⟨ad2, e2, hb2, d0, d1⟩ := pt_at (HPt.ext hxw) (k := i) (by have := Hl2.out; omega)
        injection e2 with e2
        subst e2
        have hSt := HSz.out i (by omega)
        rw [show (p0 :: r).getD (i + 1) (0, 0) = r.getD i (0, 0) by simp] at hSt
        have HSq := fun (w' : World) (h : Ext w w') => hidA (hSt w' h)
        clear hSt
        obtain ⟨px, py, hp1⟩ : ∃ px py, (p0 :: r).getD i (0, 0) = (px, py) := ⟨_, _, rfl⟩
        obtain ⟨qx, qy, hp2⟩ : ∃ qx qy, r.getD i (0, 0) = (qx, qy) := ⟨_, _, rfl⟩
        rw [hp1] at c0 c1 HSq
        rw [hp2] at d0 d1 HSq
        dsimp only at c0 c1 d0 d1 HSq
        have i0 : (0 : Int) ≤ i := by omega
        have i1 : (i : Int) < ((q - 1 : Nat) : Int) := by omega
        have i2 : (i : Int) < q := by omega
        have HPi := hidA (HPz.out i)
        have HBi := hidA (HBe.out i s (by omega) hpf)
        have HSi := hidA (fun c => HSe.out i c (by omega))
        have HNi := hidA (fun h => HNz.out (i + 1) h (by omega))
        have Hiq := hidA hiq
        have Hpf := hidA hpf
        clear hp1 hp2 hi hiq hpf
        go_upto_region 14 with fail
        have kP : Bk (wr.alloc (.cells #[.int .i64 qx, .int .i64 qy] 32)) wr.heap.size 32 #[.int .i64 qx, .int .i64 qy] := Bk.new' rfl
        have hxa := (Ext.refl wr).alloc (.cells #[.int .i64 qx, .int .i64 qy] 32)
        have c0' := ((hxa.cell _ (by rw [add_block]; exact hb1)).trans c0)
        have c1' := ((hxa.cell ⟨(adB.add (i * 2)).block, (adB.add (i * 2)).off + 1, none⟩ (by rw [add_block]; exact hb1)).trans c1)
        have hx5 := hx.trans hxa
        have hxw5 := hxw.trans hxa
        have kF5 := kF3.ext hx5
        have kR5 := kR3.ext hx5
        have hsz := hxa.size
        clear c0 c1 d0 d1 hxa hxw hx
        generalize wr.alloc (.cells #[.int .i64 qx, .int .i64 qy] 32) = w5 at *
        generalize wr.heap.size = hp at *
        have c0 : ∀ w', Ext w5 w' → w'.cell? (adB.add (i * 2)) = some (.int .i64 px) := fun w' h => (h.cell _ (by rw [add_block]; omega)).trans c0'
        have c1 : ∀ w', Ext w5 w' → w'.cell? ⟨(adB.add (i * 2)).block, (adB.add (i * 2)).off + 1, none⟩ = some (.int .i64 py) := fun w' h => (h.cell ⟨(adB.add (i * 2)).block, (adB.add (i * 2)).off + 1, none⟩ (by show (adB.add (i * 2)).block < _; rw [add_block]; omega)).trans c1'
        have d0 : ∀ w', Ext w5 w' → w'.cell? ⟨hp, 0, none⟩ = some (.int .i64 qx) := fun w' h => (kP.ext h).cell 0
        have d1 : ∀ w', Ext w5 w' → w'.cell? ⟨hp, 1, none⟩ = some (.int .i64 qy) := fun w' h => (kP.ext h).cell 1
        have f0 : ∀ w', Ext w5 w' → w'.cell? ⟨hf, 0, none⟩ = some (.int .i64 X) := fun w' h => (kF5.ext h).cell 0
        have f1 : ∀ w', Ext w5 w' → w'.cell? ⟨hf, 1, none⟩ = some (.int .i64 Y) := fun w' h => (kF5.ext h).cell 1
        have f2 : ∀ w', Ext w5 w' → w'.cell? ⟨hf, 2, none⟩ = some (.int .i64 (Wn : Int)) := fun w' h => (kF5.ext h).cell 2
        have f3 : ∀ w', Ext w5 w' → w'.cell? ⟨hf, 3, none⟩ = some (.int .i64 (Hn : Int)) := fun w' h => (kF5.ext h).cell 3
        have f4 : ∀ w', Ext w5 w' → w'.cell? ⟨hf, 4, none⟩ = some (.slice A N c) := fun w' h => (kF5.ext h).cell 4
        have r0 : ∀ w', Ext w5 w' → w'.cell? ⟨hr', 0, none⟩ = some (.float .f32 R.gr) := fun w' h => (kR5.ext h).cell 0
        have r1 : ∀ w', Ext w5 w' → w'.cell? ⟨hr', 1, none⟩ = some (.float .f32 R.wt) := fun w' h => (kR5.ext h).cell 1
        have r2 : ∀ w', Ext w5 w' → w'.cell? ⟨hr', 2, none⟩ = some (.float .f32 R.br) := fun w' h => (kR5.ext h).cell 2
        have r3 : ∀ w', Ext w5 w' → w'.cell? ⟨hr', 3, none⟩ = some (.float .f32 R.de) := fun w' h => (kR5.ext h).cell 3
        have r4 : ∀ w', Ext w5 w' → w'.cell? ⟨hr', 4, none⟩ = some (.int .i64 (R.sp : Int)) := fun w' h => (kR5.ext h).cell 4
        have r5 : ∀ w', Ext w5 w' → w'.cell? ⟨hr', 5, none⟩ = some (.slice C m cc) := fun w' h => (kR5.ext h).cell 5
        clear c0' c1' hsz hb1 hb2
        refine wp_region_noPanic ?_
        refine wp_region_held_drew (S := fun w' => Ext w5 w') (by kernel_rfl) ?_ (fun hHeld => ?_)
        · (repeat (first | exact Ext.refl _ | assumption | refine Ext.setCell ?_ (by first | (simp; done) | (simp; omega)) _ | refine Ext.drewN ?_ _ | refine Ext.alloc ?_ _ | refine Ext.drew ?_ | refine Ext.trans ?_ (by assumption)))
        refine wpAnyH_take (i := 0) (oi := ?o1x0) (v := ?v1x0) ?hi1x0 (by kernel_rfl) ?hf1x0 ?hr1x0 (fun _ _ _ h => h) ?hy1x0 (by assumption) ?rest1x0
        case hi1x0 => (simp only [List.getElem?_toArray, List.getElem?_cons_zero]; exact rfl)
        case hf1x0 => kernel_rfl
        case hr1x0 => kernel_rfl
        case hy1x0 => (refine Or.inl ⟨by rfl, ?_⟩; intro w hSw; (try dsimp only at hSw); go_simp; try with_reducible rfl)
        simp only [put_mk, List.set_cons_succ, List.set_cons_zero]
        refine wpAnyH_take (i := 1) (oi := ?o1x1) (v := ?v1x1) ?hi1x1 (by kernel_rfl) ?hf1x1 ?hr1x1 (fun _ _ _ h => h) ?hy1x1 (by assumption) ?rest1x1
        case hi1x1 => (simp only [List.getElem?_toArray, List.getElem?_cons_succ, List.getElem?_cons_zero]; exact rfl)
        case hf1x1 => kernel_rfl
        case hr1x1 => kernel_rfl
        case hy1x1 => (refine Or.inl ⟨by rfl, ?_⟩; intro w hSw; (try dsimp only at hSw); go_simp; try with_reducible rfl)
        simp only [put_mk, List.set_cons_succ, List.set_cons_zero]
        refine wpAnyH_take (i := 2) (oi := ?o1x2) (v := ?v1x2) ?hi1x2 (by kernel_rfl) ?hf1x2 ?hr1x2 (fun _ _ _ h => h) ?hy1x2 (by assumption) ?rest1x2
        case hi1x2 => (simp only [List.getElem?_toArray, List.getElem?_cons_succ, List.getElem?_cons_zero]; exact rfl)
        case hf1x2 => kernel_rfl
        case hr1x2 => kernel_rfl
        case hy1x2 => (refine Or.inl ⟨by rfl, ?_⟩; intro w hSw; (try dsimp only at hSw); go_simp; try with_reducible rfl)
        simp only [put_mk, List.set_cons_succ, List.set_cons_zero]
        refine wpAnyH_take (i := 3) (oi := ?o1x3) (v := ?v1x3) ?hi1x3 (by kernel_rfl) ?hf1x3 ?hr1x3 (fun _ _ _ h => h) ?hy1x3 (by assumption) ?rest1x3
        case hi1x3 => (simp only [List.getElem?_toArray, List.getElem?_cons_succ, List.getElem?_cons_zero]; exact rfl)
        case hf1x3 => kernel_rfl
        case hr1x3 => kernel_rfl
        case hy1x3 => (refine Or.inl ⟨by rfl, ?_⟩; intro w hSw; (try dsimp only at hSw); go_simp; try with_reducible rfl)
        simp only [put_mk, List.set_cons_succ, List.set_cons_zero]
        refine wpAnyH_take (i := 4) (oi := ?o1x4) (v := ?v1x4) ?hi1x4 (by kernel_rfl) ?hf1x4 ?hr1x4 (fun _ _ _ h => h) ?hy1x4 (by assumption) ?rest1x4
        case hi1x4 => (simp only [List.getElem?_toArray, List.getElem?_cons_succ, List.getElem?_cons_zero]; exact rfl)
        case hf1x4 => kernel_rfl
        case hr1x4 => kernel_rfl
        case hy1x4 => (refine Or.inl ⟨by rfl, ?_⟩; intro w hSw; (try dsimp only at hSw); go_simp; try with_reducible rfl)
        simp only [put_mk, List.set_cons_succ, List.set_cons_zero]
        refine wpAnyH_take (i := 5) (oi := ?o1x5) (v := ?v1x5) ?hi1x5 (by kernel_rfl) ?hf1x5 ?hr1x5 (fun _ _ _ h => h) ?hy1x5 (by assumption) ?rest1x5
        case hi1x5 => (simp only [List.getElem?_toArray, List.getElem?_cons_succ, List.getElem?_cons_zero]; exact rfl)
        case hf1x5 => kernel_rfl
        case hr1x5 => kernel_rfl
        case hy1x5 => (refine Or.inl ⟨by rfl, ?_⟩; intro w hSw; (try dsimp only at hSw); go_simp; try with_reducible rfl)
        simp only [put_mk, List.set_cons_succ, List.set_cons_zero]
        refine wpAnyH_take (i := 6) (oi := ?o1x6) (v := ?v1x6) ?hi1x6 (by kernel_rfl) ?hf1x6 ?hr1x6 (fun _ _ _ h => h) ?hy1x6 (by assumption) ?rest1x6
        case hi1x6 => (simp only [List.getElem?_toArray, List.getElem?_cons_succ, List.getElem?_cons_zero]; exact rfl)
        case hf1x6 => kernel_rfl
        case hr1x6 => kernel_rfl
        case hy1x6 => (refine Or.inl ⟨by rfl, ?_⟩; intro w hSw; (try dsimp only at hSw); go_simp; try with_reducible rfl)
        simp only [put_mk, List.set_cons_succ, List.set_cons_zero]
        refine wpAnyH_take (i := 7) (oi := ?o1x7) (v := ?v1x7) ?hi1x7 (by kernel_rfl) ?hf1x7 ?hr1x7 (fun _ _ _ h => h) ?hy1x7 (by assumption) ?rest1x7
        case hi1x7 => (simp only [List.getElem?_toArray, List.getElem?_cons_succ, List.getElem?_cons_zero]; exact rfl)
        case hf1x7 => kernel_rfl
        case hr1x7 => kernel_rfl
        case hy1x7 => (refine Or.inl ⟨by rfl, ?_⟩; intro w hSw; (try dsimp only at hSw); go_simp; try with_reducible rfl)
        simp only [put_mk, List.set_cons_succ, List.set_cons_zero]
        refine wpAnyH_ready (rs := [8]) (by kernel_rfl) (by simp) ?_
        refine AllReadyH.cons (o := ?o1x8) ?hi1x8 (fun K hK => ?_) AllReadyH.nil
        case hi1x8 => (simp only [List.getElem?_toArray, List.getElem?_cons_succ, List.getElem?_cons_zero]; exact rfl)
        go_simp
        refine ((HSq _ (hxw5.trans hHeld)).out).mono ?_
        rintro e w9 ⟨rfl, hx9⟩
        refine hK.out _ _ ?_ (fun hHeld => ?_)
        · (repeat (first | exact Ext.refl _ | assumption | refine Ext.setCell ?_ (by first | (simp; done) | (simp; omega)) _ | refine Ext.drewN ?_ _ | refine Ext.alloc ?_ _ | refine Ext.drew ?_ | refine Ext.trans ?_ (by assumption)))
        clear hK K
        refine wpAnyH_take (i := 9) (oi := ?o1x9) (v := ?v1x9) ?hi1x9 (by kernel_rfl) ?hf1x9 ?hr1x9 (fun _ _ _ h => h) ?hy1x9 (by assumption) ?rest1x9
        case hi1x9 => (simp only [List.getElem?_toArray, List.getElem?_cons_succ, List.getElem?_cons_zero]; exact rfl)
        case hf1x9 => kernel_rfl
        case hr1x9 => kernel_rfl
        case hy1x9 => (refine Or.inl ⟨by rfl, ?_⟩; intro w hSw; (try dsimp only at hSw); go_simp; try with_reducible rfl)
        simp only [put_mk, List.set_cons_succ, List.set_cons_zero]
        refine wpAnyH_take (i := 10) (oi := ?o1x10) (v := ?v1x10) ?hi1x10 (by kernel_rfl) ?hf1x10 ?hr1x10 (fun _ _ _ h => h) ?hy1x10 (by assumption) ?rest1x10
        case hi1x10 => (simp only [List.getElem?_toArray, List.getElem?_cons_succ, List.getElem?_cons_zero]; exact rfl)
        case hf1x10 => kernel_rfl
        case hr1x10 => kernel_rfl
        case hy1x10 => (refine Or.inl ⟨by rfl, ?_⟩; intro w hSw; (try dsimp only at hSw); go_simp; try with_reducible rfl)
        simp only [put_mk, List.set_cons_succ, List.set_cons_zero]
        refine wpAnyH_take (i := 11) (oi := ?o1x11) (v := ?v1x11) ?hi1x11 (by kernel_rfl) ?hf1x11 ?hr1x11 (fun _ _ _ h => h) ?hy1x11 (by assumption) ?rest1x11
        case hi1x11 => (simp only [List.getElem?_toArray, List.getElem?_cons_succ, List.getElem?_cons_zero]; exact rfl)
        case hf1x11 => kernel_rfl
        case hr1x11 => kernel_rfl
        case hy1x11 => (refine Or.inl ⟨by rfl, ?_⟩; intro w hSw; (try dsimp only at hSw); go_simp; try with_reducible rfl)
        simp only [put_mk, List.set_cons_succ, List.set_cons_zero]
        refine wpAnyH_take (i := 12) (oi := ?o1x12) (v := ?v1x12) ?hi1x12 (by kernel_rfl) ?hf1x12 ?hr1x12 (fun _ _ _ h => h) ?hy1x12 (by assumption) ?rest1x12
        case hi1x12 => (simp only [List.getElem?_toArray, List.getElem?_cons_succ, List.getElem?_cons_zero]; exact rfl)
        case hf1x12 => kernel_rfl
        case hr1x12 => kernel_rfl
        case hy1x12 => (refine Or.inl ⟨by rfl, ?_⟩; intro w hSw; (try dsimp only at hSw); go_simp; try with_reducible rfl)
        simp only [put_mk, List.set_cons_succ, List.set_cons_zero]
        refine wpAnyH_take (i := 13) (oi := ?o1x13) (v := ?v1x13) ?hi1x13 (by kernel_rfl) ?hf1x13 ?hr1x13 (fun _ _ _ h => h) ?hy1x13 (by assumption) ?rest1x13
        case hi1x13 => (simp only [List.getElem?_toArray, List.getElem?_cons_succ, List.getElem?_cons_zero]; exact rfl)
        case hf1x13 => kernel_rfl
        case hr1x13 => kernel_rfl
        case hy1x13 => (refine Or.inl ⟨by rfl, ?_⟩; intro w hSw; (try dsimp only at hSw); go_simp; try with_reducible rfl)
        simp only [put_mk, List.set_cons_succ, List.set_cons_zero]
        refine wpAnyH_done (by kernel_rfl) ?_ _
        refine NoPanic.normal ?_
        have hx9w := hxw5.trans hHeld
        have hx93 := hx5.trans hHeld
        clear c0 c1 d0 d1 f0 f1 f2 f3 f4 r0 r1 r2 r3 r4 r5
        cases hS : Sf i with
        | none =>
          have Hf := hidA (HNi.out (by rw [HPi.out, Hpf.out, hS]))
          simp only [Option.getD_none, Option.isSome_none]
          go_wp2
          go_ret2
          exact ⟨by rw [Hf.out]; rfl, hx9w⟩
        | some cst =>
          have Hf := hidA (show Pf (i + 1) = some (fadd s cst) from by rw [HPi.out, Hpf.out, hS])
          obtain ⟨s1, s2⟩ := HBi.out
          obtain ⟨t1, t2⟩ := HSi.out cst hS
          have q1 := fun (w : World) => run_float_arith (P := Try.prog) w .add 27 .f32 _ _ _ (fadd_ok s1 (t1.mono (by omega)) (by omega)).1
          have hiw := hidA (And.intro Hq6.out.2 Hiq.out)
          clear s1 s2 t1 t2
          simp only [Option.getD_some, Option.isSome_some]
          generalize fadd s cst = sn at *
          go_wp2
          go_roundw
          case rel => exact ⟨i + 1, sn, Nat.succ_le_of_lt Hiq.out, (by first | rfl | go_num), rfl, Hf.out, hx93⟩
          case measure => exact nxt_m hiw.out.1 hiw.out.2
      · obtain rfl : i = q - 1 := by omega
        go_wp2
        go_ret2
        exact ⟨by rw [hpf]; rfl, hxw⟩
end Go.Proofs.Ytpgdinpckolfpaa

namespace Go.Proofs.Ytpgdinpckolfpaa
open Go.RowKit

section
variable {N : Nat} {E : Nat → List (Nat × Nat)} {src : Nat} {T : Nat → Nat → Nat → Bool} {H : Nat → Int}
theorem HopOk.at (h : HopOk N E src T H) : ∀ (v : Nat) (m : Nat), m < N → H m = v → ∀ u, u ≤ v → ∃ k, k < N ∧ H k = u
  | 0, m, hm, hv, u, hu => ⟨m, hm, by rw [hv]; omega⟩
  | v + 1, m, hm, hv, u, hu => by
    by_cases e : u = v + 1
    · exact ⟨m, hm, by rw [hv, e]⟩
    · obtain ⟨a, b, ha, _, _, h5⟩ := h.h3 m hm (by omega)
      exact h.at v a ha (by omega) u (by omega)
theorem HopOk.lt (h : HopOk N E src T H) {m : Nat} (hm : m < N) : H m < N := by
  rcases h.h1 m hm with h1 | h1
  · omega
  · obtain ⟨v, hv⟩ : ∃ v : Nat, H m = v := ⟨(H m).toNat, by omega⟩
    rcases Nat.lt_or_ge v N with h2 | h2
    · omega
    · exfalso
      have hc : ∀ u, ∃ k, u ≤ v → k < N ∧ H k = u := fun u => by
        by_cases hu : u ≤ v
        · obtain ⟨k, hk⟩ := h.at v m hm hv u hu
          exact ⟨k, fun _ => hk⟩
        · exact ⟨0, fun h => absurd h hu⟩
      obtain ⟨f, hf⟩ := Classical.axiomOfChoice hc
      have hnd : ((List.range (v + 1)).map f).Nodup := by
        refine List.Pairwise.map f (fun i j (hij : i ≠ j ∧ i ≤ v ∧ j ≤ v) e => ?_) ((List.nodup_range (n := v + 1)).imp_of_mem fun {i j} hi hj h => ⟨h, by simp at hi; omega, by simp at hj; omega⟩)
        have h1 := (hf i hij.2.1).2
        have h2 := (hf j hij.2.2).2
        rw [e] at h1
        have := hij.1
        omega
      have := nodup_le hnd (fun k hk => by
        simp at hk
        obtain ⟨u, hu, rfl⟩ := hk
        exact (hf u (by omega)).1)
      simp at this
      omega
/-- where tight steps lead, ways lead -/
theorem HopOk.seen {P : Nat → Nat} {sn : Nat → Bool} (h : HopOk N E src T H) (hP : PrOk N E src sn P) : ∀ (v : Nat) (k : Nat), k < N → H k = v → sn k = true
  | 0, k, hk, hv => by
    rw [h.h4 k hk (by omega)]
    exact hP.sk
  | v + 1, k, hk, hv => by
    obtain ⟨a, b, ha, hm, _, h5⟩ := h.h3 k hk (by omega)
    have ih := h.seen hP v a ha (by omega)
    exact (hP.least.low k _ (.step (hP.least.way a ha ih) ha hm)).1
end
/-- prices of ways are singles -/
theorem RWay.flo {N : Nat} {E : Nat → List (Nat × Nat)} {src : Nat} (hE : EdOk N E) {k : Nat} {z : Int} (h : RWay N E src k z) : ∃ b, Bd 84 b ∧ 0 ≤ valI b ∧ valI b = z := by
  induction h with
  | start => exact ⟨0, bd_0 84, by rw [valI_0]; exact Int.le_refl _, valI_0⟩
  | @step n m c z _ _ hm ih =>
    obtain ⟨b, h1, h2, h3⟩ := ih
    obtain ⟨_, s1, s2, _⟩ := sum_ok h1 h2 (hE.bd n m c hm) (hE.nn n m c hm)
    exact ⟨fadd b c, s1, s2, by rw [fadd_up h1 (hE.bd n m c hm), h3]⟩
/-- all cells that are reached are reached by tight steps -/
theorem hop_all {N : Nat} {E : Nat → List (Nat × Nat)} {src : Nat} {H : Nat → Int} {P : Nat → Nat} {sn : Nat → Bool} (hE : EdOk N E) (hP : PrOk N E src sn P) (hH : HopOk N E src (tgt P) H) {k : Nat} (hk : k < N) (hs : sn k = true) : 0 ≤ H k := by
  rcases hH.h1 k hk with h1 | h1
  · exfalso
    obtain ⟨v, ⟨a, ha, hsa, hHa, hva⟩, hmin⟩ := exists_least (p := fun v : Nat => ∃ k, k < N ∧ sn k = true ∧ H k = -1 ∧ (valI (P k)).toNat = v) ⟨_, k, hk, hs, h1, rfl⟩
    have hge : ∀ j, j < N → sn j = true → H j = -1 → (v : Int) ≤ valI (P j) := fun j hj h2 h3 => by
      have h4 := hmin _ ⟨j, hj, h2, h3, rfl⟩
      have := (hP.ob j hj).2.1
      omega
    have key : ∀ j z, RWay N E src j z → z = v → j < N → H j ≠ -1 := fun j z hw => by
      induction hw with
      | start =>
        intro _ _
        rw [hH.h0]
        decide
      | @step n m c z hw hn hm ih =>
        intro hz hmN hHm
        have low := hP.least.low n z hw
        have lowm := hP.least.low m _ (.step hw hn hm)
        have lowt := hP.least.low m _ (.step (hP.least.way n hn low.1) hn hm)
        have h2 := hge m hmN lowm.1 hHm
        have hmono := upV_mono c _ _ low.2
        have hc := hE.bd n m c hm
        have c0 := hE.nn n m c hm
        obtain ⟨_, s1, s2, s3⟩ := sum_ok (hP.ob n hn).1 (hP.ob n hn).2.1 hc c0
        have e1 : valI (fadd (P n) c) = valI (P m) := by
          rw [fadd_up (hP.ob n hn).1 hc]
          omega
        have ht : tgt P n m c = true := by
          have h3 := (eq_val (bd_Fin s1 (by omega)) (bd_Fin (hP.ob m hmN).1 (by omega))).2 e1
          show (ord (fadd (P n) c) (P m) == some .eq) = true
          rw [h3]
          rfl
        have hHn : H n = -1 := by
          rcases hH.h1 n hn with h3 | h3
          · exact h3
          · have := (hH.h2 n m c hn h3 hm ht).1
            omega
        have h4 := hge n hn low.1 hHn
        obtain ⟨b, b1, b2, b3⟩ := hw.flo hE
        have h5 := infl_val b1 hc (by omega)
        rw [b3] at h5
        exact ih (by omega) hn hHn
    exact key a _ (hP.least.way a ha hsa) (by have := (hP.ob a ha).2.1; omega) ha hHa
  · exact h1
section
variable {R : RlR} {V : Nat → Nat} {Wn Hn N src : Nat} {H H' : Nat → Int} {P P' : Nat → Nat}
theorem IsB.congr (hH : ∀ k, k < N → H k = H' k) (hP : ∀ k, k < N → P k = P' k) {k p : Nat} (hk : k < N) (h : IsB R V Wn Hn N H P k p) : IsB R V Wn Hn N H' P' k p := by
  have key : ∀ q, q < N → (good R V Wn Hn H P k q ↔ good R V Wn Hn H' P' k q) := fun q hq => by
    unfold good
    rw [hH q hq, hH k hk, hP q hq, hP k hk]
  exact ⟨h.1, (key p h.1).1 h.2.1, fun q hq hg => h.2.2 q hq ((key q hq).2 hg)⟩
theorem Chain.congr (hH : ∀ k, k < N → H k = H' k) (hP : ∀ k, k < N → P k = P' k) {k : Nat} {xs : List Nat} (h : Chain R V Wn Hn N H P k xs) : k < N → Chain R V Wn Hn N H' P' k xs := by
  induction h with
  | last h0 => exact fun hk => .last (by rw [← hH _ hk]; exact h0)
  | next h0 hb _ ih => exact fun hk => .next (by rw [← hH _ hk]; exact h0) (hb.congr hH hP hk) (ih hb.1)
theorem Chain.head {k : Nat} {xs : List Nat} (h : Chain R V Wn Hn N H P k xs) : ∃ ys, xs = k :: ys := by
  cases h with
  | last _ => exact ⟨[], rfl⟩
  | next _ _ _ => exact ⟨_, rfl⟩
theorem Chain.mem {k : Nat} {xs : List Nat} (h : Chain R V Wn Hn N H P k xs) : k < N → ∀ x ∈ xs, x < N := by
  induction h with
  | last _ =>
    intro hk x hx
    rw [List.mem_singleton.1 hx]
    exact hk
  | next _ hb _ ih =>
    intro hk x hx
    rcases List.mem_cons.1 hx with h1 | h1
    · rw [h1]; exact hk
    · exact ih hb.1 x h1
theorem prA_append {X Y : Int} {ps qs : List (Int × Int)} : ∀ i, i < ps.length → prA R V X Y Wn Hn (ps ++ qs) i = prA R V X Y Wn Hn ps i
  | 0, _ => rfl
  | i + 1, h => by
    have g : ∀ j, j < ps.length → (ps ++ qs).getD j (0, 0) = ps.getD j (0, 0) := fun j hj => by simp [List.getD_eq_getElem?_getD, List.getElem?_append_left hj]
    rw [prA, prA, prA_append i (by omega), g i (by omega), g (i + 1) h]
theorem kOf_cpt {X Y : Int} {k : Nat} : kOf X Y Wn (cpt X Y Wn k) = k := by
  unfold kOf cpt
  dsimp only
  rw [show Y + ((k / Wn : Nat) : Int) - Y = ((k / Wn : Nat) : Int) by omega, show X + ((k % Wn : Nat) : Int) - X = ((k % Wn : Nat) : Int) by omega, Int.toNat_natCast, Int.toNat_natCast, Nat.mul_comm]
  exact Nat.div_add_mod k Wn
/-- a way costs what its end costs -/
theorem Chain.price {X Y : Int} {E : Nat → List (Nat × Nat)} {sn : Nat → Bool} (hEe : E = edA R V Wn Hn N) (hE : EdOk N E) (hW : 1 ≤ Wn) (hN : N = Wn * Hn) (hP : PrOk N E src sn P) (hH : HopOk N E src (tgt P) H) {k : Nat} {xs : List Nat} (h : Chain R V Wn Hn N H P k xs) :
    k < N → 0 ≤ H k → prA R V X Y Wn Hn (xs.reverse.map (cpt X Y Wn)) (xs.length - 1) = some (P k) := by
  induction h with
  | @last k h0 =>
    intro hk h1
    have e : k = src := hH.h4 k hk (by omega)
    show some 0 = some (P k)
    rw [e, hP.os]
  | @next k p ys h0 hb hc ih =>
    intro hk h1
    obtain ⟨g1, d, g2, g3⟩ := hb.2.1
    have hp := hb.1
    have ih := ih hp (by omega)
    obtain ⟨zs, rfl⟩ := hc.head
    have hsp : sn p = true := hH.seen hP (H p).toNat p hp (by omega)
    have hm : (k, d) ∈ E p := by
      rw [hEe, edA_at hp]
      exact (edK_iff hW (by rw [← hN]; exact hp) (by rw [← hN]; exact hk)).2 g2
    have hc := hE.bd p k d hm
    have c0 := hE.nn p k d hm
    obtain ⟨s1, s2, s3⟩ := sum_ok (hP.ob p hp).1 (hP.ob p hp).2.1 hc c0
    have hval : valI (fadd (P p) d) = valI (P k) := by
      have h2 : FloatKind.f32.format.order (fadd (P p) d) (P k) = some .eq := by
        unfold feqB at g3
        exact eq_of_beq g3
      have h3 := eq_val (bd_Fin s2 (by omega)) (bd_Fin (hP.ob k hk).1 (by omega))
      exact h3.1 (by rw [← h2]; rfl)
    have hw : RWay N E src k (valI (fadd (P p) d)) := by
      rw [fadd_up (hP.ob p hp).1 hc]
      exact .step (hP.least.way p hp hsp) hp hm
    have hks : k ≠ src := fun e => by have := hH.h0; rw [e] at h0; omega
    have hpos : 0 < valI (fadd (P p) d) := by
      rcases (hw.pos hE).2 with h4 | h4
      · exact absurd h4 hks
      · exact h4
    have hbits : fadd (P p) d = P k := bits_pos s3.2 (hP.ob k hk).2.2 hval hpos
    have hl : ((p :: zs).reverse.map (cpt X Y Wn)).length = zs.length + 1 := by simp
    have e1 : (k :: p :: zs).reverse.map (cpt X Y Wn) = (p :: zs).reverse.map (cpt X Y Wn) ++ [cpt X Y Wn k] := by simp
    have e2 : (k :: p :: zs).length - 1 = zs.length + 1 := by simp
    rw [e1, e2, prA, prA_append zs.length (by rw [hl]; omega)]
    have e3 : (p :: zs).length - 1 = zs.length := by simp
    rw [e3] at ih
    rw [ih]
    have e4 : ((p :: zs).reverse.map (cpt X Y Wn) ++ [cpt X Y Wn k]).getD zs.length (0, 0) = cpt X Y Wn p := by
      simp [List.getD_eq_getElem?_getD]
    have e5 : ((p :: zs).reverse.map (cpt X Y Wn) ++ [cpt X Y Wn k]).getD (zs.length + 1) (0, 0) = cpt X Y Wn k := by
      simp [List.getD_eq_getElem?_getD]
    rw [e4, e5, kOf_cpt, kOf_cpt, g2]
    dsimp only
    rw [hbits]
end
end Go.Proofs.Ytpgdinpckolfpaa

namespace Go.Proofs.Ytpgdinpckolfpaa
open Go.RowKit
attribute [local go_sem ↓] Go.wp_at_zero Go.wp_at_succ
attribute [local go_sem] run_store_float

/-- a slice of one place that was made now -/
theorem own_one (w : World) (base : Nat) (x y : Int) (hb : base ≤ w.heap.size) : (w.alloc (.cells #[.int .i64 x, .int .i64 y] 32)).ownsRow base 32 2 (.slice (some ⟨w.heap.size, 0, none⟩) 1 1) 1 [.int .i64 x, .int .i64 y] :=
  ⟨rfl, .inr ⟨w.heap.size, 1, _, rfl, hb, heap_alloc_new w _, by simp, by unfold maxLen; simp, by simp, by simp⟩⟩
theorem Rd.news {w : World} {ad : Addr} {xs : List Value} (h : Rd w (some ad) xs) (hn : 0 < xs.length) : ∀ j u, xs[j]? = some u → w.cell? (ad.add j) = some u := fun j u hu => by
  obtain ⟨a, e, _, hc⟩ := h (by rintro rfl; simp at hn)
  injection e with e
  subst e
  exact hc j u hu
theorem OwnP.anyW {w : World} {base : Nat} {v : Value} {xs : List (Int × Int)} (h : OwnP w base v xs) : ∃ A cap, v = .slice A xs.length cap ∧ Rd w A (ptv xs) := by
  rcases h.2 with ⟨h1, h2⟩ | ⟨g, cap, cur, hv, _⟩
  · have hx : xs = [] := List.eq_nil_of_length_eq_zero h2
    subst hx
    exact ⟨none, 0, h1, Rd.nil _ _⟩
  · subst hv
    exact ⟨_, cap, rfl, Rd.of_own h⟩
theorem maxP {a : Nat} (h : a ≤ 100) : 1 + a ≤ maxLen ∧ (1 + a) * 16 ≤ 140737488355328 := by unfold maxLen; omega
/-- what WayOf returns -/
def WayOfRes (R : RlR) (l : List Nat) (X Y : Int) (Wn Hn N src tq : Nat) (w : World) (e : Ending) (w' : World) : Prop := ∃ (seen : Nat → Bool) (P : Nat → Nat), PrOk N (edA R (fun j => l.getD j 0) Wn Hn N) src seen P ∧ Ext w w' ∧
  (seen tq = false ∧ e = .returned (.tuple #[.slice none 0 0, .float .f32 0, .bool false]) ∨
   seen tq = true ∧ ∃ (H : Nat → Int) (xs : List Nat) (B : Option Addr) (cap : Nat), HopOk N (edA R (fun j => l.getD j 0) Wn Hn N) src (tgt P) H ∧ Chain R (fun j => l.getD j 0) Wn Hn N H P tq xs ∧
     e = .returned (.tuple #[.slice B xs.length cap, .float .f32 (P tq), .bool true]) ∧ Rd w' B (ptv (xs.reverse.map (cpt X Y Wn))))
set_option maxRecDepth 100000 in
set_option maxHeartbeats 6400000 in
theorem WayOf_any (X Y : Int) (Wn Hn : Nat) (A : Option Addr) (N c : Nat) (R : RlR) (C : Option Addr) (m cc src tq : Nat) (l : List Nat) (w : World)
    (hr : Reg X Y Wn Hn) (hN : N = Wn * Hn) (hR : RlOk R N) (hl : l.length = N) (hh : ∀ j, j < N → Bd 20 (l.getD j 0)) (hs : src < N) (ht : tq < N) (hN60 : N ≤ 60) (hV : Rd w A (flt l)) (hC : CoR w C m R.co) :
    Calls Try.prog 25 #[.agg #[.int .i64 X, .int .i64 Y, .int .i64 (Wn : Int), .int .i64 (Hn : Int), .slice A N c], .agg #[.float .f32 R.gr, .float .f32 R.wt, .float .f32 R.br, .float .f32 R.de, .int .i64 (R.sp : Int), .slice C m cc], .agg #[.int .i64 (X + ((src % Wn : Nat) : Int)), .int .i64 (Y + ((src / Wn : Nat) : Int))], .agg #[.int .i64 (X + ((tq % Wn : Nat) : Int)), .int .i64 (Y + ((tq / Wn : Nat) : Int))]] w fun e w' => WayOfRes R l X Y Wn Hn N src tq w e w' := by
  have HPt := fun (a : Nat) (w : World) (h : a < N) => hidA (show Calls Try.prog 73 #[.agg #[.int .i64 X, .int .i64 Y, .int .i64 (Wn : Int), .int .i64 (Hn : Int)], .int .i64 a] w fun e w' => e = .returned (.agg #[.int .i64 (X + ((a % Wn : Nat) : Int)), .int .i64 (Y + ((a / Wn : Nat) : Int))]) ∧ Ext w w' from by
    have h9 := pointR_any X Y Wn Hn a w hr.ok (by omega)
    rw [pK] at h9
    exact h9)
  have HTo := fun (a b : Nat) (w' : World) (h : Ext w w') (ha : a < N) (hb : b < N) => hidA (Toll_any X Y Wn Hn A N c R C m cc a b l w' hr hN hR hl hh ha hb (hV.ext h) (hC.ext h))
  unfold stV at HTo
  have HLo := fun (w' : World) (h : Ext w w') => hidA (LeastOf_any X Y Wn Hn A N c R C m cc src l w' hr hN hR hl hh hs hN60 (hV.ext h) (hC.ext h))
  have HCt := fun (w : World) => hidA (cellK hr hN ht w)
  have HE := hidA (show EdOk N (edA R (fun j => l.getD j 0) Wn Hn N) from edA_ok hR hN hh)
  have HEx := hidA (fun (H : Nat → Int) (P : Nat → Nat) (k : Nat) (hk : k < N) (h0 : 0 < H k) (hH : HopOk N (edA R (fun j => l.getD j 0) Wn Hn N) src (tgt P) H) => show ∃ p, p < N ∧ good R (fun j => l.getD j 0) Wn Hn H P k p from by
    obtain ⟨a, b, ha, hm, htt, h5⟩ := hH.h3 k hk h0
    rw [edA_at ha] at hm
    exact ⟨a, ha, h5, b, (edK_iff hr.w1 (by rw [← hN]; exact ha) (by rw [← hN]; exact hk)).1 hm, htt⟩)
  have HFb := hidA (fun (P : Nat → Nat) (sn : Nat → Bool) (hP : PrOk N (edA R (fun j => l.getD j 0) Wn Hn N) src sn P) (p k d : Nat) (hp : p < N) (hk : k < N) (hst : stepF R (fun j => l.getD j 0) Wn Hn p k = some d) => show floatBits .add .f32 (P p) d = some (fadd (P p) d) from by
    have hm : (k, d) ∈ edA R (fun j => l.getD j 0) Wn Hn N p := by
      rw [edA_at hp]
      exact (edK_iff hr.w1 (by rw [← hN]; exact hp) (by rw [← hN]; exact hk)).2 hst
    have hE := edA_ok hR hN hh
    exact (sum_ok (hP.ob p hp).1 (hP.ob p hp).2.1 (hE.bd p k d hm) (hE.nn p k d hm)).1)
  obtain ⟨px, hpx⟩ : ∃ px, px = X + ((src % Wn : Nat) : Int) := ⟨_, rfl⟩
  obtain ⟨py, hpy⟩ : ∃ py, py = Y + ((src / Wn : Nat) : Int) := ⟨_, rfl⟩
  obtain ⟨tx, htx⟩ : ∃ tx, tx = X + ((tq % Wn : Nat) : Int) := ⟨_, rfl⟩
  obtain ⟨ty, hty⟩ : ∃ ty, ty = Y + ((tq / Wn : Nat) : Int) := ⟨_, rfl⟩
  rw [← hpx, ← hpy] at HLo ⊢
  rw [← htx, ← hty] at HCt ⊢
  have Hcp := hidA (show cpt X Y Wn tq = (tx, ty) from by unfold cpt; rw [htx, hty])
  have Hcq := hidA (fun (k : Nat) => show cpt X Y Wn k = (X + ((k % Wn : Nat) : Int), Y + ((k / Wn : Nat) : Int)) from rfl)
  have Ht := hidA ht
  have HN60 := hidA hN60
  have tN : (tq : Int) < N := by omega
  have t0 : (0 : Int) ≤ tq := by omega
  clear hr hN hR hl hh hs ht hpx hpy htx hty
  go_enter Try.func25, Try.ntmps25
  go_upto_region 1 with fail
  obtain ⟨w0, hw0⟩ : ∃ w0, w0 = ((((w.alloc (.cells #[.int .i64 X, .int .i64 Y, .int .i64 (Wn : Int), .int .i64 (Hn : Int), .slice A N c] 26)).alloc (.cells #[.float .f32 R.gr, .float .f32 R.wt, .float .f32 R.br, .float .f32 R.de, .int .i64 (R.sp : Int), .slice C m cc] 30)).alloc (.cells #[.int .i64 px, .int .i64 py] 32)).alloc (.cells #[.int .i64 tx, .int .i64 ty] 32)) := ⟨_, rfl⟩
  have kF : Bk w0 w.heap.size 26 #[.int .i64 X, .int .i64 Y, .int .i64 (Wn : Int), .int .i64 (Hn : Int), .slice A N c] := by rw [hw0]; exact (((Bk.new' rfl).alloc _).alloc _).alloc _
  have kR : Bk w0 (w.heap.size + 1) 30 #[.float .f32 R.gr, .float .f32 R.wt, .float .f32 R.br, .float .f32 R.de, .int .i64 (R.sp : Int), .slice C m cc] := by rw [hw0]; exact ((Bk.new' (by simp)).alloc _).alloc _
  have kP : Bk w0 (w.heap.size + 1 + 1) 32 #[.int .i64 px, .int .i64 py] := by rw [hw0]; exact (Bk.new' (by simp)).alloc _
  have kT : Bk w0 (w.heap.size + 1 + 1 + 1) 32 #[.int .i64 tx, .int .i64 ty] := by rw [hw0]; exact Bk.new' (by simp)
  have hx0 : Ext w w0 := by rw [hw0]; exact ((((Ext.refl w).alloc _).alloc _).alloc _).alloc _
  rw [← hw0]
  clear hw0
  generalize w.heap.size + 1 + 1 + 1 = ht at *
  generalize w.heap.size + 1 + 1 = hp at *
  generalize w.heap.size + 1 = hr at *
  generalize hgf : w.heap.size = hf at *
  clear hgf
  have f0 := kF.cell 0
  have f1 := kF.cell 1
  have f2 := kF.cell 2
  have f3 := kF.cell 3
  have f4 := kF.cell 4
  have r0 := kR.cell 0
  have r1 := kR.cell 1
  have r2 := kR.cell 2
  have r3 := kR.cell 3
  have r4 := kR.cell 4
  have r5 := kR.cell 5
  have p0 := kP.cell 0
  have p1 := kP.cell 1
  have u0 := kT.cell 0
  have u1 := kT.cell 1
  go_upto_region 2 with (go_at_call 29; refine ((HLo _ hx0).out).mono ?_; rintro e w1 ⟨ho, hi, hg, sn, P, H, rfl, kO, kI, kG, hP, hH, hx1⟩)
  have kF1 := kF.ext hx1
  have kR1 := kR.ext hx1
  have kT1 := kT.ext hx1
  have hxw := hx0.trans hx1
  have HP := hidA hP
  have HH := hidA hH
  clear f0 f1 f2 f3 f4 r0 r1 r2 r3 r4 r5 p0 p1 u0 u1 kF kR kP kT hx0 hx1 HLo hP hH
  have f0 := kF1.cell 0
  have f1 := kF1.cell 1
  have f2 := kF1.cell 2
  have f3 := kF1.cell 3
  have u0 := kT1.cell 0
  have u1 := kT1.cell 1
  go_upto_region 3 with (go_at_call 66; refine ((HCt _).out).mono ?_; rintro e w2 ⟨rfl, hx2⟩)
  have kF2 := kF1.ext hx2
  have kR2 := kR1.ext hx2
  have kT2 := kT1.ext hx2
  have kO2 := kO.ext hx2
  have kI2 := kI.ext hx2
  have kG2 := kG.ext hx2
  have hxw2 := hxw.trans hx2
  clear f0 f1 f2 f3 u0 u1 kF1 kR1 kT1 kO kI kG hxw hx2
  have s1 : w2.cell? ⟨hi, tq, none⟩ = some (.bool (sn tq)) := by rw [kI2.cell]; exact bools_get _ Ht.out
  cases hsn : sn tq
  · rw [hsn] at s1
    have Hsn := hidA hsn
    clear hsn
    go_wp2
    refine bodyPost_ret (v := .tuple #[.slice none 0 0, .float .f32 0, .bool false]) (by simp [results, Try.results25, go_sem]) rfl ?_
    exact ⟨sn, P, HP.out, hxw2, .inl ⟨Hsn.out, rfl⟩⟩
  · rw [hsn] at s1
    have Hsn := hidA hsn
    have u0 := kT2.cell 0
    have u1 := kT2.cell 1
    obtain ⟨w1', hw1'⟩ : ∃ w1', w1' = w2 := ⟨_, rfl⟩
    go_upto_region 6 with fail
    clear s1 u0 u1 hsn w1 hw1'
    have hO6 : OwnP (w2.alloc (.cells #[.int .i64 tx, .int .i64 ty] 32)) w2.heap.size (.slice (some ⟨w2.heap.size, 0, none⟩) 1 1) ([tq].map (cpt X Y Wn)) := by
      show World.ownsRow _ _ _ _ _ _ (ptv [cpt X Y Wn tq])
      rw [Hcp.out]
      exact own_one w2 _ tx ty (Nat.le_refl _)
    have hx6 : Ext w2 (w2.alloc (.cells #[.int .i64 tx, .int .i64 ty] 32)) := (Ext.refl w2).alloc _
    have HO6 := hidA hO6
    obtain ⟨ti, hi0, hz0, hz1, hz2⟩ := info_parts infoPt
    have Hh0 := hidA (show 0 ≤ H tq from by
      rcases HH.out.h1 tq Ht.out with h | h
      · exact hop_all HE.out HP.out HH.out Ht.out Hsn.out
      · exact h)
    generalize w2.alloc (.cells #[.int .i64 tx, .int .i64 ty] 32) = w6 at *
    clear hO6
    generalize hgw : w2 = w1 at *
    clear hgw
    go_loopg [14, 15] (H tq).toNat (fun gk s14 s15 wr => ∃ (k : Nat) (r : List Nat), s14 = .int .i64 k ∧ k < N ∧ 0 ≤ H k ∧ (H k).toNat ≤ gk ∧ r.length + (H k).toNat = (H tq).toNat ∧ OwnP wr w1.heap.size s15 ((k :: r).map (cpt X Y Wn)) ∧ Ext w1 wr ∧ (∀ zs, Chain R (fun j => l.getD j 0) Wn Hn N H P k zs → Chain R (fun j => l.getD j 0) Wn Hn N H P tq (r.reverse ++ zs)))
    case atStart => exact ⟨tq, [], rfl, Ht.out, Hh0.out, Nat.le_refl _, by simp, HO6.out, hx6, fun zs h => h⟩
    case round =>
      clear HO6 hx6
      obtain ⟨k, r, rfl, hk, hk0, hgk, hlen, hO, hx, hch⟩ := hrel
      have Hk := hidA hk
      have Hk0 := hidA hk0
      have Hgk := hidA hgk
      have Hlen := hidA hlen
      have Hch := hidA hch
      have ki0 : (0 : Int) ≤ k := by omega
      have ki1 : (k : Int) < N := by omega
      clear hk hk0 hgk hlen hch
      have g1 : wr.cell? ⟨hg, k, none⟩ = some (.int .i64 (H k)) := by rw [(kG2.ext hx).cell]; exact intB_get _ Hk.out
      obtain ⟨ys, hys⟩ : ∃ ys, ys = (k :: r).map (cpt X Y Wn) := ⟨_, rfl⟩
      rw [← hys] at hO
      have Hys := hidA hys
      obtain ⟨B, cY, rfl, hyR⟩ := hO.anyW
      have hyp : 0 < (ptv ys).length := by rw [ptv_length, hys]; simp
      obtain ⟨adY, rfl, _, _⟩ := hyR (by intro e; rw [e] at hyp; simp at hyp)
      have HyR := hidA hyR
      have Hyp := hidA hyp
      obtain ⟨q, hq⟩ : ∃ q, q = ys.length := ⟨_, rfl⟩
      rw [← hq]
      have Hq := hidA hq
      have Hyl := hidA (show (ptv ys).length = q * 2 from by rw [ptv_length, hq])
      have hqb : q ≤ 100 := by
        have h1 := Hlen.out
        have h2 := HH.out.lt Ht.out
        have h3 := HN60.out
        rw [hq, hys, List.length_map, List.length_cons]
        omega
      have hmxN := hidA (maxP hqb).1
      have hmbN := hidA (maxP hqb).2
      have honeN := hidA (ptv_one ys)
      have Hq0 := hidA (show 0 < q from by rw [hq, hys]; simp)
      clear hys hyR hyp hq hqb hO
      by_cases hpos : 0 < H k
      · have dpos : decide (0 < H k) = true := decide_eq_true hpos
        have Hpos := hidA hpos
        have f4 := (kF2.ext hx).cell 4
        go_upto_region 8 with fail
        clear g1 f4 dpos hpos
        obtain ⟨wo, rfl⟩ : ∃ wo, wo = wr := ⟨_, rfl⟩
        go_loopw [14, 49] (fun s14 s49 wz => ∃ p : Nat, s14 = .int .i64 k ∧ p ≤ N ∧ s49 = .int .i64 p ∧ (∀ q, q < p → ¬ good R (fun j => l.getD j 0) Wn Hn H P k q) ∧ Ext wo wz) (fun _ s49 _ => N - (intOf s49).toNat)
        case atStart => exact ⟨0, rfl, Nat.zero_le _, rfl, fun q hq => absurd hq (Nat.not_lt_zero q), Ext.refl _⟩
        case round =>
          obtain ⟨p, rfl, hp, rfl, hng, hxo⟩ := hrel
          have Hng := hidA hng
          clear hng
          by_cases hpN : p < N
          · have HpN := hidA hpN
            have pi0 : (0 : Int) ≤ p := by omega
            have pi1 : (p : Int) < N := by omega
            have hxr := hx.trans hxo
            have HT1 := fun (w' : World) (h : Ext w w') => HTo p k w' h hpN Hk.out
            have HPa := fun (w : World) => HPt p w hpN
            have HPb := fun (w : World) => HPt k w Hk.out
            have HFd := hidA (fun d => HFb.out P sn HP.out p k d HpN.out Hk.out)
            have Hnn := hidA (fun (h : ¬ good R (fun j => l.getD j 0) Wn Hn H P k p) => show ∀ q, q < p + 1 → ¬ good R (fun j => l.getD j 0) Wn Hn H P k q from fun q hq => by
              by_cases e : q = p
              · rw [e]; exact h
              · exact Hng.out q (by omega))
            have Hcp2 := hidA (Hcq.out p)
            obtain ⟨o, ho⟩ : ∃ o, o = stepF R (fun j => l.getD j 0) Wn Hn p k := ⟨_, rfl⟩
            rw [← ho] at HT1 HFd
            have Ho := hidA ho
            generalize X + ((p % Wn : Nat) : Int) = qx at *
            generalize Y + ((p / Wn : Nat) : Int) = qy at *
            generalize X + ((k % Wn : Nat) : Int) = bx at *
            generalize Y + ((k / Wn : Nat) : Int) = by_ at *
            go_upto_region 10 with fail
            have hxq : Ext w wr := hxw2.trans hxr
            have t0 : ∀ w', Ext wr w' → w'.cell? ⟨hf, 0, none⟩ = some (.int .i64 X) := fun w' h => (kF2.ext (hxr.trans h)).cell 0
            have t1 : ∀ w', Ext wr w' → w'.cell? ⟨hf, 1, none⟩ = some (.int .i64 Y) := fun w' h => (kF2.ext (hxr.trans h)).cell 1
            have t2 : ∀ w', Ext wr w' → w'.cell? ⟨hf, 2, none⟩ = some (.int .i64 (Wn : Int)) := fun w' h => (kF2.ext (hxr.trans h)).cell 2
            have t3 : ∀ w', Ext wr w' → w'.cell? ⟨hf, 3, none⟩ = some (.int .i64 (Hn : Int)) := fun w' h => (kF2.ext (hxr.trans h)).cell 3
            have t4 : ∀ w', Ext wr w' → w'.cell? ⟨hf, 4, none⟩ = some (.slice A N c) := fun w' h => (kF2.ext (hxr.trans h)).cell 4
            have e0 : ∀ w', Ext wr w' → w'.cell? ⟨hr, 0, none⟩ = some (.float .f32 R.gr) := fun w' h => (kR2.ext (hxr.trans h)).cell 0
            have e1 : ∀ w', Ext wr w' → w'.cell? ⟨hr, 1, none⟩ = some (.float .f32 R.wt) := fun w' h => (kR2.ext (hxr.trans h)).cell 1
            have e2 : ∀ w', Ext wr w' → w'.cell? ⟨hr, 2, none⟩ = some (.float .f32 R.br) := fun w' h => (kR2.ext (hxr.trans h)).cell 2
            have e3 : ∀ w', Ext wr w' → w'.cell? ⟨hr, 3, none⟩ = some (.float .f32 R.de) := fun w' h => (kR2.ext (hxr.trans h)).cell 3
            have e4 : ∀ w', Ext wr w' → w'.cell? ⟨hr, 4, none⟩ = some (.int .i64 (R.sp : Int)) := fun w' h => (kR2.ext (hxr.trans h)).cell 4
            have e5 : ∀ w', Ext wr w' → w'.cell? ⟨hr, 5, none⟩ = some (.slice C m cc) := fun w' h => (kR2.ext (hxr.trans h)).cell 5
            clear hp hpN ho
            refine wp_region_noPanic ?_
            refine wp_region_held_drew (S := fun w' => Ext wr w') (by kernel_rfl) ?_ (fun hHeld => ?_)
            · (repeat (first | exact Ext.refl _ | assumption | refine Ext.setCell ?_ (by first | (simp; done) | (simp; omega)) _ | refine Ext.drewN ?_ _ | refine Ext.alloc ?_ _ | refine Ext.drew ?_ | refine Ext.trans ?_ (by assumption)))
            refine wpAnyH_take (i := 0) (oi := ?o1x0) (v := ?v1x0) ?hi1x0 (by kernel_rfl) ?hf1x0 ?hr1x0 (fun _ _ _ h => h) ?hy1x0 (by assumption) ?rest1x0
            case hi1x0 => (simp only [List.getElem?_toArray, List.getElem?_cons_zero]; exact rfl)
            case hf1x0 => kernel_rfl
            case hr1x0 => kernel_rfl
            case hy1x0 => (refine Or.inl ⟨by rfl, ?_⟩; intro w hSw; (try dsimp only at hSw); go_simp; try with_reducible rfl)
            simp only [put_mk, List.set_cons_succ, List.set_cons_zero]
            refine wpAnyH_take (i := 1) (oi := ?o1x1) (v := ?v1x1) ?hi1x1 (by kernel_rfl) ?hf1x1 ?hr1x1 (fun _ _ _ h => h) ?hy1x1 (by assumption) ?rest1x1
            case hi1x1 => (simp only [List.getElem?_toArray, List.getElem?_cons_succ, List.getElem?_cons_zero]; exact rfl)
            case hf1x1 => kernel_rfl
            case hr1x1 => kernel_rfl
            case hy1x1 => (refine Or.inl ⟨by rfl, ?_⟩; intro w hSw; (try dsimp only at hSw); go_simp; try with_reducible rfl)
            simp only [put_mk, List.set_cons_succ, List.set_cons_zero]
            refine wpAnyH_take (i := 2) (oi := ?o1x2) (v := ?v1x2) ?hi1x2 (by kernel_rfl) ?hf1x2 ?hr1x2 (fun _ _ _ h => h) ?hy1x2 (by assumption) ?rest1x2
            case hi1x2 => (simp only [List.getElem?_toArray, List.getElem?_cons_succ, List.getElem?_cons_zero]; exact rfl)
            case hf1x2 => kernel_rfl
            case hr1x2 => kernel_rfl
            case hy1x2 => (refine Or.inl ⟨by rfl, ?_⟩; intro w hSw; (try dsimp only at hSw); go_simp; try with_reducible rfl)
            simp only [put_mk, List.set_cons_succ, List.set_cons_zero]
            refine wpAnyH_take (i := 3) (oi := ?o1x3) (v := ?v1x3) ?hi1x3 (by kernel_rfl) ?hf1x3 ?hr1x3 (fun _ _ _ h => h) ?hy1x3 (by assumption) ?rest1x3
            case hi1x3 => (simp only [List.getElem?_toArray, List.getElem?_cons_succ, List.getElem?_cons_zero]; exact rfl)
            case hf1x3 => kernel_rfl
            case hr1x3 => kernel_rfl
            case hy1x3 => (refine Or.inl ⟨by rfl, ?_⟩; intro w hSw; (try dsimp only at hSw); go_simp; try with_reducible rfl)
            simp only [put_mk, List.set_cons_succ, List.set_cons_zero]
            refine wpAnyH_take (i := 4) (oi := ?o1x4) (v := ?v1x4) ?hi1x4 (by kernel_rfl) ?hf1x4 ?hr1x4 (fun _ _ _ h => h) ?hy1x4 (by assumption) ?rest1x4
            case hi1x4 => (simp only [List.getElem?_toArray, List.getElem?_cons_succ, List.getElem?_cons_zero]; exact rfl)
            case hf1x4 => kernel_rfl
            case hr1x4 => kernel_rfl
            case hy1x4 => (refine Or.inl ⟨by rfl, ?_⟩; intro w hSw; (try dsimp only at hSw); go_simp; try with_reducible rfl)
            simp only [put_mk, List.set_cons_succ, List.set_cons_zero]
            refine wpAnyH_take (i := 6) (oi := ?o1x6) (v := ?v1x6) ?hi1x6 (by kernel_rfl) ?hf1x6 ?hr1x6 (fun _ _ _ h => h) ?hy1x6 (by assumption) ?rest1x6
            case hi1x6 => (simp only [List.getElem?_toArray, List.getElem?_cons_succ, List.getElem?_cons_zero]; exact rfl)
            case hf1x6 => kernel_rfl
            case hr1x6 => kernel_rfl
            case hy1x6 => (refine Or.inl ⟨by rfl, ?_⟩; intro w hSw; (try dsimp only at hSw); go_simp; try with_reducible rfl)
            simp only [put_mk, List.set_cons_succ, List.set_cons_zero]
            refine wpAnyH_take (i := 7) (oi := ?o1x7) (v := ?v1x7) ?hi1x7 (by kernel_rfl) ?hf1x7 ?hr1x7 (fun _ _ _ h => h) ?hy1x7 (by assumption) ?rest1x7
            case hi1x7 => (simp only [List.getElem?_toArray, List.getElem?_cons_succ, List.getElem?_cons_zero]; exact rfl)
            case hf1x7 => kernel_rfl
            case hr1x7 => kernel_rfl
            case hy1x7 => (refine Or.inl ⟨by rfl, ?_⟩; intro w hSw; (try dsimp only at hSw); go_simp; try with_reducible rfl)
            simp only [put_mk, List.set_cons_succ, List.set_cons_zero]
            refine wpAnyH_take (i := 8) (oi := ?o1x8) (v := ?v1x8) ?hi1x8 (by kernel_rfl) ?hf1x8 ?hr1x8 (fun _ _ _ h => h) ?hy1x8 (by assumption) ?rest1x8
            case hi1x8 => (simp only [List.getElem?_toArray, List.getElem?_cons_succ, List.getElem?_cons_zero]; exact rfl)
            case hf1x8 => kernel_rfl
            case hr1x8 => kernel_rfl
            case hy1x8 => (refine Or.inl ⟨by rfl, ?_⟩; intro w hSw; (try dsimp only at hSw); go_simp; try with_reducible rfl)
            simp only [put_mk, List.set_cons_succ, List.set_cons_zero]
            refine wpAnyH_ready (rs := [5]) (by kernel_rfl) (by simp) ?_
            refine AllReadyH.cons (o := ?o1x5) ?hi1x5 (fun K hK => ?_) AllReadyH.nil
            case hi1x5 => (simp only [List.getElem?_toArray, List.getElem?_cons_succ, List.getElem?_cons_zero]; exact rfl)
            go_simp
            go_at_call 73
            refine ((HPa _).out).mono ?_
            rintro e wb ⟨rfl, hxb⟩
            refine hK.out _ _ ?_ (fun hHeld => ?_)
            · (repeat (first | exact Ext.refl _ | assumption | refine Ext.setCell ?_ (by first | (simp; done) | (simp; omega)) _ | refine Ext.drewN ?_ _ | refine Ext.alloc ?_ _ | refine Ext.drew ?_ | refine Ext.trans ?_ (by assumption)))
            clear hK K
            refine wpAnyH_ready (rs := [9]) (by kernel_rfl) (by simp) ?_
            refine AllReadyH.cons (o := ?o1x9) ?hi1x9 (fun K hK => ?_) AllReadyH.nil
            case hi1x9 => (simp only [List.getElem?_toArray, List.getElem?_cons_succ, List.getElem?_cons_zero]; exact rfl)
            go_simp
            go_at_call 73
            refine ((HPb _).out).mono ?_
            rintro e wc ⟨rfl, hxc⟩
            refine hK.out _ _ ?_ (fun hHeld => ?_)
            · (repeat (first | exact Ext.refl _ | assumption | refine Ext.setCell ?_ (by first | (simp; done) | (simp; omega)) _ | refine Ext.drewN ?_ _ | refine Ext.alloc ?_ _ | refine Ext.drew ?_ | refine Ext.trans ?_ (by assumption)))
            clear hK K
            refine wpAnyH_ready (rs := [10]) (by kernel_rfl) (by simp) ?_
            refine AllReadyH.cons (o := ?o1x10) ?hi1x10 (fun K hK => ?_) AllReadyH.nil
            case hi1x10 => (simp only [List.getElem?_toArray, List.getElem?_cons_succ, List.getElem?_cons_zero]; exact rfl)
            go_simp
            go_at_call 21
            refine ((HT1 _ (by repeat (first | exact Ext.refl _ | assumption | refine Ext.setCell ?_ (by first | (simp; done) | (simp; omega)) _ | refine Ext.drewN ?_ _ | refine Ext.alloc ?_ _ | refine Ext.drew ?_ | refine Ext.trans ?_ (by assumption)))).out).mono ?_
            rintro e wd ⟨rfl, hxd⟩
            refine hK.out _ _ ?_ (fun hHeld => ?_)
            · (repeat (first | exact Ext.refl _ | assumption | refine Ext.setCell ?_ (by first | (simp; done) | (simp; omega)) _ | refine Ext.drewN ?_ _ | refine Ext.alloc ?_ _ | refine Ext.drew ?_ | refine Ext.trans ?_ (by assumption)))
            clear hK K
            refine wpAnyH_take (i := 11) (oi := ?o1x11) (v := ?v1x11) ?hi1x11 (by kernel_rfl) ?hf1x11 ?hr1x11 (fun _ _ _ h => h) ?hy1x11 (by assumption) ?rest1x11
            case hi1x11 => (simp only [List.getElem?_toArray, List.getElem?_cons_succ, List.getElem?_cons_zero]; exact rfl)
            case hf1x11 => kernel_rfl
            case hr1x11 => kernel_rfl
            case hy1x11 => (refine Or.inl ⟨by rfl, ?_⟩; intro w hSw; (try dsimp only at hSw); go_simp; try with_reducible rfl)
            simp only [put_mk, List.set_cons_succ, List.set_cons_zero]
            refine wpAnyH_take (i := 12) (oi := ?o1x12) (v := ?v1x12) ?hi1x12 (by kernel_rfl) ?hf1x12 ?hr1x12 (fun _ _ _ h => h) ?hy1x12 (by assumption) ?rest1x12
            case hi1x12 => (simp only [List.getElem?_toArray, List.getElem?_cons_succ, List.getElem?_cons_zero]; exact rfl)
            case hf1x12 => kernel_rfl
            case hr1x12 => kernel_rfl
            case hy1x12 => (refine Or.inl ⟨by rfl, ?_⟩; intro w hSw; (try dsimp only at hSw); go_simp; try with_reducible rfl)
            simp only [put_mk, List.set_cons_succ, List.set_cons_zero]
            refine wpAnyH_take (i := 13) (oi := ?o1x13) (v := ?v1x13) ?hi1x13 (by kernel_rfl) ?hf1x13 ?hr1x13 (fun _ _ _ h => h) ?hy1x13 (by assumption) ?rest1x13
            case hi1x13 => (simp only [List.getElem?_toArray, List.getElem?_cons_succ, List.getElem?_cons_zero]; exact rfl)
            case hf1x13 => kernel_rfl
            case hr1x13 => kernel_rfl
            case hy1x13 => (refine Or.inl ⟨by rfl, ?_⟩; intro w hSw; (try dsimp only at hSw); go_simp; try with_reducible rfl)
            simp only [put_mk, List.set_cons_succ, List.set_cons_zero]
            refine wpAnyH_take (i := 14) (oi := ?o1x14) (v := ?v1x14) ?hi1x14 (by kernel_rfl) ?hf1x14 ?hr1x14 (fun _ _ _ h => h) ?hy1x14 (by assumption) ?rest1x14
            case hi1x14 => (simp only [List.getElem?_toArray, List.getElem?_cons_succ, List.getElem?_cons_zero]; exact rfl)
            case hf1x14 => kernel_rfl
            case hr1x14 => kernel_rfl
            case hy1x14 => (refine Or.inl ⟨by rfl, ?_⟩; intro w hSw; (try dsimp only at hSw); go_simp; try with_reducible rfl)
            simp only [put_mk, List.set_cons_succ, List.set_cons_zero]
            refine wpAnyH_take (i := 15) (oi := ?o1x15) (v := ?v1x15) ?hi1x15 (by kernel_rfl) ?hf1x15 ?hr1x15 (fun _ _ _ h => h) ?hy1x15 (by assumption) ?rest1x15
            case hi1x15 => (simp only [List.getElem?_toArray, List.getElem?_cons_succ, List.getElem?_cons_zero]; exact rfl)
            case hf1x15 => kernel_rfl
            case hr1x15 => kernel_rfl
            case hy1x15 => (refine Or.inl ⟨by rfl, ?_⟩; intro w hSw; (try dsimp only at hSw); go_simp; try with_reducible rfl)
            simp only [put_mk, List.set_cons_succ, List.set_cons_zero]
            refine wpAnyH_done (by kernel_rfl) ?_ _
            refine NoPanic.normal ?_
            go_upto_region 11 with fail
            have hx4 := hxo.trans hHeld
            have hx41 := hx.trans hx4
            clear t0 t1 t2 t3 t4 e0 e1 e2 e3 e4 e5 HT1 HPb hxq hxo hxr
            have s1 : wd.cell? ⟨hi, p, none⟩ = some (.bool (sn p)) := by rw [(kI2.ext hx41).cell]; exact bools_get _ HpN.out
            have g1 : wd.cell? ⟨hg, p, none⟩ = some (.int .i64 (H p)) := by rw [(kG2.ext hx41).cell]; exact intB_get _ HpN.out
            have g2 : wd.cell? ⟨hg, k, none⟩ = some (.int .i64 (H k)) := by rw [(kG2.ext hx41).cell]; exact intB_get _ Hk.out
            have o1 : wd.cell? ⟨ho, p, none⟩ = some (.float .f32 (P p)) := by rw [(kO2.ext hx41).cell]; exact flo_get _ HpN.out
            have o2 : wd.cell? ⟨ho, k, none⟩ = some (.float .f32 (P k)) := by rw [(kO2.ext hx41).cell]; exact flo_get _ Hk.out
            have Hx41 := hidA hx41
            clear hx41
            cases o with
            | none =>
              simp only [Option.getD_none, Option.isSome_none]
              have Hng2 := hidA (Hnn.out (fun hg => by obtain ⟨_, d, h1, _⟩ := hg; rw [← Ho.out] at h1; cases h1))
              clear HPa
              go_quiet (fail)
              have hx6 := hidA (hx4.trans (show Ext wd (wd.drewN nq) from (by repeat (first | exact Ext.refl _ | assumption | refine Ext.setCell ?_ (by first | (simp; done) | (simp; omega)) _ | refine Ext.drewN ?_ _ | refine Ext.alloc ?_ _ | refine Ext.drew ?_ | refine Ext.trans ?_ (by assumption)))))
              clear s1 g1 g2 o1 o2 
              generalize wd.drewN nq = w5 at *
              go_wp2
              go_roundw
              case rel => exact ⟨p + 1, rfl, HpN.out, (by first | rfl | go_num), Hng2.out, hx6.out⟩
              case measure => exact nx_k HpN.out
            | some d =>
              simp only [Option.getD_some, Option.isSome_some]
              cases hsp : sn p
              · rw [hsp] at s1
                have Hng2 := hidA (Hnn.out (fun hg => by
                  have h1 := hg.1
                  have := Hpos.out
                  have h2 := HH.out.seen HP.out (H p).toNat p HpN.out (by omega)
                  rw [hsp] at h2
                  cases h2))
                clear hsp HPa
                go_quiet (fail)
                have hx6 := hidA (hx4.trans (show Ext wd (wd.drewN nq) from (by repeat (first | exact Ext.refl _ | assumption | refine Ext.setCell ?_ (by first | (simp; done) | (simp; omega)) _ | refine Ext.drewN ?_ _ | refine Ext.alloc ?_ _ | refine Ext.drew ?_ | refine Ext.trans ?_ (by assumption)))))
                clear s1 g1 g2 o1 o2 
                generalize wd.drewN nq = w5 at *
                go_wp2
                go_roundw
                case rel => exact ⟨p + 1, rfl, HpN.out, (by first | rfl | go_num), Hng2.out, hx6.out⟩
                case measure => exact nx_k HpN.out
              · rw [hsp] at s1
                have hadd := HFd.out d rfl
                have hrun := fun (w : World) => run_float_arith (P := Try.prog) w .add 27 .f32 _ _ _ hadd
                have hw1 : wrap64 (H k - 1) = H k - 1 := IntWalk.wrap64_in _ (by have := HH.out.lt Hk.out; have := Hk0.out; have := HN60.out; omega)
                have hw2 : IntKind.i64.wrap (H k - 1) = H k - 1 := IntWalk.i64_in _ (by have := HH.out.lt Hk.out; have := Hk0.out; have := HN60.out; omega)
                clear hsp hadd
                by_cases hKe : H p = H k - 1
                · have eK : (H p == H k - 1) = true := by simpa using hKe
                  cases htt : feqB (fadd (P p) d) (P k)
                  · have hq2 : (FloatKind.f32.format.order (fadd (P p) d) (P k) == some .eq) = false := htt
                    have Hng2 := hidA (Hnn.out (fun hg => by
                      obtain ⟨_, d', h1, h2⟩ := hg
                      rw [← Ho.out] at h1
                      injection h1 with h1
                      rw [← h1, htt] at h2
                      cases h2))
                    generalize fadd (P p) d = x at *
                    clear htt HPa
                    go_quiet (fail)
                    have hx6 := hidA (hx4.trans (show Ext wd (wd.drewN nq) from (by repeat (first | exact Ext.refl _ | assumption | refine Ext.setCell ?_ (by first | (simp; done) | (simp; omega)) _ | refine Ext.drewN ?_ _ | refine Ext.alloc ?_ _ | refine Ext.drew ?_ | refine Ext.trans ?_ (by assumption)))))
                    clear s1 g1 g2 o1 o2 hrun hw1 hw2 eK hq2
                    generalize wd.drewN nq = w5 at *
                    go_wp2
                    go_roundw
                    case rel => exact ⟨p + 1, rfl, HpN.out, (by first | rfl | go_num), Hng2.out, hx6.out⟩
                    case measure => exact nx_k HpN.out
                  · have hq2 : (FloatKind.f32.format.order (fadd (P p) d) (P k) == some .eq) = true := htt
                    have Hgd := hidA (show good R (fun j => l.getD j 0) Wn Hn H P k p from ⟨hKe, d, Ho.out.symm, htt⟩)
                    have HKe := hidA hKe
                    generalize fadd (P p) d = x at *
                    clear htt
                    go_quiet (fail)
                    have Hx5 := hidA (hx.trans (hx4.trans (show Ext wd (wd.drewN nq) from (by repeat (first | exact Ext.refl _ | assumption | refine Ext.setCell ?_ (by first | (simp; done) | (simp; omega)) _ | refine Ext.drewN ?_ _ | refine Ext.alloc ?_ _ | refine Ext.drew ?_ | refine Ext.trans ?_ (by assumption))))))
                    have Hx51 := hidA (hx4.trans (show Ext wd (wd.drewN nq) from (by repeat (first | exact Ext.refl _ | assumption | refine Ext.setCell ?_ (by first | (simp; done) | (simp; omega)) _ | refine Ext.drewN ?_ _ | refine Ext.alloc ?_ _ | refine Ext.drew ?_ | refine Ext.trans ?_ (by assumption)))))
                    clear s1 g1 g2 o1 o2 hrun hw1 hw2 eK hq2 hKe hx4 hHeld
                    generalize wd.drewN nq = w5 at *
                    have HPp := HPa
                    have f0 := (kF2.ext Hx5.out).cell 0
                    have f1 := (kF2.ext Hx5.out).cell 1
                    have f2 := (kF2.ext Hx5.out).cell 2
                    have f3 := (kF2.ext Hx5.out).cell 3
                    clear HPa
                    go_wp2_with (first | (go_at_call 73; refine ((HPp _).out).mono ?_; rintro e wp ⟨rfl, hxp⟩; have hxn : Ext w5 (wp.alloc (.cells #[.int .i64 qx, .int .i64 qy] 32)) := hxp.alloc _; have hownN := hidA (own_one wp w1.heap.size qx qy ((Hx5.out.trans hxp).size)); have hnewN := hidA (Rd.news (HyR.out.ext (Hx51.out.trans hxn)) Hyp.out); have hsN := hidA ((Hx5.out.trans hxn).size); have Hxn := hidA (Hx5.out.trans hxn)) | (at_builtin; (refine wpList_append_lies _ (by rfl) _ _ 46 (by rfl) w1.heap.size 32 ti (.agg #[.int .i64 0, .int .i64 0]) 2 16 Try.underlying46 hi0 hz0 hz1 hz2 (by rfl) (by decide) _ _ _ (by rfl) hownN.out adY q cY (ptv ys) (by rfl) Hyl.out hnewN.out honeN.out Hq0.out hmxN.out hmbN.out hsN.out (wp.heap.size + 1) (by simp) ?_; intro gA capA wA hownA hgrowA hatA hltA)))
                    have hxA : Ext w1 wA := Hxn.out.grown hgrowA (fun b hb => (World.ownsRow.lt hownN.out b hb).1)
                    have hOA : OwnP wA w1.heap.size (.slice (some ⟨gA, 0, none⟩) (1 + q) capA) ((p :: k :: r).map (cpt X Y Wn)) := by
                      have e1 : (p :: k :: r).map (cpt X Y Wn) = (qx, qy) :: ys := by rw [Hys.out, List.map_cons, Hcp2.out]
                      rw [e1]
                      unfold OwnP
                      rw [ptv_cons, show ((qx, qy) :: ys).length = 1 + q from by rw [List.length_cons, Hq.out]; omega]
                      exact hownA
                    have HOA := hidA hOA
                    have HxA := hidA hxA
                    clear hownN hnewN honeN hsN Hxn hgrowA hatA hltA hownA hmxN hmbN hOA hxA f0 f1 f2 f3
                    go_roundg (H p).toNat
                    case measure => have h1 := HKe.out; have h2 := Hpos.out; have h3 := Hgk.out; omega
                    case rel =>
                      have h1 := HKe.out
                      have h2 := Hpos.out
                      have h3 := Hlen.out
                      exact ⟨p, k :: r, rfl, HpN.out, by omega, Nat.le_refl _, by rw [List.length_cons]; omega, HOA.out, HxA.out, fun zs hz => by
                        have h4 := Hch.out (k :: zs) (.next Hpos.out ⟨HpN.out, Hgd.out, fun a _ ha => Nat.not_lt.1 fun hl => Hng.out a hl ha⟩ hz)
                        rw [List.reverse_cons, List.append_assoc]
                        exact h4⟩
                · have eK : (H p == H k - 1) = false := by simpa using hKe
                  have Hng2 := hidA (Hnn.out (fun hg => hKe hg.1))
                  clear HPa
                  generalize fadd (P p) d = x at *
                  go_quiet (fail)
                  have hx6 := hidA (hx4.trans (show Ext wd (wd.drewN nq) from (by repeat (first | exact Ext.refl _ | assumption | refine Ext.setCell ?_ (by first | (simp; done) | (simp; omega)) _ | refine Ext.drewN ?_ _ | refine Ext.alloc ?_ _ | refine Ext.drew ?_ | refine Ext.trans ?_ (by assumption)))))
                  clear s1 g1 g2 o1 o2 hrun hw1 hw2 eK
                  generalize wd.drewN nq = w5 at *
                  go_wp2
                  go_roundw
                  case rel => exact ⟨p + 1, rfl, HpN.out, (by first | rfl | go_num), Hng2.out, hx6.out⟩
                  case measure => exact nx_k HpN.out
          · exfalso
            obtain ⟨a, ha, hga⟩ := HEx.out H P k Hk.out Hpos.out HH.out
            exact Hng.out a (by omega) hga
      · have dpos : decide (0 < H k) = false := decide_eq_false hpos
        have Hc9 := hidA (Hch.out [k] (.last (by omega)))
        have HyR2 := hidA (HyR.out)
        have Hx9 := hidA (hxw2.trans hx)
        clear hpos
        go_upto_region 15 with fail
        have f0 : ∀ w', Ext wr w' → w'.cell? ⟨hf, 0, none⟩ = some (.int .i64 X) := fun w' h => (kF2.ext (hx.trans h)).cell 0
        have f1 : ∀ w', Ext wr w' → w'.cell? ⟨hf, 1, none⟩ = some (.int .i64 Y) := fun w' h => (kF2.ext (hx.trans h)).cell 1
        have f2 : ∀ w', Ext wr w' → w'.cell? ⟨hf, 2, none⟩ = some (.int .i64 (Wn : Int)) := fun w' h => (kF2.ext (hx.trans h)).cell 2
        have f3 : ∀ w', Ext wr w' → w'.cell? ⟨hf, 3, none⟩ = some (.int .i64 (Hn : Int)) := fun w' h => (kF2.ext (hx.trans h)).cell 3
        have u0 : ∀ w', Ext wr w' → w'.cell? ⟨ht, 0, none⟩ = some (.int .i64 tx) := fun w' h => (kT2.ext (hx.trans h)).cell 0
        have u1 : ∀ w', Ext wr w' → w'.cell? ⟨ht, 1, none⟩ = some (.int .i64 ty) := fun w' h => (kT2.ext (hx.trans h)).cell 1
        have o1 : ∀ w', Ext wr w' → w'.cell? ⟨ho, tq, none⟩ = some (.float .f32 (P tq)) := fun w' h => by rw [(kO2.ext (hx.trans h)).cell]; exact flo_get _ Ht.out
        clear g1 dpos
        refine wp_region_noPanic ?_
        refine wp_region_held_drew (S := fun w' => Ext wr w') (by kernel_rfl) ?_ (fun hHeld => ?_)
        · (repeat (first | exact Ext.refl _ | assumption | refine Ext.setCell ?_ (by first | (simp; done) | (simp; omega)) _ | refine Ext.drewN ?_ _ | refine Ext.alloc ?_ _ | refine Ext.drew ?_ | refine Ext.trans ?_ (by assumption)))
        refine wpAnyH_take (i := 0) (oi := ?o2x0) (v := ?v2x0) ?hi2x0 (by kernel_rfl) ?hf2x0 ?hr2x0 (fun _ _ _ h => h) ?hy2x0 (by assumption) ?rest2x0
        case hi2x0 => (simp only [List.getElem?_toArray, List.getElem?_cons_zero]; exact rfl)
        case hf2x0 => kernel_rfl
        case hr2x0 => kernel_rfl
        case hy2x0 => (refine Or.inl ⟨by rfl, ?_⟩; intro w hSw; (try dsimp only at hSw); go_simp; try with_reducible rfl)
        simp only [put_mk, List.set_cons_succ, List.set_cons_zero]
        refine wpAnyH_take (i := 1) (oi := ?o2x1) (v := ?v2x1) ?hi2x1 (by kernel_rfl) ?hf2x1 ?hr2x1 (fun _ _ _ h => h) ?hy2x1 (by assumption) ?rest2x1
        case hi2x1 => (simp only [List.getElem?_toArray, List.getElem?_cons_succ, List.getElem?_cons_zero]; exact rfl)
        case hf2x1 => kernel_rfl
        case hr2x1 => kernel_rfl
        case hy2x1 => (refine Or.inl ⟨by rfl, ?_⟩; intro w hSw; (try dsimp only at hSw); go_simp; try with_reducible rfl)
        simp only [put_mk, List.set_cons_succ, List.set_cons_zero]
        refine wpAnyH_take (i := 2) (oi := ?o2x2) (v := ?v2x2) ?hi2x2 (by kernel_rfl) ?hf2x2 ?hr2x2 (fun _ _ _ h => h) ?hy2x2 (by assumption) ?rest2x2
        case hi2x2 => (simp only [List.getElem?_toArray, List.getElem?_cons_succ, List.getElem?_cons_zero]; exact rfl)
        case hf2x2 => kernel_rfl
        case hr2x2 => kernel_rfl
        case hy2x2 => (refine Or.inl ⟨by rfl, ?_⟩; intro w hSw; (try dsimp only at hSw); go_simp; try with_reducible rfl)
        simp only [put_mk, List.set_cons_succ, List.set_cons_zero]
        refine wpAnyH_take (i := 3) (oi := ?o2x3) (v := ?v2x3) ?hi2x3 (by kernel_rfl) ?hf2x3 ?hr2x3 (fun _ _ _ h => h) ?hy2x3 (by assumption) ?rest2x3
        case hi2x3 => (simp only [List.getElem?_toArray, List.getElem?_cons_succ, List.getElem?_cons_zero]; exact rfl)
        case hf2x3 => kernel_rfl
        case hr2x3 => kernel_rfl
        case hy2x3 => (refine Or.inl ⟨by rfl, ?_⟩; intro w hSw; (try dsimp only at hSw); go_simp; try with_reducible rfl)
        simp only [put_mk, List.set_cons_succ, List.set_cons_zero]
        refine wpAnyH_take (i := 4) (oi := ?o2x4) (v := ?v2x4) ?hi2x4 (by kernel_rfl) ?hf2x4 ?hr2x4 (fun _ _ _ h => h) ?hy2x4 (by assumption) ?rest2x4
        case hi2x4 => (simp only [List.getElem?_toArray, List.getElem?_cons_succ, List.getElem?_cons_zero]; exact rfl)
        case hf2x4 => kernel_rfl
        case hr2x4 => kernel_rfl
        case hy2x4 => (refine Or.inl ⟨by rfl, ?_⟩; intro w hSw; (try dsimp only at hSw); go_simp; try with_reducible rfl)
        simp only [put_mk, List.set_cons_succ, List.set_cons_zero]
        refine wpAnyH_take (i := 5) (oi := ?o2x5) (v := ?v2x5) ?hi2x5 (by kernel_rfl) ?hf2x5 ?hr2x5 (fun _ _ _ h => h) ?hy2x5 (by assumption) ?rest2x5
        case hi2x5 => (simp only [List.getElem?_toArray, List.getElem?_cons_succ, List.getElem?_cons_zero]; exact rfl)
        case hf2x5 => kernel_rfl
        case hr2x5 => kernel_rfl
        case hy2x5 => (refine Or.inl ⟨by rfl, ?_⟩; intro w hSw; (try dsimp only at hSw); go_simp; try with_reducible rfl)
        simp only [put_mk, List.set_cons_succ, List.set_cons_zero]
        refine wpAnyH_take (i := 6) (oi := ?o2x6) (v := ?v2x6) ?hi2x6 (by kernel_rfl) ?hf2x6 ?hr2x6 (fun _ _ _ h => h) ?hy2x6 (by assumption) ?rest2x6
        case hi2x6 => (simp only [List.getElem?_toArray, List.getElem?_cons_succ, List.getElem?_cons_zero]; exact rfl)
        case hf2x6 => kernel_rfl
        case hr2x6 => kernel_rfl
        case hy2x6 => (refine Or.inl ⟨by rfl, ?_⟩; intro w hSw; (try dsimp only at hSw); go_simp; try with_reducible rfl)
        simp only [put_mk, List.set_cons_succ, List.set_cons_zero]
        refine wpAnyH_take (i := 7) (oi := ?o2x7) (v := ?v2x7) ?hi2x7 (by kernel_rfl) ?hf2x7 ?hr2x7 (fun _ _ _ h => h) ?hy2x7 (by assumption) ?rest2x7
        case hi2x7 => (simp only [List.getElem?_toArray, List.getElem?_cons_succ, List.getElem?_cons_zero]; exact rfl)
        case hf2x7 => kernel_rfl
        case hr2x7 => kernel_rfl
        case hy2x7 => (refine Or.inl ⟨by rfl, ?_⟩; intro w hSw; (try dsimp only at hSw); go_simp; try with_reducible rfl)
        simp only [put_mk, List.set_cons_succ, List.set_cons_zero]
        refine wpAnyH_ready (rs := [8]) (by kernel_rfl) (by simp) ?_
        refine AllReadyH.cons (o := ?o2x8) ?hi2x8 (fun K hK => ?_) AllReadyH.nil
        case hi2x8 => (simp only [List.getElem?_toArray, List.getElem?_cons_succ, List.getElem?_cons_zero]; exact rfl)
        go_simp
        go_at_call 66
        refine ((HCt _).out).mono ?_
        rintro e wb ⟨rfl, hxb⟩
        refine hK.out _ _ ?_ (fun hHeld => ?_)
        · (repeat (first | exact Ext.refl _ | assumption | refine Ext.setCell ?_ (by first | (simp; done) | (simp; omega)) _ | refine Ext.drewN ?_ _ | refine Ext.alloc ?_ _ | refine Ext.drew ?_ | refine Ext.trans ?_ (by assumption)))
        clear hK K
        refine wpAnyH_take (i := 9) (oi := ?o2x9) (v := ?v2x9) ?hi2x9 (by kernel_rfl) ?hf2x9 ?hr2x9 (fun _ _ _ h => h) ?hy2x9 (by assumption) ?rest2x9
        case hi2x9 => (simp only [List.getElem?_toArray, List.getElem?_cons_succ, List.getElem?_cons_zero]; exact rfl)
        case hf2x9 => kernel_rfl
        case hr2x9 => kernel_rfl
        case hy2x9 => (refine Or.inl ⟨by rfl, ?_⟩; intro w hSw; (try dsimp only at hSw); go_simp; try with_reducible rfl)
        simp only [put_mk, List.set_cons_succ, List.set_cons_zero]
        refine wpAnyH_take (i := 10) (oi := ?o2x10) (v := ?v2x10) ?hi2x10 (by kernel_rfl) ?hf2x10 ?hr2x10 (fun _ _ _ h => h) ?hy2x10 (by assumption) ?rest2x10
        case hi2x10 => (simp only [List.getElem?_toArray, List.getElem?_cons_succ, List.getElem?_cons_zero]; exact rfl)
        case hf2x10 => kernel_rfl
        case hr2x10 => kernel_rfl
        case hy2x10 => (refine Or.inl ⟨by rfl, ?_⟩; intro w hSw; (try dsimp only at hSw); go_simp; try with_reducible rfl)
        simp only [put_mk, List.set_cons_succ, List.set_cons_zero]
        refine wpAnyH_take (i := 11) (oi := ?o2x11) (v := ?v2x11) ?hi2x11 (by kernel_rfl) ?hf2x11 ?hr2x11 (fun _ _ _ h => h) ?hy2x11 (by assumption) ?rest2x11
        case hi2x11 => (simp only [List.getElem?_toArray, List.getElem?_cons_succ, List.getElem?_cons_zero]; exact rfl)
        case hf2x11 => kernel_rfl
        case hr2x11 => kernel_rfl
        case hy2x11 => (refine Or.inl ⟨by rfl, ?_⟩; intro w hSw; (try dsimp only at hSw); go_simp; try with_reducible rfl)
        simp only [put_mk, List.set_cons_succ, List.set_cons_zero]
        refine wpAnyH_take (i := 12) (oi := ?o2x12) (v := ?v2x12) ?hi2x12 (by kernel_rfl) ?hf2x12 ?hr2x12 (fun _ _ _ h => h) ?hy2x12 (by assumption) ?rest2x12
        case hi2x12 => (simp only [List.getElem?_toArray, List.getElem?_cons_succ, List.getElem?_cons_zero]; exact rfl)
        case hf2x12 => kernel_rfl
        case hr2x12 => kernel_rfl
        case hy2x12 => (refine Or.inl ⟨by rfl, ?_⟩; intro w hSw; (try dsimp only at hSw); go_simp; try with_reducible rfl)
        simp only [put_mk, List.set_cons_succ, List.set_cons_zero]
        refine wpAnyH_take (i := 13) (oi := ?o2x13) (v := ?v2x13) ?hi2x13 (by kernel_rfl) ?hf2x13 ?hr2x13 (fun _ _ _ h => h) ?hy2x13 (by assumption) ?rest2x13
        case hi2x13 => (simp only [List.getElem?_toArray, List.getElem?_cons_succ, List.getElem?_cons_zero]; exact rfl)
        case hf2x13 => kernel_rfl
        case hr2x13 => kernel_rfl
        case hy2x13 => (refine Or.inl ⟨by rfl, ?_⟩; intro w hSw; (try dsimp only at hSw); go_simp; try with_reducible rfl)
        simp only [put_mk, List.set_cons_succ, List.set_cons_zero]
        refine wpAnyH_done (by kernel_rfl) ?_ _
        refine NoPanic.normal ?_
        go_wp2
        refine bodyPost_ret (v := .tuple #[.slice (some adY) q cY, .float .f32 (P tq), .bool true]) (by simp [results, Try.results25, go_sem]) rfl ?_
        have e1 : ((k :: r).reverse).length = q := by rw [Hq.out, Hys.out, List.length_reverse, List.length_map]
        have e2 : (k :: r).reverse.reverse.map (cpt X Y Wn) = ys := by rw [List.reverse_reverse, ← Hys.out]
        refine ⟨sn, P, HP.out, Hx9.out.trans hHeld, .inr ⟨Hsn.out, H, (k :: r).reverse, some adY, cY, HH.out, ?_, by rw [e1], ?_⟩⟩
        · rw [List.reverse_cons]; exact Hc9.out
        · rw [e2]; exact HyR2.out.ext hHeld
end Go.Proofs.Ytpgdinpckolfpaa
