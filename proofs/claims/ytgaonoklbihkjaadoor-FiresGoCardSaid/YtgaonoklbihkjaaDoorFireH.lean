/- Contracts: plant.Burn where it refuses, slices.Equal of integers that are the same; the walk of the law FiresGo. -/
import Derived.Test.YtgaonoklbihkjaaDoorFireG
namespace Go.Proofs.YtgaonoklbihkjaaDoor
open Go.RowKit
attribute [local go_sem ↓] Go.wp_at_zero Go.wp_at_succ
attribute [local go_sem] run_store_float

set_option maxRecDepth 100000 in
set_option maxHeartbeats 1600000 in
theorem eqInts_same (A B : Option Addr) (n c d : Nat) (q : List Nat) (w : World) (hn : q.length = n) (ha : Rd w A (ints q)) (hb : Rd w B (ints q)) (hnb : n ≤ 4000000) :
    Calls Tryd.prog 27 #[.slice A n c, .slice B n d] w fun e w' => e = .returned (.bool true) ∧ Ext w w' := by
  have Hn := hidA hn
  clear hn
  go_enter Tryd.func27, Tryd.ntmps27
  go_wp2
  go_loopw [13] (fun i wr => ∃ k m : Nat, k ≤ n ∧ i = .int .i64 k ∧ wr = w.drewN m) (fun i _ => n - (intOf i).toNat)
  case atStart => exact ⟨0, 0, Nat.zero_le _, rfl, rfl⟩
  case round =>
    obtain ⟨k, m, hk, rfl, rfl⟩ := hrel
    by_cases hlt : k < n
    · have hkl : k < q.length := by have := Hn.out; omega
      obtain ⟨ad, rfl, hbk, _⟩ := ha.at (k := k) (by rw [ints_length]; exact hkl)
      obtain ⟨ad2, rfl, hbk2, _⟩ := hb.at (k := k) (by rw [ints_length]; exact hkl)
      have e0 := ha.reads k _ (ints_get hkl)
      have e2 := hb.reads k _ (ints_get hkl)
      generalize q[k] = v at *
      have k0 : (0 : Int) ≤ k := by omega
      have k1 : (k : Int) < n := by omega
      clear ha hb
      go_wp2
      go_quiet (fail)
      go_wp2
      go_roundw
      case rel => exact ⟨k + 1, _, by omega, by go_num, rfl⟩
      case measure => simp [intOf]; omega
    · obtain rfl : k = n := by omega
      go_wp2
      go_ret
      exact ⟨rfl, (by repeat (first | exact Ext.refl _ | assumption | refine Ext.setCell ?_ (by first | (simp; done) | (simp; omega)) _ | refine Ext.drewN ?_ _ | refine Ext.alloc ?_ _ | refine Ext.drew ?_ | refine Ext.trans ?_ (by assumption)))⟩

def windB (wind : Int) : Bool := decide (-1 ≤ wind) && decide (wind ≤ 7)
def farN (x y : Int) : Int := if (spot x y).farB = true then 5 else 0
def windN (wind : Int) : Int := if (!windB wind) = true then 3 else 0
def burnE (l : List KindR) (p : List PlantR) (x y wind : Int) : Int := firstE [plantsE l p, farN x y, windN wind]
theorem burnE_eq (l : List KindR) (p : List PlantR) (x y wind : Int) : burnE l p x y wind = if plantsE l p ≠ 0 then plantsE l p else if (spot x y).farB = true then 5 else if windB wind = true then 0 else 3 := by
  unfold burnE farN windN
  by_cases h1 : plantsE l p = 0
  · rw [h1]
    cases (spot x y).farB <;> cases windB wind <;> rfl
  · simp [firstE, h1]
theorem burnE_zero {l : List KindR} {p : List PlantR} {x y wind : Int} (h : burnE l p x y wind = 0) : plantsE l p = 0 ∧ (spot x y).farB = false ∧ windB wind = true := by
  rw [burnE_eq] at h
  split at h
  · rename_i h1; exact absurd h h1
  · rename_i h1
    have h1 : plantsE l p = 0 := by simpa using h1
    cases hf : (spot x y).farB
    · rw [hf, if_neg (by decide)] at h
      cases hw : windB wind
      · rw [hw, if_neg (by decide)] at h; cases h
      · exact ⟨h1, rfl, rfl⟩
    · rw [hf, if_pos rfl] at h; cases h

set_option maxRecDepth 100000 in
set_option maxHeartbeats 3200000 in
theorem Burn_bad (A : Option Addr) (n c : Nat) (l : List KindR) (B : Option Addr) (m d : Nat) (p : List PlantR) (ax ay wind : Int) (w : World) (hn : l.length = n) (hd : Rd w A (kcells l)) (hb : n ≤ 4000000000000) (hc : n ≤ c) (hsz : ∀ x ∈ l, x.s.size ≤ 9223372036854775807) (hm : p.length = m) (hp : Rd w B (pcells p)) (hbm : m ≤ 4000000000000) (hbad : burnE l p ax ay wind ≠ 0) :
    Calls Tryd.prog 26 #[.slice A n c, .slice B m d, .agg #[.int .i64 ax, .int .i64 ay], .int .i64 wind] w fun e w' => e = .returned (.tuple #[.slice none 0 0, .int .i64 (burnE l p ax ay wind)]) ∧ Ext w w' := by
  have HC := fun (w : World) (hd : Rd w A (kcells l)) (hp : Rd w B (pcells p)) => hidA (checkPlants_any A n c l B m d p w hn hd hb hc hsz hm hp hbm)
  have HP := fun (w : World) => hidA (checkPlace_any ax ay w)
  have hfa : (spot ax ay).farB = decide (ax < -4194304 ∨ 4194304 < ax ∨ ay < -4194304 ∨ 4194304 < ay) := rfl
  rw [← hfa] at HP
  clear hfa
  have hE := burnE_eq l p ax ay wind
  have hwB : windB wind = (decide (-1 ≤ wind) && decide (wind ≤ 7)) := rfl
  generalize burnE l p ax ay wind = e0 at *
  by_cases h0 : plantsE l p = 0
  · rw [h0] at HC
    rw [if_neg (by simpa using h0)] at hE
    cases hf : (spot ax ay).farB
    · rw [hf] at HP hE
      rw [if_neg (by decide)] at hE
      have hw : windB wind = false := by
        cases h : windB wind
        · rfl
        · rw [h, if_pos rfl] at hE; exact absurd hE hbad
      rw [hw, if_neg (by decide)] at hE
      subst hE
      rw [hw] at hwB
      have hww : wind < -1 ∨ -1 ≤ wind ∧ 8 ≤ wind := by
        by_cases h1 : -1 ≤ wind
        · right
          by_cases h2 : wind ≤ 7
          · rw [decide_eq_true h1, decide_eq_true h2] at hwB; cases hwB
          · omega
        · left; omega
      clear hw hwB hbad hf h0 hn hm hsz
      rcases hww with hww | ⟨hw1, hw2⟩
      all_goals
        go_enter Tryd.func26, Tryd.ntmps26
        go_wp2_with fail
        refine ((HC _ (((hd.alloc _).alloc _).alloc _) (((hp.alloc _).alloc _).alloc _)).out).mono ?_
        rintro e w1 ⟨rfl, hb1⟩
        have k3 : Bk w1 (w.heap.size + 1 + 1) 36 #[.int .i64 ax, .int .i64 ay] := (Bk.new' (by simp)).ext hb1
        have c0 := k3.cell 0
        have c1 := k3.cell 1
        go_wp2_with fail
        refine ((HP _).out).mono ?_
        rintro e w2 ⟨rfl, rfl⟩
        go_wp2_with fail
        go_ret2
        exact ⟨rfl, (by repeat (first | exact Ext.refl _ | assumption | refine Ext.setCell ?_ (by first | (simp; done) | (simp; omega)) _ | refine Ext.drewN ?_ _ | refine Ext.alloc ?_ _ | refine Ext.drew ?_ | refine Ext.trans ?_ (by assumption)))⟩
    · rw [hf] at HP hE
      rw [if_pos rfl] at hE
      subst hE
      clear hwB hbad hf h0 hn hm hsz
      go_enter Tryd.func26, Tryd.ntmps26
      go_wp2_with fail
      refine ((HC _ (((hd.alloc _).alloc _).alloc _) (((hp.alloc _).alloc _).alloc _)).out).mono ?_
      rintro e w1 ⟨rfl, hb1⟩
      have k3 : Bk w1 (w.heap.size + 1 + 1) 36 #[.int .i64 ax, .int .i64 ay] := (Bk.new' (by simp)).ext hb1
      have c0 := k3.cell 0
      have c1 := k3.cell 1
      go_wp2_with fail
      refine ((HP _).out).mono ?_
      rintro e w2 ⟨rfl, rfl⟩
      go_wp2_with fail
      go_ret2
      exact ⟨rfl, (by repeat (first | exact Ext.refl _ | assumption | refine Ext.setCell ?_ (by first | (simp; done) | (simp; omega)) _ | refine Ext.drewN ?_ _ | refine Ext.alloc ?_ _ | refine Ext.drew ?_ | refine Ext.trans ?_ (by assumption)))⟩
  · rw [if_pos h0] at hE
    rw [← hE] at HC
    have b0 : (e0 != 0) = true := by simpa using hbad
    clear hE hwB hbad h0 hn hm hsz
    go_enter Tryd.func26, Tryd.ntmps26
    go_wp2_with fail
    refine ((HC _ (((hd.alloc _).alloc _).alloc _) (((hp.alloc _).alloc _).alloc _)).out).mono ?_
    rintro e w1 ⟨rfl, hb1⟩
    go_wp2_with fail
    go_ret2
    exact ⟨rfl, (by repeat (first | exact Ext.refl _ | assumption | refine Ext.setCell ?_ (by first | (simp; done) | (simp; omega)) _ | refine Ext.drewN ?_ _ | refine Ext.alloc ?_ _ | refine Ext.drew ?_ | refine Ext.trans ?_ (by assumption)))⟩

set_option maxRecDepth 100000 in
set_option maxHeartbeats 6400000 in
theorem fires_bad (A : Option Addr) (n c : Nat) (l : List KindR) (B : Option Addr) (m d : Nat) (p : List PlantR) (ax ay wind : Int) (w : World) (hn : l.length = n) (hd : Rd w A (kcells l)) (hb : n ≤ 4000000000000) (hc : n ≤ c) (hsz : ∀ x ∈ l, x.s.size ≤ 9223372036854775807) (hm : p.length = m) (hp : Rd w B (pcells p)) (hbm : m ≤ 4000000000000) (hbad : burnE l p ax ay wind ≠ 0) :
    Calls Tryd.prog 6 #[.slice A n c, .slice B m d, .agg #[.int .i64 ax, .int .i64 ay], .int .i64 wind] w fun e w' => e = .returned (.bool true) ∧ Ext w w' := by
  have HBn := fun (w : World) (hd : Rd w A (kcells l)) (hp : Rd w B (pcells p)) => hidA (Burn_bad A n c l B m d p ax ay wind w hn hd hb hc hsz hm hp hbm hbad)
  have HP := fun (w : World) (hd : Rd w A (kcells l)) (hp : Rd w B (pcells p)) => hidA (plantsError_any A n c l B m d p w hn hd hb hc hsz hm hp hbm)
  have HG := fun (w : World) => hidA (grows_any w)
  have HI1 := fun (w : World) => hidA (within_any ax (-4194304) 4194304 w)
  have HI2 := fun (w : World) => hidA (within_any ay (-4194304) 4194304 w)
  have HI3 := fun (w : World) => hidA (within_any wind (-1) 7 w)
  have HS0 := fun (A : Option Addr) (w : World) (hr : Rd w A ([plantsE l p, farN ax ay, windN wind].map (.int .i64))) => hidA (first_any A 3 3 [plantsE l p, farN ax ay, windN wind] w rfl hr (by omega))
  have hS0 : firstE [plantsE l p, farN ax ay, windN wind] = burnE l p ax ay wind := rfl
  rw [hS0] at HS0
  have b0 : (burnE l p ax ay wind != 0) = true := by simpa using hbad
  have HW3 := fun (w : World) => hidA (when_any (!windB wind) 3 w)
  have hw3 : (if (!windB wind) = true then (3 : Int) else 0) = windN wind := rfl
  rw [hw3] at HW3
  have hwB : (decide (-1 ≤ wind) && decide (wind ≤ 7)) = windB wind := rfl
  rw [hwB] at HI3
  have HW20 := fun (b : Bool) (w : World) => hidA (when_any b 5 w)
  have hfar : farN ax ay = if (!(decide (-4194304 ≤ ax) && decide (ax ≤ 4194304)) || !(decide (-4194304 ≤ ay) && decide (ay ≤ 4194304))) = true then 5 else 0 := by unfold farN; rw [spot_far]
  generalize burnE l p ax ay wind = e0 at *
  generalize plantsE l p = eP at *
  generalize windN wind = eW at *
  generalize farN ax ay = eF at *
  generalize windB wind = wb at *
  generalize (decide (-4194304 ≤ ax) && decide (ax ≤ 4194304)) = r1 at *
  generalize (decide (-4194304 ≤ ay) && decide (ay ≤ 4194304)) = r2 at *
  clear hS0 hw3 hwB hbad hn hm hsz
  go_enter Tryd.func6, Tryd.ntmps6
  go_wp2_with fail
  refine ((HBn _ (hd.alloc _) (hp.alloc _)).out).mono ?_
  rintro e w1 ⟨rfl, hb1⟩
  have k3 : Bk w1 w.heap.size 36 #[.int .i64 ax, .int .i64 ay] := (Bk.new' rfl).ext hb1
  have hx1 : Ext w w1 := ((Ext.refl w).alloc _).trans hb1
  have hd1 := hd.ext hx1
  have hp1 := hp.ext hx1
  clear HBn hb1 hd hp
  have a0 : ∀ w', Ext w1 w' → w'.cell? ⟨w.heap.size, 0, none⟩ = some (.int .i64 ax) := fun w' h => (k3.ext h).cell 0
  have a1 : ∀ w', Ext w1 w' → w'.cell? ⟨w.heap.size, 1, none⟩ = some (.int .i64 ay) := fun w' h => (k3.ext h).cell 1
  cases r1
  · have HW2 : ∀ w : World, Hid (Calls Tryd.prog 11 #[.bool true, .int .i64 5] w fun e w' => e = .returned (.int .i64 eF) ∧ w = w') := by rw [hfar]; exact HW20 true
    have HS1 := fun (A : Option Addr) (w : World) (hr : Rd w A ([eP, eF, eW].map (.int .i64))) => HS0 A w hr
    clear HS0 HW20 hfar
    go_upto_region 2 with fail
    refine wp_region_noPanic ?_
    refine wp_region_held_drew (S := fun w' => Ext w1 w') (by kernel_rfl) ?_ (fun hHeld => ?_)
    · (repeat (first | exact Ext.refl _ | assumption | refine Ext.setCell ?_ (by first | (simp; done) | (simp; omega)) _ | refine Ext.drewN ?_ _ | refine Ext.alloc ?_ _ | refine Ext.drew ?_ | refine Ext.trans ?_ (by assumption)))
    refine wpAnyH_take (i := 0) (oi := ?o1x0) (v := ?v1x0) ?hi1x0 (by kernel_rfl) ?hf1x0 ?hr1x0 (fun _ _ _ h => h) ?hy1x0 (by assumption) ?rest1x0
    case hi1x0 => (simp only [List.getElem?_toArray, List.getElem?_cons_zero]; exact rfl)
    case hf1x0 => kernel_rfl
    case hr1x0 => kernel_rfl
    case hy1x0 => (refine Or.inl ⟨by rfl, ?_⟩; intro w hSw; (try dsimp only at hSw); go_simp; try with_reducible rfl)
    simp only [put_mk, List.set_cons_succ, List.set_cons_zero]
    refine wpAnyH_take (i := 1) (oi := ?o1x1) (v := ?v1x1) ?hi1x1 (by kernel_rfl) ?hf1x1 ?hr1x1 (fun _ _ _ h => h) ?hy1x1 (by assumption) ?rest1x1
    case hi1x1 => (simp only [List.getElem?_toArray, List.getElem?_cons_succ, List.getElem?_cons_zero]; exact rfl)
    case hf1x1 => kernel_rfl
    case hr1x1 => kernel_rfl
    case hy1x1 => (refine Or.inl ⟨by rfl, ?_⟩; intro w hSw; (try dsimp only at hSw); go_simp; try with_reducible rfl)
    simp only [put_mk, List.set_cons_succ, List.set_cons_zero]
    refine wpAnyH_take (i := 3) (oi := ?o1x3) (v := ?v1x3) ?hi1x3 (by kernel_rfl) ?hf1x3 ?hr1x3 (fun _ _ _ h => h) ?hy1x3 (by assumption) ?rest1x3
    case hi1x3 => (simp only [List.getElem?_toArray, List.getElem?_cons_succ, List.getElem?_cons_zero]; exact rfl)
    case hf1x3 => kernel_rfl
    case hr1x3 => kernel_rfl
    case hy1x3 => (refine Or.inl ⟨by rfl, ?_⟩; intro w hSw; (try dsimp only at hSw); go_simp; try with_reducible rfl)
    simp only [put_mk, List.set_cons_succ, List.set_cons_zero]
    refine wpAnyH_take (i := 4) (oi := ?o1x4) (v := ?v1x4) ?hi1x4 (by kernel_rfl) ?hf1x4 ?hr1x4 (fun _ _ _ h => h) ?hy1x4 (by assumption) ?rest1x4
    case hi1x4 => (simp only [List.getElem?_toArray, List.getElem?_cons_succ, List.getElem?_cons_zero]; exact rfl)
    case hf1x4 => kernel_rfl
    case hr1x4 => kernel_rfl
    case hy1x4 => (refine Or.inl ⟨by rfl, ?_⟩; intro w hSw; (try dsimp only at hSw); go_simp; try with_reducible rfl)
    simp only [put_mk, List.set_cons_succ, List.set_cons_zero]
    refine wpAnyH_take (i := 14) (oi := ?o1x14) (v := ?v1x14) ?hi1x14 (by kernel_rfl) ?hf1x14 ?hr1x14 (fun _ _ _ h => h) ?hy1x14 (by assumption) ?rest1x14
    case hi1x14 => (simp only [List.getElem?_toArray, List.getElem?_cons_succ, List.getElem?_cons_zero]; exact rfl)
    case hf1x14 => kernel_rfl
    case hr1x14 => kernel_rfl
    case hy1x14 => (refine Or.inl ⟨by rfl, ?_⟩; intro w hSw; (try dsimp only at hSw); go_simp; try with_reducible rfl)
    simp only [put_mk, List.set_cons_succ, List.set_cons_zero]
    refine wpAnyH_ready (rs := [2]) (by kernel_rfl) (by simp) ?_
    refine AllReadyH.cons (o := ?o1x2) ?hi1x2 (fun K hK => ?_) AllReadyH.nil
    case hi1x2 => (simp only [List.getElem?_toArray, List.getElem?_cons_succ, List.getElem?_cons_zero]; exact rfl)
    go_simp
    refine ((HP _ (hd1.ext (by repeat (first | exact Ext.refl _ | assumption | refine Ext.setCell ?_ (by first | (simp; done) | (simp; omega)) _ | refine Ext.drewN ?_ _ | refine Ext.alloc ?_ _ | refine Ext.drew ?_ | refine Ext.trans ?_ (by assumption)))) (hp1.ext (by repeat (first | exact Ext.refl _ | assumption | refine Ext.setCell ?_ (by first | (simp; done) | (simp; omega)) _ | refine Ext.drewN ?_ _ | refine Ext.alloc ?_ _ | refine Ext.drew ?_ | refine Ext.trans ?_ (by assumption))))).out).mono ?_
    rintro e w8 ⟨rfl, hb8⟩
    refine hK.out _ _ ?_ (fun hHeld => ?_)
    · (repeat (first | exact Ext.refl _ | assumption | refine Ext.setCell ?_ (by first | (simp; done) | (simp; omega)) _ | refine Ext.drewN ?_ _ | refine Ext.alloc ?_ _ | refine Ext.drew ?_ | refine Ext.trans ?_ (by assumption)))
    clear hK K
    refine wpAnyH_ready (rs := [5]) (by kernel_rfl) (by simp) ?_
    refine AllReadyH.cons (o := ?o1x5) ?hi1x5 (fun K hK => ?_) AllReadyH.nil
    case hi1x5 => (simp only [List.getElem?_toArray, List.getElem?_cons_succ, List.getElem?_cons_zero]; exact rfl)
    go_simp
    refine ((HI1 _).out).mono ?_
    rintro e w7 ⟨rfl, hw7⟩
    subst hw7
    refine hK.out _ _ ?_ (fun hHeld => ?_)
    · (repeat (first | exact Ext.refl _ | assumption | refine Ext.setCell ?_ (by first | (simp; done) | (simp; omega)) _ | refine Ext.drewN ?_ _ | refine Ext.alloc ?_ _ | refine Ext.drew ?_ | refine Ext.trans ?_ (by assumption)))
    clear hK K
    refine wpAnyH_take (i := 6) (oi := ?o1x6) (v := ?v1x6) ?hi1x6 (by kernel_rfl) ?hf1x6 ?hr1x6 (fun _ _ _ h => h) ?hy1x6 (by assumption) ?rest1x6
    case hi1x6 => (simp only [List.getElem?_toArray, List.getElem?_cons_succ, List.getElem?_cons_zero]; exact rfl)
    case hf1x6 => kernel_rfl
    case hr1x6 => kernel_rfl
    case hy1x6 => (refine Or.inl ⟨by rfl, ?_⟩; intro w hSw; (try dsimp only at hSw); go_simp; try with_reducible rfl)
    simp only [put_mk, List.set_cons_succ, List.set_cons_zero]
    refine wpAnyH_take (i := 7) (oi := ?o1x7) (v := ?v1x7) ?hi1x7 (by kernel_rfl) ?hf1x7 ?hr1x7 (fun _ _ _ h => h) ?hy1x7 (by assumption) ?rest1x7
    case hi1x7 => (simp only [List.getElem?_toArray, List.getElem?_cons_succ, List.getElem?_cons_zero]; exact rfl)
    case hf1x7 => kernel_rfl
    case hr1x7 => kernel_rfl
    case hy1x7 => (refine Or.inl ⟨by rfl, ?_⟩; intro w hSw; (try dsimp only at hSw); go_simp; try with_reducible rfl)
    simp only [put_mk, List.set_cons_succ, List.set_cons_zero]
    refine wpAnyH_take (i := 8) (oi := ?o1x8) (v := undef) ?hi1x8 (by kernel_rfl) ?hf1x8 ?hr1x8 (fun _ _ _ h => h) ?hy1x8 (by assumption) ?rest1x8
    case hi1x8 => (simp only [List.getElem?_toArray, List.getElem?_cons_succ, List.getElem?_cons_zero]; exact rfl)
    case hf1x8 => kernel_rfl
    case hr1x8 => kernel_rfl
    case hy1x8 => exact Or.inr ⟨by rfl, rfl⟩
    simp only [put_mk, List.set_cons_succ, List.set_cons_zero]
    refine wpAnyH_take (i := 9) (oi := ?o1x9) (v := undef) ?hi1x9 (by kernel_rfl) ?hf1x9 ?hr1x9 (fun _ _ _ h => h) ?hy1x9 (by assumption) ?rest1x9
    case hi1x9 => (simp only [List.getElem?_toArray, List.getElem?_cons_succ, List.getElem?_cons_zero]; exact rfl)
    case hf1x9 => kernel_rfl
    case hr1x9 => kernel_rfl
    case hy1x9 => exact Or.inr ⟨by rfl, rfl⟩
    simp only [put_mk, List.set_cons_succ, List.set_cons_zero]
    refine wpAnyH_take (i := 10) (oi := ?o1x10) (v := undef) ?hi1x10 (by kernel_rfl) ?hf1x10 ?hr1x10 (fun _ _ _ h => h) ?hy1x10 (by assumption) ?rest1x10
    case hi1x10 => (simp only [List.getElem?_toArray, List.getElem?_cons_succ, List.getElem?_cons_zero]; exact rfl)
    case hf1x10 => kernel_rfl
    case hr1x10 => kernel_rfl
    case hy1x10 => exact Or.inr ⟨by rfl, rfl⟩
    simp only [put_mk, List.set_cons_succ, List.set_cons_zero]
    refine wpAnyH_take (i := 11) (oi := ?o1x11) (v := undef) ?hi1x11 (by kernel_rfl) ?hf1x11 ?hr1x11 (fun _ _ _ h => h) ?hy1x11 (by assumption) ?rest1x11
    case hi1x11 => (simp only [List.getElem?_toArray, List.getElem?_cons_succ, List.getElem?_cons_zero]; exact rfl)
    case hf1x11 => kernel_rfl
    case hr1x11 => kernel_rfl
    case hy1x11 => exact Or.inr ⟨by rfl, rfl⟩
    simp only [put_mk, List.set_cons_succ, List.set_cons_zero]
    refine wpAnyH_take (i := 12) (oi := ?o1x12) (v := ?v1x12) ?hi1x12 (by kernel_rfl) ?hf1x12 ?hr1x12 (fun _ _ _ h => h) ?hy1x12 (by assumption) ?rest1x12
    case hi1x12 => (simp only [List.getElem?_toArray, List.getElem?_cons_succ, List.getElem?_cons_zero]; exact rfl)
    case hf1x12 => kernel_rfl
    case hr1x12 => kernel_rfl
    case hy1x12 => (refine Or.inl ⟨by rfl, ?_⟩; intro w hSw; (try dsimp only at hSw); go_simp; try with_reducible rfl)
    simp only [put_mk, List.set_cons_succ, List.set_cons_zero]
    refine wpAnyH_ready (rs := [13]) (by kernel_rfl) (by simp) ?_
    refine AllReadyH.cons (o := ?o1x13) ?hi1x13 (fun K hK => ?_) AllReadyH.nil
    case hi1x13 => (simp only [List.getElem?_toArray, List.getElem?_cons_succ, List.getElem?_cons_zero]; exact rfl)
    go_simp
    refine ((HW2 _).out).mono ?_
    rintro e w7 ⟨rfl, hw7⟩
    subst hw7
    refine hK.out _ _ ?_ (fun hHeld => ?_)
    · (repeat (first | exact Ext.refl _ | assumption | refine Ext.setCell ?_ (by first | (simp; done) | (simp; omega)) _ | refine Ext.drewN ?_ _ | refine Ext.alloc ?_ _ | refine Ext.drew ?_ | refine Ext.trans ?_ (by assumption)))
    clear hK K
    refine wpAnyH_ready (rs := [15]) (by kernel_rfl) (by simp) ?_
    refine AllReadyH.cons (o := ?o1x15) ?hi1x15 (fun K hK => ?_) AllReadyH.nil
    case hi1x15 => (simp only [List.getElem?_toArray, List.getElem?_cons_succ, List.getElem?_cons_zero]; exact rfl)
    go_simp
    refine ((HI3 _).out).mono ?_
    rintro e w7 ⟨rfl, hw7⟩
    subst hw7
    refine hK.out _ _ ?_ (fun hHeld => ?_)
    · (repeat (first | exact Ext.refl _ | assumption | refine Ext.setCell ?_ (by first | (simp; done) | (simp; omega)) _ | refine Ext.drewN ?_ _ | refine Ext.alloc ?_ _ | refine Ext.drew ?_ | refine Ext.trans ?_ (by assumption)))
    clear hK K
    refine wpAnyH_take (i := 16) (oi := ?o1x16) (v := ?v1x16) ?hi1x16 (by kernel_rfl) ?hf1x16 ?hr1x16 (fun _ _ _ h => h) ?hy1x16 (by assumption) ?rest1x16
    case hi1x16 => (simp only [List.getElem?_toArray, List.getElem?_cons_succ, List.getElem?_cons_zero]; exact rfl)
    case hf1x16 => kernel_rfl
    case hr1x16 => kernel_rfl
    case hy1x16 => (refine Or.inl ⟨by rfl, ?_⟩; intro w hSw; (try dsimp only at hSw); go_simp; try with_reducible rfl)
    simp only [put_mk, List.set_cons_succ, List.set_cons_zero]
    refine wpAnyH_ready (rs := [17]) (by kernel_rfl) (by simp) ?_
    refine AllReadyH.cons (o := ?o1x17) ?hi1x17 (fun K hK => ?_) AllReadyH.nil
    case hi1x17 => (simp only [List.getElem?_toArray, List.getElem?_cons_succ, List.getElem?_cons_zero]; exact rfl)
    go_simp
    refine ((HW3 _).out).mono ?_
    rintro e w7 ⟨rfl, hw7⟩
    subst hw7
    refine hK.out _ _ ?_ (fun hHeld => ?_)
    · (repeat (first | exact Ext.refl _ | assumption | refine Ext.setCell ?_ (by first | (simp; done) | (simp; omega)) _ | refine Ext.drewN ?_ _ | refine Ext.alloc ?_ _ | refine Ext.drew ?_ | refine Ext.trans ?_ (by assumption)))
    clear hK K
    refine wpAnyH_ready (rs := [18]) (by kernel_rfl) (by simp) ?_
    refine AllReadyH.cons (o := ?o1x18) ?hi1x18 (fun K hK => ?_) AllReadyH.nil
    case hi1x18 => (simp only [List.getElem?_toArray, List.getElem?_cons_succ, List.getElem?_cons_zero]; exact rfl)
    go_simp
    refine hK.out _ _ ?_ (fun hHeld => ?_)
    · (repeat (first | exact Ext.refl _ | assumption | refine Ext.setCell ?_ (by first | (simp; done) | (simp; omega)) _ | refine Ext.drewN ?_ _ | refine Ext.alloc ?_ _ | refine Ext.drew ?_ | refine Ext.trans ?_ (by assumption)))
    clear hK K
    refine wpAnyH_ready (rs := [19]) (by kernel_rfl) (by simp) ?_
    refine AllReadyH.cons (o := ?o1x19) ?hi1x19 (fun K hK => ?_) AllReadyH.nil
    case hi1x19 => (simp only [List.getElem?_toArray, List.getElem?_cons_succ, List.getElem?_cons_zero]; exact rfl)
    go_simp
    refine ((HS1 _ _ (by first | exact rd_newd (by first | rfl | simp) rfl | exact Rd.new (by first | rfl | simp) rfl)).out).mono ?_
    rintro e w7 ⟨rfl, hw7⟩
    subst hw7
    refine hK.out _ _ ?_ (fun hHeld => ?_)
    · (repeat (first | exact Ext.refl _ | assumption | refine Ext.setCell ?_ (by first | (simp; done) | (simp; omega)) _ | refine Ext.drewN ?_ _ | refine Ext.alloc ?_ _ | refine Ext.drew ?_ | refine Ext.trans ?_ (by assumption)))
    clear hK K
    refine wpAnyH_take (i := 20) (oi := ?o1x20) (v := ?v1x20) ?hi1x20 (by kernel_rfl) ?hf1x20 ?hr1x20 (fun _ _ _ h => h) ?hy1x20 (by assumption) ?rest1x20
    case hi1x20 => (simp only [List.getElem?_toArray, List.getElem?_cons_succ, List.getElem?_cons_zero]; exact rfl)
    case hf1x20 => kernel_rfl
    case hr1x20 => kernel_rfl
    case hy1x20 => (refine Or.inl ⟨by rfl, ?_⟩; intro w hSw; (try dsimp only at hSw); go_simp; try with_reducible rfl)
    simp only [put_mk, List.set_cons_succ, List.set_cons_zero]
    refine wpAnyH_done (by kernel_rfl) ?_ _
    refine NoPanic.normal ?_
    go_wp2_with fail
    refine ((HG _).out).mono ?_
    rintro e w9 ⟨rfl, hb9⟩
    go_wp2_with fail
    refine ((HG _).out).mono ?_
    rintro e w10 ⟨rfl, hb10⟩
    go_wp2_with fail
    go_ret
    exact ⟨by first | rfl | simp, (by repeat (first | exact Ext.refl _ | assumption | refine Ext.setCell ?_ (by first | (simp; done) | (simp; omega)) _ | refine Ext.drewN ?_ _ | refine Ext.alloc ?_ _ | refine Ext.drew ?_ | refine Ext.trans ?_ (by assumption)))⟩
  · have HW2 : ∀ w : World, Hid (Calls Tryd.prog 11 #[.bool (!r2), .int .i64 5] w fun e w' => e = .returned (.int .i64 eF) ∧ w = w') := by rw [hfar]; exact HW20 (!r2)
    have HS1 := fun (A : Option Addr) (w : World) (hr : Rd w A ([eP, eF, eW].map (.int .i64))) => HS0 A w hr
    clear HS0 HW20 hfar
    go_upto_region 2 with fail
    refine wp_region_noPanic ?_
    refine wp_region_held_drew (S := fun w' => Ext w1 w') (by kernel_rfl) ?_ (fun hHeld => ?_)
    · (repeat (first | exact Ext.refl _ | assumption | refine Ext.setCell ?_ (by first | (simp; done) | (simp; omega)) _ | refine Ext.drewN ?_ _ | refine Ext.alloc ?_ _ | refine Ext.drew ?_ | refine Ext.trans ?_ (by assumption)))
    refine wpAnyH_take (i := 0) (oi := ?o2x0) (v := ?v2x0) ?hi2x0 (by kernel_rfl) ?hf2x0 ?hr2x0 (fun _ _ _ h => h) ?hy2x0 (by assumption) ?rest2x0
    case hi2x0 => (simp only [List.getElem?_toArray, List.getElem?_cons_zero]; exact rfl)
    case hf2x0 => kernel_rfl
    case hr2x0 => kernel_rfl
    case hy2x0 => (refine Or.inl ⟨by rfl, ?_⟩; intro w hSw; (try dsimp only at hSw); go_simp; try with_reducible rfl)
    simp only [put_mk, List.set_cons_succ, List.set_cons_zero]
    refine wpAnyH_take (i := 1) (oi := ?o2x1) (v := ?v2x1) ?hi2x1 (by kernel_rfl) ?hf2x1 ?hr2x1 (fun _ _ _ h => h) ?hy2x1 (by assumption) ?rest2x1
    case hi2x1 => (simp only [List.getElem?_toArray, List.getElem?_cons_succ, List.getElem?_cons_zero]; exact rfl)
    case hf2x1 => kernel_rfl
    case hr2x1 => kernel_rfl
    case hy2x1 => (refine Or.inl ⟨by rfl, ?_⟩; intro w hSw; (try dsimp only at hSw); go_simp; try with_reducible rfl)
    simp only [put_mk, List.set_cons_succ, List.set_cons_zero]
    refine wpAnyH_take (i := 3) (oi := ?o2x3) (v := ?v2x3) ?hi2x3 (by kernel_rfl) ?hf2x3 ?hr2x3 (fun _ _ _ h => h) ?hy2x3 (by assumption) ?rest2x3
    case hi2x3 => (simp only [List.getElem?_toArray, List.getElem?_cons_succ, List.getElem?_cons_zero]; exact rfl)
    case hf2x3 => kernel_rfl
    case hr2x3 => kernel_rfl
    case hy2x3 => (refine Or.inl ⟨by rfl, ?_⟩; intro w hSw; (try dsimp only at hSw); go_simp; try with_reducible rfl)
    simp only [put_mk, List.set_cons_succ, List.set_cons_zero]
    refine wpAnyH_take (i := 4) (oi := ?o2x4) (v := ?v2x4) ?hi2x4 (by kernel_rfl) ?hf2x4 ?hr2x4 (fun _ _ _ h => h) ?hy2x4 (by assumption) ?rest2x4
    case hi2x4 => (simp only [List.getElem?_toArray, List.getElem?_cons_succ, List.getElem?_cons_zero]; exact rfl)
    case hf2x4 => kernel_rfl
    case hr2x4 => kernel_rfl
    case hy2x4 => (refine Or.inl ⟨by rfl, ?_⟩; intro w hSw; (try dsimp only at hSw); go_simp; try with_reducible rfl)
    simp only [put_mk, List.set_cons_succ, List.set_cons_zero]
    refine wpAnyH_take (i := 14) (oi := ?o2x14) (v := ?v2x14) ?hi2x14 (by kernel_rfl) ?hf2x14 ?hr2x14 (fun _ _ _ h => h) ?hy2x14 (by assumption) ?rest2x14
    case hi2x14 => (simp only [List.getElem?_toArray, List.getElem?_cons_succ, List.getElem?_cons_zero]; exact rfl)
    case hf2x14 => kernel_rfl
    case hr2x14 => kernel_rfl
    case hy2x14 => (refine Or.inl ⟨by rfl, ?_⟩; intro w hSw; (try dsimp only at hSw); go_simp; try with_reducible rfl)
    simp only [put_mk, List.set_cons_succ, List.set_cons_zero]
    refine wpAnyH_ready (rs := [2]) (by kernel_rfl) (by simp) ?_
    refine AllReadyH.cons (o := ?o2x2) ?hi2x2 (fun K hK => ?_) AllReadyH.nil
    case hi2x2 => (simp only [List.getElem?_toArray, List.getElem?_cons_succ, List.getElem?_cons_zero]; exact rfl)
    go_simp
    refine ((HP _ (hd1.ext (by repeat (first | exact Ext.refl _ | assumption | refine Ext.setCell ?_ (by first | (simp; done) | (simp; omega)) _ | refine Ext.drewN ?_ _ | refine Ext.alloc ?_ _ | refine Ext.drew ?_ | refine Ext.trans ?_ (by assumption)))) (hp1.ext (by repeat (first | exact Ext.refl _ | assumption | refine Ext.setCell ?_ (by first | (simp; done) | (simp; omega)) _ | refine Ext.drewN ?_ _ | refine Ext.alloc ?_ _ | refine Ext.drew ?_ | refine Ext.trans ?_ (by assumption))))).out).mono ?_
    rintro e w8 ⟨rfl, hb8⟩
    refine hK.out _ _ ?_ (fun hHeld => ?_)
    · (repeat (first | exact Ext.refl _ | assumption | refine Ext.setCell ?_ (by first | (simp; done) | (simp; omega)) _ | refine Ext.drewN ?_ _ | refine Ext.alloc ?_ _ | refine Ext.drew ?_ | refine Ext.trans ?_ (by assumption)))
    clear hK K
    refine wpAnyH_ready (rs := [5]) (by kernel_rfl) (by simp) ?_
    refine AllReadyH.cons (o := ?o2x5) ?hi2x5 (fun K hK => ?_) AllReadyH.nil
    case hi2x5 => (simp only [List.getElem?_toArray, List.getElem?_cons_succ, List.getElem?_cons_zero]; exact rfl)
    go_simp
    refine ((HI1 _).out).mono ?_
    rintro e w7 ⟨rfl, hw7⟩
    subst hw7
    refine hK.out _ _ ?_ (fun hHeld => ?_)
    · (repeat (first | exact Ext.refl _ | assumption | refine Ext.setCell ?_ (by first | (simp; done) | (simp; omega)) _ | refine Ext.drewN ?_ _ | refine Ext.alloc ?_ _ | refine Ext.drew ?_ | refine Ext.trans ?_ (by assumption)))
    clear hK K
    refine wpAnyH_take (i := 6) (oi := ?o2x6) (v := ?v2x6) ?hi2x6 (by kernel_rfl) ?hf2x6 ?hr2x6 (fun _ _ _ h => h) ?hy2x6 (by assumption) ?rest2x6
    case hi2x6 => (simp only [List.getElem?_toArray, List.getElem?_cons_succ, List.getElem?_cons_zero]; exact rfl)
    case hf2x6 => kernel_rfl
    case hr2x6 => kernel_rfl
    case hy2x6 => (refine Or.inl ⟨by rfl, ?_⟩; intro w hSw; (try dsimp only at hSw); go_simp; try with_reducible rfl)
    simp only [put_mk, List.set_cons_succ, List.set_cons_zero]
    refine wpAnyH_take (i := 7) (oi := ?o2x7) (v := ?v2x7) ?hi2x7 (by kernel_rfl) ?hf2x7 ?hr2x7 (fun _ _ _ h => h) ?hy2x7 (by assumption) ?rest2x7
    case hi2x7 => (simp only [List.getElem?_toArray, List.getElem?_cons_succ, List.getElem?_cons_zero]; exact rfl)
    case hf2x7 => kernel_rfl
    case hr2x7 => kernel_rfl
    case hy2x7 => (refine Or.inl ⟨by rfl, ?_⟩; intro w hSw; (try dsimp only at hSw); go_simp; try with_reducible rfl)
    simp only [put_mk, List.set_cons_succ, List.set_cons_zero]
    refine wpAnyH_take (i := 8) (oi := ?o2x8) (v := ?v2x8) ?hi2x8 (by kernel_rfl) ?hf2x8 ?hr2x8 (fun _ _ _ h => h) ?hy2x8 (by assumption) ?rest2x8
    case hi2x8 => (simp only [List.getElem?_toArray, List.getElem?_cons_succ, List.getElem?_cons_zero]; exact rfl)
    case hf2x8 => kernel_rfl
    case hr2x8 => kernel_rfl
    case hy2x8 => (refine Or.inl ⟨by rfl, ?_⟩; intro w hSw; (try dsimp only at hSw); go_simp; try with_reducible rfl)
    simp only [put_mk, List.set_cons_succ, List.set_cons_zero]
    refine wpAnyH_take (i := 9) (oi := ?o2x9) (v := ?v2x9) ?hi2x9 (by kernel_rfl) ?hf2x9 ?hr2x9 (fun _ _ _ h => h) ?hy2x9 (by assumption) ?rest2x9
    case hi2x9 => (simp only [List.getElem?_toArray, List.getElem?_cons_succ, List.getElem?_cons_zero]; exact rfl)
    case hf2x9 => kernel_rfl
    case hr2x9 => kernel_rfl
    case hy2x9 => (refine Or.inl ⟨by rfl, ?_⟩; intro w hSw; (try dsimp only at hSw); go_simp; try with_reducible rfl)
    simp only [put_mk, List.set_cons_succ, List.set_cons_zero]
    refine wpAnyH_ready (rs := [10]) (by kernel_rfl) (by simp) ?_
    refine AllReadyH.cons (o := ?o2x10) ?hi2x10 (fun K hK => ?_) AllReadyH.nil
    case hi2x10 => (simp only [List.getElem?_toArray, List.getElem?_cons_succ, List.getElem?_cons_zero]; exact rfl)
    go_simp
    refine ((HI2 _).out).mono ?_
    rintro e w7 ⟨rfl, hw7⟩
    subst hw7
    refine hK.out _ _ ?_ (fun hHeld => ?_)
    · (repeat (first | exact Ext.refl _ | assumption | refine Ext.setCell ?_ (by first | (simp; done) | (simp; omega)) _ | refine Ext.drewN ?_ _ | refine Ext.alloc ?_ _ | refine Ext.drew ?_ | refine Ext.trans ?_ (by assumption)))
    clear hK K
    refine wpAnyH_take (i := 11) (oi := ?o2x11) (v := ?v2x11) ?hi2x11 (by kernel_rfl) ?hf2x11 ?hr2x11 (fun _ _ _ h => h) ?hy2x11 (by assumption) ?rest2x11
    case hi2x11 => (simp only [List.getElem?_toArray, List.getElem?_cons_succ, List.getElem?_cons_zero]; exact rfl)
    case hf2x11 => kernel_rfl
    case hr2x11 => kernel_rfl
    case hy2x11 => (refine Or.inl ⟨by rfl, ?_⟩; intro w hSw; (try dsimp only at hSw); go_simp; try with_reducible rfl)
    simp only [put_mk, List.set_cons_succ, List.set_cons_zero]
    refine wpAnyH_take (i := 12) (oi := ?o2x12) (v := ?v2x12) ?hi2x12 (by kernel_rfl) ?hf2x12 ?hr2x12 (fun _ _ _ h => h) ?hy2x12 (by assumption) ?rest2x12
    case hi2x12 => (simp only [List.getElem?_toArray, List.getElem?_cons_succ, List.getElem?_cons_zero]; exact rfl)
    case hf2x12 => kernel_rfl
    case hr2x12 => kernel_rfl
    case hy2x12 => (refine Or.inl ⟨by rfl, ?_⟩; intro w hSw; (try dsimp only at hSw); go_simp; try with_reducible rfl)
    simp only [put_mk, List.set_cons_succ, List.set_cons_zero]
    refine wpAnyH_ready (rs := [13]) (by kernel_rfl) (by simp) ?_
    refine AllReadyH.cons (o := ?o2x13) ?hi2x13 (fun K hK => ?_) AllReadyH.nil
    case hi2x13 => (simp only [List.getElem?_toArray, List.getElem?_cons_succ, List.getElem?_cons_zero]; exact rfl)
    go_simp
    refine ((HW2 _).out).mono ?_
    rintro e w7 ⟨rfl, hw7⟩
    subst hw7
    refine hK.out _ _ ?_ (fun hHeld => ?_)
    · (repeat (first | exact Ext.refl _ | assumption | refine Ext.setCell ?_ (by first | (simp; done) | (simp; omega)) _ | refine Ext.drewN ?_ _ | refine Ext.alloc ?_ _ | refine Ext.drew ?_ | refine Ext.trans ?_ (by assumption)))
    clear hK K
    refine wpAnyH_ready (rs := [15]) (by kernel_rfl) (by simp) ?_
    refine AllReadyH.cons (o := ?o2x15) ?hi2x15 (fun K hK => ?_) AllReadyH.nil
    case hi2x15 => (simp only [List.getElem?_toArray, List.getElem?_cons_succ, List.getElem?_cons_zero]; exact rfl)
    go_simp
    refine ((HI3 _).out).mono ?_
    rintro e w7 ⟨rfl, hw7⟩
    subst hw7
    refine hK.out _ _ ?_ (fun hHeld => ?_)
    · (repeat (first | exact Ext.refl _ | assumption | refine Ext.setCell ?_ (by first | (simp; done) | (simp; omega)) _ | refine Ext.drewN ?_ _ | refine Ext.alloc ?_ _ | refine Ext.drew ?_ | refine Ext.trans ?_ (by assumption)))
    clear hK K
    refine wpAnyH_take (i := 16) (oi := ?o2x16) (v := ?v2x16) ?hi2x16 (by kernel_rfl) ?hf2x16 ?hr2x16 (fun _ _ _ h => h) ?hy2x16 (by assumption) ?rest2x16
    case hi2x16 => (simp only [List.getElem?_toArray, List.getElem?_cons_succ, List.getElem?_cons_zero]; exact rfl)
    case hf2x16 => kernel_rfl
    case hr2x16 => kernel_rfl
    case hy2x16 => (refine Or.inl ⟨by rfl, ?_⟩; intro w hSw; (try dsimp only at hSw); go_simp; try with_reducible rfl)
    simp only [put_mk, List.set_cons_succ, List.set_cons_zero]
    refine wpAnyH_ready (rs := [17]) (by kernel_rfl) (by simp) ?_
    refine AllReadyH.cons (o := ?o2x17) ?hi2x17 (fun K hK => ?_) AllReadyH.nil
    case hi2x17 => (simp only [List.getElem?_toArray, List.getElem?_cons_succ, List.getElem?_cons_zero]; exact rfl)
    go_simp
    refine ((HW3 _).out).mono ?_
    rintro e w7 ⟨rfl, hw7⟩
    subst hw7
    refine hK.out _ _ ?_ (fun hHeld => ?_)
    · (repeat (first | exact Ext.refl _ | assumption | refine Ext.setCell ?_ (by first | (simp; done) | (simp; omega)) _ | refine Ext.drewN ?_ _ | refine Ext.alloc ?_ _ | refine Ext.drew ?_ | refine Ext.trans ?_ (by assumption)))
    clear hK K
    refine wpAnyH_ready (rs := [18]) (by kernel_rfl) (by simp) ?_
    refine AllReadyH.cons (o := ?o2x18) ?hi2x18 (fun K hK => ?_) AllReadyH.nil
    case hi2x18 => (simp only [List.getElem?_toArray, List.getElem?_cons_succ, List.getElem?_cons_zero]; exact rfl)
    go_simp
    refine hK.out _ _ ?_ (fun hHeld => ?_)
    · (repeat (first | exact Ext.refl _ | assumption | refine Ext.setCell ?_ (by first | (simp; done) | (simp; omega)) _ | refine Ext.drewN ?_ _ | refine Ext.alloc ?_ _ | refine Ext.drew ?_ | refine Ext.trans ?_ (by assumption)))
    clear hK K
    refine wpAnyH_ready (rs := [19]) (by kernel_rfl) (by simp) ?_
    refine AllReadyH.cons (o := ?o2x19) ?hi2x19 (fun K hK => ?_) AllReadyH.nil
    case hi2x19 => (simp only [List.getElem?_toArray, List.getElem?_cons_succ, List.getElem?_cons_zero]; exact rfl)
    go_simp
    refine ((HS1 _ _ (by first | exact rd_newd (by first | rfl | simp) rfl | exact Rd.new (by first | rfl | simp) rfl)).out).mono ?_
    rintro e w7 ⟨rfl, hw7⟩
    subst hw7
    refine hK.out _ _ ?_ (fun hHeld => ?_)
    · (repeat (first | exact Ext.refl _ | assumption | refine Ext.setCell ?_ (by first | (simp; done) | (simp; omega)) _ | refine Ext.drewN ?_ _ | refine Ext.alloc ?_ _ | refine Ext.drew ?_ | refine Ext.trans ?_ (by assumption)))
    clear hK K
    refine wpAnyH_take (i := 20) (oi := ?o2x20) (v := ?v2x20) ?hi2x20 (by kernel_rfl) ?hf2x20 ?hr2x20 (fun _ _ _ h => h) ?hy2x20 (by assumption) ?rest2x20
    case hi2x20 => (simp only [List.getElem?_toArray, List.getElem?_cons_succ, List.getElem?_cons_zero]; exact rfl)
    case hf2x20 => kernel_rfl
    case hr2x20 => kernel_rfl
    case hy2x20 => (refine Or.inl ⟨by rfl, ?_⟩; intro w hSw; (try dsimp only at hSw); go_simp; try with_reducible rfl)
    simp only [put_mk, List.set_cons_succ, List.set_cons_zero]
    refine wpAnyH_done (by kernel_rfl) ?_ _
    refine NoPanic.normal ?_
    go_wp2_with fail
    refine ((HG _).out).mono ?_
    rintro e w9 ⟨rfl, hb9⟩
    go_wp2_with fail
    refine ((HG _).out).mono ?_
    rintro e w10 ⟨rfl, hb10⟩
    go_wp2_with fail
    go_ret
    exact ⟨by first | rfl | simp, (by repeat (first | exact Ext.refl _ | assumption | refine Ext.setCell ?_ (by first | (simp; done) | (simp; omega)) _ | refine Ext.drewN ?_ _ | refine Ext.alloc ?_ _ | refine Ext.drew ?_ | refine Ext.trans ?_ (by assumption)))⟩

set_option maxRecDepth 100000 in
set_option maxHeartbeats 6400000 in
theorem fires_ok (A : Option Addr) (n c : Nat) (l : List KindR) (B : Option Addr) (m d : Nat) (p : List PlantR) (ax ay wind : Int) (w : World) (hn : l.length = n) (hd : Rd w A (kcells l)) (hb : n ≤ 4000000000000) (hc : n ≤ c) (hsz : ∀ x ∈ l, x.s.size ≤ 9223372036854775807) (hm : p.length = m) (hp : Rd w B (pcells p)) (hbm : m ≤ 4000000000000) (hE : burnE l p ax ay wind = 0) :
    Calls Tryd.prog 6 #[.slice A n c, .slice B m d, .agg #[.int .i64 ax, .int .i64 ay], .int .i64 wind] w fun e w' => e = .returned (.bool true) ∧ Ext w w' := by
  obtain ⟨h0, hat, hwb⟩ := burnE_zero hE
  have hwr : -1 ≤ wind ∧ wind < 8 := by
    unfold windB at hwb
    simp at hwb
    omega
  have ok := plantsOk h0
  have hm4 : m ≤ 4000 := by have := ok.small; omega
  have HBn := fun (w : World) (hd : Rd w A (kcells l)) (hp : Rd w B (pcells p)) => hidA (Burn_ok A n c l B m d p ax ay wind w hn hd hb hc hsz hm hp hbm h0 hat hwr)
  have HBo := fun (w : World) (hd : Rd w A (kcells l)) (hp : Rd w B (pcells p)) => hidA (BurntOf_ok A n c l B m d p ax ay wind w hn hd hm hp h0 hat hwr)
  have HP := fun (w : World) (hd : Rd w A (kcells l)) (hp : Rd w B (pcells p)) => hidA (plantsError_any A n c l B m d p w hn hd hb hc hsz hm hp hbm)
  have HG := fun (w : World) => hidA (grows_any w)
  have HI1 := fun (w : World) => hidA (within_any ax (-4194304) 4194304 w)
  have HI2 := fun (w : World) => hidA (within_any ay (-4194304) 4194304 w)
  have HI3 := fun (w : World) => hidA (within_any wind (-1) 7 w)
  have HS1 := fun (A : Option Addr) (w : World) (hr : Rd w A ([(0 : Int), 0, 0].map (.int .i64))) => hidA (first_any A 3 3 [0, 0, 0] w rfl hr (by omega))
  have hS0 : firstE [(0 : Int), 0, 0] = 0 := rfl
  rw [hS0] at HS1
  have HW2 : ∀ w : World, Hid (Calls Tryd.prog 11 #[.bool false, .int .i64 5] w fun e w' => e = .returned (.int .i64 0) ∧ w = w') := fun w => hidA (when_any false 5 w)
  have HW3 : ∀ w : World, Hid (Calls Tryd.prog 11 #[.bool false, .int .i64 3] w fun e w' => e = .returned (.int .i64 0) ∧ w = w') := fun w => hidA (when_any false 3 w)
  have hwB : (decide (-1 ≤ wind) && decide (wind ≤ 7)) = true := hwb
  rw [hwB] at HI3
  rw [h0] at HP
  have hsf := spot_far ax ay
  rw [hat] at hsf
  have hr1 : (decide (-4194304 ≤ ax) && decide (ax ≤ 4194304)) = true := by
    cases h : (decide (-4194304 ≤ ax) && decide (ax ≤ 4194304))
    · rw [h] at hsf; simp at hsf
    · rfl
  rw [hr1] at hsf HI1
  have hr2 : (decide (-4194304 ≤ ay) && decide (ay ≤ 4194304)) = true := by
    cases h : (decide (-4194304 ≤ ay) && decide (ay ≤ 4194304))
    · rw [h] at hsf; cases hsf
    · rfl
  rw [hr2] at HI2
  clear hS0 hwB hsf hr1 hr2 hE h0 hat hwb hn hm hsz
  go_enter Tryd.func6, Tryd.ntmps6
  go_wp2_with fail
  refine ((HBn _ (hd.alloc _) (hp.alloc _)).out).mono ?_
  rintro e w1 ⟨v, b, rfl, hO, hbr, hb1⟩
  obtain ⟨Av, cv, rfl, _⟩ := hO.form2
  have k3 : Bk w1 w.heap.size 36 #[.int .i64 ax, .int .i64 ay] := (Bk.new' rfl).ext hb1
  have hx1 : Ext w w1 := ((Ext.refl w).alloc _).trans hb1
  have hd1 := hd.ext hx1
  have hp1 := hp.ext hx1
  clear HBn hb1 hd hp
  have a0 : ∀ w', Ext w1 w' → w'.cell? ⟨w.heap.size, 0, none⟩ = some (.int .i64 ax) := fun w' h => (k3.ext h).cell 0
  have a1 : ∀ w', Ext w1 w' → w'.cell? ⟨w.heap.size, 1, none⟩ = some (.int .i64 ay) := fun w' h => (k3.ext h).cell 1
  have Hbr := hidA hbr
  clear hbr
  go_upto_region 2 with fail
  refine wp_region_noPanic ?_
  refine wp_region_held_drew (S := fun w' => Ext w1 w') (by kernel_rfl) ?_ (fun hHeld => ?_)
  · (repeat (first | exact Ext.refl _ | assumption | refine Ext.setCell ?_ (by first | (simp; done) | (simp; omega)) _ | refine Ext.drewN ?_ _ | refine Ext.alloc ?_ _ | refine Ext.drew ?_ | refine Ext.trans ?_ (by assumption)))
  refine wpAnyH_take (i := 0) (oi := ?o3x0) (v := ?v3x0) ?hi3x0 (by kernel_rfl) ?hf3x0 ?hr3x0 (fun _ _ _ h => h) ?hy3x0 (by assumption) ?rest3x0
  case hi3x0 => (simp only [List.getElem?_toArray, List.getElem?_cons_zero]; exact rfl)
  case hf3x0 => kernel_rfl
  case hr3x0 => kernel_rfl
  case hy3x0 => (refine Or.inl ⟨by rfl, ?_⟩; intro w hSw; (try dsimp only at hSw); go_simp; try with_reducible rfl)
  simp only [put_mk, List.set_cons_succ, List.set_cons_zero]
  refine wpAnyH_take (i := 1) (oi := ?o3x1) (v := ?v3x1) ?hi3x1 (by kernel_rfl) ?hf3x1 ?hr3x1 (fun _ _ _ h => h) ?hy3x1 (by assumption) ?rest3x1
  case hi3x1 => (simp only [List.getElem?_toArray, List.getElem?_cons_succ, List.getElem?_cons_zero]; exact rfl)
  case hf3x1 => kernel_rfl
  case hr3x1 => kernel_rfl
  case hy3x1 => (refine Or.inl ⟨by rfl, ?_⟩; intro w hSw; (try dsimp only at hSw); go_simp; try with_reducible rfl)
  simp only [put_mk, List.set_cons_succ, List.set_cons_zero]
  refine wpAnyH_take (i := 3) (oi := ?o3x3) (v := ?v3x3) ?hi3x3 (by kernel_rfl) ?hf3x3 ?hr3x3 (fun _ _ _ h => h) ?hy3x3 (by assumption) ?rest3x3
  case hi3x3 => (simp only [List.getElem?_toArray, List.getElem?_cons_succ, List.getElem?_cons_zero]; exact rfl)
  case hf3x3 => kernel_rfl
  case hr3x3 => kernel_rfl
  case hy3x3 => (refine Or.inl ⟨by rfl, ?_⟩; intro w hSw; (try dsimp only at hSw); go_simp; try with_reducible rfl)
  simp only [put_mk, List.set_cons_succ, List.set_cons_zero]
  refine wpAnyH_take (i := 4) (oi := ?o3x4) (v := ?v3x4) ?hi3x4 (by kernel_rfl) ?hf3x4 ?hr3x4 (fun _ _ _ h => h) ?hy3x4 (by assumption) ?rest3x4
  case hi3x4 => (simp only [List.getElem?_toArray, List.getElem?_cons_succ, List.getElem?_cons_zero]; exact rfl)
  case hf3x4 => kernel_rfl
  case hr3x4 => kernel_rfl
  case hy3x4 => (refine Or.inl ⟨by rfl, ?_⟩; intro w hSw; (try dsimp only at hSw); go_simp; try with_reducible rfl)
  simp only [put_mk, List.set_cons_succ, List.set_cons_zero]
  refine wpAnyH_take (i := 14) (oi := ?o3x14) (v := ?v3x14) ?hi3x14 (by kernel_rfl) ?hf3x14 ?hr3x14 (fun _ _ _ h => h) ?hy3x14 (by assumption) ?rest3x14
  case hi3x14 => (simp only [List.getElem?_toArray, List.getElem?_cons_succ, List.getElem?_cons_zero]; exact rfl)
  case hf3x14 => kernel_rfl
  case hr3x14 => kernel_rfl
  case hy3x14 => (refine Or.inl ⟨by rfl, ?_⟩; intro w hSw; (try dsimp only at hSw); go_simp; try with_reducible rfl)
  simp only [put_mk, List.set_cons_succ, List.set_cons_zero]
  refine wpAnyH_ready (rs := [2]) (by kernel_rfl) (by simp) ?_
  refine AllReadyH.cons (o := ?o3x2) ?hi3x2 (fun K hK => ?_) AllReadyH.nil
  case hi3x2 => (simp only [List.getElem?_toArray, List.getElem?_cons_succ, List.getElem?_cons_zero]; exact rfl)
  go_simp
  refine ((HP _ (hd1.ext (by repeat (first | exact Ext.refl _ | assumption | refine Ext.setCell ?_ (by first | (simp; done) | (simp; omega)) _ | refine Ext.drewN ?_ _ | refine Ext.alloc ?_ _ | refine Ext.drew ?_ | refine Ext.trans ?_ (by assumption)))) (hp1.ext (by repeat (first | exact Ext.refl _ | assumption | refine Ext.setCell ?_ (by first | (simp; done) | (simp; omega)) _ | refine Ext.drewN ?_ _ | refine Ext.alloc ?_ _ | refine Ext.drew ?_ | refine Ext.trans ?_ (by assumption))))).out).mono ?_
  rintro e w8 ⟨rfl, hb8⟩
  refine hK.out _ _ ?_ (fun hHeld => ?_)
  · (repeat (first | exact Ext.refl _ | assumption | refine Ext.setCell ?_ (by first | (simp; done) | (simp; omega)) _ | refine Ext.drewN ?_ _ | refine Ext.alloc ?_ _ | refine Ext.drew ?_ | refine Ext.trans ?_ (by assumption)))
  clear hK K
  refine wpAnyH_ready (rs := [5]) (by kernel_rfl) (by simp) ?_
  refine AllReadyH.cons (o := ?o3x5) ?hi3x5 (fun K hK => ?_) AllReadyH.nil
  case hi3x5 => (simp only [List.getElem?_toArray, List.getElem?_cons_succ, List.getElem?_cons_zero]; exact rfl)
  go_simp
  refine ((HI1 _).out).mono ?_
  rintro e w7 ⟨rfl, hw7⟩
  subst hw7
  refine hK.out _ _ ?_ (fun hHeld => ?_)
  · (repeat (first | exact Ext.refl _ | assumption | refine Ext.setCell ?_ (by first | (simp; done) | (simp; omega)) _ | refine Ext.drewN ?_ _ | refine Ext.alloc ?_ _ | refine Ext.drew ?_ | refine Ext.trans ?_ (by assumption)))
  clear hK K
  refine wpAnyH_take (i := 6) (oi := ?o3x6) (v := ?v3x6) ?hi3x6 (by kernel_rfl) ?hf3x6 ?hr3x6 (fun _ _ _ h => h) ?hy3x6 (by assumption) ?rest3x6
  case hi3x6 => (simp only [List.getElem?_toArray, List.getElem?_cons_succ, List.getElem?_cons_zero]; exact rfl)
  case hf3x6 => kernel_rfl
  case hr3x6 => kernel_rfl
  case hy3x6 => (refine Or.inl ⟨by rfl, ?_⟩; intro w hSw; (try dsimp only at hSw); go_simp; try with_reducible rfl)
  simp only [put_mk, List.set_cons_succ, List.set_cons_zero]
  refine wpAnyH_take (i := 7) (oi := ?o3x7) (v := ?v3x7) ?hi3x7 (by kernel_rfl) ?hf3x7 ?hr3x7 (fun _ _ _ h => h) ?hy3x7 (by assumption) ?rest3x7
  case hi3x7 => (simp only [List.getElem?_toArray, List.getElem?_cons_succ, List.getElem?_cons_zero]; exact rfl)
  case hf3x7 => kernel_rfl
  case hr3x7 => kernel_rfl
  case hy3x7 => (refine Or.inl ⟨by rfl, ?_⟩; intro w hSw; (try dsimp only at hSw); go_simp; try with_reducible rfl)
  simp only [put_mk, List.set_cons_succ, List.set_cons_zero]
  refine wpAnyH_take (i := 8) (oi := ?o3x8) (v := ?v3x8) ?hi3x8 (by kernel_rfl) ?hf3x8 ?hr3x8 (fun _ _ _ h => h) ?hy3x8 (by assumption) ?rest3x8
  case hi3x8 => (simp only [List.getElem?_toArray, List.getElem?_cons_succ, List.getElem?_cons_zero]; exact rfl)
  case hf3x8 => kernel_rfl
  case hr3x8 => kernel_rfl
  case hy3x8 => (refine Or.inl ⟨by rfl, ?_⟩; intro w hSw; (try dsimp only at hSw); go_simp; try with_reducible rfl)
  simp only [put_mk, List.set_cons_succ, List.set_cons_zero]
  refine wpAnyH_take (i := 9) (oi := ?o3x9) (v := ?v3x9) ?hi3x9 (by kernel_rfl) ?hf3x9 ?hr3x9 (fun _ _ _ h => h) ?hy3x9 (by assumption) ?rest3x9
  case hi3x9 => (simp only [List.getElem?_toArray, List.getElem?_cons_succ, List.getElem?_cons_zero]; exact rfl)
  case hf3x9 => kernel_rfl
  case hr3x9 => kernel_rfl
  case hy3x9 => (refine Or.inl ⟨by rfl, ?_⟩; intro w hSw; (try dsimp only at hSw); go_simp; try with_reducible rfl)
  simp only [put_mk, List.set_cons_succ, List.set_cons_zero]
  refine wpAnyH_ready (rs := [10]) (by kernel_rfl) (by simp) ?_
  refine AllReadyH.cons (o := ?o3x10) ?hi3x10 (fun K hK => ?_) AllReadyH.nil
  case hi3x10 => (simp only [List.getElem?_toArray, List.getElem?_cons_succ, List.getElem?_cons_zero]; exact rfl)
  go_simp
  refine ((HI2 _).out).mono ?_
  rintro e w7 ⟨rfl, hw7⟩
  subst hw7
  refine hK.out _ _ ?_ (fun hHeld => ?_)
  · (repeat (first | exact Ext.refl _ | assumption | refine Ext.setCell ?_ (by first | (simp; done) | (simp; omega)) _ | refine Ext.drewN ?_ _ | refine Ext.alloc ?_ _ | refine Ext.drew ?_ | refine Ext.trans ?_ (by assumption)))
  clear hK K
  refine wpAnyH_take (i := 11) (oi := ?o3x11) (v := ?v3x11) ?hi3x11 (by kernel_rfl) ?hf3x11 ?hr3x11 (fun _ _ _ h => h) ?hy3x11 (by assumption) ?rest3x11
  case hi3x11 => (simp only [List.getElem?_toArray, List.getElem?_cons_succ, List.getElem?_cons_zero]; exact rfl)
  case hf3x11 => kernel_rfl
  case hr3x11 => kernel_rfl
  case hy3x11 => (refine Or.inl ⟨by rfl, ?_⟩; intro w hSw; (try dsimp only at hSw); go_simp; try with_reducible rfl)
  simp only [put_mk, List.set_cons_succ, List.set_cons_zero]
  refine wpAnyH_take (i := 12) (oi := ?o3x12) (v := ?v3x12) ?hi3x12 (by kernel_rfl) ?hf3x12 ?hr3x12 (fun _ _ _ h => h) ?hy3x12 (by assumption) ?rest3x12
  case hi3x12 => (simp only [List.getElem?_toArray, List.getElem?_cons_succ, List.getElem?_cons_zero]; exact rfl)
  case hf3x12 => kernel_rfl
  case hr3x12 => kernel_rfl
  case hy3x12 => (refine Or.inl ⟨by rfl, ?_⟩; intro w hSw; (try dsimp only at hSw); go_simp; try with_reducible rfl)
  simp only [put_mk, List.set_cons_succ, List.set_cons_zero]
  refine wpAnyH_ready (rs := [13]) (by kernel_rfl) (by simp) ?_
  refine AllReadyH.cons (o := ?o3x13) ?hi3x13 (fun K hK => ?_) AllReadyH.nil
  case hi3x13 => (simp only [List.getElem?_toArray, List.getElem?_cons_succ, List.getElem?_cons_zero]; exact rfl)
  go_simp
  refine ((HW2 _).out).mono ?_
  rintro e w7 ⟨rfl, hw7⟩
  subst hw7
  refine hK.out _ _ ?_ (fun hHeld => ?_)
  · (repeat (first | exact Ext.refl _ | assumption | refine Ext.setCell ?_ (by first | (simp; done) | (simp; omega)) _ | refine Ext.drewN ?_ _ | refine Ext.alloc ?_ _ | refine Ext.drew ?_ | refine Ext.trans ?_ (by assumption)))
  clear hK K
  refine wpAnyH_ready (rs := [15]) (by kernel_rfl) (by simp) ?_
  refine AllReadyH.cons (o := ?o3x15) ?hi3x15 (fun K hK => ?_) AllReadyH.nil
  case hi3x15 => (simp only [List.getElem?_toArray, List.getElem?_cons_succ, List.getElem?_cons_zero]; exact rfl)
  go_simp
  refine ((HI3 _).out).mono ?_
  rintro e w7 ⟨rfl, hw7⟩
  subst hw7
  refine hK.out _ _ ?_ (fun hHeld => ?_)
  · (repeat (first | exact Ext.refl _ | assumption | refine Ext.setCell ?_ (by first | (simp; done) | (simp; omega)) _ | refine Ext.drewN ?_ _ | refine Ext.alloc ?_ _ | refine Ext.drew ?_ | refine Ext.trans ?_ (by assumption)))
  clear hK K
  refine wpAnyH_take (i := 16) (oi := ?o3x16) (v := ?v3x16) ?hi3x16 (by kernel_rfl) ?hf3x16 ?hr3x16 (fun _ _ _ h => h) ?hy3x16 (by assumption) ?rest3x16
  case hi3x16 => (simp only [List.getElem?_toArray, List.getElem?_cons_succ, List.getElem?_cons_zero]; exact rfl)
  case hf3x16 => kernel_rfl
  case hr3x16 => kernel_rfl
  case hy3x16 => (refine Or.inl ⟨by rfl, ?_⟩; intro w hSw; (try dsimp only at hSw); go_simp; try with_reducible rfl)
  simp only [put_mk, List.set_cons_succ, List.set_cons_zero]
  refine wpAnyH_ready (rs := [17]) (by kernel_rfl) (by simp) ?_
  refine AllReadyH.cons (o := ?o3x17) ?hi3x17 (fun K hK => ?_) AllReadyH.nil
  case hi3x17 => (simp only [List.getElem?_toArray, List.getElem?_cons_succ, List.getElem?_cons_zero]; exact rfl)
  go_simp
  refine ((HW3 _).out).mono ?_
  rintro e w7 ⟨rfl, hw7⟩
  subst hw7
  refine hK.out _ _ ?_ (fun hHeld => ?_)
  · (repeat (first | exact Ext.refl _ | assumption | refine Ext.setCell ?_ (by first | (simp; done) | (simp; omega)) _ | refine Ext.drewN ?_ _ | refine Ext.alloc ?_ _ | refine Ext.drew ?_ | refine Ext.trans ?_ (by assumption)))
  clear hK K
  refine wpAnyH_ready (rs := [18]) (by kernel_rfl) (by simp) ?_
  refine AllReadyH.cons (o := ?o3x18) ?hi3x18 (fun K hK => ?_) AllReadyH.nil
  case hi3x18 => (simp only [List.getElem?_toArray, List.getElem?_cons_succ, List.getElem?_cons_zero]; exact rfl)
  go_simp
  refine hK.out _ _ ?_ (fun hHeld => ?_)
  · (repeat (first | exact Ext.refl _ | assumption | refine Ext.setCell ?_ (by first | (simp; done) | (simp; omega)) _ | refine Ext.drewN ?_ _ | refine Ext.alloc ?_ _ | refine Ext.drew ?_ | refine Ext.trans ?_ (by assumption)))
  clear hK K
  refine wpAnyH_ready (rs := [19]) (by kernel_rfl) (by simp) ?_
  refine AllReadyH.cons (o := ?o3x19) ?hi3x19 (fun K hK => ?_) AllReadyH.nil
  case hi3x19 => (simp only [List.getElem?_toArray, List.getElem?_cons_succ, List.getElem?_cons_zero]; exact rfl)
  go_simp
  refine ((HS1 _ _ (by first | exact rd_newd (by first | rfl | simp) rfl | exact Rd.new (by first | rfl | simp) rfl)).out).mono ?_
  rintro e w7 ⟨rfl, hw7⟩
  subst hw7
  refine hK.out _ _ ?_ (fun hHeld => ?_)
  · (repeat (first | exact Ext.refl _ | assumption | refine Ext.setCell ?_ (by first | (simp; done) | (simp; omega)) _ | refine Ext.drewN ?_ _ | refine Ext.alloc ?_ _ | refine Ext.drew ?_ | refine Ext.trans ?_ (by assumption)))
  clear hK K
  refine wpAnyH_take (i := 20) (oi := ?o3x20) (v := ?v3x20) ?hi3x20 (by kernel_rfl) ?hf3x20 ?hr3x20 (fun _ _ _ h => h) ?hy3x20 (by assumption) ?rest3x20
  case hi3x20 => (simp only [List.getElem?_toArray, List.getElem?_cons_succ, List.getElem?_cons_zero]; exact rfl)
  case hf3x20 => kernel_rfl
  case hr3x20 => kernel_rfl
  case hy3x20 => (refine Or.inl ⟨by rfl, ?_⟩; intro w hSw; (try dsimp only at hSw); go_simp; try with_reducible rfl)
  simp only [put_mk, List.set_cons_succ, List.set_cons_zero]
  refine wpAnyH_done (by kernel_rfl) ?_ _
  refine NoPanic.normal ?_
  go_wp2_with fail
  refine ((HG _).out).mono ?_
  rintro e w9 ⟨rfl, hb9⟩
  have hx9 : Ext w1 w9 := by (repeat (first | exact Ext.refl _ | assumption | refine Ext.setCell ?_ (by first | (simp; done) | (simp; omega)) _ | refine Ext.drewN ?_ _ | refine Ext.alloc ?_ _ | refine Ext.drew ?_ | refine Ext.trans ?_ (by assumption)))
  have c0 := a0 w9 hx9
  have c1 := a1 w9 hx9
  by_cases hm60 : 60 < (m : Int)
  · go_wp2_with fail
    go_ret
    exact ⟨by first | rfl | simp, (by repeat (first | exact Ext.refl _ | assumption | refine Ext.setCell ?_ (by first | (simp; done) | (simp; omega)) _ | refine Ext.drewN ?_ _ | refine Ext.alloc ?_ _ | refine Ext.drew ?_ | refine Ext.trans ?_ (by assumption)))⟩
  · go_wp2_with fail
    refine ((HBo _ (hd1.ext hx9) (hp1.ext hx9)).out).mono ?_
    rintro e w10 ⟨v2, b2, rfl, hO2, hbr2, hb10⟩
    obtain ⟨Av2, cv2, rfl, _⟩ := hO2.form2
    have hsame : (List.range m).filter b = (List.range m).filter b2 := filter_same fun i hi => (Hbr.out i hi).trans (hbr2 i hi).symm
    have hlen : ((List.range m).filter b).length ≤ 4000000 := by have := List.length_filter_le b (List.range m); simp at this; omega
    have h1 := (hO.ext (hx9.trans hb10)).rd rfl
    have h2 := hO2.rd rfl
    rw [← hsame] at h2
    have hq := eqInts_same Av Av2 ((List.range m).filter b).length cv cv2 ((List.range m).filter b) w10 rfl h1 h2 hlen
    have HQ := hidA hq
    rw [← hsame]
    clear hsame hlen h1 h2 hO hO2 hbr2 Hbr hq
    go_wp2_with fail
    refine (HQ.out).mono ?_
    rintro e w11 ⟨rfl, hb11⟩
    go_wp2_with fail
    go_ret
    exact ⟨by first | rfl | simp, (by repeat (first | exact Ext.refl _ | assumption | refine Ext.setCell ?_ (by first | (simp; done) | (simp; omega)) _ | refine Ext.drewN ?_ _ | refine Ext.alloc ?_ _ | refine Ext.drew ?_ | refine Ext.trans ?_ (by assumption)))⟩
theorem fires_walk (A : Option Addr) (n c : Nat) (l : List KindR) (B : Option Addr) (m d : Nat) (p : List PlantR) (ax ay wind : Int) (w : World) (hn : l.length = n) (hd : Rd w A (kcells l)) (hb : n ≤ 4000000000000) (hc : n ≤ c) (hsz : ∀ x ∈ l, x.s.size ≤ 9223372036854775807) (hm : p.length = m) (hp : Rd w B (pcells p)) (hbm : m ≤ 4000000000000) :
    Calls Tryd.prog 6 #[.slice A n c, .slice B m d, .agg #[.int .i64 ax, .int .i64 ay], .int .i64 wind] w fun e w' => e = .returned (.bool true) ∧ Ext w w' := by
  by_cases h : burnE l p ax ay wind = 0
  · exact fires_ok A n c l B m d p ax ay wind w hn hd hb hc hsz hm hp hbm h
  · exact fires_bad A n c l B m d p ax ay wind w hn hd hb hc hsz hm hp hbm h
end Go.Proofs.YtgaonoklbihkjaaDoor
