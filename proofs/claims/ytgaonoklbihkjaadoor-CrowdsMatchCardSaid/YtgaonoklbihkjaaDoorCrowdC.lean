/- Contract: plant.Crowd; the walk of the law CrowdsMatch. -/
import Derived.Test.YtgaonoklbihkjaaDoorCrowdB
import Derived.BigRegion
import Derived.BigQuiet
namespace Go.Proofs.YtgaonoklbihkjaaDoor
open Go.RowKit
attribute [local go_sem ↓] Go.wp_at_zero Go.wp_at_succ
attribute [local go_sem] run_store_float

def outE (i m : Int) : Int := if (!(decide (0 ≤ i) && decide (i ≤ m - 1))) = true then 5 else 0
def crowdE (l : List KindR) (p : List PlantR) (i : Int) : Int := if plantsE l p ≠ 0 then plantsE l p else outE i p.length
theorem crowd_first (l : List KindR) (p : List PlantR) (i : Int) : firstE [plantsE l p, outE i p.length] = crowdE l p i := by
  unfold crowdE
  by_cases h1 : plantsE l p = 0
  · simp [firstE, h1]
    exact fun h => h.symm
  · simp [firstE, h1]

set_option maxRecDepth 100000 in
set_option maxHeartbeats 3200000 in
theorem Crowd_bad (A : Option Addr) (n c : Nat) (l : List KindR) (B : Option Addr) (m d : Nat) (p : List PlantR) (i : Int) (w : World) (hn : l.length = n) (hd : Rd w A (kcells l)) (hb : n ≤ 4000000000000) (hc : n ≤ c) (hsz : ∀ x ∈ l, x.s.size ≤ 9223372036854775807) (hm : p.length = m) (hp : Rd w B (pcells p)) (hbm : m ≤ 4000000000000) (h : crowdE l p i ≠ 0) :
    Calls Tryd.prog 8 #[.slice A n c, .slice B m d, .int .i64 i] w fun e w' => e = .returned (.tuple #[.float .f32 0, .int .i64 (crowdE l p i)]) ∧ Ext w w' := by
  have HC := fun (w : World) (hd : Rd w A (kcells l)) (hp : Rd w B (pcells p)) => hidA (checkPlants_any A n c l B m d p w hn hd hb hc hsz hm hp hbm)
  by_cases h0 : plantsE l p = 0
  · have HE : Hid (crowdE l p i = 5) := by
      show _ = _
      unfold crowdE outE at *
      rw [if_neg (by simpa using h0)] at h ⊢
      split at h
      · rename_i hi
        rw [if_pos hi]
      · exact absurd rfl h
    have hi : i < 0 ∨ 0 ≤ i ∧ (m : Int) ≤ i := by
      unfold crowdE outE at h
      rw [if_neg (by simpa using h0), hm] at h
      by_cases h1 : i < 0
      · exact .inl h1
      · by_cases h2 : (m : Int) ≤ i
        · exact .inr ⟨by omega, h2⟩
        · rw [if_neg (by simp; omega)] at h
          exact absurd rfl h
    rw [h0] at HC
    clear h h0 hn hm hsz
    rcases hi with hi | ⟨hj, hi⟩
    all_goals
      go_enter Tryd.func8, Tryd.ntmps8
      go_wp2_with fail
      refine ((HC _ hd hp).out).mono ?_
      rintro e w1 ⟨rfl, hb1⟩
      go_wp2
      go_ret2
      exact ⟨by rw [HE.out]; rfl, (by repeat (first | exact Ext.refl _ | assumption | refine Ext.setCell ?_ (by first | (simp; done) | (simp; omega)) _ | refine Ext.drewN ?_ _ | refine Ext.alloc ?_ _ | refine Ext.drew ?_ | refine Ext.trans ?_ (by assumption)))⟩
  · have HE : Hid (crowdE l p i = plantsE l p) := if_pos h0
    have b0 : (plantsE l p != 0) = true := by simpa using h0
    clear h h0 hn hm hsz
    go_enter Tryd.func8, Tryd.ntmps8
    go_wp2_with fail
    refine ((HC _ hd hp).out).mono ?_
    rintro e w1 ⟨rfl, hb1⟩
    go_wp2
    go_ret2
    exact ⟨by rw [HE.out]; rfl, (by repeat (first | exact Ext.refl _ | assumption | refine Ext.setCell ?_ (by first | (simp; done) | (simp; omega)) _ | refine Ext.drewN ?_ _ | refine Ext.alloc ?_ _ | refine Ext.drew ?_ | refine Ext.trans ?_ (by assumption)))⟩
theorem crowdE_zero {l : List KindR} {p : List PlantR} {i : Int} (h : crowdE l p i = 0) : plantsE l p = 0 ∧ ∃ k : Nat, i = k ∧ k < p.length := by
  unfold crowdE outE at h
  split at h
  · rename_i h1
    exact absurd h h1
  · rename_i h1
    refine ⟨by simpa using h1, i.toNat, ?_⟩
    split at h
    · cases h
    · rename_i h2
      simp at h2
      omega
set_option maxRecDepth 100000 in
set_option maxHeartbeats 3200000 in
theorem Crowd_ok (A : Option Addr) (n c : Nat) (l : List KindR) (B : Option Addr) (m d : Nat) (p : List PlantR) (i : Nat) (w : World) (hn : l.length = n) (hd : Rd w A (kcells l)) (hb : n ≤ 4000000000000) (hc : n ≤ c) (hsz : ∀ x ∈ l, x.s.size ≤ 9223372036854775807) (hm : p.length = m) (hp : Rd w B (pcells p)) (hbm : m ≤ 4000000000000) (h0 : plantsE l p = 0) (hi : i < m) :
    Calls Tryd.prog 8 #[.slice A n c, .slice B m d, .int .i64 i] w fun e w' => e = .returned (.tuple #[.float .f32 (crowdF l p i m), .int .i64 0]) ∧ Ext w w' := by
  have HC := fun (w : World) (hd : Rd w A (kcells l)) (hp : Rd w B (pcells p)) => hidA (checkPlants_any A n c l B m d p w hn hd hb hc hsz hm hp hbm)
  obtain ⟨hk, _, he⟩ := plantsE_zero h0
  obtain ⟨_, _, hl⟩ := kindsE_zero hk
  have HF := fun (w : World) (hd : Rd w A (kcells l)) (hp : Rd w B (pcells p)) => hidA (crowd_any A n c l B m d p i w hn hd hm hp hbm hi he hl)
  rw [h0] at HC
  have i0 : ¬ (i : Int) < 0 := by omega
  have i1 : (i : Int) < m := by omega
  generalize crowdF l p i m = v at *
  clear h0 hn hm hsz hk he hl hi
  go_enter Tryd.func8, Tryd.ntmps8
  go_wp2_with fail
  refine ((HC _ hd hp).out).mono ?_
  rintro e w1 ⟨rfl, hb1⟩
  have hd1 := hd.ext hb1
  have hp1 := hp.ext hb1
  go_wp2_with fail
  refine ((HF _ hd1 hp1).out).mono ?_
  rintro e w2 ⟨rfl, hb2⟩
  go_wp2
  go_ret2
  exact ⟨rfl, (by repeat (first | exact Ext.refl _ | assumption | refine Ext.setCell ?_ (by first | (simp; done) | (simp; omega)) _ | refine Ext.drewN ?_ _ | refine Ext.alloc ?_ _ | refine Ext.drew ?_ | refine Ext.trans ?_ (by assumption)))⟩

set_option maxRecDepth 100000 in
set_option maxHeartbeats 6400000 in
theorem crowds_walk (A : Option Addr) (n c : Nat) (l : List KindR) (B : Option Addr) (m d : Nat) (p : List PlantR) (i : Int) (w : World) (hn : l.length = n) (hd : Rd w A (kcells l)) (hb : n ≤ 4000000000000) (hc : n ≤ c) (hsz : ∀ x ∈ l, x.s.size ≤ 9223372036854775807) (hm : p.length = m) (hp : Rd w B (pcells p)) (hbm : m ≤ 4000000000000) :
    Calls Tryd.prog 3 #[.slice A n c, .slice B m d, .int .i64 i] w fun e w' => e = .returned (.bool true) ∧ Ext w w' := by
  have HP := fun (w : World) (hd : Rd w A (kcells l)) (hp : Rd w B (pcells p)) => hidA (plantsError_any A n c l B m d p w hn hd hb hc hsz hm hp hbm)
  have W1 : wrap64 ((m : Int) - 1) = (m : Int) - 1 := IntWalk.wrap64_in _ ⟨by omega, by omega⟩
  have HI := fun (w : World) => hidA (within_any i 0 ((m : Int) - 1) w)
  have HN := fun (w : World) => hidA (when_any (!(decide (0 ≤ i) && decide (i ≤ (m : Int) - 1))) 5 w)
  have HG := fun (w : World) => hidA (grows_any w)
  have HS := fun (A : Option Addr) (w : World) (hr : Rd w A ([plantsE l p, outE i m].map (.int .i64))) => hidA (first_any A 2 2 [plantsE l p, outE i m] w rfl hr (by omega))
  have hF := crowd_first l p i
  rw [hm] at hF
  rw [hF] at HS
  have ho : (if (!(decide (0 ≤ i) && decide (i ≤ (m : Int) - 1))) = true then (5 : Int) else 0) = outE i m := rfl
  rw [ho] at HN
  clear ho hF
  generalize (decide (0 ≤ i) && decide (i ≤ (m : Int) - 1)) = q at *
  by_cases h : crowdE l p i = 0
  · obtain ⟨h0, k, rfl, hk⟩ := crowdE_zero h
    rw [hm] at hk
    have HC := fun (w : World) (hd : Rd w A (kcells l)) (hp : Rd w B (pcells p)) => hidA (Crowd_ok A n c l B m d p k w hn hd hb hc hsz hm hp hbm h0 hk)
    obtain ⟨hks, _, he⟩ := plantsE_zero h0
    obtain ⟨_, _, hl⟩ := kindsE_zero hks
    have HO := fun (w : World) (hd : Rd w A (kcells l)) (hp : Rd w B (pcells p)) => hidA (crowdOf_any A n c l B m d p k w hn hd hm hp hbm hk he hl)
    have hkp : k < p.length := by omega
    have C1 := same_eq (crowd_same hkp he hl m (by omega)).1 (crowd_nan hkp he hl m (by omega))
    rw [h] at HS
    generalize crowdF l p k m = v at *
    generalize (crowdG l p k m).1 = u at *
    clear h h0 hks he hl hk hn hm hsz hkp
    go_enter Tryd.func3, Tryd.ntmps3
    go_wp2_with fail
    refine ((HC _ hd hp).out).mono ?_
    rintro e w1 ⟨rfl, hb1⟩
    have hd1 := hd.ext hb1
    have hp1 := hp.ext hb1
    clear HC
    go_wp2_with (first
      | (go_at_call 10; refine ((HP _ hd1 hp1).out).mono ?_; rintro e w2 ⟨rfl, hb2⟩)
      | (go_at_call 12; refine ((HI _).out).mono ?_; rintro e w' ⟨rfl, rfl⟩)
      | (go_at_call 11; refine ((HN _).out).mono ?_; rintro e w' ⟨rfl, rfl⟩)
      | (go_at_call 9; refine ((HS _ _ (Rd.new (by first | rfl | simp) rfl)).out).mono ?_; rintro e w' ⟨rfl, rfl⟩)
      | (go_at_call 13; refine ((HG _).out).mono ?_; rintro e w3 ⟨rfl, hb3⟩))
    have hx : Ext w1 w3 := by (repeat (first | exact Ext.refl _ | assumption | refine Ext.setCell ?_ (by first | (simp; done) | (simp; omega)) _ | refine Ext.drewN ?_ _ | refine Ext.alloc ?_ _ | refine Ext.drew ?_ | refine Ext.trans ?_ (by assumption)))
    have hd3 := hd1.ext hx
    have hp3 := hp1.ext hx
    refine ((HO _ hd3 hp3).out).mono ?_
    rintro e w4 ⟨rfl, hb4⟩
    go_wp2
    go_ret
    exact ⟨rfl, (by repeat (first | exact Ext.refl _ | assumption | refine Ext.setCell ?_ (by first | (simp; done) | (simp; omega)) _ | refine Ext.drewN ?_ _ | refine Ext.alloc ?_ _ | refine Ext.drew ?_ | refine Ext.trans ?_ (by assumption)))⟩
  · have HC := fun (w : World) (hd : Rd w A (kcells l)) (hp : Rd w B (pcells p)) => hidA (Crowd_bad A n c l B m d p i w hn hd hb hc hsz hm hp hbm h)
    have b0 : (crowdE l p i != 0) = true := by simpa using h
    have z0 : (FloatKind.f32.format.order 0 0 == some .eq) = true := by decide +kernel
    generalize crowdE l p i = q at *
    clear h hn hm hsz
    go_enter Tryd.func3, Tryd.ntmps3
    go_wp2_with fail
    refine ((HC _ hd hp).out).mono ?_
    rintro e w1 ⟨rfl, hb1⟩
    have hd1 := hd.ext hb1
    have hp1 := hp.ext hb1
    clear HC
    go_wp2_with (first
      | (go_at_call 10; refine ((HP _ hd1 hp1).out).mono ?_; rintro e w2 ⟨rfl, hb2⟩)
      | (go_at_call 12; refine ((HI _).out).mono ?_; rintro e w' ⟨rfl, rfl⟩)
      | (go_at_call 11; refine ((HN _).out).mono ?_; rintro e w' ⟨rfl, rfl⟩)
      | (go_at_call 9; refine ((HS _ _ (Rd.new (by first | rfl | simp) rfl)).out).mono ?_; rintro e w' ⟨rfl, rfl⟩)
      | (go_at_call 13; refine ((HG _).out).mono ?_; rintro e w3 ⟨rfl, hb3⟩))
    go_ret
    exact ⟨by first | rfl | simp, (by repeat (first | exact Ext.refl _ | assumption | refine Ext.setCell ?_ (by first | (simp; done) | (simp; omega)) _ | refine Ext.drewN ?_ _ | refine Ext.alloc ?_ _ | refine Ext.drew ?_ | refine Ext.trans ?_ (by assumption)))⟩
end Go.Proofs.YtgaonoklbihkjaaDoor
