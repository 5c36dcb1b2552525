/- Contracts: cmp.Compare and cmp.Or of integers, plant.place, tarnref2.Ahead, noise.CheckPlace, plant.checkPlant. -/
import Derived.Test.YtgaonoklbihkjaaDoorPlantsA
import Derived.Deep.DeepCutAuto
import Derived.Deep.RegionLaw
import Derived.BigRegion
import Derived.BigQuiet
namespace Go.Proofs.YtgaonoklbihkjaaDoor
open Go.RowKit
attribute [local go_sem ↓] Go.wp_at_zero Go.wp_at_succ
attribute [local go_sem] run_store_float

theorem put_mk' (l : List Value) (D : List Deferred) (d : Nat) (v : Value) : Act.put ⟨l.toArray, D⟩ (some d) v = ⟨(l.set d v).toArray, D⟩ := by simp [Act.put]
def cmpI (a b : Int) : Int := if a < b then -1 else if b < a then 1 else 0
def placeC (a b : PlantR) : Int := if cmpI a.y b.y ≠ 0 then cmpI a.y b.y else cmpI a.x b.x
theorem placeC_ahead (a b : PlantR) : decide (0 ≤ placeC a b) = !aheadB a b := by
  unfold placeC cmpI aheadB
  rw [Bool.eq_iff_iff]
  simp
  split <;> (try split) <;> (try split) <;> omega
theorem isNaN_int (a : Int) (w : World) : Calls Tryd.prog 99 #[.int .i64 a] w fun e w' => e = .returned (.bool false) ∧ w' = w := by
  go_enter Tryd.func99, Tryd.ntmps99
  go_wp2
  go_ret
  exact ⟨by first | rfl | simp, rfl⟩
theorem cmp_int (a b : Int) (w : World) : Calls Tryd.prog 85 #[.int .i64 a, .int .i64 b] w fun e w' => e = .returned (.int .i64 (cmpI a b)) ∧ w' = w := by
  have h : a < b ∨ ¬ a < b ∧ b < a ∨ ¬ a < b ∧ ¬ b < a := by omega
  rcases h with h | h | h
  · have e : cmpI a b = -1 := by unfold cmpI; rw [if_pos h]
    rw [e]
    clear e
    go_enter Tryd.func85, Tryd.ntmps85
    go_wp2_with fail
    refine (isNaN_int _ _).mono ?_
    rintro e w1 ⟨rfl, h1⟩
    rw [h1]
    clear h1 w1
    go_wp2_with fail
    refine (isNaN_int _ _).mono ?_
    rintro e w1 ⟨rfl, h1⟩
    rw [h1]
    clear h1 w1
    go_wp2_with fail
    go_ret
    exact ⟨rfl, rfl⟩
  · obtain ⟨h1', h2'⟩ := h
    have e : cmpI a b = 1 := by unfold cmpI; rw [if_neg h1', if_pos h2']
    rw [e]
    clear e
    go_enter Tryd.func85, Tryd.ntmps85
    go_wp2_with fail
    refine (isNaN_int _ _).mono ?_
    rintro e w1 ⟨rfl, h1⟩
    rw [h1]
    clear h1 w1
    go_wp2_with fail
    refine (isNaN_int _ _).mono ?_
    rintro e w1 ⟨rfl, h1⟩
    rw [h1]
    clear h1 w1
    go_wp2_with fail
    go_ret
    exact ⟨rfl, rfl⟩
  · obtain ⟨h1', h2'⟩ := h
    have e : cmpI a b = 0 := by unfold cmpI; rw [if_neg h1', if_neg h2']
    rw [e]
    clear e
    go_enter Tryd.func85, Tryd.ntmps85
    go_wp2_with fail
    refine (isNaN_int _ _).mono ?_
    rintro e w1 ⟨rfl, h1⟩
    rw [h1]
    clear h1 w1
    go_wp2_with fail
    refine (isNaN_int _ _).mono ?_
    rintro e w1 ⟨rfl, h1⟩
    rw [h1]
    clear h1 w1
    go_wp2_with fail
    go_ret
    exact ⟨rfl, rfl⟩
theorem or_two (g : Nat) (p q : Int) (w : World) (h0 : w.cell? ⟨g, 0, none⟩ = some (.int .i64 p)) (h1 : w.cell? ⟨g, 1, none⟩ = some (.int .i64 q)) :
    Calls Tryd.prog 83 #[.slice (some ⟨g, 0, none⟩) 2 2] w fun e w' => e = .returned (.int .i64 (if p ≠ 0 then p else q)) ∧ w' = w := by
  have Hp : Hid (p = 0 → (if p ≠ 0 then p else q) = q) := fun h => by rw [if_neg (by simpa using h)]
  have Hn : Hid (p ≠ 0 → (if p ≠ 0 then p else q) = p) := fun h => by rw [if_pos h]
  generalize (if p ≠ 0 then p else q) = r at *
  go_enter Tryd.func83, Tryd.ntmps83
  go_wp2_with fail
  go_loop [8] (fun i => i = .int .i64 0 ∨ (p = 0 ∧ (i = .int .i64 1 ∨ q = 0 ∧ i = .int .i64 2))) (fun i => 3 - (intOf i).toNat)
  case atStart => exact .inl rfl
  case round =>
    rcases hrel with rfl | ⟨hp, rfl | ⟨hq, rfl⟩⟩
    · by_cases hp : p = 0
      · have hp' := hp
        subst hp'
        go_wp2_with fail
        go_round
        case rel => first | exact .inr ⟨rfl, .inl rfl⟩ | exact .inr ⟨trivial, .inl rfl⟩ | simp
        case measure => simp [intOf]
      · have t1 : (p != 0) = true := by simpa using hp
        have e := hidA (Hn.out hp)
        clear Hp Hn hp
        go_wp2_with fail
        go_ret
        exact ⟨ret_i e.out.symm, rfl⟩
    · subst hp
      by_cases hq : q = 0
      · subst hq
        clear Hp Hn
        go_wp2_with fail
        go_round
        case rel => first | exact .inr ⟨rfl, .inr ⟨rfl, rfl⟩⟩ | exact .inr ⟨trivial, .inr ⟨trivial, rfl⟩⟩ | simp
        case measure => simp [intOf]
      · have t1 : (q != 0) = true := by simpa using hq
        have e := hidA (Hp.out rfl)
        clear Hp Hn hq
        go_wp2_with fail
        go_ret
        exact ⟨ret_i e.out.symm, rfl⟩
    · subst hp
      subst hq
      have e := hidA (Hp.out rfl)
      clear Hp Hn
      go_wp2_with fail
      go_ret
      exact ⟨ret_i e.out.symm, rfl⟩
set_option maxRecDepth 100000 in
set_option maxHeartbeats 3200000 in
theorem place_any (a b : PlantR) (w : World) :
    Calls Tryd.prog 73 #[a.v, b.v] w fun e w' => e = .returned (.int .i64 (placeC a b)) ∧ Ext w w' := by
  simp only [PlantR.v]
  go_enter Tryd.func73, Tryd.ntmps73
  go_upto_region 1 with fail
  obtain ⟨w2, hw2⟩ : ∃ w2, w2 = (w.alloc (.cells #[.int .i64 a.kind, .int .i64 a.x, .int .i64 a.y, .float .f32 a.size, .int .i64 a.age] 46)).alloc (.cells #[.int .i64 b.kind, .int .i64 b.x, .int .i64 b.y, .float .f32 b.size, .int .i64 b.age] 46) := ⟨_, rfl⟩
  have hA : Bk w2 w.heap.size 46 #[.int .i64 a.kind, .int .i64 a.x, .int .i64 a.y, .float .f32 a.size, .int .i64 a.age] := by rw [hw2]; exact (Bk.new' rfl).alloc _
  have hB : Bk w2 (w.heap.size + 1) 46 #[.int .i64 b.kind, .int .i64 b.x, .int .i64 b.y, .float .f32 b.size, .int .i64 b.age] := by rw [hw2]; exact Bk.new' (by simp)
  have hx2 : Ext w w2 := by rw [hw2]; exact ((Ext.refl w).alloc _).alloc _
  have a1 : ∀ w', Ext w2 w' → w'.cell? ⟨w.heap.size, 1, none⟩ = some (.int .i64 a.x) := fun w' h => (hA.ext h).cell 1
  have a2 : ∀ w', Ext w2 w' → w'.cell? ⟨w.heap.size, 2, none⟩ = some (.int .i64 a.y) := fun w' h => (hA.ext h).cell 2
  have b1 : ∀ w', Ext w2 w' → w'.cell? ⟨w.heap.size + 1, 1, none⟩ = some (.int .i64 b.x) := fun w' h => (hB.ext h).cell 1
  have b2 : ∀ w', Ext w2 w' → w'.cell? ⟨w.heap.size + 1, 2, none⟩ = some (.int .i64 b.y) := fun w' h => (hB.ext h).cell 2
  rw [← hw2]
  clear hA hB hw2
  refine wp_region_noPanic ?_
  refine wp_region_held_drew (S := fun w' => Ext w2 w') (by kernel_rfl) ?_ (fun hHeld => ?_)
  · (repeat (first | exact Ext.refl _ | assumption | refine Ext.setCell ?_ (by first | (simp; done) | (simp; omega)) _ | refine Ext.drewN ?_ _ | refine Ext.alloc ?_ _ | refine Ext.drew ?_ | refine Ext.trans ?_ (by assumption)))
  refine wpAnyH_take (i := 0) (oi := ?o1x0) (v := ?v1x0) ?hi1x0 (by kernel_rfl) ?hf1x0 ?hr1x0 (fun _ _ _ h => h) ?hy1x0 (by assumption) ?rest1x0
  case hi1x0 => (simp only [List.getElem?_toArray, List.getElem?_cons_zero]; exact rfl)
  case hf1x0 => kernel_rfl
  case hr1x0 => kernel_rfl
  case hy1x0 => (refine Or.inl ⟨by rfl, ?_⟩; intro w hSw; (try dsimp only at hSw); go_simp; try with_reducible rfl)
  simp only [put_mk', List.set_cons_succ, List.set_cons_zero]
  refine wpAnyH_take (i := 1) (oi := ?o1x1) (v := ?v1x1) ?hi1x1 (by kernel_rfl) ?hf1x1 ?hr1x1 (fun _ _ _ h => h) ?hy1x1 (by assumption) ?rest1x1
  case hi1x1 => (simp only [List.getElem?_toArray, List.getElem?_cons_succ, List.getElem?_cons_zero]; exact rfl)
  case hf1x1 => kernel_rfl
  case hr1x1 => kernel_rfl
  case hy1x1 => (refine Or.inl ⟨by rfl, ?_⟩; intro w hSw; (try dsimp only at hSw); go_simp; try with_reducible rfl)
  simp only [put_mk', List.set_cons_succ, List.set_cons_zero]
  refine wpAnyH_take (i := 2) (oi := ?o1x2) (v := ?v1x2) ?hi1x2 (by kernel_rfl) ?hf1x2 ?hr1x2 (fun _ _ _ h => h) ?hy1x2 (by assumption) ?rest1x2
  case hi1x2 => (simp only [List.getElem?_toArray, List.getElem?_cons_succ, List.getElem?_cons_zero]; exact rfl)
  case hf1x2 => kernel_rfl
  case hr1x2 => kernel_rfl
  case hy1x2 => (refine Or.inl ⟨by rfl, ?_⟩; intro w hSw; (try dsimp only at hSw); go_simp; try with_reducible rfl)
  simp only [put_mk', List.set_cons_succ, List.set_cons_zero]
  refine wpAnyH_take (i := 3) (oi := ?o1x3) (v := ?v1x3) ?hi1x3 (by kernel_rfl) ?hf1x3 ?hr1x3 (fun _ _ _ h => h) ?hy1x3 (by assumption) ?rest1x3
  case hi1x3 => (simp only [List.getElem?_toArray, List.getElem?_cons_succ, List.getElem?_cons_zero]; exact rfl)
  case hf1x3 => kernel_rfl
  case hr1x3 => kernel_rfl
  case hy1x3 => (refine Or.inl ⟨by rfl, ?_⟩; intro w hSw; (try dsimp only at hSw); go_simp; try with_reducible rfl)
  simp only [put_mk', List.set_cons_succ, List.set_cons_zero]
  refine wpAnyH_take (i := 5) (oi := ?o1x5) (v := ?v1x5) ?hi1x5 (by kernel_rfl) ?hf1x5 ?hr1x5 (fun _ _ _ h => h) ?hy1x5 (by assumption) ?rest1x5
  case hi1x5 => (simp only [List.getElem?_toArray, List.getElem?_cons_succ, List.getElem?_cons_zero]; exact rfl)
  case hf1x5 => kernel_rfl
  case hr1x5 => kernel_rfl
  case hy1x5 => (refine Or.inl ⟨by rfl, ?_⟩; intro w hSw; (try dsimp only at hSw); go_simp; try with_reducible rfl)
  simp only [put_mk', List.set_cons_succ, List.set_cons_zero]
  refine wpAnyH_take (i := 6) (oi := ?o1x6) (v := ?v1x6) ?hi1x6 (by kernel_rfl) ?hf1x6 ?hr1x6 (fun _ _ _ h => h) ?hy1x6 (by assumption) ?rest1x6
  case hi1x6 => (simp only [List.getElem?_toArray, List.getElem?_cons_succ, List.getElem?_cons_zero]; exact rfl)
  case hf1x6 => kernel_rfl
  case hr1x6 => kernel_rfl
  case hy1x6 => (refine Or.inl ⟨by rfl, ?_⟩; intro w hSw; (try dsimp only at hSw); go_simp; try with_reducible rfl)
  simp only [put_mk', List.set_cons_succ, List.set_cons_zero]
  refine wpAnyH_take (i := 7) (oi := ?o1x7) (v := ?v1x7) ?hi1x7 (by kernel_rfl) ?hf1x7 ?hr1x7 (fun _ _ _ h => h) ?hy1x7 (by assumption) ?rest1x7
  case hi1x7 => (simp only [List.getElem?_toArray, List.getElem?_cons_succ, List.getElem?_cons_zero]; exact rfl)
  case hf1x7 => kernel_rfl
  case hr1x7 => kernel_rfl
  case hy1x7 => (refine Or.inl ⟨by rfl, ?_⟩; intro w hSw; (try dsimp only at hSw); go_simp; try with_reducible rfl)
  simp only [put_mk', List.set_cons_succ, List.set_cons_zero]
  refine wpAnyH_take (i := 8) (oi := ?o1x8) (v := ?v1x8) ?hi1x8 (by kernel_rfl) ?hf1x8 ?hr1x8 (fun _ _ _ h => h) ?hy1x8 (by assumption) ?rest1x8
  case hi1x8 => (simp only [List.getElem?_toArray, List.getElem?_cons_succ, List.getElem?_cons_zero]; exact rfl)
  case hf1x8 => kernel_rfl
  case hr1x8 => kernel_rfl
  case hy1x8 => (refine Or.inl ⟨by rfl, ?_⟩; intro w hSw; (try dsimp only at hSw); go_simp; try with_reducible rfl)
  simp only [put_mk', List.set_cons_succ, List.set_cons_zero]
  refine wpAnyH_ready (rs := [4]) (by kernel_rfl) (by simp) ?_
  refine AllReadyH.cons (o := ?o1x4) ?hi1x4 (fun K hK => ?_) AllReadyH.nil
  case hi1x4 => (simp only [List.getElem?_toArray, List.getElem?_cons_succ, List.getElem?_cons_zero]; exact rfl)
  go_simp
  refine (cmp_int _ _ _).mono ?_
  rintro e w' ⟨rfl, hw'⟩
  subst hw'
  refine hK.out _ _ ?_ (fun hHeld => ?_)
  · (repeat (first | exact Ext.refl _ | assumption | refine Ext.setCell ?_ (by first | (simp; done) | (simp; omega)) _ | refine Ext.drewN ?_ _ | refine Ext.alloc ?_ _ | refine Ext.drew ?_ | refine Ext.trans ?_ (by assumption)))
  clear hK K
  refine wpAnyH_ready (rs := [9]) (by kernel_rfl) (by simp) ?_
  refine AllReadyH.cons (o := ?o1x9) ?hi1x9 (fun K hK => ?_) AllReadyH.nil
  case hi1x9 => (simp only [List.getElem?_toArray, List.getElem?_cons_succ, List.getElem?_cons_zero]; exact rfl)
  go_simp
  refine (cmp_int _ _ _).mono ?_
  rintro e w' ⟨rfl, hw'⟩
  subst hw'
  refine hK.out _ _ ?_ (fun hHeld => ?_)
  · (repeat (first | exact Ext.refl _ | assumption | refine Ext.setCell ?_ (by first | (simp; done) | (simp; omega)) _ | refine Ext.drewN ?_ _ | refine Ext.alloc ?_ _ | refine Ext.drew ?_ | refine Ext.trans ?_ (by assumption)))
  clear hK K
  refine wpAnyH_ready (rs := [10]) (by kernel_rfl) (by simp) ?_
  refine AllReadyH.cons (o := ?o1x10) ?hi1x10 (fun K hK => ?_) AllReadyH.nil
  case hi1x10 => (simp only [List.getElem?_toArray, List.getElem?_cons_succ, List.getElem?_cons_zero]; exact rfl)
  go_simp
  refine hK.out _ _ ?_ (fun hHeld => ?_)
  · (repeat (first | exact Ext.refl _ | assumption | refine Ext.setCell ?_ (by first | (simp; done) | (simp; omega)) _ | refine Ext.drewN ?_ _ | refine Ext.alloc ?_ _ | refine Ext.drew ?_ | refine Ext.trans ?_ (by assumption)))
  clear hK K
  refine wpAnyH_ready (rs := [11]) (by kernel_rfl) (by simp) ?_
  refine AllReadyH.cons (o := ?o1x11) ?hi1x11 (fun K hK => ?_) AllReadyH.nil
  case hi1x11 => (simp only [List.getElem?_toArray, List.getElem?_cons_succ, List.getElem?_cons_zero]; exact rfl)
  go_simp
  refine (or_two _ (cmpI a.y b.y) (cmpI a.x b.x) _ (by simp) (by simp)).mono ?_
  rintro e w' ⟨rfl, hw'⟩
  subst hw'
  rw [show (if cmpI a.y b.y ≠ 0 then cmpI a.y b.y else cmpI a.x b.x) = placeC a b from rfl]
  refine hK.out _ _ ?_ (fun hHeld => ?_)
  · (repeat (first | exact Ext.refl _ | assumption | refine Ext.setCell ?_ (by first | (simp; done) | (simp; omega)) _ | refine Ext.drewN ?_ _ | refine Ext.alloc ?_ _ | refine Ext.drew ?_ | refine Ext.trans ?_ (by assumption)))
  clear hK K
  refine wpAnyH_take (i := 12) (oi := ?o1x12) (v := ?v1x12) ?hi1x12 (by kernel_rfl) ?hf1x12 ?hr1x12 (fun _ _ _ h => h) ?hy1x12 (by assumption) ?rest1x12
  case hi1x12 => (simp only [List.getElem?_toArray, List.getElem?_cons_succ, List.getElem?_cons_zero]; exact rfl)
  case hf1x12 => kernel_rfl
  case hr1x12 => kernel_rfl
  case hy1x12 => (refine Or.inl ⟨by rfl, ?_⟩; intro w hSw; (try dsimp only at hSw); go_simp; try with_reducible rfl)
  simp only [put_mk', List.set_cons_succ, List.set_cons_zero]
  refine wpAnyH_done (by kernel_rfl) ?_ _
  refine NoPanic.normal ?_
  go_wp2_with fail
  go_ret
  exact ⟨rfl, hx2.trans (by repeat (first | exact Ext.refl _ | assumption | refine Ext.setCell ?_ (by first | (simp; done) | (simp; omega)) _ | refine Ext.drewN ?_ _ | refine Ext.alloc ?_ _ | refine Ext.drew ?_ | refine Ext.trans ?_ (by assumption)))⟩

theorem ahead_any (a b : PlantR) (w : World) :
    Calls Tryd.prog 35 #[a.v, b.v] w fun e w' => e = .returned (.bool (aheadB a b)) ∧ Ext w w' := by
  obtain ⟨k1, x1, y1, s1, g1⟩ := a
  obtain ⟨k2, x2, y2, s2, g2⟩ := b
  have h : y1 < y2 ∨ (¬ y1 < y2 ∧ y1 = y2 ∧ x1 < x2) ∨ (¬ y1 < y2 ∧ y1 = y2 ∧ ¬ x1 < x2) ∨ (¬ y1 < y2 ∧ ¬ y1 = y2) := by omega
  rcases h with h | ⟨h, h', h''⟩ | ⟨h, h', h''⟩ | ⟨h, h'⟩
  · have e : aheadB ⟨k1, x1, y1, s1, g1⟩ ⟨k2, x2, y2, s2, g2⟩ = true := by unfold aheadB; simp; omega
    rw [e]
    simp only [PlantR.v]
    clear e
    go_enter Tryd.func35, Tryd.ntmps35
    go_wp2
    go_ret
    exact ⟨by first | rfl | simp, (by repeat (first | exact Ext.refl _ | assumption | refine Ext.setCell ?_ (by first | (simp; done) | (simp; omega)) _ | refine Ext.drewN ?_ _ | refine Ext.alloc ?_ _ | refine Ext.drew ?_ | refine Ext.trans ?_ (by assumption)))⟩
  · have e : aheadB ⟨k1, x1, y1, s1, g1⟩ ⟨k2, x2, y2, s2, g2⟩ = true := by unfold aheadB; simp; omega
    rw [e]
    simp only [PlantR.v]
    clear e
    have t1 : (y1 == y2) = true := by simpa using h'
    go_enter Tryd.func35, Tryd.ntmps35
    go_wp2
    go_ret
    exact ⟨by first | rfl | simp, (by repeat (first | exact Ext.refl _ | assumption | refine Ext.setCell ?_ (by first | (simp; done) | (simp; omega)) _ | refine Ext.drewN ?_ _ | refine Ext.alloc ?_ _ | refine Ext.drew ?_ | refine Ext.trans ?_ (by assumption)))⟩
  · have e : aheadB ⟨k1, x1, y1, s1, g1⟩ ⟨k2, x2, y2, s2, g2⟩ = false := by unfold aheadB; simp; omega
    rw [e]
    simp only [PlantR.v]
    clear e
    have t1 : (y1 == y2) = true := by simpa using h'
    go_enter Tryd.func35, Tryd.ntmps35
    go_wp2
    go_ret
    exact ⟨by first | rfl | simp, (by repeat (first | exact Ext.refl _ | assumption | refine Ext.setCell ?_ (by first | (simp; done) | (simp; omega)) _ | refine Ext.drewN ?_ _ | refine Ext.alloc ?_ _ | refine Ext.drew ?_ | refine Ext.trans ?_ (by assumption)))⟩
  · have e : aheadB ⟨k1, x1, y1, s1, g1⟩ ⟨k2, x2, y2, s2, g2⟩ = false := by unfold aheadB; simp; omega
    rw [e]
    simp only [PlantR.v]
    clear e
    have t1 : (y1 == y2) = false := by simpa using h'
    go_enter Tryd.func35, Tryd.ntmps35
    go_wp2
    go_ret
    exact ⟨by first | rfl | simp, (by repeat (first | exact Ext.refl _ | assumption | refine Ext.setCell ?_ (by first | (simp; done) | (simp; omega)) _ | refine Ext.drewN ?_ _ | refine Ext.alloc ?_ _ | refine Ext.drew ?_ | refine Ext.trans ?_ (by assumption)))⟩
theorem checkPlace_any (x y : Int) (w : World) :
    Calls Tryd.prog 39 #[.int .i64 x, .int .i64 y] w fun e w' => e = .returned (.int .i64 (if decide (x < -4194304 ∨ 4194304 < x ∨ y < -4194304 ∨ 4194304 < y) = true then 5 else 0)) ∧ w' = w := by
  by_cases h : x < -4194304 ∨ 4194304 < x ∨ y < -4194304 ∨ 4194304 < y
  · rw [if_pos (decide_eq_true h)]
    rcases h with h | h | h | h
    all_goals
      go_enter Tryd.func39, Tryd.ntmps39
      go_wp2
      all_goals go_ret
      all_goals first | exact ⟨rfl, rfl⟩ | (exfalso; omega)
  · rw [if_neg (by rw [decide_eq_false h]; decide)]
    have h1 : ¬ x < -4194304 := by omega
    have h2 : ¬ 4194304 < x := by omega
    have h3 : ¬ y < -4194304 := by omega
    have h4 : ¬ 4194304 < y := by omega
    go_enter Tryd.func39, Tryd.ntmps39
    go_wp2
    all_goals go_ret
    all_goals first | exact ⟨rfl, rfl⟩ | (exfalso; omega)
end Go.Proofs.YtgaonoklbihkjaaDoor
