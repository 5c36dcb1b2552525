/- Contracts: math.Floor, field.Floor, slices.ContainsFunc of nothing, water.Melt. -/
import Derived.Test.YtinohfgokpbcdaaWetB
import Derived.Test.YtinohfgokpbcdaaPlaces
import Derived.Test.YtinohfgokpbcdaaResP
import Derived.Test.YtinohfgokpbcdaaBaseA
import Derived.Test.YtinohfgokpbcdaaFloatE
import Derived.Laws.FloatArith
import Derived.Laws.FloatBits
import Derived.Laws.BitsAllLaws
import Derived.Test.YtinohfgokpbcdaaFloorB
import Derived.Test.YtinohfgokpbcdaaKeyB
import Derived.Test.YtinohfgokpbcdaaCheckP
import Derived.Deep.DeepCutAuto
namespace Go.Proofs.Ytinohfgokpbcdaa
open Go.RowKit
attribute [local go_sem ↓] Go.wp_at_zero Go.wp_at_succ
attribute [local go_sem] run_store_float

/-- the error that is wanted, after k numbers -/
def wantK (E0 : Int) (q : List Int) (k : Nat) : Int := if E0 ≠ 0 then E0 else if ∃ j, j < k ∧ (q.getD j 0 < 0 ∨ 1099511627776 < q.getD j 0) then 3 else 0
theorem wantK_zero (E0 : Int) (q : List Int) : wantK E0 q 0 = E0 := by
  unfold wantK
  by_cases h : E0 = 0
  · rw [if_neg (by simpa using h), if_neg (by rintro ⟨j, h1, _⟩; omega), h]
  · rw [if_pos h]
theorem first_two (a b : Int) : firstE [a, b] = if a ≠ 0 then a else b := by
  by_cases ha : a = 0
  · by_cases hb : b = 0 <;> simp [firstE, ha, hb]
  · simp [firstE, ha]
theorem wantK_nil (q : List Int) (k : Nat) : wantK 0 q k = if ∃ j, j < k ∧ (q.getD j 0 < 0 ∨ 1099511627776 < q.getD j 0) then 3 else 0 := by
  unfold wantK
  rw [if_neg (by decide)]
theorem wantK_old {E0 : Int} (h : E0 ≠ 0) (q : List Int) (k : Nat) : wantK E0 q k = E0 := by unfold wantK; rw [if_pos h]
theorem wantK_next (E0 : Int) (q : List Int) (k : Nat) : firstE [wantK E0 q k, if (!(decide (0 ≤ q.getD k 0) && decide (q.getD k 0 ≤ 1099511627776))) = true then 3 else 0] = wantK E0 q (k + 1) := by
  rw [first_two]
  by_cases h : E0 = 0
  · subst h
    have hz : (if (!(decide (0 ≤ q.getD k 0) && decide (q.getD k 0 ≤ 1099511627776))) = true then (3 : Int) else 0) = if q.getD k 0 < 0 ∨ 1099511627776 < q.getD k 0 then 3 else 0 := by
      generalize q.getD k 0 = n
      by_cases h : n < 0 ∨ 1099511627776 < n
      · have h2 : (!(decide (0 ≤ n) && decide (n ≤ 1099511627776))) = true := by
          by_cases h4 : 0 ≤ n <;> by_cases h5 : n ≤ 1099511627776 <;> simp [h4, h5] <;> omega
        rw [if_pos h, if_pos h2]
      · have h2 : ¬ (!(decide (0 ≤ n) && decide (n ≤ 1099511627776))) = true := by
          have h4 : 0 ≤ n := by omega
          have h5 : n ≤ 1099511627776 := by omega
          simp [h4, h5]
        rw [if_neg h, if_neg h2]
    rw [hz, wantK_nil, wantK_nil]
    by_cases h1 : ∃ j, j < k ∧ (q.getD j 0 < 0 ∨ 1099511627776 < q.getD j 0)
    · obtain ⟨j, h2, h3⟩ := h1
      have hA : (if ∃ j, j < k ∧ (q.getD j 0 < 0 ∨ 1099511627776 < q.getD j 0) then (3 : Int) else 0) = 3 := if_pos ⟨j, h2, h3⟩
      rw [hA, if_pos (by decide), if_pos ⟨j, by omega, h3⟩]
    · have hA : (if ∃ j, j < k ∧ (q.getD j 0 < 0 ∨ 1099511627776 < q.getD j 0) then (3 : Int) else 0) = 0 := if_neg h1
      rw [hA, if_neg (by decide)]
      by_cases h2 : q.getD k 0 < 0 ∨ 1099511627776 < q.getD k 0
      · rw [if_pos h2, if_pos ⟨k, by omega, h2⟩]
      · rw [if_neg h2, if_neg]
        rintro ⟨j, h3, h4⟩
        by_cases e : j = k
        · subst e; exact h2 h4
        · exact h1 ⟨j, by omega, h4⟩
  · rw [wantK_old h, wantK_old h, if_pos h]
theorem wantK_end (X Y W H : Int) (l : List Nat) (q : List Int) : wantK (firstE [fieldE X Y W H l, if q.length ≠ l.length then 2 else 0]) q q.length = wetE X Y W H l q := by
  rw [first_two]
  unfold wantK wetE numsE
  by_cases h : fieldE X Y W H l = 0
  · simp only [h, ne_eq, not_true_eq_false, if_false]
    by_cases h2 : q.length = l.length
    · simp [h2]
    · simp [h2]
  · simp [h]
set_option maxRecDepth 100000 in
set_option maxHeartbeats 6400000 in
theorem wet_bad_walk (X Y W H : Int) (N n : Nat) (A B : Option Addr) (c c' : Nat) (l : List Nat) (q : List Int) (w : World) (hl : l.length = N) (hn : q.length = n) (hV : Rd w A (flt l)) (hQ : Rd w B (intC q)) (hb : N ≤ 140737488351232) (hb2 : n ≤ 140737488351232) (hE : wetE X Y W H l q ≠ 0) :
    Calls Try.prog 6 #[.agg #[.int .i64 X, .int .i64 Y, .int .i64 W, .int .i64 H, .slice A N c], .slice B n c'] w fun e w' => e = .returned (.bool true) ∧ Ext w w' := by
  have HB := fun (w : World) (h : Rd w A (flt l)) (h2 : Rd w B (intC q)) => hidA (Wet_bad X Y W H N n A B c c' l q w hl hn h h2 hb hb2 hE)
  have HE := fun (w : World) (h : Rd w A (flt l)) => hidA (fieldError_any X Y W H A N c l w hl h hb)
  have HZ := fun (w : World) => hidA (empty_zero w)
  have HW := fun (w : World) => hidA (flows_any w)
  have HWh := fun (b : Bool) (x : Int) (w : World) => hidA (when_any b x w)
  have HWi := fun (x : Int) (w : World) => hidA (within_any x 0 1099511627776 w)
  have HS := fun (x y : Int) (B : Option Addr) (w : World) (h : Rd w B ([x, y].map (.int .i64))) => hidA (first_any B 2 2 [x, y] w rfl h (by omega))
  have hend := wantK_end X Y W H l q
  have hE' : (wetE X Y W H l q != 0) = true := by simpa using hE
  generalize wetE X Y W H l q = E at *
  generalize fieldE X Y W H l = f1 at *
  go_enter Try.func6, Try.ntmps6
  go_upto_region 2 with (go_at_call 36; refine ((HB _ (hV.ext (by repeat (first | (with_reducible exact Ext.refl _) | (with_reducible assumption) | (with_reducible refine Ext.setCell ?_ (by first | (simp; done) | (simp; omega)) _) | (with_reducible refine Ext.drewN ?_ _) | (with_reducible refine Ext.alloc ?_ _) | (with_reducible refine Ext.drew ?_) | (with_reducible refine Ext.trans ?_ (by assumption))))) (hQ.ext (by repeat (first | (with_reducible exact Ext.refl _) | (with_reducible assumption) | (with_reducible refine Ext.setCell ?_ (by first | (simp; done) | (simp; omega)) _) | (with_reducible refine Ext.drewN ?_ _) | (with_reducible refine Ext.alloc ?_ _) | (with_reducible refine Ext.drew ?_) | (with_reducible refine Ext.trans ?_ (by assumption)))))).out).mono ?_; rintro e w1 ⟨rfl, hx1⟩)
  have kF : Bk (w1.alloc (.cells #[.int .i64 0, .int .i64 0, .int .i64 0, .int .i64 0, .slice none 0 0] 26)) w.heap.size 26 #[.int .i64 X, .int .i64 Y, .int .i64 W, .int .i64 H, .slice A N c] := ((Bk.new' rfl).ext hx1).alloc _
  have kG : Bk (w1.alloc (.cells #[.int .i64 0, .int .i64 0, .int .i64 0, .int .i64 0, .slice none 0 0] 26)) w1.heap.size 26 #[.int .i64 0, .int .i64 0, .int .i64 0, .int .i64 0, .slice none 0 0] := Bk.new' rfl
  have hx2 : Ext w (w1.alloc (.cells #[.int .i64 0, .int .i64 0, .int .i64 0, .int .i64 0, .slice none 0 0] 26)) := (((Ext.refl w).alloc _).trans hx1).alloc _
  clear hx1 HB
  generalize w1.alloc (.cells #[.int .i64 0, .int .i64 0, .int .i64 0, .int .i64 0, .slice none 0 0] 26) = w2 at *
  generalize w1.heap.size = hg at *
  have b0 : ∀ w', Ext w2 w' → w'.cell? ⟨w.heap.size, 0, none⟩ = some (.int .i64 X) := fun w' h => (kF.ext h).cell 0
  have b1 : ∀ w', Ext w2 w' → w'.cell? ⟨w.heap.size, 1, none⟩ = some (.int .i64 Y) := fun w' h => (kF.ext h).cell 1
  have b2 : ∀ w', Ext w2 w' → w'.cell? ⟨w.heap.size, 2, none⟩ = some (.int .i64 W) := fun w' h => (kF.ext h).cell 2
  have b3 : ∀ w', Ext w2 w' → w'.cell? ⟨w.heap.size, 3, none⟩ = some (.int .i64 H) := fun w' h => (kF.ext h).cell 3
  have b4 : ∀ w', Ext w2 w' → w'.cell? ⟨w.heap.size, 4, none⟩ = some (.slice A N c) := fun w' h => (kF.ext h).cell 4
  refine wp_region_noPanic ?_
  refine wp_region_held_drew (S := fun w' => Ext w2 w') (by kernel_rfl) ?_ (fun hHeld => ?_)
  · (repeat (first | (with_reducible exact Ext.refl _) | (with_reducible assumption) | (with_reducible refine Ext.setCell ?_ (by first | (simp; done) | (simp; omega)) _) | (with_reducible refine Ext.drewN ?_ _) | (with_reducible refine Ext.alloc ?_ _) | (with_reducible refine Ext.drew ?_) | (with_reducible refine Ext.trans ?_ (by assumption))))
  refine wpAnyH_take (i := 0) (oi := ?o1x0) (v := ?v1x0) ?hi1x0 (by kernel_rfl) ?hf1x0 ?hr1x0 (fun _ _ _ h => h) ?hy1x0 (by assumption) ?rest1x0
  case hi1x0 => (simp only [List.getElem?_toArray, List.getElem?_cons_zero]; exact rfl)
  case hf1x0 => kernel_rfl
  case hr1x0 => kernel_rfl
  case hy1x0 => (refine Or.inl ⟨by rfl, ?_⟩; intro w hSw; (try dsimp only at hSw); go_simp; try with_reducible rfl)
  simp only [put_mk, List.set_cons_succ, List.set_cons_zero]
  refine wpAnyH_take (i := 2) (oi := ?o1x2) (v := ?v1x2) ?hi1x2 (by kernel_rfl) ?hf1x2 ?hr1x2 (fun _ _ _ h => h) ?hy1x2 (by assumption) ?rest1x2
  case hi1x2 => (simp only [List.getElem?_toArray, List.getElem?_cons_succ, List.getElem?_cons_zero]; exact rfl)
  case hf1x2 => kernel_rfl
  case hr1x2 => kernel_rfl
  case hy1x2 => (refine Or.inl ⟨by rfl, ?_⟩; intro w hSw; (try dsimp only at hSw); go_simp; try with_reducible rfl)
  simp only [put_mk, List.set_cons_succ, List.set_cons_zero]
  refine wpAnyH_take (i := 3) (oi := ?o1x3) (v := ?v1x3) ?hi1x3 (by kernel_rfl) ?hf1x3 ?hr1x3 (fun _ _ _ h => h) ?hy1x3 (by assumption) ?rest1x3
  case hi1x3 => (simp only [List.getElem?_toArray, List.getElem?_cons_succ, List.getElem?_cons_zero]; exact rfl)
  case hf1x3 => kernel_rfl
  case hr1x3 => kernel_rfl
  case hy1x3 => (refine Or.inl ⟨by rfl, ?_⟩; intro w hSw; (try dsimp only at hSw); go_simp; try with_reducible rfl)
  simp only [put_mk, List.set_cons_succ, List.set_cons_zero]
  refine wpAnyH_take (i := 4) (oi := ?o1x4) (v := ?v1x4) ?hi1x4 (by kernel_rfl) ?hf1x4 ?hr1x4 (fun _ _ _ h => h) ?hy1x4 (by assumption) ?rest1x4
  case hi1x4 => (simp only [List.getElem?_toArray, List.getElem?_cons_succ, List.getElem?_cons_zero]; exact rfl)
  case hf1x4 => kernel_rfl
  case hr1x4 => kernel_rfl
  case hy1x4 => (refine Or.inl ⟨by rfl, ?_⟩; intro w hSw; (try dsimp only at hSw); go_simp; try with_reducible rfl)
  simp only [put_mk, List.set_cons_succ, List.set_cons_zero]
  refine wpAnyH_take (i := 5) (oi := ?o1x5) (v := ?v1x5) ?hi1x5 (by kernel_rfl) ?hf1x5 ?hr1x5 (fun _ _ _ h => h) ?hy1x5 (by assumption) ?rest1x5
  case hi1x5 => (simp only [List.getElem?_toArray, List.getElem?_cons_succ, List.getElem?_cons_zero]; exact rfl)
  case hf1x5 => kernel_rfl
  case hr1x5 => kernel_rfl
  case hy1x5 => (refine Or.inl ⟨by rfl, ?_⟩; intro w hSw; (try dsimp only at hSw); go_simp; try with_reducible rfl)
  simp only [put_mk, List.set_cons_succ, List.set_cons_zero]
  refine wpAnyH_take (i := 6) (oi := ?o1x6) (v := ?v1x6) ?hi1x6 (by kernel_rfl) ?hf1x6 ?hr1x6 (fun _ _ _ h => h) ?hy1x6 (by assumption) ?rest1x6
  case hi1x6 => (simp only [List.getElem?_toArray, List.getElem?_cons_succ, List.getElem?_cons_zero]; exact rfl)
  case hf1x6 => kernel_rfl
  case hr1x6 => kernel_rfl
  case hy1x6 => (refine Or.inl ⟨by rfl, ?_⟩; intro w hSw; (try dsimp only at hSw); go_simp; try with_reducible rfl)
  simp only [put_mk, List.set_cons_succ, List.set_cons_zero]
  refine wpAnyH_take (i := 7) (oi := ?o1x7) (v := ?v1x7) ?hi1x7 (by kernel_rfl) ?hf1x7 ?hr1x7 (fun _ _ _ h => h) ?hy1x7 (by assumption) ?rest1x7
  case hi1x7 => (simp only [List.getElem?_toArray, List.getElem?_cons_succ, List.getElem?_cons_zero]; exact rfl)
  case hf1x7 => kernel_rfl
  case hr1x7 => kernel_rfl
  case hy1x7 => (refine Or.inl ⟨by rfl, ?_⟩; intro w hSw; (try dsimp only at hSw); go_simp; try with_reducible rfl)
  simp only [put_mk, List.set_cons_succ, List.set_cons_zero]
  refine wpAnyH_ready (rs := [1]) (by kernel_rfl) (by simp) ?_
  refine AllReadyH.cons (o := ?o1x1) ?hi1x1 (fun K hK => ?_) AllReadyH.nil
  case hi1x1 => (simp only [List.getElem?_toArray, List.getElem?_cons_succ, List.getElem?_cons_zero]; exact rfl)
  go_simp
  refine ((HE _ (hV.ext (hx2.trans (by repeat (first | (with_reducible exact Ext.refl _) | (with_reducible assumption) | (with_reducible refine Ext.setCell ?_ (by first | (simp; done) | (simp; omega)) _) | (with_reducible refine Ext.drewN ?_ _) | (with_reducible refine Ext.alloc ?_ _) | (with_reducible refine Ext.drew ?_) | (with_reducible refine Ext.trans ?_ (by assumption))))))).out).mono ?_
  rintro e w3 ⟨rfl, hx3⟩
  refine hK.out _ _ ?_ (fun hHeld => ?_)
  · (repeat (first | (with_reducible exact Ext.refl _) | (with_reducible assumption) | (with_reducible refine Ext.setCell ?_ (by first | (simp; done) | (simp; omega)) _) | (with_reducible refine Ext.drewN ?_ _) | (with_reducible refine Ext.alloc ?_ _) | (with_reducible refine Ext.drew ?_) | (with_reducible refine Ext.trans ?_ (by assumption))))
  clear hK K
  refine wpAnyH_ready (rs := [8]) (by kernel_rfl) (by simp) ?_
  refine AllReadyH.cons (o := ?o1x8) ?hi1x8 (fun K hK => ?_) AllReadyH.nil
  case hi1x8 => (simp only [List.getElem?_toArray, List.getElem?_cons_succ, List.getElem?_cons_zero]; exact rfl)
  go_simp
  refine ((HWh _ _ _).out).mono ?_
  rintro e w4 ⟨rfl, rfl⟩
  refine hK.out _ _ ?_ (fun hHeld => ?_)
  · (repeat (first | (with_reducible exact Ext.refl _) | (with_reducible assumption) | (with_reducible refine Ext.setCell ?_ (by first | (simp; done) | (simp; omega)) _) | (with_reducible refine Ext.drewN ?_ _) | (with_reducible refine Ext.alloc ?_ _) | (with_reducible refine Ext.drew ?_) | (with_reducible refine Ext.trans ?_ (by assumption))))
  clear hK K
  refine wpAnyH_ready (rs := [9]) (by kernel_rfl) (by simp) ?_
  refine AllReadyH.cons (o := ?o1x9) ?hi1x9 (fun K hK => ?_) AllReadyH.nil
  case hi1x9 => (simp only [List.getElem?_toArray, List.getElem?_cons_succ, List.getElem?_cons_zero]; exact rfl)
  go_simp
  refine hK.out _ _ ?_ (fun hHeld => ?_)
  · (repeat (first | (with_reducible exact Ext.refl _) | (with_reducible assumption) | (with_reducible refine Ext.setCell ?_ (by first | (simp; done) | (simp; omega)) _) | (with_reducible refine Ext.drewN ?_ _) | (with_reducible refine Ext.alloc ?_ _) | (with_reducible refine Ext.drew ?_) | (with_reducible refine Ext.trans ?_ (by assumption))))
  clear hK K
  refine wpAnyH_ready (rs := [10]) (by kernel_rfl) (by simp) ?_
  refine AllReadyH.cons (o := ?o1x10) ?hi1x10 (fun K hK => ?_) AllReadyH.nil
  case hi1x10 => (simp only [List.getElem?_toArray, List.getElem?_cons_succ, List.getElem?_cons_zero]; exact rfl)
  go_simp
  refine ((HS _ _ _ _ (Rd.new (by first | rfl | simp) (by first | rfl | simp))).out).mono ?_
  rintro e w5 ⟨rfl, hx5⟩
  have hg5 : Ext w2 w5 := by rw [← hx5]; (repeat (first | (with_reducible exact Ext.refl _) | (with_reducible assumption) | (with_reducible refine Ext.setCell ?_ (by first | (simp; done) | (simp; omega)) _) | (with_reducible refine Ext.drewN ?_ _) | (with_reducible refine Ext.alloc ?_ _) | (with_reducible refine Ext.drew ?_) | (with_reducible refine Ext.trans ?_ (by assumption))))
  refine hK.out _ _ ?_ (fun hHeld => ?_)
  · (repeat (first | (with_reducible exact Ext.refl _) | (with_reducible assumption) | (with_reducible refine Ext.setCell ?_ (by first | (simp; done) | (simp; omega)) _) | (with_reducible refine Ext.drewN ?_ _) | (with_reducible refine Ext.alloc ?_ _) | (with_reducible refine Ext.drew ?_) | (with_reducible refine Ext.trans ?_ (by assumption))))
  clear hK K
  refine wpAnyH_take (i := 11) (oi := ?o1x11) (v := ?v1x11) ?hi1x11 (by kernel_rfl) ?hf1x11 ?hr1x11 (fun _ _ _ h => h) ?hy1x11 (by assumption) ?rest1x11
  case hi1x11 => (simp only [List.getElem?_toArray, List.getElem?_cons_succ, List.getElem?_cons_zero]; exact rfl)
  case hf1x11 => kernel_rfl
  case hr1x11 => kernel_rfl
  case hy1x11 => (refine Or.inl ⟨by rfl, ?_⟩; intro w hSw; (try dsimp only at hSw); go_simp; try with_reducible rfl)
  simp only [put_mk, List.set_cons_succ, List.set_cons_zero]
  refine wpAnyH_done (by kernel_rfl) ?_ _
  refine NoPanic.normal ?_
  have hE0 : (if (n : Int) = (N : Int) then (0 : Int) else 2) = if q.length ≠ l.length then 2 else 0 := by
    by_cases h : n = N
    · rw [if_pos (by rw [h]), if_neg (by rw [hl, hn, h]; simp)]
    · rw [if_neg (by omega), if_pos (by rw [hl, hn]; exact h)]
  rw [hE0]
  generalize (if q.length ≠ l.length then (2 : Int) else 0) = u at *
  generalize firstE [f1, u] = E0 at *
  have hg6 := hx2.trans hg5
  have kG5 := kG.ext hg5
  rw [hn] at hend
  have Hend := hidA hend
  have Hn := hidA hn
  clear hx5 hE0 hg5 kF kG b0 b1 b2 b3 b4 hx3 hHeld hl hn hend hb hE HE
  go_wp2
  go_loopw [7, 34] (fun s7 s34 wr => ∃ k : Nat, k ≤ n ∧ s34 = .int .i64 k ∧ s7 = .int .i64 (wantK E0 q k) ∧ Ext w5 wr) (fun _ s34 _ => n - (intOf s34).toNat)
  case atStart => exact ⟨0, Nat.zero_le _, rfl, by rw [wantK_zero], Ext.refl _⟩
  case round =>
    obtain ⟨k, hk, rfl, rfl, hx⟩ := hrel
    by_cases hkn : k < n
    · have hkq : k < q.length := by rw [Hn.out]; exact hkn
      obtain ⟨ad, rfl, hbk, hcv⟩ := (hQ.ext (hg6.trans hx)).at (k := k) (by rw [intC_length]; exact hkq)
      have ck := hcv k _ (intC_get hkq)
      have hnext := wantK_next E0 q k
      generalize q.getD k 0 = z at *
      have HWz := fun w => HWi z w
      clear HWi hcv hkq
      generalize wantK E0 q k = a at *
      generalize hzz : wantK E0 q (k + 1) = a2 at *
      have Hzz := hidA hzz
      clear hzz
      have i0 : (0 : Int) ≤ k := by omega
      have i1 : (k : Int) < n := by omega
      cases hbb : (decide (0 ≤ z) && decide (z ≤ 1099511627776))
      all_goals
        rw [hbb] at hnext
        rw [hbb] at HWz
        simp only [Bool.not_true, Bool.not_false, if_true, if_false, Bool.false_eq_true] at hnext
        have Hnext := hidA hnext
        clear hbb hnext
        go_wp2_with (first | (go_at_call 27; refine ((HWz _).out).mono ?_; rintro e w6 ⟨rfl, rfl⟩) | (go_at_call 19; refine ((HWh _ _ _).out).mono ?_; rintro e w7 ⟨rfl, rfl⟩) | (go_at_call 16; refine ((HS _ _ _ _ (Rd.new (by first | rfl | simp) (by first | rfl | simp))).out).mono ?_; rintro e w8 ⟨rfl, hx8⟩))
        have hx9 : Ext w5 w8 := hx.trans (by rw [← hx8]; (repeat (first | (with_reducible exact Ext.refl _) | (with_reducible assumption) | (with_reducible refine Ext.setCell ?_ (by first | (simp; done) | (simp; omega)) _) | (with_reducible refine Ext.drewN ?_ _) | (with_reducible refine Ext.alloc ?_ _) | (with_reducible refine Ext.drew ?_) | (with_reducible refine Ext.trans ?_ (by assumption)))))
        go_roundw
        case rel => exact ⟨k + 1, by omega, by go_num, by rw [Hnext.out, Hzz.out], hx9⟩
        case measure => simp [intOf]; omega
    · have hkn' : k = n := by omega
      subst hkn'
      rw [Hend.out]
      have kG6 := kG5.ext hx
      have hgx := hg6.trans hx
      clear hx kG5 hg6 Hend
      have c0 := kG6.cell 0
      have c1 := kG6.cell 1
      have c2 := kG6.cell 2
      have c3 := kG6.cell 3
      have c4 := kG6.cell 4
      go_upto_region 9 with (go_at_call 20; refine ((HW _).out).mono ?_; rintro e w6 ⟨rfl, hx6⟩)
      have kG7 := kG6.ext hx6
      have hgy := hgx.trans hx6
      clear c0 c1 c2 c3 c4 kG6 hgx hx6
      go_wp2_with (first | (go_at_call 20; refine ((HW _).out).mono ?_; rintro e w7 ⟨rfl, hx7⟩; have kG8 := kG7.ext hx7; have hgz := hgy.trans hx7; have c0 := kG8.cell 0; have c1 := kG8.cell 1; have c2 := kG8.cell 2; have c3 := kG8.cell 3; have c4 := kG8.cell 4) | (go_at_call 21; refine ((HZ _).out).mono ?_; rintro e w8 ⟨rfl, hx8⟩))
      go_ret
      exact ⟨rfl, hgz.trans hx8⟩
end Go.Proofs.Ytinohfgokpbcdaa
namespace Go.Proofs.Ytinohfgokpbcdaa
open Go.RowKit

theorem f32bits' (a : Nat) (w : World) : (callFunc 35 #[.float .f32 a]).run Try.prog w = .ok (.value (.int .u32 a)) w := by kernel_rfl

set_option maxHeartbeats 400000 in
theorem bits1_same (a : Nat) (w : World) : Calls Try.prog 113 #[.float .f32 a, .float .f32 a] w fun e w' => e = .returned (.bool true) ∧ w = w' := by
  have hf := f32bits' a
  go_enter Try.func113, Try.ntmps113
  go_wp2
  go_ret
  exact ⟨ret_b (by simp), rfl⟩

set_option maxHeartbeats 800000 in
theorem eqFunc_same (A B : Option Addr) (n c d : Nat) (l : List Nat) (w : World) (hn : l.length = n) (ha : Rd w A (flt l)) (hb : Rd w B (flt l)) (hnb : n ≤ 4000000000) :
    Calls Try.prog 112 #[.slice A n c, .slice B n d, .func (.func 113) #[] #[]] w fun e w' => e = .returned (.bool true) ∧ w = w' := by
  have Hn := hidA hn
  clear hn
  go_enter Try.func112, Try.ntmps112
  go_wp2
  go_loop [17] (fun i => ∃ k : Nat, k ≤ n ∧ i = .int .i64 k) (fun i => n - (intOf i).toNat)
  case atStart => exact ⟨0, Nat.zero_le _, rfl⟩
  case round =>
    obtain ⟨k, hk, rfl⟩ := hrel
    by_cases hlt : k < n
    · have hkl : k < l.length := by have := Hn.out; omega
      obtain ⟨ad, rfl, hbk, hc⟩ := ha.at (k := k) (by simpa using hkl)
      obtain ⟨ad2, rfl, hbk2, hc2⟩ := hb.at (k := k) (by simpa using hkl)
      have e0 := hc k _ (flt_get hkl)
      have e1 := hc2 k _ (flt_get hkl)
      clear hc hc2 ha hb
      go_wp2_with (go_at_call 113; refine (bits1_same _ _).mono ?_; rintro e w' ⟨rfl, rfl⟩)
      go_round
      case rel => exact ⟨k + 1, by omega, by go_num⟩
      case measure => simp [intOf]; omega
    · obtain rfl : k = n := by omega
      go_wp2
      go_ret
      exact ⟨rfl, rfl⟩

theorem bits_same (A B : Option Addr) (n c d : Nat) (l : List Nat) (w : World) (hn : l.length = n) (ha : Rd w A (flt l)) (hb : Rd w B (flt l)) (hnb : n ≤ 4000000000) :
    Calls Try.prog 56 #[.slice A n c, .slice B n d] w fun e w' => e = .returned (.bool true) ∧ w = w' := by
  go_enter Try.func56, Try.ntmps56
  go_wp2_with fail
  refine (eqFunc_same A B n c d l _ hn ha hb hnb).mono ?_
  rintro e w' ⟨rfl, rfl⟩
  go_wp2
  go_ret
  exact ⟨rfl, rfl⟩

end Go.Proofs.Ytinohfgokpbcdaa
namespace Go.Proofs.Ytinohfgokpbcdaa
open Go.RowKit
attribute [local go_sem ↓] Go.wp_at_zero Go.wp_at_succ

set_option maxHeartbeats 1600000 in
set_option maxRecDepth 100000 in
theorem result_ok (X Y W H : Int) (A B : Option Addr) (n c d : Nat) (l : List Nat) (w : World) (hn : l.length = n) (ha : Rd w A (flt l)) (hb : Rd w B (flt l)) (hnb : n ≤ 4000000000) (hz : numE l = 0) :
    Calls Try.prog 39 #[.agg #[.int .i64 X, .int .i64 Y, .int .i64 W, .int .i64 H, .slice B n d], .int .i64 0, .agg #[.int .i64 X, .int .i64 Y, .int .i64 W, .int .i64 H], .slice A n c] w fun e w' => e = .returned (.bool true) ∧ Ext w w' := by
  have HZ := hidA hz
  clear hz
  go_enter Try.func39, Try.ntmps39
  go_wp2_with fail
  refine (numberError_any A n c l _ hn ((ha.alloc _).alloc _) (by omega)).mono ?_
  rw [HZ.out]
  rintro e w' ⟨rfl, rfl⟩
  go_wp2_with (go_at_call 56; refine (bits_same B A n d c l _ hn ((hb.alloc _).alloc _) ((ha.alloc _).alloc _) hnb).mono ?_; rintro e w2 ⟨rfl, rfl⟩)
  go_ret
  exact ⟨rfl, (by repeat (first | exact Ext.refl _ | assumption | refine Ext.setCell ?_ (by first | (simp; done) | (simp; omega)) _ | refine Ext.drewN ?_ _ | refine Ext.alloc ?_ _ | refine Ext.drew ?_ | refine Ext.trans ?_ (by assumption)))⟩
set_option maxHeartbeats 1600000 in
set_option maxRecDepth 100000 in
theorem result_no (X Y W H : Int) (A : Option Addr) (n c : Nat) (l : List Nat) (w : World) (hn : l.length = n) (ha : Rd w A (flt l)) (hnb : n ≤ 4000000000) (hz : numE l ≠ 0) :
    Calls Try.prog 39 #[.agg #[.int .i64 0, .int .i64 0, .int .i64 0, .int .i64 0, .slice none 0 0], .int .i64 3, .agg #[.int .i64 X, .int .i64 Y, .int .i64 W, .int .i64 H], .slice A n c] w fun e w' => e = .returned (.bool true) ∧ Ext w w' := by
  have HN := fun (w : World) (h : Rd w A (flt l)) => hidA (numberError_any A n c l w hn h (by omega))
  have HZ := fun (w : World) => hidA (empty_zero w)
  have hz' : (numE l != 0) = true := by simpa using hz
  generalize numE l = E at *
  clear hz
  go_enter Try.func39, Try.ntmps39
  go_wp2_with fail
  refine ((HN _ ((ha.alloc _).alloc _)).out).mono ?_
  rintro e w' ⟨rfl, rfl⟩
  go_wp2_with (go_at_call 21; refine ((HZ _).out).mono ?_; rintro e w2 ⟨rfl, hx2⟩)
  go_ret
  exact ⟨rfl, (by repeat (first | exact Ext.refl _ | assumption | refine Ext.setCell ?_ (by first | (simp; done) | (simp; omega)) _ | refine Ext.drewN ?_ _ | refine Ext.alloc ?_ _ | refine Ext.drew ?_ | refine Ext.trans ?_ (by assumption)))⟩
end Go.Proofs.Ytinohfgokpbcdaa
namespace Go.Proofs.Ytinohfgokpbcdaa
open Go.RowKit

/-- the parts of what Wet returns -/
def WetR (X Y : Int) (Wn Hn N : Nat) (v : List Nat) (w' : World) (a b c1 d : Int) (vA : Option Addr) (vn vc : Nat) (ec : Int) : Prop :=
  (v.all hgtB = true ∧ a = X ∧ b = Y ∧ c1 = Wn ∧ d = Hn ∧ vn = N ∧ ec = 0 ∧ Rd w' vA (flt v)) ∨ (v.all hgtB = false ∧ a = 0 ∧ b = 0 ∧ c1 = 0 ∧ d = 0 ∧ vA = none ∧ vn = 0 ∧ vc = 0 ∧ ec = 3)
theorem WetR.ext {X Y : Int} {Wn Hn N : Nat} {v : List Nat} {w w' : World} {a b c1 d : Int} {vA : Option Addr} {vn vc : Nat} {ec : Int} (h : WetR X Y Wn Hn N v w a b c1 d vA vn vc ec) (hx : Ext w w') : WetR X Y Wn Hn N v w' a b c1 d vA vn vc ec := by
  rcases h with ⟨h1, h2, h3, h4, h5, h6, h7, h8⟩ | h
  · exact .inl ⟨h1, h2, h3, h4, h5, h6, h7, h8.ext hx⟩
  · exact .inr h
theorem Wet_one (X Y : Int) (Wn Hn N : Nat) (A B : Option Addr) (c c' : Nat) (l : List Nat) (q : List Int) (w : World) (hr : Reg X Y Wn Hn) (hN : N = Wn * Hn) (hl : l.length = N) (hV : Rd w A (flt l)) (hQ : Rd w B (intC q)) (hf : fieldE X Y Wn Hn l = 0) (hq : numsE q N 1099511627776 = 0) :
    Calls Try.prog 36 #[.agg #[.int .i64 X, .int .i64 Y, .int .i64 (Wn : Int), .int .i64 (Hn : Int), .slice A N c], .slice B N c'] w fun e w' => ∃ (a b c1 d : Int) (vA : Option Addr) (vn vc : Nat) (ec : Int), e = .returned (.tuple #[.agg #[.int .i64 a, .int .i64 b, .int .i64 c1, .int .i64 d, .slice vA vn vc], .int .i64 ec]) ∧
      WetR X Y Wn Hn N ((List.range N).map (wetF (fun j => l.getD j 0) q Wn Hn)) w' a b c1 d vA vn vc ec ∧ Ext w w' := by
  refine (Wet_ok X Y Wn Hn N A B c c' l q w hr hN hl hV hQ hf hq).mono ?_
  rintro e w' ⟨g, cap, hR, hx, ⟨h1, rfl⟩ | ⟨h1, rfl⟩⟩
  · exact ⟨_, _, _, _, _, _, _, _, rfl, .inl ⟨h1, rfl, rfl, rfl, rfl, rfl, rfl, hR⟩, hx⟩
  · exact ⟨_, _, _, _, _, _, _, _, rfl, .inr ⟨h1, rfl, rfl, rfl, rfl, rfl, rfl, rfl, rfl⟩, hx⟩
theorem result_two (X Y : Int) (Wn Hn N : Nat) (v : List Nat) (w : World) (a b c1 d : Int) (vA B : Option Addr) (vn vc c : Nat) (ec : Int) (h : WetR X Y Wn Hn N v w a b c1 d vA vn vc ec) (hn : v.length = N) (hB : Rd w B (flt v)) (hnb : N ≤ 4000000000) :
    Calls Try.prog 39 #[.agg #[.int .i64 a, .int .i64 b, .int .i64 c1, .int .i64 d, .slice vA vn vc], .int .i64 ec, .agg #[.int .i64 X, .int .i64 Y, .int .i64 (Wn : Int), .int .i64 (Hn : Int)], .slice B N c] w fun e w' => e = .returned (.bool true) ∧ Ext w w' := by
  rcases h with ⟨h1, rfl, rfl, rfl, rfl, rfl, rfl, h8⟩ | ⟨h1, rfl, rfl, rfl, rfl, rfl, rfl, rfl, rfl⟩
  · exact result_ok _ _ _ _ B vA _ c vc v w hn hB h8 hnb (numE_all h1)
  · exact result_no X Y Wn Hn B N c v w hn hB hnb (numE_not h1)
end Go.Proofs.Ytinohfgokpbcdaa
namespace Go.Proofs.Ytinohfgokpbcdaa
open Go.RowKit
attribute [local go_sem ↓] Go.wp_at_zero Go.wp_at_succ

theorem fin_of {K b : Nat} (h : Bd K b) (hK : K ≤ 127) : b % 2147483648 < 2139095040 := by
  unfold Bd at h
  omega
theorem to_bits32 (a : Nat) (w : World) : (callFunc 35 #[.float .f32 a]).run Try.prog w = .ok (.value (.int .u32 a)) w := by kernel_rfl
theorem of_bits32 (a : Nat) (w : World) : (callFunc 159 #[.int .u32 a]).run Try.prog w = .ok (.value (.float .f32 a)) w := by kernel_rfl
theorem to_bits64 (a : Nat) (w : World) : (callFunc 166 #[.float .f64 a]).run Try.prog w = .ok (.value (.int .u64 a)) w := by kernel_rfl
theorem of_bits64 (a : Nat) (w : World) : (callFunc 165 #[.int .u64 a]).run Try.prog w = .ok (.value (.float .f64 a)) w := by kernel_rfl

theorem wide_lt {b d : Nat} (h : floatToFloatBits .f32 b .f64 = some d) : d < 18446744073709551616 := by
  unfold floatToFloatBits at h
  rw [if_neg (by decide)] at h
  split at h
  · cases h
  · cases h
    exact Ieee.Format.write_lt _ _
  · split at h
    · cases h
    · cases h
      exact Ieee.Format.write_lt _ _
theorem clear32 (b : Nat) (hb : b < 4294967296) : bits .andNot .u32 (b : Int) 2147483648 = ((absB b : Nat) : Int) := by
  have h := u32_andNot_nat b 2147483648 hb (by omega)
  rw [show (4294967295 : Nat) - 2147483648 = 2 ^ 31 - 1 from rfl, Nat.and_two_pow_sub_one_eq_mod] at h
  exact h
theorem clear64 (b : Nat) (hb : b < 18446744073709551616) : bits .andNot .u64 (b : Int) 9223372036854775808 = ((b % 9223372036854775808 : Nat) : Int) := by
  have h := u64_andNot_nat b 9223372036854775808 hb (by omega)
  rw [show (18446744073709551615 : Nat) - 9223372036854775808 = 2 ^ 63 - 1 from rfl, Nat.and_two_pow_sub_one_eq_mod] at h
  exact h
theorem refAbs_any (b : Nat) (w : World) (hb : b < 4294967296) :
    Calls Try.prog 146 #[.float .f32 b] w fun e w' => e = .returned (.float .f32 (absB b)) ∧ w' = w := by
  have h1 := to_bits32 b
  have h2 := of_bits32
  have h3 := clear32 b hb
  go_enter Try.func146, Try.ntmps146
  go_wp2
  go_ret
  exact ⟨rfl, rfl⟩
theorem mathAbs_any (b : Nat) (w : World) (hb : b < 18446744073709551616) :
    Calls Try.prog 158 #[.float .f64 b] w fun e w' => e = .returned (.float .f64 (b % 9223372036854775808)) ∧ w' = w := by
  have h1 := to_bits64 b
  have h2 := of_bits64
  have h3 := clear64 b hb
  generalize b % 9223372036854775808 = r at *
  go_enter Try.func158, Try.ntmps158
  go_wp2
  go_ret
  exact ⟨rfl, rfl⟩
theorem magnitude_any {K : Nat} (b : Nat) (w : World) (hb : Bd K b) (hK : K ≤ 127) :
    Calls Try.prog 145 #[.float .f32 b] w fun e w' => e = .returned (.float .f32 (absB b)) ∧ w' = w := by
  obtain ⟨d, h1, h2⟩ := mag_conv (fin_of hb hK)
  have hd : d < 18446744073709551616 := wide_lt h1
  have c1 := fun (w : World) => run_convert_float_float (P := Try.prog) w 27 72 .f32 .f64 b d (by kernel_rfl) Try.underlying72 h1
  have c2 := fun (w : World) => run_convert_float_float (P := Try.prog) w 72 27 .f64 .f32 (d % 9223372036854775808) (absB b) (by kernel_rfl) Try.underlying27 h2
  have hA := fun (w : World) => hidA (mathAbs_any d w hd)
  clear h1 h2 hb
  generalize d % 9223372036854775808 = r at *
  go_enter Try.func145, Try.ntmps145
  go_wp2_with fail
  refine ((hA _).out).mono ?_
  rintro e w1 ⟨rfl, hw1⟩
  rw [hw1]
  clear hw1 w1
  go_wp2
  go_ret
  exact ⟨rfl, rfl⟩
end Go.Proofs.Ytinohfgokpbcdaa
namespace Go.Proofs.Ytinohfgokpbcdaa
open Go.RowKit
attribute [local go_sem ↓] Go.wp_at_zero Go.wp_at_succ
attribute [local go_sem] run_store_float

def magF (v : Nat → Nat) (k n : Nat) : Nat := absB (fsub (v k) (v n))
theorem mag_ok {v : Nat → Nat} {k n : Nat} (hk : Bd 20 (v k)) (hn : Bd 20 (v n)) : floatBits .sub .f32 (v k) (v n) = some (fsub (v k) (v n)) ∧ Bd 22 (fsub (v k) (v n)) ∧ Bd 22 (magF v k n) := by
  obtain ⟨h1, h2⟩ := fsub_ok hk hn (by omega)
  have h3 : Bd 22 (fsub (v k) (v n)) := h2
  refine ⟨h1, h3, ?_⟩
  unfold magF absB Bd at *
  omega
def ris (v : Nat → Nat) (Wn Hn k : Nat) : Nat → Nat
  | 0 => 0
  | d + 1 => match nbr Wn Hn k d with
    | none => ris v Wn Hn k d
    | some n => if d % 2 = 0 ∧ gt (magF v k n) (ris v Wn Hn k d) = true then magF v k n else ris v Wn Hn k d
theorem ris_none {v : Nat → Nat} {Wn Hn k d : Nat} (h : nbr Wn Hn k d = none) : ris v Wn Hn k (d + 1) = ris v Wn Hn k d := by simp [ris, h]
theorem ris_some {v : Nat → Nat} {Wn Hn k d n : Nat} (h : nbr Wn Hn k d = some n) : ris v Wn Hn k (d + 1) = if d % 2 = 0 ∧ gt (magF v k n) (ris v Wn Hn k d) = true then magF v k n else ris v Wn Hn k d := by simp [ris, h]
theorem ris_bd {v : Nat → Nat} {Wn Hn k : Nat} (hv : ∀ j, j < Wn * Hn → Bd 20 (v j)) (hk : k < Wn * Hn) (d : Nat) : Bd 22 (ris v Wn Hn k d) := by
  induction d with
  | zero => exact zero_bd.mono (by omega)
  | succ d ih =>
    cases h : nbr Wn Hn k d with
    | none => rw [ris_none h]; exact ih
    | some n =>
      rw [ris_some h]
      split
      · exact (mag_ok (hv _ hk) (hv _ (nbr_lt h))).2.2
      · exact ih

/-- what sides holds in memory -/
structure SD (W0 w : World) (hf hk hm : Nat) (X Y : Int) (Wn Hn N : Nat) (A : Option Addr) (c k most : Nat) : Prop where
  fb : Bk w hf 26 #[.int .i64 X, .int .i64 Y, .int .i64 (Wn : Int), .int .i64 (Hn : Int), .slice A N c]
  kb : Bk w hk 3 #[.int .i64 (k : Int)]
  mb : Bk w hm 27 #[.float .f32 most]
  ext : Ext W0 w
  b1 : W0.heap.size ≤ hm
section
variable {W0 w : World} {hf hk hm : Nat} {X Y : Int} {Wn Hn N : Nat} {A : Option Addr} {c k most : Nat}
theorem SD.step (h : SD W0 w hf hk hm X Y Wn Hn N A c k most) {w' : World} (hx : Ext w w') : SD W0 w' hf hk hm X Y Wn Hn N A c k most :=
  ⟨h.fb.ext hx, h.kb.ext hx, h.mb.ext hx, h.ext.trans hx, h.b1⟩
theorem SD.put (h : SD W0 w hf hk hm X Y Wn Hn N A c k most) (m' : Nat) : SD W0 (w.setCell ⟨hm, 0, none⟩ (.float .f32 m')) hf hk hm X Y Wn Hn N A c k m' :=
  ⟨h.fb.far (Bk.ne h.fb h.mb (by decide)) _, h.kb.far (Bk.ne h.kb h.mb (by decide)) _, Bk.set h.mb 0 (.float .f32 m'), h.ext.setCell h.b1 _, h.b1⟩
end

def upS (x most d : Nat) : Nat := if d % 2 = 0 ∧ gt x most = true then x else most
set_option maxRecDepth 100000 in
set_option maxHeartbeats 3200000 in
theorem side1_any (W0 w : World) (hf hk hm : Nat) (X Y : Int) (Wn Hn N : Nat) (A : Option Addr) (c k most : Nat) (l : List Nat) (n d : Nat)
    (hF : SD W0 w hf hk hm X Y Wn Hn N A c k most) (hl : l.length = N) (hV : Rd W0 A (flt l)) (hkN : k < N) (hn : n < N) (hd : d < 8) (bk : Bd 20 (l.getD k 0)) (bn : Bd 20 (l.getD n 0)) :
    Calls Try.prog 144 #[.int .i64 n, .int .i64 d, .pointer (some ⟨hf, 0, none⟩), .pointer (some ⟨hk, 0, none⟩), .pointer (some ⟨hm, 0, none⟩)] w fun e w' => e = .returned (.tuple #[]) ∧
      SD W0 w' hf hk hm X Y Wn Hn N A c k (upS (magF (fun j => l.getD j 0) k n) most d) ∧ (∀ g cs, Bk w g 23 cs → Bk w' g 23 cs) := by
  have hnl : n < l.length := by omega
  have hkl : k < l.length := by omega
  obtain ⟨ad, rfl, hbk, hcv⟩ := (hV.ext hF.ext).at (k := n) (by rw [flt_length]; exact hnl)
  have cn := hcv n _ (flt_get hnl)
  have ck := hcv k _ (flt_get hkl)
  have en : l.getD n 0 = l[n] := by simp [List.getD_eq_getElem?_getD, hnl]
  have ek : l.getD k 0 = l[k] := by simp [List.getD_eq_getElem?_getD, hkl]
  obtain ⟨r1, r2, r3⟩ := mag_ok (v := fun j => l.getD j 0) (k := k) (n := n) bk bn
  rw [← en] at cn
  rw [← ek] at ck
  replace r1 : floatBits .sub .f32 (l.getD k 0) (l.getD n 0) = some (fsub (l.getD k 0) (l.getD n 0)) := r1
  have hL := fun (w : World) => hidA (show Calls Try.prog 145 #[.float .f32 (fsub (l.getD k 0) (l.getD n 0))] w fun e w' => e = .returned (.float .f32 (magF (fun j => l.getD j 0) k n)) ∧ w' = w from magnitude_any _ w r2 (by omega))
  generalize magF (fun j => l.getD j 0) k n = x at *
  generalize l.getD n 0 = a at *
  generalize l.getD k 0 = b at *
  have q1 := fun (w : World) => run_float_arith (P := Try.prog) w .sub 27 .f32 _ _ _ r1
  clear r1 r2 r3 en ek hcv hV bk bn
  have Hl := hidA hl
  clear hl hnl hkl
  have HF := hidA hF
  have c4 : ∀ w', Ext w w' → w'.cell? ⟨hf, 4, none⟩ = some (.slice (some ad) N c) := fun w' h => (HF.out.fb.ext h).cell 4
  have k0 : ∀ w', Ext w w' → w'.cell? ⟨hk, 0, none⟩ = some (.int .i64 (k : Int)) := fun w' h => (HF.out.kb.ext h).cell 0
  have a1 : ∀ w', Ext w w' → w'.cell? (ad.add n) = some (.float .f32 a) := fun w' h => by rw [h.cell _ (by rw [add_block]; exact hbk)]; exact cn
  have a2 : ∀ w', Ext w w' → w'.cell? (ad.add k) = some (.float .f32 b) := fun w' h => by rw [h.cell _ (by rw [add_block]; exact hbk)]; exact ck
  have m0 := hF.mb.cell 0
  have i0 : (0 : Int) ≤ n := by omega
  have i1 : (n : Int) < N := by omega
  have i2 : (0 : Int) ≤ k := by omega
  have i3 : (k : Int) < N := by omega
  clear hF cn ck
  have hput := hidA (HF.out.put x)
  have HR5 := hidA (show ∀ g cs, Bk w g 23 cs → Bk (w.setCell ⟨hm, 0, none⟩ (.float .f32 x)) g 23 cs from fun g cs h => h.far (Bk.ne h HF.out.mb (by decide)) _)
  have hpar : d % 2 = 0 ∧ ((d : Int) % 2 == 0) = true ∨ d % 2 = 1 ∧ ((d : Int) % 2 == 0) = false := by
    have h : d = 0 ∨ d = 1 ∨ d = 2 ∨ d = 3 ∨ d = 4 ∨ d = 5 ∨ d = 6 ∨ d = 7 := by omega
    rcases h with rfl | rfl | rfl | rfl | rfl | rfl | rfl | rfl <;> decide
  have Hpar := hidA hpar
  clear hpar hd
  go_enter Try.func144, Try.ntmps144
  go_wp2
  refine wp_region_noPanic ?_
  refine wp_region_held_drew (S := fun w' => Ext w w') (by kernel_rfl) ?_ (fun hHeld => ?_)
  · (repeat (first | exact Ext.refl _ | assumption | refine Ext.setCell ?_ (by first | (simp; done) | (simp; omega)) _ | refine Ext.drewN ?_ _ | refine Ext.alloc ?_ _ | refine Ext.drew ?_ | refine Ext.trans ?_ (by assumption)))
  refine wpAnyH_take (i := 0) (oi := ?o1x0) (v := ?v1x0) ?hi1x0 (by kernel_rfl) ?hf1x0 ?hr1x0 (fun _ _ _ h => h) ?hy1x0 (by assumption) ?rest1x0
  case hi1x0 => (simp only [List.getElem?_toArray, List.getElem?_cons_zero]; exact rfl)
  case hf1x0 => kernel_rfl
  case hr1x0 => kernel_rfl
  case hy1x0 => (refine Or.inl ⟨by rfl, ?_⟩; intro w hSw; (try dsimp only at hSw); go_simp; try with_reducible rfl)
  simp only [put_mk, List.set_cons_succ, List.set_cons_zero]
  refine wpAnyH_take (i := 1) (oi := ?o1x1) (v := ?v1x1) ?hi1x1 (by kernel_rfl) ?hf1x1 ?hr1x1 (fun _ _ _ h => h) ?hy1x1 (by assumption) ?rest1x1
  case hi1x1 => (simp only [List.getElem?_toArray, List.getElem?_cons_succ, List.getElem?_cons_zero]; exact rfl)
  case hf1x1 => kernel_rfl
  case hr1x1 => kernel_rfl
  case hy1x1 => (refine Or.inl ⟨by rfl, ?_⟩; intro w hSw; (try dsimp only at hSw); go_simp; try with_reducible rfl)
  simp only [put_mk, List.set_cons_succ, List.set_cons_zero]
  refine wpAnyH_take (i := 2) (oi := ?o1x2) (v := ?v1x2) ?hi1x2 (by kernel_rfl) ?hf1x2 ?hr1x2 (fun _ _ _ h => h) ?hy1x2 (by assumption) ?rest1x2
  case hi1x2 => (simp only [List.getElem?_toArray, List.getElem?_cons_succ, List.getElem?_cons_zero]; exact rfl)
  case hf1x2 => kernel_rfl
  case hr1x2 => kernel_rfl
  case hy1x2 => (refine Or.inl ⟨by rfl, ?_⟩; intro w hSw; (try dsimp only at hSw); go_simp; try with_reducible rfl)
  simp only [put_mk, List.set_cons_succ, List.set_cons_zero]
  refine wpAnyH_take (i := 3) (oi := ?o1x3) (v := ?v1x3) ?hi1x3 (by kernel_rfl) ?hf1x3 ?hr1x3 (fun _ _ _ h => h) ?hy1x3 (by assumption) ?rest1x3
  case hi1x3 => (simp only [List.getElem?_toArray, List.getElem?_cons_succ, List.getElem?_cons_zero]; exact rfl)
  case hf1x3 => kernel_rfl
  case hr1x3 => kernel_rfl
  case hy1x3 => (refine Or.inl ⟨by rfl, ?_⟩; intro w hSw; (try dsimp only at hSw); go_simp; try with_reducible rfl)
  simp only [put_mk, List.set_cons_succ, List.set_cons_zero]
  refine wpAnyH_take (i := 4) (oi := ?o1x4) (v := ?v1x4) ?hi1x4 (by kernel_rfl) ?hf1x4 ?hr1x4 (fun _ _ _ h => h) ?hy1x4 (by assumption) ?rest1x4
  case hi1x4 => (simp only [List.getElem?_toArray, List.getElem?_cons_succ, List.getElem?_cons_zero]; exact rfl)
  case hf1x4 => kernel_rfl
  case hr1x4 => kernel_rfl
  case hy1x4 => (refine Or.inl ⟨by rfl, ?_⟩; intro w hSw; (try dsimp only at hSw); go_simp; try with_reducible rfl)
  simp only [put_mk, List.set_cons_succ, List.set_cons_zero]
  refine wpAnyH_take (i := 5) (oi := ?o1x5) (v := ?v1x5) ?hi1x5 (by kernel_rfl) ?hf1x5 ?hr1x5 (fun _ _ _ h => h) ?hy1x5 (by assumption) ?rest1x5
  case hi1x5 => (simp only [List.getElem?_toArray, List.getElem?_cons_succ, List.getElem?_cons_zero]; exact rfl)
  case hf1x5 => kernel_rfl
  case hr1x5 => kernel_rfl
  case hy1x5 => (refine Or.inl ⟨by rfl, ?_⟩; intro w hSw; (try dsimp only at hSw); go_simp; try with_reducible rfl)
  simp only [put_mk, List.set_cons_succ, List.set_cons_zero]
  refine wpAnyH_take (i := 6) (oi := ?o1x6) (v := ?v1x6) ?hi1x6 (by kernel_rfl) ?hf1x6 ?hr1x6 (fun _ _ _ h => h) ?hy1x6 (by assumption) ?rest1x6
  case hi1x6 => (simp only [List.getElem?_toArray, List.getElem?_cons_succ, List.getElem?_cons_zero]; exact rfl)
  case hf1x6 => kernel_rfl
  case hr1x6 => kernel_rfl
  case hy1x6 => (refine Or.inl ⟨by rfl, ?_⟩; intro w hSw; (try dsimp only at hSw); go_simp; try with_reducible rfl)
  simp only [put_mk, List.set_cons_succ, List.set_cons_zero]
  refine wpAnyH_take (i := 7) (oi := ?o1x7) (v := ?v1x7) ?hi1x7 (by kernel_rfl) ?hf1x7 ?hr1x7 (fun _ _ _ h => h) ?hy1x7 (by assumption) ?rest1x7
  case hi1x7 => (simp only [List.getElem?_toArray, List.getElem?_cons_succ, List.getElem?_cons_zero]; exact rfl)
  case hf1x7 => kernel_rfl
  case hr1x7 => kernel_rfl
  case hy1x7 => (refine Or.inl ⟨by rfl, ?_⟩; intro w hSw; (try dsimp only at hSw); go_simp; try with_reducible rfl)
  simp only [put_mk, List.set_cons_succ, List.set_cons_zero]
  refine wpAnyH_take (i := 8) (oi := ?o1x8) (v := ?v1x8) ?hi1x8 (by kernel_rfl) ?hf1x8 ?hr1x8 (fun _ _ _ h => h) ?hy1x8 (by assumption) ?rest1x8
  case hi1x8 => (simp only [List.getElem?_toArray, List.getElem?_cons_succ, List.getElem?_cons_zero]; exact rfl)
  case hf1x8 => kernel_rfl
  case hr1x8 => kernel_rfl
  case hy1x8 => (refine Or.inl ⟨by rfl, ?_⟩; intro w hSw; (try dsimp only at hSw); go_simp; try with_reducible rfl)
  simp only [put_mk, List.set_cons_succ, List.set_cons_zero]
  refine wpAnyH_take (i := 9) (oi := ?o1x9) (v := ?v1x9) ?hi1x9 (by kernel_rfl) ?hf1x9 ?hr1x9 (fun _ _ _ h => h) ?hy1x9 (by assumption) ?rest1x9
  case hi1x9 => (simp only [List.getElem?_toArray, List.getElem?_cons_succ, List.getElem?_cons_zero]; exact rfl)
  case hf1x9 => kernel_rfl
  case hr1x9 => kernel_rfl
  case hy1x9 => (refine Or.inl ⟨by rfl, ?_⟩; intro w hSw; (try dsimp only at hSw); go_simp; try with_reducible rfl)
  simp only [put_mk, List.set_cons_succ, List.set_cons_zero]
  refine wpAnyH_take (i := 10) (oi := ?o1x10) (v := ?v1x10) ?hi1x10 (by kernel_rfl) ?hf1x10 ?hr1x10 (fun _ _ _ h => h) ?hy1x10 (by assumption) ?rest1x10
  case hi1x10 => (simp only [List.getElem?_toArray, List.getElem?_cons_succ, List.getElem?_cons_zero]; exact rfl)
  case hf1x10 => kernel_rfl
  case hr1x10 => kernel_rfl
  case hy1x10 => (refine Or.inl ⟨by rfl, ?_⟩; intro w hSw; (try dsimp only at hSw); go_simp; try with_reducible rfl)
  simp only [put_mk, List.set_cons_succ, List.set_cons_zero]
  refine wpAnyH_ready (rs := [11]) (by kernel_rfl) (by simp) ?_
  refine AllReadyH.cons (o := ?o1x11) ?hi1x11 (fun K hK => ?_) AllReadyH.nil
  case hi1x11 => (simp only [List.getElem?_toArray, List.getElem?_cons_succ, List.getElem?_cons_zero]; exact rfl)
  go_simp
  refine ((hL _).out).mono ?_
  rintro e w' ⟨rfl, hw'⟩
  subst hw'
  refine hK.out _ _ ?_ (fun hHeld => ?_)
  · (repeat (first | exact Ext.refl _ | assumption | refine Ext.setCell ?_ (by first | (simp; done) | (simp; omega)) _ | refine Ext.drewN ?_ _ | refine Ext.alloc ?_ _ | refine Ext.drew ?_ | refine Ext.trans ?_ (by assumption)))
  clear hK K
  refine wpAnyH_take (i := 12) (oi := ?o1x12) (v := ?v1x12) ?hi1x12 (by kernel_rfl) ?hf1x12 ?hr1x12 (fun _ _ _ h => h) ?hy1x12 (by assumption) ?rest1x12
  case hi1x12 => (simp only [List.getElem?_toArray, List.getElem?_cons_succ, List.getElem?_cons_zero]; exact rfl)
  case hf1x12 => kernel_rfl
  case hr1x12 => kernel_rfl
  case hy1x12 => (refine Or.inl ⟨by rfl, ?_⟩; intro w hSw; (try dsimp only at hSw); go_simp; try with_reducible rfl)
  simp only [put_mk, List.set_cons_succ, List.set_cons_zero]
  refine wpAnyH_done (by kernel_rfl) ?_ _
  refine NoPanic.normal ?_

  have g2 := HF.out.mb.frozen 0
  clear c4 k0 a1 a2 q1 hL i0 i1 i2 i3 hHeld
  rcases Hpar.out with ⟨h1, h2⟩ | ⟨h1, h2⟩
  · cases hg : gt x most
    · have hg' : (FloatKind.f32.format.order x most == some .gt) = false := hg
      have E1 := hidA (show upS x most d = most by unfold upS; rw [hg]; simp)
      clear hg h1
      go_wp2
      refine bodyPost_end (results_none Try.results144 _ _ _) rfl ?_
      rw [E1.out]
      exact ⟨rfl, HF.out.step (Ext.drew (Ext.refl _)), fun g cs hb => Bk.drew hb⟩
    · have hg' : (FloatKind.f32.format.order x most == some .gt) = true := hg
      have E1 := hidA (show upS x most d = x by unfold upS; rw [if_pos ⟨h1, hg⟩])
      clear hg h1
      go_wp2
      refine bodyPost_end (results_none Try.results144 _ _ _) rfl ?_
      rw [E1.out]
      exact ⟨rfl, hput.out.step (Ext.drew (Ext.refl _)), fun g cs hb => Bk.drew (HR5.out g cs hb)⟩
  · have E1 := hidA (show upS x most d = most by unfold upS; rw [if_neg (by omega)])
    clear h1
    go_wp2
    refine bodyPost_end (results_none Try.results144 _ _ _) rfl ?_
    rw [E1.out]
    exact ⟨rfl, HF.out.step (Ext.drew (Ext.refl _)), fun g cs hb => Bk.drew hb⟩

theorem enters_side : ∀ args w, (callFunc 144 args).run Try.prog w = .ok (.enter 144 args) w := enters_of Try.func144 (by kernel_rfl) rfl
set_option maxRecDepth 100000 in
set_option maxHeartbeats 3200000 in
theorem sides_any (X Y : Int) (Wn Hn N k : Nat) (A : Option Addr) (c : Nat) (l : List Nat) (w : World) (hr : Reg X Y Wn Hn) (hN : N = Wn * Hn) (hl : l.length = N) (hV : Rd w A (flt l)) (hh : ∀ j, j < N → Bd 20 (l.getD j 0)) (hk : k < N) :
    Calls Try.prog 95 #[.agg #[.int .i64 X, .int .i64 Y, .int .i64 (Wn : Int), .int .i64 (Hn : Int), .slice A N c], .int .i64 (k : Int)] w fun e w' =>
      e = .returned (.float .f32 (ris (fun j => l.getD j 0) Wn Hn k 8)) ∧ Ext w w' := by
  obtain ⟨w1, hw1⟩ : ∃ w1, w1 = (((w.alloc (.cells #[.int .i64 X, .int .i64 Y, .int .i64 (Wn : Int), .int .i64 (Hn : Int), .slice A N c] 26)).alloc (.cells #[.int .i64 (k : Int)] 3)).alloc (.cells #[.float .f32 0] 27)) := ⟨_, rfl⟩
  have hS : SD w w1 w.heap.size (w.heap.size + 1) (w.heap.size + 1 + 1) X Y Wn Hn N A c k 0 := by
    rw [hw1]
    refine ⟨?_, ?_, ?_, ?_, by omega⟩
    · refine ((Bk.new' ?_).alloc _).alloc _
      simp
    · refine (Bk.new' ?_).alloc _
      simp
    · refine Bk.new' ?_
      simp
    · exact (((Ext.refl w).alloc _).alloc _).alloc _
  have Hl := hidA hl
  have HN := hidA hN
  have Hh := hidA hh
  have HI := fun (hf hk' hm : Nat) (wa : World) (hS : SD w wa hf hk' hm X Y Wn Hn N A c k 0) => hidA (nbs_any 144 #[.pointer (some ⟨hf, 0, none⟩), .pointer (some ⟨hk', 0, none⟩), .pointer (some ⟨hm, 0, none⟩)] enters_side X Y Wn Hn k hr (by rw [← hN]; exact hk)
    (fun d w' => SD w w' hf hk' hm X Y Wn Hn N A c k (ris (fun j => l.getD j 0) Wn Hn k d))
    (fun d wa wb h hx => h.step hx)
    (fun d n wb hd8 hnb h => by
      have hnN : n < N := by rw [HN.out]; exact nbr_lt hnb
      refine (side1_any w wb hf hk' hm X Y Wn Hn N A c k _ l n d h Hl.out hV hk hnN hd8 (Hh.out k hk) (Hh.out n hnN)).mono ?_
      rintro e wc ⟨rfl, h1, h2⟩
      refine ⟨rfl, ?_, h2⟩
      rw [ris_some hnb]
      exact h1)
    (fun d wb hd8 hnb h => by rw [ris_none hnb]; exact h) wa hS)
  clear hr hN hl hh hV hk
  unfold rgv at HI
  generalize ris (fun j => l.getD j 0) Wn Hn k 8 = r at *
  go_enter Try.func95, Try.ntmps95
  go_upto_region 2 with fail
  rw [← hw1]
  clear hw1
  generalize w.heap.size + 1 + 1 = hm at *
  generalize w.heap.size + 1 = hk' at *
  generalize w.heap.size = hf at *
  have c0 := hS.fb.cell 0
  have c1 := hS.fb.cell 1
  have c2 := hS.fb.cell 2
  have c3 := hS.fb.cell 3
  have k0 := hS.kb.cell 0
  have HS := hidA hS
  clear hS
  go_wp2_with (go_at_call 128; refine ((HI _ _ _ _ HS.out).out).mono ?_; rintro e w2 ⟨rfl, hS2⟩; have m0 := hS2.mb.cell 0)
  go_ret
  exact ⟨rfl, hS2.ext⟩
end Go.Proofs.Ytinohfgokpbcdaa
namespace Go.Proofs.Ytinohfgokpbcdaa
open Go.RowKit
attribute [local go_sem ↓] Go.wp_at_zero Go.wp_at_succ

theorem Rd.get {w : World} {ad : Addr} {xs : List Value} (h : Rd w (some ad) xs) {j : Nat} {u : Value} (hu : xs[j]? = some u) : w.cell? (ad.add j) = some u := by
  obtain ⟨ad', e, _, hc⟩ := h (by rintro e; rw [e] at hu; simp at hu)
  injection e with e
  subst e
  exact hc j u hu
theorem sub_lt {x y r : Nat} (h : floatBits .sub .f32 x y = some r) : r < 4294967296 := by
  have h' : Ieee.single.sub x y = some r := h
  exact Ieee.Format.map_write_lt Ieee.single h'
theorem ris_odd (v : Nat → Nat) (Wn Hn k j : Nat) : ris v Wn Hn k (2 * j + 1 + 1) = ris v Wn Hn k (2 * j + 1) := by
  cases h : nbr Wn Hn k (2 * j + 1) with
  | none => rw [ris_none h]
  | some n => rw [ris_some h, if_neg (by omega)]
theorem ris_two_none {v : Nat → Nat} {Wn Hn k j : Nat} (h : nbr Wn Hn k (2 * j) = none) : ris v Wn Hn k (2 * (j + 1)) = ris v Wn Hn k (2 * j) := by
  rw [show 2 * (j + 1) = 2 * j + 1 + 1 by omega, ris_odd, ris_none h]
theorem ris_two_some {v : Nat → Nat} {Wn Hn k j n : Nat} (h : nbr Wn Hn k (2 * j) = some n) : ris v Wn Hn k (2 * (j + 1)) = if gt (magF v k n) (ris v Wn Hn k (2 * j)) = true then magF v k n else ris v Wn Hn k (2 * j) := by
  rw [show 2 * (j + 1) = 2 * j + 1 + 1 by omega, ris_odd, ris_some h]
  by_cases hg : gt (magF v k n) (ris v Wn Hn k (2 * j)) = true
  · rw [if_pos ⟨by omega, hg⟩, if_pos hg]
  · rw [if_neg (fun h => hg h.2), if_neg hg]

set_option maxRecDepth 100000 in
set_option maxHeartbeats 3200000 in
theorem Rise_any (X Y : Int) (Wn Hn N k : Nat) (A : Option Addr) (c : Nat) (l : List Nat) (w : World) (hr : Reg X Y Wn Hn) (hN : N = Wn * Hn) (hl : l.length = N) (hV : Rd w A (flt l)) (hh : ∀ j, j < N → Bd 20 (l.getD j 0)) (hk : k < N) :
    Calls Try.prog 97 #[.agg #[.int .i64 X, .int .i64 Y, .int .i64 (Wn : Int), .int .i64 (Hn : Int), .slice A N c], .int .i64 (k : Int)] w fun e w' =>
      e = .returned (.float .f32 (ris (fun j => l.getD j 0) Wn Hn k 8)) ∧ Ext w w' := by
  have hkl : k < l.length := by omega
  obtain ⟨ad, rfl, hbk, _⟩ := hV.at (k := k) (by rw [flt_length]; exact hkl)
  have HNB := fun (j : Nat) (hj : j < 4) (w : World) => hidA (nb_any X Y Wn Hn k (2 * j) w hr (by rw [← hN]; exact hk) (by omega))
  have HM := fun (n : Nat) (hn : n < N) => hidA (mag_ok (v := fun j => l.getD j 0) (k := k) (n := n) (hh k hk) (hh n hn))
  have HNl := hidA (show ∀ d n, nbr Wn Hn k d = some n → n < N from fun d n h => by rw [hN]; exact nbr_lt h)
  have Hl := hidA hl
  have i0 : (0 : Int) ≤ k := by omega
  have i1 : (k : Int) < N := by omega
  have hB0 : Bk (w.alloc (.cells #[.int .i64 X, .int .i64 Y, .int .i64 (Wn : Int), .int .i64 (Hn : Int), .slice (some ad) N c] 26)) w.heap.size 26 #[.int .i64 X, .int .i64 Y, .int .i64 (Wn : Int), .int .i64 (Hn : Int), .slice (some ad) N c] := Bk.new' rfl
  have Hkl := hidA hkl
  clear hr hN hl hh hk hkl
  unfold rgv at HNB
  go_enter Try.func97, Try.ntmps97
  go_wp2_with fail
  obtain ⟨w1, hw1⟩ : ∃ w1, w1 = w.alloc (.cells #[.int .i64 X, .int .i64 Y, .int .i64 (Wn : Int), .int .i64 (Hn : Int), .slice (some ad) N c] 26) := ⟨_, rfl⟩
  have hx1 : Ext w w1 := by rw [hw1]; exact (Ext.refl w).alloc _
  rw [← hw1] at hB0 ⊢
  clear hw1
  have hD : ∀ w', Ext w1 w' → Rd w' (some ad) (flt l) := fun w' h => (hV.ext hx1).ext h
  generalize w.heap.size = hf at *
  go_loopw [5, 6] (fun s i wr => ∃ j : Nat, j ≤ 4 ∧ s = .float .f32 (ris (fun j => l.getD j 0) Wn Hn k (2 * j)) ∧ i = .int .i64 (2 * j) ∧ Ext w1 wr) (fun _ i _ => 10 - (intOf i).toNat)
  case atStart => exact ⟨0, by omega, rfl, rfl, Ext.refl _⟩
  case round =>
    obtain ⟨j, hj, rfl, rfl, hx⟩ := hrel
    by_cases hlt : j < 4
    · have hF := hB0.ext hx
      have d0 := hF.cell 0
      have d1 := hF.cell 1
      have d2 := hF.cell 2
      have d3 := hF.cell 3
      have HNj := fun w => HNB j hlt w
      cases hn : nbr Wn Hn k (2 * j) with
      | none =>
        have HS := hidA (ris_two_none (v := fun j => l.getD j 0) hn)
        rw [hn] at HNj
        clear hn
        unfold nbI at HNj
        simp only [] at HNj
        go_wp2_with fail
        refine ((HNj _).out).mono ?_
        rintro e w5 ⟨rfl, hb5⟩
        clear d0 d1 d2 d3 HNj
        generalize ris (fun j => l.getD j 0) Wn Hn k (2 * j) = s at *
        go_upto_region 6 with fail
        refine wp_region_noPanic ?_
        refine wp_region_held_drew (S := fun w' => Ext w5 w') (by kernel_rfl) ?_ (fun hHeld => ?_)
        · (repeat (first | exact Ext.refl _ | assumption | refine Ext.setCell ?_ (by first | (simp; done) | (simp; omega)) _ | refine Ext.drewN ?_ _ | refine Ext.alloc ?_ _ | refine Ext.drew ?_ | refine Ext.trans ?_ (by assumption)))
        refine wpAnyH_take (i := 0) (oi := ?o2x0) (v := ?v2x0) ?hi2x0 (by kernel_rfl) ?hf2x0 ?hr2x0 (fun _ _ _ h => h) ?hy2x0 (by assumption) ?rest2x0
        case hi2x0 => (simp only [List.getElem?_toArray, List.getElem?_cons_zero]; exact rfl)
        case hf2x0 => kernel_rfl
        case hr2x0 => kernel_rfl
        case hy2x0 => (refine Or.inl ⟨by rfl, ?_⟩; intro w hSw; (try dsimp only at hSw); go_simp; try with_reducible rfl)
        simp only [put_mk, List.set_cons_succ, List.set_cons_zero]
        refine wpAnyH_take (i := 1) (oi := ?o3x1) (v := ?v3x1) ?hi3x1 (by kernel_rfl) ?hf3x1 ?hr3x1 (fun _ _ _ h => h) ?hy3x1 (by assumption) ?rest3x1
        case hi3x1 => (simp only [List.getElem?_toArray, List.getElem?_cons_succ, List.getElem?_cons_zero]; exact rfl)
        case hf3x1 => kernel_rfl
        case hr3x1 => kernel_rfl
        case hy3x1 => (refine Or.inl ⟨by rfl, ?_⟩; intro w hSw; (try dsimp only at hSw); go_simp; try with_reducible rfl)
        simp only [put_mk, List.set_cons_succ, List.set_cons_zero]
        refine wpAnyH_take (i := 2) (oi := ?o4x2) (v := ?v4x2) ?hi4x2 (by kernel_rfl) ?hf4x2 ?hr4x2 (fun _ _ _ h => h) ?hy4x2 (by assumption) ?rest4x2
        case hi4x2 => (simp only [List.getElem?_toArray, List.getElem?_cons_succ, List.getElem?_cons_zero]; exact rfl)
        case hf4x2 => kernel_rfl
        case hr4x2 => kernel_rfl
        case hy4x2 => (refine Or.inl ⟨by rfl, ?_⟩; intro w hSw; (try dsimp only at hSw); go_simp; try with_reducible rfl)
        simp only [put_mk, List.set_cons_succ, List.set_cons_zero]
        refine wpAnyH_take (i := 3) (oi := ?o5x3) (v := undef) ?hi5x3 (by kernel_rfl) ?hf5x3 ?hr5x3 (fun _ _ _ h => h) ?hy5x3 (by assumption) ?rest5x3
        case hi5x3 => (simp only [List.getElem?_toArray, List.getElem?_cons_succ, List.getElem?_cons_zero]; exact rfl)
        case hf5x3 => kernel_rfl
        case hr5x3 => kernel_rfl
        case hy5x3 => exact Or.inr ⟨by rfl, rfl⟩
        simp only [put_mk, List.set_cons_succ, List.set_cons_zero]
        refine wpAnyH_take (i := 4) (oi := ?o6x4) (v := undef) ?hi6x4 (by kernel_rfl) ?hf6x4 ?hr6x4 (fun _ _ _ h => h) ?hy6x4 (by assumption) ?rest6x4
        case hi6x4 => (simp only [List.getElem?_toArray, List.getElem?_cons_succ, List.getElem?_cons_zero]; exact rfl)
        case hf6x4 => kernel_rfl
        case hr6x4 => kernel_rfl
        case hy6x4 => exact Or.inr ⟨by rfl, rfl⟩
        simp only [put_mk, List.set_cons_succ, List.set_cons_zero]
        refine wpAnyH_take (i := 5) (oi := ?o7x5) (v := undef) ?hi7x5 (by kernel_rfl) ?hf7x5 ?hr7x5 (fun _ _ _ h => h) ?hy7x5 (by assumption) ?rest7x5
        case hi7x5 => (simp only [List.getElem?_toArray, List.getElem?_cons_succ, List.getElem?_cons_zero]; exact rfl)
        case hf7x5 => kernel_rfl
        case hr7x5 => kernel_rfl
        case hy7x5 => exact Or.inr ⟨by rfl, rfl⟩
        simp only [put_mk, List.set_cons_succ, List.set_cons_zero]
        refine wpAnyH_take (i := 6) (oi := ?o8x6) (v := undef) ?hi8x6 (by kernel_rfl) ?hf8x6 ?hr8x6 (fun _ _ _ h => h) ?hy8x6 (by assumption) ?rest8x6
        case hi8x6 => (simp only [List.getElem?_toArray, List.getElem?_cons_succ, List.getElem?_cons_zero]; exact rfl)
        case hf8x6 => kernel_rfl
        case hr8x6 => kernel_rfl
        case hy8x6 => exact Or.inr ⟨by rfl, rfl⟩
        simp only [put_mk, List.set_cons_succ, List.set_cons_zero]
        refine wpAnyH_take (i := 7) (oi := ?o9x7) (v := undef) ?hi9x7 (by kernel_rfl) ?hf9x7 ?hr9x7 (fun _ _ _ h => h) ?hy9x7 (by assumption) ?rest9x7
        case hi9x7 => (simp only [List.getElem?_toArray, List.getElem?_cons_succ, List.getElem?_cons_zero]; exact rfl)
        case hf9x7 => kernel_rfl
        case hr9x7 => kernel_rfl
        case hy9x7 => exact Or.inr ⟨by rfl, rfl⟩
        simp only [put_mk, List.set_cons_succ, List.set_cons_zero]
        refine wpAnyH_take (i := 8) (oi := ?o10x8) (v := undef) ?hi10x8 (by kernel_rfl) ?hf10x8 ?hr10x8 (fun _ _ _ h => h) ?hy10x8 (by assumption) ?rest10x8
        case hi10x8 => (simp only [List.getElem?_toArray, List.getElem?_cons_succ, List.getElem?_cons_zero]; exact rfl)
        case hf10x8 => kernel_rfl
        case hr10x8 => kernel_rfl
        case hy10x8 => exact Or.inr ⟨by rfl, rfl⟩
        simp only [put_mk, List.set_cons_succ, List.set_cons_zero]
        refine wpAnyH_take (i := 9) (oi := ?o11x9) (v := undef) ?hi11x9 (by kernel_rfl) ?hf11x9 ?hr11x9 (fun _ _ _ h => h) ?hy11x9 (by assumption) ?rest11x9
        case hi11x9 => (simp only [List.getElem?_toArray, List.getElem?_cons_succ, List.getElem?_cons_zero]; exact rfl)
        case hf11x9 => kernel_rfl
        case hr11x9 => kernel_rfl
        case hy11x9 => exact Or.inr ⟨by rfl, rfl⟩
        simp only [put_mk, List.set_cons_succ, List.set_cons_zero]
        refine wpAnyH_take (i := 10) (oi := ?o12x10) (v := undef) ?hi12x10 (by kernel_rfl) ?hf12x10 ?hr12x10 (fun _ _ _ h => h) ?hy12x10 (by assumption) ?rest12x10
        case hi12x10 => (simp only [List.getElem?_toArray, List.getElem?_cons_succ, List.getElem?_cons_zero]; exact rfl)
        case hf12x10 => kernel_rfl
        case hr12x10 => kernel_rfl
        case hy12x10 => exact Or.inr ⟨by rfl, rfl⟩
        simp only [put_mk, List.set_cons_succ, List.set_cons_zero]
        refine wpAnyH_take (i := 11) (oi := ?o13x11) (v := undef) ?hi13x11 (by kernel_rfl) ?hf13x11 ?hr13x11 (fun _ _ _ h => h) ?hy13x11 (by assumption) ?rest13x11
        case hi13x11 => (simp only [List.getElem?_toArray, List.getElem?_cons_succ, List.getElem?_cons_zero]; exact rfl)
        case hf13x11 => kernel_rfl
        case hr13x11 => kernel_rfl
        case hy13x11 => exact Or.inr ⟨by rfl, rfl⟩
        simp only [put_mk, List.set_cons_succ, List.set_cons_zero]
        refine wpAnyH_take (i := 12) (oi := ?o14x12) (v := undef) ?hi14x12 (by kernel_rfl) ?hf14x12 ?hr14x12 (fun _ _ _ h => h) ?hy14x12 (by assumption) ?rest14x12
        case hi14x12 => (simp only [List.getElem?_toArray, List.getElem?_cons_succ, List.getElem?_cons_zero]; exact rfl)
        case hf14x12 => kernel_rfl
        case hr14x12 => kernel_rfl
        case hy14x12 => exact Or.inr ⟨by rfl, rfl⟩
        simp only [put_mk, List.set_cons_succ, List.set_cons_zero]
        refine wpAnyH_take (i := 13) (oi := ?o15x13) (v := undef) ?hi15x13 (by kernel_rfl) ?hf15x13 ?hr15x13 (fun _ _ _ h => h) ?hy15x13 (by assumption) ?rest15x13
        case hi15x13 => (simp only [List.getElem?_toArray, List.getElem?_cons_succ, List.getElem?_cons_zero]; exact rfl)
        case hf15x13 => kernel_rfl
        case hr15x13 => kernel_rfl
        case hy15x13 => exact Or.inr ⟨by rfl, rfl⟩
        simp only [put_mk, List.set_cons_succ, List.set_cons_zero]
        refine wpAnyH_take (i := 14) (oi := ?o16x14) (v := undef) ?hi16x14 (by kernel_rfl) ?hf16x14 ?hr16x14 (fun _ _ _ h => h) ?hy16x14 (by assumption) ?rest16x14
        case hi16x14 => (simp only [List.getElem?_toArray, List.getElem?_cons_succ, List.getElem?_cons_zero]; exact rfl)
        case hf16x14 => kernel_rfl
        case hr16x14 => kernel_rfl
        case hy16x14 => exact Or.inr ⟨by rfl, rfl⟩
        simp only [put_mk, List.set_cons_succ, List.set_cons_zero]
        refine wpAnyH_take (i := 15) (oi := ?o17x15) (v := undef) ?hi17x15 (by kernel_rfl) ?hf17x15 ?hr17x15 (fun _ _ _ h => h) ?hy17x15 (by assumption) ?rest17x15
        case hi17x15 => (simp only [List.getElem?_toArray, List.getElem?_cons_succ, List.getElem?_cons_zero]; exact rfl)
        case hf17x15 => kernel_rfl
        case hr17x15 => kernel_rfl
        case hy17x15 => exact Or.inr ⟨by rfl, rfl⟩
        simp only [put_mk, List.set_cons_succ, List.set_cons_zero]
        refine wpAnyH_take (i := 16) (oi := ?o18x16) (v := undef) ?hi18x16 (by kernel_rfl) ?hf18x16 ?hr18x16 (fun _ _ _ h => h) ?hy18x16 (by assumption) ?rest18x16
        case hi18x16 => (simp only [List.getElem?_toArray, List.getElem?_cons_succ, List.getElem?_cons_zero]; exact rfl)
        case hf18x16 => kernel_rfl
        case hr18x16 => kernel_rfl
        case hy18x16 => exact Or.inr ⟨by rfl, rfl⟩
        simp only [put_mk, List.set_cons_succ, List.set_cons_zero]
        refine wpAnyH_take (i := 17) (oi := ?o19x17) (v := ?v19x17) ?hi19x17 (by kernel_rfl) ?hf19x17 ?hr19x17 (fun _ _ _ h => h) ?hy19x17 (by assumption) ?rest19x17
        case hi19x17 => (simp only [List.getElem?_toArray, List.getElem?_cons_succ, List.getElem?_cons_zero]; exact rfl)
        case hf19x17 => kernel_rfl
        case hr19x17 => kernel_rfl
        case hy19x17 => (refine Or.inl ⟨by rfl, ?_⟩; intro w hSw; (try dsimp only at hSw); go_simp; try with_reducible rfl)
        simp only [put_mk, List.set_cons_succ, List.set_cons_zero]
        refine wpAnyH_done (by kernel_rfl) ?_ _
        refine NoPanic.normal ?_
        go_wp2_with fail
        go_roundw
        case rel => exact ⟨j + 1, by omega, by rw [HS.out], by go_num, (by repeat (first | exact Ext.refl _ | assumption | refine Ext.setCell ?_ (by first | (simp; done) | (simp; omega)) _ | refine Ext.drewN ?_ _ | refine Ext.alloc ?_ _ | refine Ext.drew ?_ | refine Ext.trans ?_ (by assumption)))⟩
        case measure => simp [intOf]; omega
      | some n =>
        have hnN := HNl.out _ _ hn
        have hnl : n < l.length := by rw [Hl.out]; exact hnN
        have HS := hidA (ris_two_some (v := fun j => l.getD j 0) hn)
        rw [hn] at HNj
        clear hn
        unfold nbI at HNj
        simp only [] at HNj
        obtain ⟨r1, r2, _⟩ := (HM n hnN).out
        replace r1 : floatBits .sub .f32 (l.getD k 0) (l.getD n 0) = some (fsub (l.getD k 0) (l.getD n 0)) := r1
        have Hlt := hidA (sub_lt r1)
        have hmg : magF (fun j => l.getD j 0) k n = absB (fsub (l.getD k 0) (l.getD n 0)) := rfl
        rw [hmg] at HS
        have j0 : (0 : Int) ≤ n := by omega
        have j1 : (n : Int) < N := by omega
        have j3 : decide ((0 : Int) ≤ (n : Int)) = true := by simp
        have Ek : Hid ((flt l)[k]? = some (.float .f32 (l.getD k 0))) := by show _ = _; have h := Hkl.out; simp [flt, h, List.getD_eq_getElem?_getD]
        have En : Hid ((flt l)[n]? = some (.float .f32 (l.getD n 0))) := by show _ = _; simp [flt, hnl, List.getD_eq_getElem?_getD]
        go_wp2_with fail
        refine ((HNj _).out).mono ?_
        rintro e w5 ⟨rfl, hb5⟩
        have hx5 := hx.trans hb5
        have u4 : ∀ w', Ext w5 w' → w'.cell? ⟨hf, 4, none⟩ = some (.slice (some ad) N c) := fun w' h => (hB0.ext (hx5.trans h)).cell 4
        have u6 : ∀ w', Ext w5 w' → w'.cell? (ad.add k) = some (.float .f32 (l.getD k 0)) := fun w' h => (hD w' (hx5.trans h)).get Ek.out
        have u7 : ∀ w', Ext w5 w' → w'.cell? (ad.add n) = some (.float .f32 (l.getD n 0)) := fun w' h => (hD w' (hx5.trans h)).get En.out
        have Hk2 := hidA (rfl : k = k)
        clear d0 d1 d2 d3 HNj HM hnl r2 hmg hb5
        generalize ris (fun j => l.getD j 0) Wn Hn k (2 * j) = s at *
        generalize l.getD k 0 = a at *
        generalize l.getD n 0 = b at *
        generalize fsub a b = df at *
        have q1 := fun (w : World) => run_float_arith (P := Try.prog) w .sub 27 .f32 _ _ _ r1
        clear r1
        cases hg : gt (absB df) s
        · have C0 : (FloatKind.f32.format.order (absB df) s == some .gt) = false := hg
          rw [hg] at HS
          clear hg
          go_upto_region 6 with fail
          refine wp_region_noPanic ?_
          refine wp_region_held_drew (S := fun w' => Ext w5 w') (by kernel_rfl) ?_ (fun hHeld => ?_)
          · (repeat (first | exact Ext.refl _ | assumption | refine Ext.setCell ?_ (by first | (simp; done) | (simp; omega)) _ | refine Ext.drewN ?_ _ | refine Ext.alloc ?_ _ | refine Ext.drew ?_ | refine Ext.trans ?_ (by assumption)))
          refine wpAnyH_take (i := 0) (oi := ?o21x0) (v := ?v21x0) ?hi21x0 (by kernel_rfl) ?hf21x0 ?hr21x0 (fun _ _ _ h => h) ?hy21x0 (by assumption) ?rest21x0
          case hi21x0 => (simp only [List.getElem?_toArray, List.getElem?_cons_zero]; exact rfl)
          case hf21x0 => kernel_rfl
          case hr21x0 => kernel_rfl
          case hy21x0 => (refine Or.inl ⟨by rfl, ?_⟩; intro w hSw; (try dsimp only at hSw); go_simp; try with_reducible rfl)
          simp only [put_mk, List.set_cons_succ, List.set_cons_zero]
          refine wpAnyH_take (i := 1) (oi := ?o22x1) (v := ?v22x1) ?hi22x1 (by kernel_rfl) ?hf22x1 ?hr22x1 (fun _ _ _ h => h) ?hy22x1 (by assumption) ?rest22x1
          case hi22x1 => (simp only [List.getElem?_toArray, List.getElem?_cons_succ, List.getElem?_cons_zero]; exact rfl)
          case hf22x1 => kernel_rfl
          case hr22x1 => kernel_rfl
          case hy22x1 => (refine Or.inl ⟨by rfl, ?_⟩; intro w hSw; (try dsimp only at hSw); go_simp; try with_reducible rfl)
          simp only [put_mk, List.set_cons_succ, List.set_cons_zero]
          refine wpAnyH_take (i := 2) (oi := ?o23x2) (v := ?v23x2) ?hi23x2 (by kernel_rfl) ?hf23x2 ?hr23x2 (fun _ _ _ h => h) ?hy23x2 (by assumption) ?rest23x2
          case hi23x2 => (simp only [List.getElem?_toArray, List.getElem?_cons_succ, List.getElem?_cons_zero]; exact rfl)
          case hf23x2 => kernel_rfl
          case hr23x2 => kernel_rfl
          case hy23x2 => (refine Or.inl ⟨by rfl, ?_⟩; intro w hSw; (try dsimp only at hSw); go_simp; try with_reducible rfl)
          simp only [put_mk, List.set_cons_succ, List.set_cons_zero]
          refine wpAnyH_take (i := 3) (oi := ?o24x3) (v := ?v24x3) ?hi24x3 (by kernel_rfl) ?hf24x3 ?hr24x3 (fun _ _ _ h => h) ?hy24x3 (by assumption) ?rest24x3
          case hi24x3 => (simp only [List.getElem?_toArray, List.getElem?_cons_succ, List.getElem?_cons_zero]; exact rfl)
          case hf24x3 => kernel_rfl
          case hr24x3 => kernel_rfl
          case hy24x3 => (refine Or.inl ⟨by rfl, ?_⟩; intro w hSw; (try dsimp only at hSw); go_simp; try with_reducible rfl)
          simp only [put_mk, List.set_cons_succ, List.set_cons_zero]
          refine wpAnyH_take (i := 4) (oi := ?o25x4) (v := ?v25x4) ?hi25x4 (by kernel_rfl) ?hf25x4 ?hr25x4 (fun _ _ _ h => h) ?hy25x4 (by assumption) ?rest25x4
          case hi25x4 => (simp only [List.getElem?_toArray, List.getElem?_cons_succ, List.getElem?_cons_zero]; exact rfl)
          case hf25x4 => kernel_rfl
          case hr25x4 => kernel_rfl
          case hy25x4 => (refine Or.inl ⟨by rfl, ?_⟩; intro w hSw; (try dsimp only at hSw); go_simp; try with_reducible rfl)
          simp only [put_mk, List.set_cons_succ, List.set_cons_zero]
          refine wpAnyH_take (i := 5) (oi := ?o26x5) (v := ?v26x5) ?hi26x5 (by kernel_rfl) ?hf26x5 ?hr26x5 (fun _ _ _ h => h) ?hy26x5 (by assumption) ?rest26x5
          case hi26x5 => (simp only [List.getElem?_toArray, List.getElem?_cons_succ, List.getElem?_cons_zero]; exact rfl)
          case hf26x5 => kernel_rfl
          case hr26x5 => kernel_rfl
          case hy26x5 => (refine Or.inl ⟨by rfl, ?_⟩; intro w hSw; (try dsimp only at hSw); go_simp; try with_reducible rfl)
          simp only [put_mk, List.set_cons_succ, List.set_cons_zero]
          refine wpAnyH_take (i := 6) (oi := ?o27x6) (v := ?v27x6) ?hi27x6 (by kernel_rfl) ?hf27x6 ?hr27x6 (fun _ _ _ h => h) ?hy27x6 (by assumption) ?rest27x6
          case hi27x6 => (simp only [List.getElem?_toArray, List.getElem?_cons_succ, List.getElem?_cons_zero]; exact rfl)
          case hf27x6 => kernel_rfl
          case hr27x6 => kernel_rfl
          case hy27x6 => (refine Or.inl ⟨by rfl, ?_⟩; intro w hSw; (try dsimp only at hSw); go_simp; try with_reducible rfl)
          simp only [put_mk, List.set_cons_succ, List.set_cons_zero]
          refine wpAnyH_take (i := 7) (oi := ?o28x7) (v := ?v28x7) ?hi28x7 (by kernel_rfl) ?hf28x7 ?hr28x7 (fun _ _ _ h => h) ?hy28x7 (by assumption) ?rest28x7
          case hi28x7 => (simp only [List.getElem?_toArray, List.getElem?_cons_succ, List.getElem?_cons_zero]; exact rfl)
          case hf28x7 => kernel_rfl
          case hr28x7 => kernel_rfl
          case hy28x7 => (refine Or.inl ⟨by rfl, ?_⟩; intro w hSw; (try dsimp only at hSw); go_simp; try with_reducible rfl)
          simp only [put_mk, List.set_cons_succ, List.set_cons_zero]
          refine wpAnyH_take (i := 8) (oi := ?o29x8) (v := ?v29x8) ?hi29x8 (by kernel_rfl) ?hf29x8 ?hr29x8 (fun _ _ _ h => h) ?hy29x8 (by assumption) ?rest29x8
          case hi29x8 => (simp only [List.getElem?_toArray, List.getElem?_cons_succ, List.getElem?_cons_zero]; exact rfl)
          case hf29x8 => kernel_rfl
          case hr29x8 => kernel_rfl
          case hy29x8 => (refine Or.inl ⟨by rfl, ?_⟩; intro w hSw; (try dsimp only at hSw); go_simp; try with_reducible rfl)
          simp only [put_mk, List.set_cons_succ, List.set_cons_zero]
          refine wpAnyH_take (i := 9) (oi := ?o30x9) (v := ?v30x9) ?hi30x9 (by kernel_rfl) ?hf30x9 ?hr30x9 (fun _ _ _ h => h) ?hy30x9 (by assumption) ?rest30x9
          case hi30x9 => (simp only [List.getElem?_toArray, List.getElem?_cons_succ, List.getElem?_cons_zero]; exact rfl)
          case hf30x9 => kernel_rfl
          case hr30x9 => kernel_rfl
          case hy30x9 => (refine Or.inl ⟨by rfl, ?_⟩; intro w hSw; (try dsimp only at hSw); go_simp; try with_reducible rfl)
          simp only [put_mk, List.set_cons_succ, List.set_cons_zero]
          refine wpAnyH_take (i := 10) (oi := ?o31x10) (v := ?v31x10) ?hi31x10 (by kernel_rfl) ?hf31x10 ?hr31x10 (fun _ _ _ h => h) ?hy31x10 (by assumption) ?rest31x10
          case hi31x10 => (simp only [List.getElem?_toArray, List.getElem?_cons_succ, List.getElem?_cons_zero]; exact rfl)
          case hf31x10 => kernel_rfl
          case hr31x10 => kernel_rfl
          case hy31x10 => (refine Or.inl ⟨by rfl, ?_⟩; intro w hSw; (try dsimp only at hSw); go_simp; try with_reducible rfl)
          simp only [put_mk, List.set_cons_succ, List.set_cons_zero]
          refine wpAnyH_take (i := 11) (oi := ?o32x11) (v := ?v32x11) ?hi32x11 (by kernel_rfl) ?hf32x11 ?hr32x11 (fun _ _ _ h => h) ?hy32x11 (by assumption) ?rest32x11
          case hi32x11 => (simp only [List.getElem?_toArray, List.getElem?_cons_succ, List.getElem?_cons_zero]; exact rfl)
          case hf32x11 => kernel_rfl
          case hr32x11 => kernel_rfl
          case hy32x11 => (refine Or.inl ⟨by rfl, ?_⟩; intro w hSw; (try dsimp only at hSw); go_simp; try with_reducible rfl)
          simp only [put_mk, List.set_cons_succ, List.set_cons_zero]
          refine wpAnyH_take (i := 12) (oi := ?o33x12) (v := ?v33x12) ?hi33x12 (by kernel_rfl) ?hf33x12 ?hr33x12 (fun _ _ _ h => h) ?hy33x12 (by assumption) ?rest33x12
          case hi33x12 => (simp only [List.getElem?_toArray, List.getElem?_cons_succ, List.getElem?_cons_zero]; exact rfl)
          case hf33x12 => kernel_rfl
          case hr33x12 => kernel_rfl
          case hy33x12 => (refine Or.inl ⟨by rfl, ?_⟩; intro w hSw; (try dsimp only at hSw); go_simp; try with_reducible rfl)
          simp only [put_mk, List.set_cons_succ, List.set_cons_zero]
          refine wpAnyH_take (i := 13) (oi := ?o34x13) (v := ?v34x13) ?hi34x13 (by kernel_rfl) ?hf34x13 ?hr34x13 (fun _ _ _ h => h) ?hy34x13 (by assumption) ?rest34x13
          case hi34x13 => (simp only [List.getElem?_toArray, List.getElem?_cons_succ, List.getElem?_cons_zero]; exact rfl)
          case hf34x13 => kernel_rfl
          case hr34x13 => kernel_rfl
          case hy34x13 => (refine Or.inl ⟨by rfl, ?_⟩; intro w hSw; (try dsimp only at hSw); go_simp; try with_reducible rfl)
          simp only [put_mk, List.set_cons_succ, List.set_cons_zero]
          refine wpAnyH_take (i := 15) (oi := ?o35x15) (v := ?v35x15) ?hi35x15 (by kernel_rfl) ?hf35x15 ?hr35x15 (fun _ _ _ h => h) ?hy35x15 (by assumption) ?rest35x15
          case hi35x15 => (simp only [List.getElem?_toArray, List.getElem?_cons_succ, List.getElem?_cons_zero]; exact rfl)
          case hf35x15 => kernel_rfl
          case hr35x15 => kernel_rfl
          case hy35x15 => (refine Or.inl ⟨by rfl, ?_⟩; intro w hSw; (try dsimp only at hSw); go_simp; try with_reducible rfl)
          simp only [put_mk, List.set_cons_succ, List.set_cons_zero]
          refine wpAnyH_ready (rs := [14]) (by kernel_rfl) (by simp) ?_
          refine AllReadyH.cons (o := ?o36x14) ?hi36x14 (fun K hK => ?_) AllReadyH.nil
          case hi36x14 => (simp only [List.getElem?_toArray, List.getElem?_cons_succ, List.getElem?_cons_zero]; exact rfl)
          go_simp
          refine (refAbs_any _ _ Hlt.out).mono ?_
          rintro e w8 ⟨rfl, hw8⟩
          rw [hw8]
          clear hw8 w8
          refine hK.out _ _ ?_ (fun hHeld => ?_)
          · (repeat (first | exact Ext.refl _ | assumption | refine Ext.setCell ?_ (by first | (simp; done) | (simp; omega)) _ | refine Ext.drewN ?_ _ | refine Ext.alloc ?_ _ | refine Ext.drew ?_ | refine Ext.trans ?_ (by assumption)))
          clear hK K
          refine wpAnyH_take (i := 16) (oi := ?o37x16) (v := ?v37x16) ?hi37x16 (by kernel_rfl) ?hf37x16 ?hr37x16 (fun _ _ _ h => h) ?hy37x16 (by assumption) ?rest37x16
          case hi37x16 => (simp only [List.getElem?_toArray, List.getElem?_cons_succ, List.getElem?_cons_zero]; exact rfl)
          case hf37x16 => kernel_rfl
          case hr37x16 => kernel_rfl
          case hy37x16 => (refine Or.inl ⟨by rfl, ?_⟩; intro w hSw; (try dsimp only at hSw); go_simp; try with_reducible rfl)
          simp only [put_mk, List.set_cons_succ, List.set_cons_zero]
          refine wpAnyH_take (i := 17) (oi := ?o38x17) (v := ?v38x17) ?hi38x17 (by kernel_rfl) ?hf38x17 ?hr38x17 (fun _ _ _ h => h) ?hy38x17 (by assumption) ?rest38x17
          case hi38x17 => (simp only [List.getElem?_toArray, List.getElem?_cons_succ, List.getElem?_cons_zero]; exact rfl)
          case hf38x17 => kernel_rfl
          case hr38x17 => kernel_rfl
          case hy38x17 => (refine Or.inl ⟨by rfl, ?_⟩; intro w hSw; (try dsimp only at hSw); go_simp; try with_reducible rfl)
          simp only [put_mk, List.set_cons_succ, List.set_cons_zero]
          refine wpAnyH_done (by kernel_rfl) ?_ _
          refine NoPanic.normal ?_
          go_wp2_with fail
          go_roundw
          case rel => exact ⟨j + 1, by omega, by rw [HS.out]; rfl, by go_num, (by repeat (first | exact Ext.refl _ | assumption | refine Ext.setCell ?_ (by first | (simp; done) | (simp; omega)) _ | refine Ext.drewN ?_ _ | refine Ext.alloc ?_ _ | refine Ext.drew ?_ | refine Ext.trans ?_ (by assumption)))⟩
          case measure => simp [intOf]; omega
        · have C0 : (FloatKind.f32.format.order (absB df) s == some .gt) = true := hg
          rw [hg] at HS
          clear hg
          go_upto_region 6 with fail
          refine wp_region_noPanic ?_
          refine wp_region_held_drew (S := fun w' => Ext w5 w') (by kernel_rfl) ?_ (fun hHeld => ?_)
          · (repeat (first | exact Ext.refl _ | assumption | refine Ext.setCell ?_ (by first | (simp; done) | (simp; omega)) _ | refine Ext.drewN ?_ _ | refine Ext.alloc ?_ _ | refine Ext.drew ?_ | refine Ext.trans ?_ (by assumption)))
          refine wpAnyH_take (i := 0) (oi := ?o40x0) (v := ?v40x0) ?hi40x0 (by kernel_rfl) ?hf40x0 ?hr40x0 (fun _ _ _ h => h) ?hy40x0 (by assumption) ?rest40x0
          case hi40x0 => (simp only [List.getElem?_toArray, List.getElem?_cons_zero]; exact rfl)
          case hf40x0 => kernel_rfl
          case hr40x0 => kernel_rfl
          case hy40x0 => (refine Or.inl ⟨by rfl, ?_⟩; intro w hSw; (try dsimp only at hSw); go_simp; try with_reducible rfl)
          simp only [put_mk, List.set_cons_succ, List.set_cons_zero]
          refine wpAnyH_take (i := 1) (oi := ?o41x1) (v := ?v41x1) ?hi41x1 (by kernel_rfl) ?hf41x1 ?hr41x1 (fun _ _ _ h => h) ?hy41x1 (by assumption) ?rest41x1
          case hi41x1 => (simp only [List.getElem?_toArray, List.getElem?_cons_succ, List.getElem?_cons_zero]; exact rfl)
          case hf41x1 => kernel_rfl
          case hr41x1 => kernel_rfl
          case hy41x1 => (refine Or.inl ⟨by rfl, ?_⟩; intro w hSw; (try dsimp only at hSw); go_simp; try with_reducible rfl)
          simp only [put_mk, List.set_cons_succ, List.set_cons_zero]
          refine wpAnyH_take (i := 2) (oi := ?o42x2) (v := ?v42x2) ?hi42x2 (by kernel_rfl) ?hf42x2 ?hr42x2 (fun _ _ _ h => h) ?hy42x2 (by assumption) ?rest42x2
          case hi42x2 => (simp only [List.getElem?_toArray, List.getElem?_cons_succ, List.getElem?_cons_zero]; exact rfl)
          case hf42x2 => kernel_rfl
          case hr42x2 => kernel_rfl
          case hy42x2 => (refine Or.inl ⟨by rfl, ?_⟩; intro w hSw; (try dsimp only at hSw); go_simp; try with_reducible rfl)
          simp only [put_mk, List.set_cons_succ, List.set_cons_zero]
          refine wpAnyH_take (i := 3) (oi := ?o43x3) (v := ?v43x3) ?hi43x3 (by kernel_rfl) ?hf43x3 ?hr43x3 (fun _ _ _ h => h) ?hy43x3 (by assumption) ?rest43x3
          case hi43x3 => (simp only [List.getElem?_toArray, List.getElem?_cons_succ, List.getElem?_cons_zero]; exact rfl)
          case hf43x3 => kernel_rfl
          case hr43x3 => kernel_rfl
          case hy43x3 => (refine Or.inl ⟨by rfl, ?_⟩; intro w hSw; (try dsimp only at hSw); go_simp; try with_reducible rfl)
          simp only [put_mk, List.set_cons_succ, List.set_cons_zero]
          refine wpAnyH_take (i := 4) (oi := ?o44x4) (v := ?v44x4) ?hi44x4 (by kernel_rfl) ?hf44x4 ?hr44x4 (fun _ _ _ h => h) ?hy44x4 (by assumption) ?rest44x4
          case hi44x4 => (simp only [List.getElem?_toArray, List.getElem?_cons_succ, List.getElem?_cons_zero]; exact rfl)
          case hf44x4 => kernel_rfl
          case hr44x4 => kernel_rfl
          case hy44x4 => (refine Or.inl ⟨by rfl, ?_⟩; intro w hSw; (try dsimp only at hSw); go_simp; try with_reducible rfl)
          simp only [put_mk, List.set_cons_succ, List.set_cons_zero]
          refine wpAnyH_take (i := 5) (oi := ?o45x5) (v := ?v45x5) ?hi45x5 (by kernel_rfl) ?hf45x5 ?hr45x5 (fun _ _ _ h => h) ?hy45x5 (by assumption) ?rest45x5
          case hi45x5 => (simp only [List.getElem?_toArray, List.getElem?_cons_succ, List.getElem?_cons_zero]; exact rfl)
          case hf45x5 => kernel_rfl
          case hr45x5 => kernel_rfl
          case hy45x5 => (refine Or.inl ⟨by rfl, ?_⟩; intro w hSw; (try dsimp only at hSw); go_simp; try with_reducible rfl)
          simp only [put_mk, List.set_cons_succ, List.set_cons_zero]
          refine wpAnyH_take (i := 6) (oi := ?o46x6) (v := ?v46x6) ?hi46x6 (by kernel_rfl) ?hf46x6 ?hr46x6 (fun _ _ _ h => h) ?hy46x6 (by assumption) ?rest46x6
          case hi46x6 => (simp only [List.getElem?_toArray, List.getElem?_cons_succ, List.getElem?_cons_zero]; exact rfl)
          case hf46x6 => kernel_rfl
          case hr46x6 => kernel_rfl
          case hy46x6 => (refine Or.inl ⟨by rfl, ?_⟩; intro w hSw; (try dsimp only at hSw); go_simp; try with_reducible rfl)
          simp only [put_mk, List.set_cons_succ, List.set_cons_zero]
          refine wpAnyH_take (i := 7) (oi := ?o47x7) (v := ?v47x7) ?hi47x7 (by kernel_rfl) ?hf47x7 ?hr47x7 (fun _ _ _ h => h) ?hy47x7 (by assumption) ?rest47x7
          case hi47x7 => (simp only [List.getElem?_toArray, List.getElem?_cons_succ, List.getElem?_cons_zero]; exact rfl)
          case hf47x7 => kernel_rfl
          case hr47x7 => kernel_rfl
          case hy47x7 => (refine Or.inl ⟨by rfl, ?_⟩; intro w hSw; (try dsimp only at hSw); go_simp; try with_reducible rfl)
          simp only [put_mk, List.set_cons_succ, List.set_cons_zero]
          refine wpAnyH_take (i := 8) (oi := ?o48x8) (v := ?v48x8) ?hi48x8 (by kernel_rfl) ?hf48x8 ?hr48x8 (fun _ _ _ h => h) ?hy48x8 (by assumption) ?rest48x8
          case hi48x8 => (simp only [List.getElem?_toArray, List.getElem?_cons_succ, List.getElem?_cons_zero]; exact rfl)
          case hf48x8 => kernel_rfl
          case hr48x8 => kernel_rfl
          case hy48x8 => (refine Or.inl ⟨by rfl, ?_⟩; intro w hSw; (try dsimp only at hSw); go_simp; try with_reducible rfl)
          simp only [put_mk, List.set_cons_succ, List.set_cons_zero]
          refine wpAnyH_take (i := 9) (oi := ?o49x9) (v := ?v49x9) ?hi49x9 (by kernel_rfl) ?hf49x9 ?hr49x9 (fun _ _ _ h => h) ?hy49x9 (by assumption) ?rest49x9
          case hi49x9 => (simp only [List.getElem?_toArray, List.getElem?_cons_succ, List.getElem?_cons_zero]; exact rfl)
          case hf49x9 => kernel_rfl
          case hr49x9 => kernel_rfl
          case hy49x9 => (refine Or.inl ⟨by rfl, ?_⟩; intro w hSw; (try dsimp only at hSw); go_simp; try with_reducible rfl)
          simp only [put_mk, List.set_cons_succ, List.set_cons_zero]
          refine wpAnyH_take (i := 10) (oi := ?o50x10) (v := ?v50x10) ?hi50x10 (by kernel_rfl) ?hf50x10 ?hr50x10 (fun _ _ _ h => h) ?hy50x10 (by assumption) ?rest50x10
          case hi50x10 => (simp only [List.getElem?_toArray, List.getElem?_cons_succ, List.getElem?_cons_zero]; exact rfl)
          case hf50x10 => kernel_rfl
          case hr50x10 => kernel_rfl
          case hy50x10 => (refine Or.inl ⟨by rfl, ?_⟩; intro w hSw; (try dsimp only at hSw); go_simp; try with_reducible rfl)
          simp only [put_mk, List.set_cons_succ, List.set_cons_zero]
          refine wpAnyH_take (i := 11) (oi := ?o51x11) (v := ?v51x11) ?hi51x11 (by kernel_rfl) ?hf51x11 ?hr51x11 (fun _ _ _ h => h) ?hy51x11 (by assumption) ?rest51x11
          case hi51x11 => (simp only [List.getElem?_toArray, List.getElem?_cons_succ, List.getElem?_cons_zero]; exact rfl)
          case hf51x11 => kernel_rfl
          case hr51x11 => kernel_rfl
          case hy51x11 => (refine Or.inl ⟨by rfl, ?_⟩; intro w hSw; (try dsimp only at hSw); go_simp; try with_reducible rfl)
          simp only [put_mk, List.set_cons_succ, List.set_cons_zero]
          refine wpAnyH_take (i := 12) (oi := ?o52x12) (v := ?v52x12) ?hi52x12 (by kernel_rfl) ?hf52x12 ?hr52x12 (fun _ _ _ h => h) ?hy52x12 (by assumption) ?rest52x12
          case hi52x12 => (simp only [List.getElem?_toArray, List.getElem?_cons_succ, List.getElem?_cons_zero]; exact rfl)
          case hf52x12 => kernel_rfl
          case hr52x12 => kernel_rfl
          case hy52x12 => (refine Or.inl ⟨by rfl, ?_⟩; intro w hSw; (try dsimp only at hSw); go_simp; try with_reducible rfl)
          simp only [put_mk, List.set_cons_succ, List.set_cons_zero]
          refine wpAnyH_take (i := 13) (oi := ?o53x13) (v := ?v53x13) ?hi53x13 (by kernel_rfl) ?hf53x13 ?hr53x13 (fun _ _ _ h => h) ?hy53x13 (by assumption) ?rest53x13
          case hi53x13 => (simp only [List.getElem?_toArray, List.getElem?_cons_succ, List.getElem?_cons_zero]; exact rfl)
          case hf53x13 => kernel_rfl
          case hr53x13 => kernel_rfl
          case hy53x13 => (refine Or.inl ⟨by rfl, ?_⟩; intro w hSw; (try dsimp only at hSw); go_simp; try with_reducible rfl)
          simp only [put_mk, List.set_cons_succ, List.set_cons_zero]
          refine wpAnyH_take (i := 15) (oi := ?o54x15) (v := ?v54x15) ?hi54x15 (by kernel_rfl) ?hf54x15 ?hr54x15 (fun _ _ _ h => h) ?hy54x15 (by assumption) ?rest54x15
          case hi54x15 => (simp only [List.getElem?_toArray, List.getElem?_cons_succ, List.getElem?_cons_zero]; exact rfl)
          case hf54x15 => kernel_rfl
          case hr54x15 => kernel_rfl
          case hy54x15 => (refine Or.inl ⟨by rfl, ?_⟩; intro w hSw; (try dsimp only at hSw); go_simp; try with_reducible rfl)
          simp only [put_mk, List.set_cons_succ, List.set_cons_zero]
          refine wpAnyH_ready (rs := [14]) (by kernel_rfl) (by simp) ?_
          refine AllReadyH.cons (o := ?o55x14) ?hi55x14 (fun K hK => ?_) AllReadyH.nil
          case hi55x14 => (simp only [List.getElem?_toArray, List.getElem?_cons_succ, List.getElem?_cons_zero]; exact rfl)
          go_simp
          refine (refAbs_any _ _ Hlt.out).mono ?_
          rintro e w8 ⟨rfl, hw8⟩
          rw [hw8]
          clear hw8 w8
          refine hK.out _ _ ?_ (fun hHeld => ?_)
          · (repeat (first | exact Ext.refl _ | assumption | refine Ext.setCell ?_ (by first | (simp; done) | (simp; omega)) _ | refine Ext.drewN ?_ _ | refine Ext.alloc ?_ _ | refine Ext.drew ?_ | refine Ext.trans ?_ (by assumption)))
          clear hK K
          refine wpAnyH_take (i := 16) (oi := ?o56x16) (v := ?v56x16) ?hi56x16 (by kernel_rfl) ?hf56x16 ?hr56x16 (fun _ _ _ h => h) ?hy56x16 (by assumption) ?rest56x16
          case hi56x16 => (simp only [List.getElem?_toArray, List.getElem?_cons_succ, List.getElem?_cons_zero]; exact rfl)
          case hf56x16 => kernel_rfl
          case hr56x16 => kernel_rfl
          case hy56x16 => (refine Or.inl ⟨by rfl, ?_⟩; intro w hSw; (try dsimp only at hSw); go_simp; try with_reducible rfl)
          simp only [put_mk, List.set_cons_succ, List.set_cons_zero]
          refine wpAnyH_take (i := 17) (oi := ?o57x17) (v := ?v57x17) ?hi57x17 (by kernel_rfl) ?hf57x17 ?hr57x17 (fun _ _ _ h => h) ?hy57x17 (by assumption) ?rest57x17
          case hi57x17 => (simp only [List.getElem?_toArray, List.getElem?_cons_succ, List.getElem?_cons_zero]; exact rfl)
          case hf57x17 => kernel_rfl
          case hr57x17 => kernel_rfl
          case hy57x17 => (refine Or.inl ⟨by rfl, ?_⟩; intro w hSw; (try dsimp only at hSw); go_simp; try with_reducible rfl)
          simp only [put_mk, List.set_cons_succ, List.set_cons_zero]
          refine wpAnyH_done (by kernel_rfl) ?_ _
          refine NoPanic.normal ?_
          go_wp2_with fail
          refine wp_region_noPanic ?_
          refine wp_region_held_drew (S := fun w' => Ext w5 w') (by kernel_rfl) ?_ (fun hHeld => ?_)
          · (repeat (first | exact Ext.refl _ | assumption | refine Ext.setCell ?_ (by first | (simp; done) | (simp; omega)) _ | refine Ext.drewN ?_ _ | refine Ext.alloc ?_ _ | refine Ext.drew ?_ | refine Ext.trans ?_ (by assumption)))
          refine wpAnyH_take (i := 0) (oi := ?o59x0) (v := ?v59x0) ?hi59x0 (by kernel_rfl) ?hf59x0 ?hr59x0 (fun _ _ _ h => h) ?hy59x0 (by assumption) ?rest59x0
          case hi59x0 => (simp only [List.getElem?_toArray, List.getElem?_cons_zero]; exact rfl)
          case hf59x0 => kernel_rfl
          case hr59x0 => kernel_rfl
          case hy59x0 => (refine Or.inl ⟨by rfl, ?_⟩; intro w hSw; (try dsimp only at hSw); go_simp; try with_reducible rfl)
          simp only [put_mk, List.set_cons_succ, List.set_cons_zero]
          refine wpAnyH_take (i := 1) (oi := ?o60x1) (v := ?v60x1) ?hi60x1 (by kernel_rfl) ?hf60x1 ?hr60x1 (fun _ _ _ h => h) ?hy60x1 (by assumption) ?rest60x1
          case hi60x1 => (simp only [List.getElem?_toArray, List.getElem?_cons_succ, List.getElem?_cons_zero]; exact rfl)
          case hf60x1 => kernel_rfl
          case hr60x1 => kernel_rfl
          case hy60x1 => (refine Or.inl ⟨by rfl, ?_⟩; intro w hSw; (try dsimp only at hSw); go_simp; try with_reducible rfl)
          simp only [put_mk, List.set_cons_succ, List.set_cons_zero]
          refine wpAnyH_take (i := 2) (oi := ?o61x2) (v := ?v61x2) ?hi61x2 (by kernel_rfl) ?hf61x2 ?hr61x2 (fun _ _ _ h => h) ?hy61x2 (by assumption) ?rest61x2
          case hi61x2 => (simp only [List.getElem?_toArray, List.getElem?_cons_succ, List.getElem?_cons_zero]; exact rfl)
          case hf61x2 => kernel_rfl
          case hr61x2 => kernel_rfl
          case hy61x2 => (refine Or.inl ⟨by rfl, ?_⟩; intro w hSw; (try dsimp only at hSw); go_simp; try with_reducible rfl)
          simp only [put_mk, List.set_cons_succ, List.set_cons_zero]
          refine wpAnyH_take (i := 3) (oi := ?o62x3) (v := ?v62x3) ?hi62x3 (by kernel_rfl) ?hf62x3 ?hr62x3 (fun _ _ _ h => h) ?hy62x3 (by assumption) ?rest62x3
          case hi62x3 => (simp only [List.getElem?_toArray, List.getElem?_cons_succ, List.getElem?_cons_zero]; exact rfl)
          case hf62x3 => kernel_rfl
          case hr62x3 => kernel_rfl
          case hy62x3 => (refine Or.inl ⟨by rfl, ?_⟩; intro w hSw; (try dsimp only at hSw); go_simp; try with_reducible rfl)
          simp only [put_mk, List.set_cons_succ, List.set_cons_zero]
          refine wpAnyH_take (i := 4) (oi := ?o63x4) (v := ?v63x4) ?hi63x4 (by kernel_rfl) ?hf63x4 ?hr63x4 (fun _ _ _ h => h) ?hy63x4 (by assumption) ?rest63x4
          case hi63x4 => (simp only [List.getElem?_toArray, List.getElem?_cons_succ, List.getElem?_cons_zero]; exact rfl)
          case hf63x4 => kernel_rfl
          case hr63x4 => kernel_rfl
          case hy63x4 => (refine Or.inl ⟨by rfl, ?_⟩; intro w hSw; (try dsimp only at hSw); go_simp; try with_reducible rfl)
          simp only [put_mk, List.set_cons_succ, List.set_cons_zero]
          refine wpAnyH_take (i := 5) (oi := ?o64x5) (v := ?v64x5) ?hi64x5 (by kernel_rfl) ?hf64x5 ?hr64x5 (fun _ _ _ h => h) ?hy64x5 (by assumption) ?rest64x5
          case hi64x5 => (simp only [List.getElem?_toArray, List.getElem?_cons_succ, List.getElem?_cons_zero]; exact rfl)
          case hf64x5 => kernel_rfl
          case hr64x5 => kernel_rfl
          case hy64x5 => (refine Or.inl ⟨by rfl, ?_⟩; intro w hSw; (try dsimp only at hSw); go_simp; try with_reducible rfl)
          simp only [put_mk, List.set_cons_succ, List.set_cons_zero]
          refine wpAnyH_take (i := 6) (oi := ?o65x6) (v := ?v65x6) ?hi65x6 (by kernel_rfl) ?hf65x6 ?hr65x6 (fun _ _ _ h => h) ?hy65x6 (by assumption) ?rest65x6
          case hi65x6 => (simp only [List.getElem?_toArray, List.getElem?_cons_succ, List.getElem?_cons_zero]; exact rfl)
          case hf65x6 => kernel_rfl
          case hr65x6 => kernel_rfl
          case hy65x6 => (refine Or.inl ⟨by rfl, ?_⟩; intro w hSw; (try dsimp only at hSw); go_simp; try with_reducible rfl)
          simp only [put_mk, List.set_cons_succ, List.set_cons_zero]
          refine wpAnyH_take (i := 7) (oi := ?o66x7) (v := ?v66x7) ?hi66x7 (by kernel_rfl) ?hf66x7 ?hr66x7 (fun _ _ _ h => h) ?hy66x7 (by assumption) ?rest66x7
          case hi66x7 => (simp only [List.getElem?_toArray, List.getElem?_cons_succ, List.getElem?_cons_zero]; exact rfl)
          case hf66x7 => kernel_rfl
          case hr66x7 => kernel_rfl
          case hy66x7 => (refine Or.inl ⟨by rfl, ?_⟩; intro w hSw; (try dsimp only at hSw); go_simp; try with_reducible rfl)
          simp only [put_mk, List.set_cons_succ, List.set_cons_zero]
          refine wpAnyH_take (i := 8) (oi := ?o67x8) (v := ?v67x8) ?hi67x8 (by kernel_rfl) ?hf67x8 ?hr67x8 (fun _ _ _ h => h) ?hy67x8 (by assumption) ?rest67x8
          case hi67x8 => (simp only [List.getElem?_toArray, List.getElem?_cons_succ, List.getElem?_cons_zero]; exact rfl)
          case hf67x8 => kernel_rfl
          case hr67x8 => kernel_rfl
          case hy67x8 => (refine Or.inl ⟨by rfl, ?_⟩; intro w hSw; (try dsimp only at hSw); go_simp; try with_reducible rfl)
          simp only [put_mk, List.set_cons_succ, List.set_cons_zero]
          refine wpAnyH_take (i := 9) (oi := ?o68x9) (v := ?v68x9) ?hi68x9 (by kernel_rfl) ?hf68x9 ?hr68x9 (fun _ _ _ h => h) ?hy68x9 (by assumption) ?rest68x9
          case hi68x9 => (simp only [List.getElem?_toArray, List.getElem?_cons_succ, List.getElem?_cons_zero]; exact rfl)
          case hf68x9 => kernel_rfl
          case hr68x9 => kernel_rfl
          case hy68x9 => (refine Or.inl ⟨by rfl, ?_⟩; intro w hSw; (try dsimp only at hSw); go_simp; try with_reducible rfl)
          simp only [put_mk, List.set_cons_succ, List.set_cons_zero]
          refine wpAnyH_take (i := 10) (oi := ?o69x10) (v := ?v69x10) ?hi69x10 (by kernel_rfl) ?hf69x10 ?hr69x10 (fun _ _ _ h => h) ?hy69x10 (by assumption) ?rest69x10
          case hi69x10 => (simp only [List.getElem?_toArray, List.getElem?_cons_succ, List.getElem?_cons_zero]; exact rfl)
          case hf69x10 => kernel_rfl
          case hr69x10 => kernel_rfl
          case hy69x10 => (refine Or.inl ⟨by rfl, ?_⟩; intro w hSw; (try dsimp only at hSw); go_simp; try with_reducible rfl)
          simp only [put_mk, List.set_cons_succ, List.set_cons_zero]
          refine wpAnyH_ready (rs := [11]) (by kernel_rfl) (by simp) ?_
          refine AllReadyH.cons (o := ?o70x11) ?hi70x11 (fun K hK => ?_) AllReadyH.nil
          case hi70x11 => (simp only [List.getElem?_toArray, List.getElem?_cons_succ, List.getElem?_cons_zero]; exact rfl)
          go_simp
          refine (refAbs_any _ _ Hlt.out).mono ?_
          rintro e w8 ⟨rfl, hw8⟩
          rw [hw8]
          clear hw8 w8
          refine hK.out _ _ ?_ (fun hHeld => ?_)
          · (repeat (first | exact Ext.refl _ | assumption | refine Ext.setCell ?_ (by first | (simp; done) | (simp; omega)) _ | refine Ext.drewN ?_ _ | refine Ext.alloc ?_ _ | refine Ext.drew ?_ | refine Ext.trans ?_ (by assumption)))
          clear hK K
          refine wpAnyH_take (i := 12) (oi := ?o71x12) (v := ?v71x12) ?hi71x12 (by kernel_rfl) ?hf71x12 ?hr71x12 (fun _ _ _ h => h) ?hy71x12 (by assumption) ?rest71x12
          case hi71x12 => (simp only [List.getElem?_toArray, List.getElem?_cons_succ, List.getElem?_cons_zero]; exact rfl)
          case hf71x12 => kernel_rfl
          case hr71x12 => kernel_rfl
          case hy71x12 => (refine Or.inl ⟨by rfl, ?_⟩; intro w hSw; (try dsimp only at hSw); go_simp; try with_reducible rfl)
          simp only [put_mk, List.set_cons_succ, List.set_cons_zero]
          refine wpAnyH_done (by kernel_rfl) ?_ _
          refine NoPanic.normal ?_
          go_wp2_with fail
          go_roundw
          case rel => exact ⟨j + 1, by omega, by rw [HS.out]; rfl, by go_num, (by repeat (first | exact Ext.refl _ | assumption | refine Ext.setCell ?_ (by first | (simp; done) | (simp; omega)) _ | refine Ext.drewN ?_ _ | refine Ext.alloc ?_ _ | refine Ext.drew ?_ | refine Ext.trans ?_ (by assumption)))⟩
          case measure => simp [intOf]; omega
    · obtain rfl : j = 4 := by omega
      go_wp2
      go_ret
      exact ⟨rfl, (by repeat (first | exact Ext.refl _ | assumption | refine Ext.setCell ?_ (by first | (simp; done) | (simp; omega)) _ | refine Ext.drewN ?_ _ | refine Ext.alloc ?_ _ | refine Ext.drew ?_ | refine Ext.trans ?_ (by assumption)))⟩
end Go.Proofs.Ytinohfgokpbcdaa
namespace Go.Proofs.Ytinohfgokpbcdaa
open Go.RowKit
attribute [local go_sem ↓] Go.wp_at_zero Go.wp_at_succ
attribute [local go_sem] run_store_float

/-- the error of snow -/
def snowE (a b c1 d : Nat) : Int := if numE [a, b, c1, d] ≠ 0 then numE [a, b, c1, d] else if lt b 0 = true ∨ lt c1 0 = true ∨ lt d 0 = true then 3 else 0
theorem snowE_zero {a b c1 d : Nat} (h : snowE a b c1 d = 0) : Bd 20 a ∧ Bd 20 b ∧ Bd 20 c1 ∧ Bd 20 d ∧ lt b 0 = false ∧ lt c1 0 = false ∧ lt d 0 = false := by
  unfold snowE at h
  by_cases h1 : numE [a, b, c1, d] = 0
  · rw [if_neg (fun h2 => h2 h1)] at h
    have hb := (numE_zero h1).2
    refine ⟨hgt_bd (hb a (by simp)), hgt_bd (hb b (by simp)), hgt_bd (hb c1 (by simp)), hgt_bd (hb d (by simp)), ?_⟩
    cases e1 : lt b 0 <;> cases e2 : lt c1 0 <;> cases e3 : lt d 0 <;> simp [e1, e2, e3] at h ⊢
  · rw [if_pos h1] at h
    exact absurd h h1
set_option maxRecDepth 100000 in
set_option maxHeartbeats 3200000 in
theorem checkSnow_any (a b c1 d : Nat) (w : World) : Calls Try.prog 41 #[.agg #[.float .f32 a, .float .f32 b, .float .f32 c1, .float .f32 d]] w fun e w' => e = .returned (.int .i64 (snowE a b c1 d)) ∧ Ext w w' := by
  have HN := fun (B : Option Addr) (w : World) (h : Rd w B (flt [a, b, c1, d])) => hidA (heights_any B 4 4 [a, b, c1, d] w rfl h (by omega))
  have b1 : (FloatKind.f32.format.order b 0 == some .lt) = lt b 0 := rfl
  have b2 : (FloatKind.f32.format.order c1 0 == some .lt) = lt c1 0 := rfl
  have b3 : (FloatKind.f32.format.order d 0 == some .lt) = lt d 0 := rfl
  have hE : snowE a b c1 d = if numE [a, b, c1, d] ≠ 0 then numE [a, b, c1, d] else if lt b 0 = true ∨ lt c1 0 = true ∨ lt d 0 = true then 3 else 0 := rfl
  have HE := hidA hE
  generalize numE [a, b, c1, d] = f at *
  generalize snowE a b c1 d = E at *
  generalize lt b 0 = B1 at *
  generalize lt c1 0 = B2 at *
  generalize lt d 0 = B3 at *
  clear hE
  by_cases hf : f = 0
  · subst hf
    have hc : B1 = true ∨ (B1 = false ∧ B2 = true) ∨ (B1 = false ∧ B2 = false ∧ B3 = true) ∨ (B1 = false ∧ B2 = false ∧ B3 = false) := by
      cases B1 <;> cases B2 <;> cases B3 <;> simp
    rcases hc with rfl | ⟨rfl, rfl⟩ | ⟨rfl, rfl, rfl⟩ | ⟨rfl, rfl, rfl⟩
    · have hv : Hid (E = 3) := by show E = _; rw [HE.out]; simp
      go_enter Try.func41, Try.ntmps41
      go_wp2_with (go_at_call 81; refine ((HN _ _ (Rd.new (by first | rfl | simp) (by first | rfl | simp))).out).mono ?_; rintro e w1 ⟨rfl, rfl⟩)
      go_ret
      exact ⟨ret_i hv.out.symm, (by repeat (first | (with_reducible exact Ext.refl _) | (with_reducible assumption) | (with_reducible refine Ext.setCell ?_ (by first | (simp; done) | (simp; omega)) _) | (with_reducible refine Ext.drewN ?_ _) | (with_reducible refine Ext.alloc ?_ _) | (with_reducible refine Ext.drew ?_) | (with_reducible refine Ext.trans ?_ (by assumption))))⟩
    · have hv : Hid (E = 3) := by show E = _; rw [HE.out]; simp
      go_enter Try.func41, Try.ntmps41
      go_wp2_with (go_at_call 81; refine ((HN _ _ (Rd.new (by first | rfl | simp) (by first | rfl | simp))).out).mono ?_; rintro e w1 ⟨rfl, rfl⟩)
      go_ret
      exact ⟨ret_i hv.out.symm, (by repeat (first | (with_reducible exact Ext.refl _) | (with_reducible assumption) | (with_reducible refine Ext.setCell ?_ (by first | (simp; done) | (simp; omega)) _) | (with_reducible refine Ext.drewN ?_ _) | (with_reducible refine Ext.alloc ?_ _) | (with_reducible refine Ext.drew ?_) | (with_reducible refine Ext.trans ?_ (by assumption))))⟩
    · have hv : Hid (E = 3) := by show E = _; rw [HE.out]; simp
      go_enter Try.func41, Try.ntmps41
      go_wp2_with (go_at_call 81; refine ((HN _ _ (Rd.new (by first | rfl | simp) (by first | rfl | simp))).out).mono ?_; rintro e w1 ⟨rfl, rfl⟩)
      go_ret
      exact ⟨ret_i hv.out.symm, (by repeat (first | (with_reducible exact Ext.refl _) | (with_reducible assumption) | (with_reducible refine Ext.setCell ?_ (by first | (simp; done) | (simp; omega)) _) | (with_reducible refine Ext.drewN ?_ _) | (with_reducible refine Ext.alloc ?_ _) | (with_reducible refine Ext.drew ?_) | (with_reducible refine Ext.trans ?_ (by assumption))))⟩
    · have hv : Hid (E = 0) := by show E = _; rw [HE.out]; simp
      go_enter Try.func41, Try.ntmps41
      go_wp2_with (go_at_call 81; refine ((HN _ _ (Rd.new (by first | rfl | simp) (by first | rfl | simp))).out).mono ?_; rintro e w1 ⟨rfl, rfl⟩)
      go_ret
      exact ⟨ret_i hv.out.symm, (by repeat (first | (with_reducible exact Ext.refl _) | (with_reducible assumption) | (with_reducible refine Ext.setCell ?_ (by first | (simp; done) | (simp; omega)) _) | (with_reducible refine Ext.drewN ?_ _) | (with_reducible refine Ext.alloc ?_ _) | (with_reducible refine Ext.drew ?_) | (with_reducible refine Ext.trans ?_ (by assumption))))⟩
  · have hf' : (f != 0) = true := by simpa using hf
    have hv : Hid (E = f) := by show E = _; rw [HE.out, if_pos hf]
    clear hf b1 b2 b3
    go_enter Try.func41, Try.ntmps41
    go_wp2_with (go_at_call 81; refine ((HN _ _ (Rd.new (by first | rfl | simp) (by first | rfl | simp))).out).mono ?_; rintro e w1 ⟨rfl, rfl⟩)
    go_ret
    exact ⟨ret_i hv.out.symm, (by repeat (first | (with_reducible exact Ext.refl _) | (with_reducible assumption) | (with_reducible refine Ext.setCell ?_ (by first | (simp; done) | (simp; omega)) _) | (with_reducible refine Ext.drewN ?_ _) | (with_reducible refine Ext.alloc ?_ _) | (with_reducible refine Ext.drew ?_) | (with_reducible refine Ext.trans ?_ (by assumption))))⟩

/-- how deep snow lies -/
def snowD (x a b : Nat) : Nat := fmul (fsub x a) b
def snowT (r d : Nat) : Nat := fsub 1065353216 (fdiv r d)
def snowX (x r a b c1 d : Nat) : Nat := if gt (snowD x a b) 0 = false then 0 else if lt r d = false then 0 else fmul (lesserB (snowD x a b) c1) (snowT r d)
def snowF (v : Nat → Nat) (Wn Hn a b c1 d k : Nat) : Nat := snowX (v k) (ris v Wn Hn k 8) a b c1 d
theorem leq_gtK {K x : Nat} (h : Bd K x) (hK : K ≤ 127) : (FloatKind.f32.format.order x 0 == some .lt || FloatKind.f32.format.order x 0 == some .eq) = !gt x 0 := by
  have e := ord_valI (bd_Fin h hK) (show Fin 0 by unfold Fin; omega)
  unfold gt
  rw [ord_def, e]
  cases compare (valI x) (valI 0) <;> rfl
theorem geq_ltK {K J x y : Nat} (h : Bd K x) (hK : K ≤ 127) (h2 : Bd J y) (hJ : J ≤ 127) : (FloatKind.f32.format.order x y == some .gt || FloatKind.f32.format.order x y == some .eq) = !lt x y := by
  have e := ord_valI (bd_Fin h hK) (bd_Fin h2 hJ)
  unfold lt
  rw [ord_def, e]
  cases compare (valI x) (valI y) <;> rfl
theorem lesser_bd {K a b : Nat} (ha : Bd K a) (hb : Bd K b) : Bd K (lesserB a b) := by
  unfold lesserB
  split
  · exact hb
  · exact ha
theorem ris_lt (v : Nat → Nat) (Wn Hn k d : Nat) : ris v Wn Hn k d < 2147483648 := by
  induction d with
  | zero => unfold ris; omega
  | succ d ih =>
    cases h : nbr Wn Hn k d with
    | none => rw [ris_none h]; exact ih
    | some n =>
      rw [ris_some h]
      split
      · unfold magF absB
        omega
      · exact ih
theorem snow_ok1 {x a b : Nat} (hx : Bd 20 x) (ha : Bd 20 a) (hb : Bd 20 b) : floatBits .sub .f32 x a = some (fsub x a) ∧ floatBits .mul .f32 (fsub x a) b = some (snowD x a b) ∧ Bd 43 (snowD x a b) := by
  obtain ⟨h1, h2⟩ := fsub_ok hx ha (by omega)
  obtain ⟨h3, h4⟩ := fmul_ok h2 hb (by omega)
  exact ⟨h1, h3, h4⟩
theorem snow_ok2 {r d D c1 : Nat} (hr : Bd 22 r) (hr0 : r < 2147483648) (hd : Bd 20 d) (hD : Bd 43 D) (hc : Bd 20 c1) (hl : lt r d = true) :
    floatBits .quo .f32 r d = some (fdiv r d) ∧ floatBits .sub .f32 1065353216 (fdiv r d) = some (snowT r d) ∧ floatBits .mul .f32 (lesserB D c1) (snowT r d) = some (fmul (lesserB D c1) (snowT r d)) ∧ Bd 48 (fmul (lesserB D c1) (snowT r d)) := by
  obtain ⟨h1, h2, h3⟩ := tail_ok hr (hd.mono (show 20 ≤ 22 by omega)) (nonneg_word hr0 hr (by omega)) hl
  obtain ⟨h4, h5⟩ := fmul_ok (lesser_bd hD (hc.mono (show 20 ≤ 43 by omega))) h3 (by omega)
  exact ⟨h1, h2, h4, h5⟩

set_option maxRecDepth 100000 in
set_option maxHeartbeats 3200000 in
theorem snowOf_any (X Y : Int) (Wn Hn N k : Nat) (A : Option Addr) (c : Nat) (l : List Nat) (a b c1 d : Nat) (w : World) (hr : Reg X Y Wn Hn) (hN : N = Wn * Hn) (hl : l.length = N) (hV : Rd w A (flt l)) (hh : ∀ j, j < N → Bd 20 (l.getD j 0)) (hk : k < N) (hs : snowE a b c1 d = 0) :
    Calls Try.prog 42 #[.agg #[.int .i64 X, .int .i64 Y, .int .i64 (Wn : Int), .int .i64 (Hn : Int), .slice A N c], .agg #[.float .f32 a, .float .f32 b, .float .f32 c1, .float .f32 d], .int .i64 (k : Int)] w fun e w' => e = .returned (.float .f32 (snowF (fun j => l.getD j 0) Wn Hn a b c1 d k)) ∧ Ext w w' := by
  have hkl : k < l.length := by omega
  obtain ⟨ad, rfl, hbk, _⟩ := hV.at (k := k) (by rw [flt_length]; exact hkl)
  obtain ⟨ba, bb, bc, bd, z1, z2, z3⟩ := snowE_zero hs
  have HR := fun (w : World) (h : Rd w (some ad) (flt l)) => hidA (Rise_any X Y Wn Hn N k (some ad) c l w hr hN hl h hh hk)
  obtain ⟨f1, f2, f3⟩ := snow_ok1 (hh k hk) ba bb
  have hrb := ris_bd (v := fun j => l.getD j 0) (Wn := Wn) (Hn := Hn) (k := k) (fun j hj => hh j (by omega)) (by omega) 8
  have hr0 := ris_lt (fun j => l.getD j 0) Wn Hn k 8
  have hE : snowF (fun j => l.getD j 0) Wn Hn a b c1 d k = snowX (l.getD k 0) (ris (fun j => l.getD j 0) Wn Hn k 8) a b c1 d := rfl
  rw [hE]
  have Ek : Hid ((flt l)[k]? = some (.float .f32 (l.getD k 0))) := by show _ = _; simp [flt, hkl, List.getD_eq_getElem?_getD]
  clear hE hr hN hl hh
  generalize ris (fun j => l.getD j 0) Wn Hn k 8 = r at *
  generalize l.getD k 0 = x at *
  have q1 := fun (w : World) => run_float_arith (P := Try.prog) w .sub 27 .f32 _ _ _ f1
  have q2 := fun (w : World) => run_float_arith (P := Try.prog) w .mul 27 .f32 _ _ _ f2
  have HE := hidA (show snowX x r a b c1 d = if gt (snowD x a b) 0 = false then 0 else if lt r d = false then 0 else fmul (lesserB (snowD x a b) c1) (snowT r d) from rfl)
  have hg := geq_ltK hrb (by omega) bd (by omega)
  have hgt : (FloatKind.f32.format.order (snowD x a b) 0 == some .gt) = gt (snowD x a b) 0 := rfl
  have hle : (FloatKind.f32.format.order c1 (snowD x a b) == some .lt) = lt c1 (snowD x a b) := rfl
  have HLs : Hid (lesserB (snowD x a b) c1 = if lt c1 (snowD x a b) = true then c1 else snowD x a b) := rfl
  have H2 := fun h => hidA (snow_ok2 hrb hr0 bd f3 bc h)
  generalize snowX x r a b c1 d = E at *
  generalize snowD x a b = D at *
  generalize fsub x a = xa at *
  clear f1 f2 f3 ba bb bc bd z1 z2 z3 hs hrb hr0
  have i0 : (0 : Int) ≤ k := by omega
  have i1 : (k : Int) < N := by omega
  obtain ⟨w2, hw2⟩ : ∃ w2, w2 = (w.alloc (.cells #[.int .i64 X, .int .i64 Y, .int .i64 (Wn : Int), .int .i64 (Hn : Int), .slice (some ad) N c] 26)).alloc (.cells #[.float .f32 a, .float .f32 b, .float .f32 c1, .float .f32 d] 66) := ⟨_, rfl⟩
  have kF : Bk w2 w.heap.size 26 #[.int .i64 X, .int .i64 Y, .int .i64 (Wn : Int), .int .i64 (Hn : Int), .slice (some ad) N c] := by rw [hw2]; exact (Bk.new' rfl).alloc _
  have kS : Bk w2 (w.heap.size + 1) 66 #[.float .f32 a, .float .f32 b, .float .f32 c1, .float .f32 d] := by rw [hw2]; exact Bk.new' (by simp)
  have hx2 : Ext w w2 := by rw [hw2]; exact ((Ext.refl w).alloc _).alloc _
  go_enter Try.func42, Try.ntmps42
  go_upto_region 1 with fail
  rw [← hw2]
  clear hw2
  generalize w.heap.size + 1 = hs at *
  have e4 : ∀ w', Ext w2 w' → w'.cell? ⟨w.heap.size, 4, none⟩ = some (.slice (some ad) N c) := fun w' h => (kF.ext h).cell 4
  have t0 : ∀ w', Ext w2 w' → w'.cell? ⟨hs, 0, none⟩ = some (.float .f32 a) := fun w' h => (kS.ext h).cell 0
  have t1 : ∀ w', Ext w2 w' → w'.cell? ⟨hs, 1, none⟩ = some (.float .f32 b) := fun w' h => (kS.ext h).cell 1
  have u6 : ∀ w', Ext w2 w' → w'.cell? (ad.add k) = some (.float .f32 x) := fun w' h => (hV.ext (hx2.trans h)).get Ek.out
  refine wp_region_noPanic ?_
  refine wp_region_held_drew (S := fun w' => Ext w2 w') (by kernel_rfl) ?_ (fun hHeld => ?_)
  · (repeat (first | exact Ext.refl _ | assumption | refine Ext.setCell ?_ (by first | (simp; done) | (simp; omega)) _ | refine Ext.drewN ?_ _ | refine Ext.alloc ?_ _ | refine Ext.drew ?_ | refine Ext.trans ?_ (by assumption)))
  refine wpAnyH_take (i := 0) (oi := ?o1x0) (v := ?v1x0) ?hi1x0 (by kernel_rfl) ?hf1x0 ?hr1x0 (fun _ _ _ h => h) ?hy1x0 (by assumption) ?rest1x0
  case hi1x0 => (simp only [List.getElem?_toArray, List.getElem?_cons_zero]; exact rfl)
  case hf1x0 => kernel_rfl
  case hr1x0 => kernel_rfl
  case hy1x0 => (refine Or.inl ⟨by rfl, ?_⟩; intro w hSw; (try dsimp only at hSw); go_simp; try with_reducible rfl)
  simp only [put_mk, List.set_cons_succ, List.set_cons_zero]
  refine wpAnyH_take (i := 1) (oi := ?o1x1) (v := ?v1x1) ?hi1x1 (by kernel_rfl) ?hf1x1 ?hr1x1 (fun _ _ _ h => h) ?hy1x1 (by assumption) ?rest1x1
  case hi1x1 => (simp only [List.getElem?_toArray, List.getElem?_cons_succ, List.getElem?_cons_zero]; exact rfl)
  case hf1x1 => kernel_rfl
  case hr1x1 => kernel_rfl
  case hy1x1 => (refine Or.inl ⟨by rfl, ?_⟩; intro w hSw; (try dsimp only at hSw); go_simp; try with_reducible rfl)
  simp only [put_mk, List.set_cons_succ, List.set_cons_zero]
  refine wpAnyH_take (i := 2) (oi := ?o1x2) (v := ?v1x2) ?hi1x2 (by kernel_rfl) ?hf1x2 ?hr1x2 (fun _ _ _ h => h) ?hy1x2 (by assumption) ?rest1x2
  case hi1x2 => (simp only [List.getElem?_toArray, List.getElem?_cons_succ, List.getElem?_cons_zero]; exact rfl)
  case hf1x2 => kernel_rfl
  case hr1x2 => kernel_rfl
  case hy1x2 => (refine Or.inl ⟨by rfl, ?_⟩; intro w hSw; (try dsimp only at hSw); go_simp; try with_reducible rfl)
  simp only [put_mk, List.set_cons_succ, List.set_cons_zero]
  refine wpAnyH_take (i := 3) (oi := ?o1x3) (v := ?v1x3) ?hi1x3 (by kernel_rfl) ?hf1x3 ?hr1x3 (fun _ _ _ h => h) ?hy1x3 (by assumption) ?rest1x3
  case hi1x3 => (simp only [List.getElem?_toArray, List.getElem?_cons_succ, List.getElem?_cons_zero]; exact rfl)
  case hf1x3 => kernel_rfl
  case hr1x3 => kernel_rfl
  case hy1x3 => (refine Or.inl ⟨by rfl, ?_⟩; intro w hSw; (try dsimp only at hSw); go_simp; try with_reducible rfl)
  simp only [put_mk, List.set_cons_succ, List.set_cons_zero]
  refine wpAnyH_take (i := 4) (oi := ?o1x4) (v := ?v1x4) ?hi1x4 (by kernel_rfl) ?hf1x4 ?hr1x4 (fun _ _ _ h => h) ?hy1x4 (by assumption) ?rest1x4
  case hi1x4 => (simp only [List.getElem?_toArray, List.getElem?_cons_succ, List.getElem?_cons_zero]; exact rfl)
  case hf1x4 => kernel_rfl
  case hr1x4 => kernel_rfl
  case hy1x4 => (refine Or.inl ⟨by rfl, ?_⟩; intro w hSw; (try dsimp only at hSw); go_simp; try with_reducible rfl)
  simp only [put_mk, List.set_cons_succ, List.set_cons_zero]
  refine wpAnyH_take (i := 5) (oi := ?o1x5) (v := ?v1x5) ?hi1x5 (by kernel_rfl) ?hf1x5 ?hr1x5 (fun _ _ _ h => h) ?hy1x5 (by assumption) ?rest1x5
  case hi1x5 => (simp only [List.getElem?_toArray, List.getElem?_cons_succ, List.getElem?_cons_zero]; exact rfl)
  case hf1x5 => kernel_rfl
  case hr1x5 => kernel_rfl
  case hy1x5 => (refine Or.inl ⟨by rfl, ?_⟩; intro w hSw; (try dsimp only at hSw); go_simp; try with_reducible rfl)
  simp only [put_mk, List.set_cons_succ, List.set_cons_zero]
  refine wpAnyH_take (i := 6) (oi := ?o1x6) (v := ?v1x6) ?hi1x6 (by kernel_rfl) ?hf1x6 ?hr1x6 (fun _ _ _ h => h) ?hy1x6 (by assumption) ?rest1x6
  case hi1x6 => (simp only [List.getElem?_toArray, List.getElem?_cons_succ, List.getElem?_cons_zero]; exact rfl)
  case hf1x6 => kernel_rfl
  case hr1x6 => kernel_rfl
  case hy1x6 => (refine Or.inl ⟨by rfl, ?_⟩; intro w hSw; (try dsimp only at hSw); go_simp; try with_reducible rfl)
  simp only [put_mk, List.set_cons_succ, List.set_cons_zero]
  refine wpAnyH_take (i := 7) (oi := ?o1x7) (v := ?v1x7) ?hi1x7 (by kernel_rfl) ?hf1x7 ?hr1x7 (fun _ _ _ h => h) ?hy1x7 (by assumption) ?rest1x7
  case hi1x7 => (simp only [List.getElem?_toArray, List.getElem?_cons_succ, List.getElem?_cons_zero]; exact rfl)
  case hf1x7 => kernel_rfl
  case hr1x7 => kernel_rfl
  case hy1x7 => (refine Or.inl ⟨by rfl, ?_⟩; intro w hSw; (try dsimp only at hSw); go_simp; try with_reducible rfl)
  simp only [put_mk, List.set_cons_succ, List.set_cons_zero]
  refine wpAnyH_take (i := 8) (oi := ?o1x8) (v := ?v1x8) ?hi1x8 (by kernel_rfl) ?hf1x8 ?hr1x8 (fun _ _ _ h => h) ?hy1x8 (by assumption) ?rest1x8
  case hi1x8 => (simp only [List.getElem?_toArray, List.getElem?_cons_succ, List.getElem?_cons_zero]; exact rfl)
  case hf1x8 => kernel_rfl
  case hr1x8 => kernel_rfl
  case hy1x8 => (refine Or.inl ⟨by rfl, ?_⟩; intro w hSw; (try dsimp only at hSw); go_simp; try with_reducible rfl)
  simp only [put_mk, List.set_cons_succ, List.set_cons_zero]
  refine wpAnyH_take (i := 9) (oi := ?o1x9) (v := ?v1x9) ?hi1x9 (by kernel_rfl) ?hf1x9 ?hr1x9 (fun _ _ _ h => h) ?hy1x9 (by assumption) ?rest1x9
  case hi1x9 => (simp only [List.getElem?_toArray, List.getElem?_cons_succ, List.getElem?_cons_zero]; exact rfl)
  case hf1x9 => kernel_rfl
  case hr1x9 => kernel_rfl
  case hy1x9 => (refine Or.inl ⟨by rfl, ?_⟩; intro w hSw; (try dsimp only at hSw); go_simp; try with_reducible rfl)
  simp only [put_mk, List.set_cons_succ, List.set_cons_zero]
  refine wpAnyH_take (i := 10) (oi := ?o1x10) (v := ?v1x10) ?hi1x10 (by kernel_rfl) ?hf1x10 ?hr1x10 (fun _ _ _ h => h) ?hy1x10 (by assumption) ?rest1x10
  case hi1x10 => (simp only [List.getElem?_toArray, List.getElem?_cons_succ, List.getElem?_cons_zero]; exact rfl)
  case hf1x10 => kernel_rfl
  case hr1x10 => kernel_rfl
  case hy1x10 => (refine Or.inl ⟨by rfl, ?_⟩; intro w hSw; (try dsimp only at hSw); go_simp; try with_reducible rfl)
  simp only [put_mk, List.set_cons_succ, List.set_cons_zero]
  refine wpAnyH_take (i := 11) (oi := ?o1x11) (v := ?v1x11) ?hi1x11 (by kernel_rfl) ?hf1x11 ?hr1x11 (fun _ _ _ h => h) ?hy1x11 (by assumption) ?rest1x11
  case hi1x11 => (simp only [List.getElem?_toArray, List.getElem?_cons_succ, List.getElem?_cons_zero]; exact rfl)
  case hf1x11 => kernel_rfl
  case hr1x11 => kernel_rfl
  case hy1x11 => (refine Or.inl ⟨by rfl, ?_⟩; intro w hSw; (try dsimp only at hSw); go_simp; try with_reducible rfl)
  simp only [put_mk, List.set_cons_succ, List.set_cons_zero]
  refine wpAnyH_done (by kernel_rfl) ?_ _
  refine NoPanic.normal ?_
  have kF3 := kF.drew
  have kS3 := kS.drew
  clear e4 t0 t1 u6 q1 q2 hHeld kF kS
  have c0 := kF3.cell 0
  have c1' := kF3.cell 1
  have c2 := kF3.cell 2
  have c3 := kF3.cell 3
  have c4 := kF3.cell 4
  have s2 := kS3.cell 2
  have s3 := kS3.cell 3
  cases h1 : gt D 0
  · have hv : Hid (E = 0) := by show E = _; rw [HE.out, if_pos h1]
    rw [h1] at hgt
    clear h1 H2 HE hle HLs hg
    go_wp2_with fail
    go_ret
    exact ⟨ret_f hv.out.symm, hx2.drew⟩
  · rw [h1] at hgt
    rw [h1, if_neg (by decide)] at HE
    clear h1
    cases h3 : lt c1 D
    all_goals
      rw [h3] at hle
      have HL2 := hidA HLs.out
      rw [h3] at HL2
      simp only [if_true, if_false, Bool.false_eq_true] at HL2
      clear h3 HLs
      go_upto_region 7 with (go_at_call 97; refine ((HR _ (hV.ext (by repeat (first | exact Ext.refl _ | assumption | refine Ext.setCell ?_ (by first | (simp; done) | (simp; omega)) _ | refine Ext.drewN ?_ _ | refine Ext.alloc ?_ _ | refine Ext.drew ?_ | refine Ext.trans ?_ (by assumption))))).out).mono ?_; rintro e w5 ⟨rfl, hx5⟩)
      clear s2 s3 c0 c1' c2 c3 c4
      have kS5 := kS3.ext hx5
      have s3 := kS5.cell 3
      cases h2 : lt r d
      · have hv : Hid (E = 0) := by show E = _; rw [HE.out, if_pos h2]
        rw [h2] at hg
        clear h2 H2 HE
        go_wp2_with fail
        go_ret
        exact ⟨ret_f hv.out.symm, hx2.drew.trans hx5⟩
      · obtain ⟨g1, g2, g3, _⟩ := (H2 h2).out
        rw [HL2.out] at g3
        have hv : Hid (E = fmul (lesserB D c1) (snowT r d)) := by show E = _; rw [HE.out, if_neg (by rw [h2]; decide)]
        rw [HL2.out] at hv
        have p1 := fun (w : World) => run_float_arith (P := Try.prog) w .quo 27 .f32 _ _ _ g1
        have p2 := fun (w : World) => run_float_arith (P := Try.prog) w .sub 27 .f32 _ _ _ g2
        have p3 := fun (w : World) => run_float_arith (P := Try.prog) w .mul 27 .f32 _ _ _ g3
        rw [h2] at hg
        clear h2 H2 HE g1 g2 g3
        go_wp2_with fail
        go_ret
        exact ⟨ret_f hv.out.symm, hx2.drew.trans hx5⟩
end Go.Proofs.Ytinohfgokpbcdaa
namespace Go.Proofs.Ytinohfgokpbcdaa
open Ieee

theorem to_intD {q M j V T : Nat} (e : double.read q = .number false M ((j : Int) - (T : Nat))) (hV : M * 2 ^ j = V) (hs : V / 2 ^ T < 9223372036854775808) : floatToIntVal .f64 q .i64 = some ((V / 2 ^ T : Nat) : Int) := by
  unfold floatToIntVal
  have h1 : (FloatKind.f64.decode q).toInt .zero = some ((V / 2 ^ T : Nat) : Int) := by
    show (double.read q).toInt .zero = _
    rw [e]
    show some (signed false (Toward.zero.cut false (M <<< ((j : Int) - (T : Nat)).toNat) (-((j : Int) - (T : Nat))).toNat) 0) = _
    rw [cut_zero_val false hV]
    unfold signed
    rw [if_neg (by decide), Nat.shiftLeft_zero]
  rw [h1]
  generalize V / 2 ^ T = n at *
  have h2 : IntKind.i64.min = -9223372036854775808 := by decide
  have h3 : IntKind.i64.max = 9223372036854775807 := by decide
  show (if IntKind.i64.min ≤ (n : Int) ∧ (n : Int) ≤ IntKind.i64.max then some (n : Int) else none) = _
  rw [h2, h3, if_pos ⟨by omega, by omega⟩]
/-- the whole number of q, by way of singles and of doubles -/
structure Meet (q d r : Nat) (n : Int) : Prop where
  up : floatToFloatBits .f32 q .f64 = some d
  num : (double.read d).isNaN = false
  fl : double.write ((double.read d).integral .down) = r
  down : floatToFloatBits .f64 r .f32 = some (floorB q)
  i1 : floatToIntVal .f32 (floorB q) .i64 = some n
  i2 : floatToIntVal .f64 r .i64 = some n
theorem meet_zero : ∃ d r, Meet 0 d r 0 := ⟨_, _, (by decide +kernel : floatToFloatBits .f32 0 .f64 = some 0), by decide +kernel, rfl, by decide +kernel, by decide +kernel, by decide +kernel⟩
theorem meet_neg : ∃ d r, Meet 2147483648 d r 0 := ⟨_, _, (by decide +kernel : floatToFloatBits .f32 2147483648 .f64 = some 9223372036854775808), by decide +kernel, rfl, by decide +kernel, by decide +kernel, by decide +kernel⟩
theorem meet_pos {q : Nat} (hq : q < 2147483648) (h0 : q ≠ 0) (hb : Bd 40 q) : ∃ d r, ∃ n : Nat, Meet q d r n ∧ valI q / 2 ^ 149 = n := by
  have hF : q % 2147483648 < 2139095040 := bd_Fin hb (by omega)
  have hqm : q % 2147483648 = q := Nat.mod_eq_of_lt hq
  obtain ⟨s, m, k, e, hm, hl, hk, _⟩ := read_num hF (by rw [hqm]; exact h0)
  obtain ⟨s', m', k', e', hsv, hmk, hs⟩ := read_val hF
  have hee := e.symm.trans e'
  simp only [Datum.number.injEq] at hee
  obtain ⟨rfl, rfl, hkk⟩ := hee
  obtain rfl : k = k' := by omega
  have hs0 : s = false := by rw [hs, Nat.div_eq_of_lt hq]; rfl
  subst hs0
  obtain ⟨d, Md, jd, C, M, j, f1, f2, f3, f4, f5, f6, f7, _⟩ := floor_num e hm hl hk
  have hC := f7 rfl
  have hV : m * 2 ^ k ≤ 2 ^ (40 + 149) := by rw [hmk]; exact (bd_val (by omega)).1 hb
  have hC40 : C ≤ 2 ^ 40 := by
    rw [hC]
    refine Nat.le_trans (Nat.div_le_div_right hV) ?_
    rw [Nat.pow_add, Nat.mul_div_cancel _ (Nat.two_pow_pos _)]
    exact Nat.le_refl _
  obtain ⟨T, hT⟩ : ∃ T : Nat, T = 1074 := ⟨_, rfl⟩
  have f2' : double.read d = .number false Md ((jd : Int) - (T : Nat)) := by rw [hT]; exact f2
  have hcut : Toward.down.cut false (Md <<< ((jd : Int) - (T : Nat)).toNat) (-((jd : Int) - (T : Nat))).toNat = C := by
    obtain ⟨a, ha⟩ : ∃ a : Nat, a = 925 := ⟨_, rfl⟩
    rw [cut_val false f3, hC, ← ha]
    have e1 : m * 2 ^ (k + a) = m * 2 ^ k * 2 ^ a := by rw [Nat.pow_add, Nat.mul_assoc]
    have e0 : T = 149 + a := by omega
    have e2 : (2 : Nat) ^ T = 2 ^ 149 * 2 ^ a := by rw [e0, Nat.pow_add]
    rw [e1, e2, Nat.mul_div_mul_right _ _ (Nat.two_pow_pos _)]
    rfl
  have hfl : double.write ((double.read d).integral .down) = double.nearest false C 0 := by
    rw [f2']
    show double.nearest false (Toward.down.cut false (Md <<< ((jd : Int) - (T : Nat)).toNat) (-((jd : Int) - (T : Nat))).toNat) 0 = _
    rw [hcut]
  have i1 := to_int f5 f6 (by rw [Nat.mul_div_cancel _ (Nat.two_pow_pos _)]; omega)
  rw [Nat.mul_div_cancel _ (Nat.two_pow_pos _)] at i1
  have i2 : floatToIntVal .f64 (double.nearest false C 0) .i64 = some ((C : Nat) : Int) := by
    by_cases hc0 : C = 0
    · rw [hc0]
      decide +kernel
    · have hlc : C.log2 ≤ 40 := by
        have := (Nat.log2_lt hc0 (k := 41)).2 (by omega)
        omega
      obtain ⟨M3, j3, k1, k2⟩ := double_exact false (mag := C) (m := C) (P := 0) (i := 0) hc0 (by omega) (by omega) (by omega) (by omega) rfl
      have e3 : ((0 : Int) + 1074).toNat = T := by rw [hT]; rfl
      rw [e3] at k2
      have k1' : double.read (double.nearest false C 0) = .number false M3 ((j3 : Int) - (T : Nat)) := by rw [hT]; exact k1
      have := to_intD k1' k2 (by rw [Nat.mul_div_cancel _ (Nat.two_pow_pos _)]; omega)
      rwa [Nat.mul_div_cancel _ (Nat.two_pow_pos _)] at this
  refine ⟨d, _, C, ⟨f1, by rw [f2]; rfl, rfl, f4, i1, by rw [hfl]; exact i2⟩, ?_⟩
  rw [← hsv, signed_nat, hC]
  rfl
theorem meet_any {q : Nat} (hq : q < 4294967296) (h0 : 0 ≤ valI q) (hb : Bd 40 q) : ∃ d r n, Meet q d r n := by
  by_cases h1 : q < 2147483648
  · by_cases h2 : q = 0
    · subst h2
      obtain ⟨d, r, h⟩ := meet_zero
      exact ⟨d, r, _, h⟩
    · obtain ⟨d, r, n, h, _⟩ := meet_pos h1 h2 hb
      exact ⟨d, r, _, h⟩
  · have h3 : q / 2147483648 = 1 := by omega
    have h4 : q % 2147483648 = 0 := by
      rcases Nat.eq_zero_or_pos (q % 2147483648) with h | h
      · exact h
      · have := valN_pos h
        unfold valI at h0
        rw [h3] at h0
        simp at h0
        omega
    obtain rfl : q = 2147483648 := by omega
    obtain ⟨d, r, h⟩ := meet_neg
    exact ⟨d, r, _, h⟩
/-- singles of one value have one whole number -/
theorem meet_val {q p d r d' r' : Nat} {n n' : Int} (hq : q < 4294967296) (hp : p < 4294967296) (h : valI q = valI p) (hm : Meet q d r n) (hm' : Meet p d' r' n') : n = n' := by
  have key : ∀ {x d r : Nat} {n : Int}, x < 4294967296 → valI x = 0 → Meet x d r n → n = 0 := fun {x d r n} hx h hm => by
    have hz : x % 2147483648 = 0 := by
      rcases Nat.eq_zero_or_pos (x % 2147483648) with h2 | h2
      · exact h2
      · have := valN_pos h2
        unfold valI at h
        split at h <;> omega
    rcases (by omega : x = 0 ∨ x = 2147483648) with rfl | rfl
    · obtain ⟨_, _, h2⟩ := meet_zero
      exact Option.some.inj (hm.i1.symm.trans h2.i1)
    · obtain ⟨_, _, h2⟩ := meet_neg
      exact Option.some.inj (hm.i1.symm.trans h2.i1)
  by_cases hz : valI q = 0
  · rw [key hq hz hm, key hp (h ▸ hz) hm']
  · have e : q = p := by
      have h1 := val_key_eq.1 h
      have hqz : q % 2147483648 ≠ 0 := fun h9 => hz (by unfold valI; rw [h9, valN_zero]; split <;> rfl)
      have hvp := valN_pos (Nat.pos_of_ne_zero hqz)
      unfold keyI at h1
      split at h1 <;> split at h1 <;> omega
    subst e
    exact Option.some.inj (hm.i1.symm.trans hm'.i1)
end Go.Proofs.Ytinohfgokpbcdaa
namespace Go.Proofs.Ytinohfgokpbcdaa
open Go.RowKit Ieee

theorem valI_lt {b : Nat} (h : b < 2147483648) : 0 ≤ valI b := by
  unfold valI
  rw [Nat.div_eq_of_lt h]
  simp
theorem read_zeroS {x : Nat} (hF : Fin x) (h : valI x = 0) : ∃ (s : Bool) (k : Nat), single.read x = .number s 0 ((k : Int) - 149) := by
  obtain ⟨s, m, k, e, hv, hm, _⟩ := read_val hF
  rw [h] at hv
  have h2 := signed_abs s m k
  rw [hv] at h2
  have h3 : m * 2 ^ k = 0 := by simpa using h2.symm
  rcases Nat.mul_eq_zero.1 h3 with h4 | h4
  · rw [h4] at e
    exact ⟨s, k, e⟩
  · exact absurd h4 (Nat.pos_iff_ne_zero.1 (Nat.two_pow_pos _))
theorem near_nil (s : Bool) (p : Int) : valI (single.nearest s 0 p) = 0 := by
  unfold Format.nearest
  rw [if_pos rfl]
  cases s <;> decide +kernel
theorem sign_nonneg {x : Nat} {s : Bool} {m k : Nat} (e : single.read x = .number s m ((k : Int) - 149)) (hF : Fin x) (h0 : 0 ≤ valI x) : s = false ∨ m = 0 := by
  obtain ⟨s', m', k', e', hv, _, _⟩ := read_val hF
  have hee := e.symm.trans e'
  simp only [Datum.number.injEq] at hee
  obtain ⟨rfl, rfl, hkk⟩ := hee
  cases s
  · exact .inl rfl
  · right
    have h2 := signed_abs true m k'
    rw [← hv] at h0
    rw [signed_val, if_pos rfl] at h0
    have h3 : m * 2 ^ k' = 0 := by omega
    rcases Nat.mul_eq_zero.1 h3 with h4 | h4
    · exact h4
    · exact absurd h4 (Nat.pos_iff_ne_zero.1 (Nat.two_pow_pos _))
theorem div_nonneg {K x y : Nat} (hx : Bd K x) (hK : K ≤ 100) (gy : Ge1 y) (hy : 0 ≤ valI y) (h0 : 0 ≤ valI x) : 0 ≤ valI (fdiv x y) := by
  obtain ⟨s, m, k, e1, h1⟩ := read_bd hx (by omega)
  obtain ⟨t, n, j, e2, h2, hn⟩ := read_ge gy
  have hs := sign_nonneg e1 (bd_Fin hx (by omega)) h0
  have ht : t = false := (sign_nonneg e2 gy.2 hy).resolve_right hn
  subst ht
  have hd : floatBits .quo .f32 x y = single.div x y := rfl
  unfold fdiv
  rw [hd]
  unfold Format.div
  rw [e1, e2]
  simp only [Datum.quotient, if_neg hn, Option.map_some, Option.getD_some, Format.write]
  rcases hs with rfl | rfl
  · exact valI_lt (near_false _ _)
  · simp [Nat.zero_shiftLeft, near_nil]
theorem mul_nonneg2 {K J x y : Nat} (hx : Bd K x) (hy : Bd J y) (hK : K ≤ 100) (hJ : J ≤ 100) (h0 : 0 ≤ valI x) (hy0 : 0 ≤ valI y) : 0 ≤ valI (fmul x y) := by
  obtain ⟨s, m, k, e1, h1⟩ := read_bd hx (by omega)
  obtain ⟨t, n, j, e2, h2⟩ := read_bd hy (by omega)
  have hs := sign_nonneg e1 (bd_Fin hx (by omega)) h0
  have ht := sign_nonneg e2 (bd_Fin hy (by omega)) hy0
  have hd : floatBits .mul .f32 x y = single.mul x y := rfl
  unfold fmul
  rw [hd]
  unfold Format.mul
  rw [e1, e2]
  show 0 ≤ valI (single.nearest (s != t) (m * n) _)
  rcases hs with rfl | rfl
  · rcases ht with rfl | rfl
    · exact valI_lt (near_false _ _)
    · rw [Nat.mul_zero, near_nil]
      exact Int.le_refl _
  · rw [Nat.zero_mul, near_nil]
    exact Int.le_refl _
theorem mul_nonneg {K J x y : Nat} (hx : Bd K x) (hy : Bd J y) (hK : K ≤ 100) (hJ : J ≤ 100) (h0 : 0 ≤ valI x) (hy0 : y < 2147483648) : 0 ≤ valI (fmul x y) := mul_nonneg2 hx hy hK hJ h0 (valI_lt hy0)
theorem mul_zeroV {K J x y : Nat} (hx : Bd K x) (hy : Bd J y) (hK : K ≤ 100) (hJ : J ≤ 100) (h0 : valI x = 0) : valI (fmul x y) = 0 := by
  obtain ⟨s, k, e1⟩ := read_zeroS (bd_Fin hx (by omega)) h0
  obtain ⟨t, n, j, e2, h2⟩ := read_bd hy (by omega)
  have hd : floatBits .mul .f32 x y = single.mul x y := rfl
  unfold fmul
  rw [hd]
  unfold Format.mul
  rw [e1, e2]
  show valI (single.nearest (s != t) (0 * n) _) = 0
  rw [Nat.zero_mul, near_nil]
/-- two singles of one value that is not zero are one -/
theorem val_one {a b : Nat} (ha : a < 4294967296) (hb : b < 4294967296) (h : valI a = valI b) (hz : valI a ≠ 0) : a = b := by
  have h1 := val_key_eq.1 h
  have hqz : a % 2147483648 ≠ 0 := fun h9 => hz (by unfold valI; rw [h9, valN_zero]; split <;> rfl)
  unfold keyI at h1
  split at h1 <;> split at h1 <;> omega
theorem bits_lt {op : BinOp} {x y r : Nat} (h : floatBits op .f32 x y = some r) (ho : op = .add ∨ op = .sub ∨ op = .mul ∨ op = .quo) : r < 4294967296 := by
  rcases ho with rfl | rfl | rfl | rfl
  · exact Ieee.Format.map_write_lt Ieee.single (show Ieee.single.add x y = some r from h)
  · exact Ieee.Format.map_write_lt Ieee.single (show Ieee.single.sub x y = some r from h)
  · exact Ieee.Format.map_write_lt Ieee.single (show Ieee.single.mul x y = some r from h)
  · exact Ieee.Format.map_write_lt Ieee.single (show Ieee.single.div x y = some r from h)

def aboveF (x : Nat) : Nat := if gt x 0 = true then x else 0
def upF (x : Nat) : Nat := if lt x 0 = true then 0 else x
theorem fin_zero : Fin 0 := by unfold Fin; omega
theorem above_val {x : Nat} (hx : Bd 20 x) : valI (aboveF x) = valI (upF x) ∧ 0 ≤ valI (upF x) ∧ Bd 20 (aboveF x) ∧ Bd 20 (upF x) := by
  have hF := bd_Fin hx (by omega)
  have z := val_zero
  unfold aboveF upF
  rw [gt_val hF fin_zero, lt_val hF fin_zero, z]
  by_cases h1 : 0 < valI x
  · have h2 : ¬ valI x < 0 := by omega
    simp only [h1, h2, decide_true, decide_false, if_true, Bool.false_eq_true, if_false]
    exact ⟨by first | rfl | trivial, by omega, hx, hx⟩
  · by_cases h2 : valI x < 0
    · simp only [h1, h2, decide_true, decide_false, if_true, Bool.false_eq_true, if_false]
      exact ⟨by first | rfl | trivial, by omega, zero_bd.mono (by omega), zero_bd.mono (by omega)⟩
    · simp only [h1, h2, decide_false, Bool.false_eq_true, if_false]
      exact ⟨by omega, by omega, zero_bd.mono (by omega), hx⟩
def onF (x : Nat) : Nat := fadd 1065353216 x
theorem on_same {x : Nat} (hx : Bd 20 x) : onF (aboveF x) = onF (upF x) := by
  obtain ⟨h1, h2, h3, h4⟩ := above_val hx
  have o20 := one_bd.mono (Nat.zero_le 20)
  have hv := fadd_same (K := 20) o20 h3 o20 h4 (by omega) rfl h1
  have hg := fadd_ge (K := 20) o20 h4 (by omega) h2
  have e1 : (0 : Int) < valI 1065353216 := by decide +kernel
  exact val_one (bits_lt (fadd_ok (K := 20) o20 h3 (by omega)).1 (.inl rfl)) (bits_lt (fadd_ok (K := 20) o20 h4 (by omega)).1 (.inl rfl)) hv (by
    show valI (fadd 1065353216 (aboveF x)) ≠ 0
    rw [hv]
    omega)
theorem on_ok {x : Nat} (hx : Bd 20 x) : floatBits .add .f32 1065353216 (aboveF x) = some (onF (upF x)) ∧ floatBits .add .f32 1065353216 (upF x) = some (onF (upF x)) ∧ Ge1 (onF (upF x)) ∧ 0 ≤ valI (onF (upF x)) := by
  obtain ⟨h1, h2, h3, h4⟩ := above_val hx
  have o20 := one_bd.mono (Nat.zero_le 20)
  have hg := fadd_ge (K := 20) o20 h4 (by omega) h2
  have e1 : (0 : Int) < valI 1065353216 := by decide +kernel
  refine ⟨?_, (fadd_ok (K := 20) o20 h4 (by omega)).1, one_more h4 (by omega) h2, ?_⟩
  · rw [← on_same hx]
    exact (fadd_ok (K := 20) o20 h3 (by omega)).1
  · show 0 ≤ valI (fadd 1065353216 (upF x))
    omega
/-- what is left, ahead of the bound -/
def restF (d wm x : Nat) : Nat := fsub d (fdiv wm (onF (upF x)))
def leftP (d wm x : Nat) : Nat := if lt (restF d wm x) 0 = true then 0 else restF d wm x
def leftR (d wm x : Nat) : Nat := if gt (restF d wm x) 0 = true then restF d wm x else 0
def goneF (d z : Nat) : Nat := fmul (fsub d z) 1149239296
theorem k_bd : Bd 10 1149239296 := by unfold Bd; decide
theorem rest_ok {d wm x : Nat} (hd : Bd 20 d) (hw : Bd 20 wm) (hx : Bd 20 x) (hw0 : 0 ≤ valI wm) :
    floatBits .quo .f32 wm (onF (upF x)) = some (fdiv wm (onF (upF x))) ∧ floatBits .sub .f32 d (fdiv wm (onF (upF x))) = some (restF d wm x) ∧ Bd 24 (restF d wm x) ∧ valI (restF d wm x) ≤ valI d := by
  obtain ⟨_, _, h3, h4⟩ := on_ok hx
  obtain ⟨r, h5, h6⟩ := fdiv_bd hw h3 (by omega)
  have h7 : floatBits .quo .f32 wm (onF (upF x)) = some r := h5
  have h8 : fdiv wm (onF (upF x)) = r := by unfold fdiv; rw [h7]; rfl
  have h9 := div_nonneg hw (by omega) h3 h4 hw0
  have h6' : Bd 22 (fdiv wm (onF (upF x))) := by rw [h8]; exact h6
  obtain ⟨g1, g2⟩ := fsub_ok (K := 22) (hd.mono (by omega)) h6' (by omega)
  refine ⟨by rw [h8]; exact h7, g1, g2, ?_⟩
  have hk := fsub_key (K := 22) (hd.mono (by omega)) h6' (by omega)
  have hm := rkey_mono (show valI d - valI (fdiv wm (onF (upF x))) ≤ valI d by omega)
  rw [rkey_val (bd_Fin hd (by omega)), ← hk] at hm
  exact val_key_le.2 hm
theorem left_ok {d wm x : Nat} (hd : Bd 20 d) (hw : Bd 20 wm) (hx : Bd 20 x) (hw0 : 0 ≤ valI wm) (hd0 : 0 ≤ valI d) :
    valI (leftP d wm x) = valI (leftR d wm x) ∧ Bd 24 (leftP d wm x) ∧ Bd 24 (leftR d wm x) ∧ valI (leftR d wm x) ≤ valI d := by
  obtain ⟨_, _, h3, h4⟩ := rest_ok hd hw hx hw0
  have hF := bd_Fin h3 (by omega)
  have z := val_zero
  unfold leftP leftR
  rw [gt_val hF fin_zero, lt_val hF fin_zero, z]
  generalize restF d wm x = r at *
  by_cases h1 : 0 < valI r
  · have h2 : ¬ valI r < 0 := by omega
    simp only [h1, h2, decide_true, decide_false, if_true, Bool.false_eq_true, if_false]
    exact ⟨by first | rfl | trivial, h3, h3, h4⟩
  · by_cases h2 : valI r < 0
    · simp only [h1, h2, decide_true, decide_false, if_true, Bool.false_eq_true, if_false]
      exact ⟨by first | rfl | trivial, zero_bd.mono (by omega), zero_bd.mono (by omega), by omega⟩
    · simp only [h1, h2, decide_false, Bool.false_eq_true, if_false]
      exact ⟨by omega, h3, zero_bd.mono (by omega), by omega⟩
theorem gone_ok {d z : Nat} (hd : Bd 20 d) (hz : Bd 24 z) (h : valI z ≤ valI d) : floatBits .sub .f32 d z = some (fsub d z) ∧ floatBits .mul .f32 (fsub d z) 1149239296 = some (goneF d z) ∧ Bd 40 (goneF d z) ∧ 0 ≤ valI (goneF d z) ∧ goneF d z < 4294967296 := by
  obtain ⟨g1, g2⟩ := fsub_ok (K := 24) (hd.mono (by omega)) hz (by omega)
  obtain ⟨g3, g4⟩ := fmul_ok g2 k_bd (by omega)
  have hk := fsub_key (K := 24) (hd.mono (by omega)) hz (by omega)
  have hm := rkey_mono (show (0 : Int) ≤ valI d - valI z by omega)
  rw [← hk] at hm
  have e0 : rkey 0 = keyI 0 := by decide +kernel
  rw [e0] at hm
  have h0 : 0 ≤ valI (fsub d z) := val_key_le.2 hm
  exact ⟨g1, g3, g4.mono (by omega), mul_nonneg g2 k_bd (by omega) (by omega) h0 (by omega), bits_lt g3 (.inr (.inr (.inl rfl)))⟩
theorem gone_val {d z z' : Nat} (hd : Bd 20 d) (hz : Bd 24 z) (hz' : Bd 24 z') (h : valI z = valI z') : valI (goneF d z) = valI (goneF d z') := by
  obtain ⟨g1, g2⟩ := fsub_ok (K := 24) (hd.mono (by omega)) hz (by omega)
  obtain ⟨f1, f2⟩ := fsub_ok (K := 24) (hd.mono (by omega)) hz' (by omega)
  have hk := fsub_key (K := 24) (hd.mono (by omega)) hz (by omega)
  have hk' := fsub_key (K := 24) (hd.mono (by omega)) hz' (by omega)
  have hv : valI (fsub d z) = valI (fsub d z') := val_key_eq.2 (by rw [hk, hk', h])
  by_cases h0 : valI (fsub d z) = 0
  · unfold goneF
    rw [mul_zeroV g2 k_bd (by omega) (by omega) h0, mul_zeroV f2 k_bd (by omega) (by omega) (by rw [← hv]; exact h0)]
  · unfold goneF
    rw [val_one (bits_lt g1 (.inr (.inl rfl))) (bits_lt f1 (.inr (.inl rfl))) hv h0]
/-- how much melts -/
theorem melt_meet {d wm x : Nat} (hd : Bd 20 d) (hw : Bd 20 wm) (hx : Bd 20 x) (hw0 : 0 ≤ valI wm) (hd0 : 0 ≤ valI d) :
    ∃ n : Int, (∃ a b, Meet (goneF d (leftP d wm x)) a b n) ∧ ∃ a b, Meet (goneF d (leftR d wm x)) a b n := by
  obtain ⟨h1, h2, h3, h4⟩ := left_ok hd hw hx hw0 hd0
  obtain ⟨_, _, p3, p4, p5⟩ := gone_ok hd h2 (by rw [h1]; exact h4)
  obtain ⟨_, _, r3, r4, r5⟩ := gone_ok hd h3 h4
  obtain ⟨a, b, n, m1⟩ := meet_any p5 p4 p3
  obtain ⟨a', b', n', m2⟩ := meet_any r5 r4 r3
  have := meet_val p5 r5 (gone_val hd h2 h3 h1) m1 m2
  subst this
  exact ⟨n, ⟨a, b, m1⟩, ⟨a', b', m2⟩⟩
theorem quot_one {K J x y : Nat} (hx : Bd K x) (hy : Bd J y) (hK : K ≤ 127) (hJ : J ≤ 127) (h0 : ord x 0 ≠ some .lt) (h : ord x y = some .lt) : Bd 0 (fdiv x y) := by
  obtain ⟨s, m, k, e1, _⟩ := read_bd hx hK
  obtain ⟨t, n, j, e2, _⟩ := read_bd hy hJ
  rw [ord_val e1 read_zero, signed_zero] at h0
  rw [ord_val e1 e2] at h
  have q0 : ¬ signed s m k < 0 := fun h => h0 (by rw [Int.compare_eq_lt.2 h])
  have q1 : signed s m k < signed t n j := Int.compare_eq_lt.1 (by simpa using h)
  have a1 := signed_abs s m k
  have a2 := signed_abs t n j
  have hmn : m * 2 ^ k < n * 2 ^ j := by omega
  have hn : n ≠ 0 := by
    rintro rfl
    rw [Nat.zero_mul] at hmn
    omega
  have hd : floatBits .quo .f32 x y = single.div x y := rfl
  unfold fdiv
  rw [hd]
  unfold Format.div
  rw [e1, e2]
  simp only [Datum.quotient, if_neg hn, Option.map_some, Option.getD_some, Format.write, single_frac]
  generalize hmore : 23 + 2 + n.log2 - m.log2 = more
  rw [show ((k : Int) - 149 - ((j : Int) - 149) - more - 1) = (k : Int) - ((j + more + 1 : Nat) : Int) by omega]
  refine write_bd ?_ (by omega)
  rw [Nat.shiftLeft_eq, Nat.zero_add]
  by_cases hm : m = 0
  · subst hm
    simp only [Nat.zero_mul, Nat.zero_div, Nat.zero_mod, Nat.mul_zero, Nat.zero_add]
    show 0 * 2 ^ k < _
    rw [Nat.zero_mul]
    exact Nat.two_pow_pos _
  have hst : (m * 2 ^ more % n != 0).toNat ≤ 1 := by cases (m * 2 ^ more % n != 0) <;> simp
  generalize (m * 2 ^ more % n != 0).toNat = st at *
  have hq : n * (m * 2 ^ more / n) ≤ m * 2 ^ more := Nat.mul_div_le _ _
  have hq1 : 1 ≤ m * 2 ^ more / n := by
    refine (Nat.one_le_div_iff (by omega)).2 ?_
    have h1 : 2 ^ m.log2 ≤ m := Nat.log2_self_le hm
    have h2 : n < 2 ^ (n.log2 + 1) := Nat.lt_log2_self
    have h3 : 2 ^ m.log2 * 2 ^ more ≤ m * 2 ^ more := Nat.mul_le_mul_right _ h1
    rw [← Nat.pow_add] at h3
    have h4 : (2 : Nat) ^ (n.log2 + 1) ≤ 2 ^ (m.log2 + more) := Nat.pow_le_pow_right (by omega) (by omega)
    omega
  generalize m * 2 ^ more / n = q at *
  have h5 : n * (q * 2 ^ k) < n * 2 ^ (j + more) := by
    have h6 : n * q * 2 ^ k ≤ m * 2 ^ more * 2 ^ k := Nat.mul_le_mul_right _ hq
    have h7 : m * 2 ^ k * 2 ^ more < n * 2 ^ j * 2 ^ more := Nat.mul_lt_mul_of_pos_right hmn (Nat.two_pow_pos _)
    have e3 : m * 2 ^ more * 2 ^ k = m * 2 ^ k * 2 ^ more := by simp only [Nat.mul_assoc, Nat.mul_left_comm, Nat.mul_comm]
    have e4 : n * 2 ^ j * 2 ^ more = n * 2 ^ (j + more) := by rw [Nat.mul_assoc, ← Nat.pow_add]
    rw [← Nat.mul_assoc, ← e4]
    omega
  have h8 : q * 2 ^ k < 2 ^ (j + more) := Nat.lt_of_mul_lt_mul_left h5
  have hkj : k ≤ j + more := by
    rcases Nat.lt_or_ge (j + more) k with h9 | h9
    · exfalso
      have h10 : (2 : Nat) ^ (j + more) ≤ 2 ^ k := Nat.pow_le_pow_right (by omega) (by omega)
      have h11 : 1 * 2 ^ k ≤ q * 2 ^ k := Nat.mul_le_mul_right _ hq1
      omega
    · exact h9
  have e5 : (2 : Nat) ^ (j + more) = 2 ^ (j + more - k) * 2 ^ k := by rw [← Nat.pow_add]; congr 1; omega
  rw [e5] at h8
  have h12 : q < 2 ^ (j + more - k) := Nat.lt_of_mul_lt_mul_right h8
  have e6 : (2 : Nat) ^ (j + more + 1) = (2 * 2 ^ (j + more - k)) * 2 ^ k := by rw [Nat.pow_succ, e5]; simp only [Nat.mul_left_comm, Nat.mul_comm]
  rw [e6]
  exact Nat.mul_lt_mul_of_pos_right (by omega) (Nat.two_pow_pos _)
/-- snow is not less than zero -/
theorem snow_nonneg {x r a b c1 d : Nat} (hx : Bd 20 x) (hr : Bd 22 r) (hr0 : r < 2147483648) (hs : snowE a b c1 d = 0) : 0 ≤ valI (snowX x r a b c1 d) := by
  obtain ⟨ba, bb, bc, bd, z1, z2, z3⟩ := snowE_zero hs
  unfold snowX
  split
  · rw [val_zero]; exact Int.le_refl _
  · split
    · rw [val_zero]; exact Int.le_refl _
    · rename_i h1 h2
      have h1' : gt (snowD x a b) 0 = true := by simpa using h1
      have h2' : lt r d = true := by simpa using h2
      obtain ⟨_, _, hD⟩ := snow_ok1 hx ba bb
      have q1 : 0 < valI (snowD x a b) := by
        rw [gt_val (bd_Fin hD (by omega)) fin_zero, val_zero] at h1'
        simpa using h1'
      have q2 : 0 ≤ valI c1 := by
        rw [lt_val (bd_Fin bc (by omega)) fin_zero, val_zero] at z2
        simpa using z2
      have q3 : 0 ≤ valI (lesserB (snowD x a b) c1) := by
        unfold lesserB
        split <;> omega
      obtain ⟨t1, t2, t3⟩ := tail_ok hr (bd.mono (show 20 ≤ 22 by omega)) (nonneg_word hr0 hr (by omega)) h2'
      have hlo := lt_ord.1 h2'
      have q4 := quot_one hr bd (by omega) (by omega) (nonneg_word hr0 hr (by omega)) hlo
      have q5 : valI (fdiv r d) ≤ valI 1065353216 := by
        have h5 := (bd_valI (K := 0) (by omega)).1 q4
        have e5 : valI 1065353216 = 2 ^ 149 := by decide +kernel
        rw [e5]
        have e6 : ((2 ^ (0 + 149) : Nat) : Int) = 2 ^ 149 := by decide +kernel
        omega
      have hk := fsub_key (K := 2) (one_bd.mono (by omega)) (q4.mono (by omega)) (by omega)
      have hm := rkey_mono (show (0 : Int) ≤ valI 1065353216 - valI (fdiv r d) by omega)
      rw [← hk] at hm
      have e0 : rkey 0 = keyI 0 := by decide +kernel
      rw [e0] at hm
      have q6 : 0 ≤ valI (snowT r d) := val_key_le.2 hm
      have hlb := lesser_bd hD (bc.mono (show 20 ≤ 43 by omega))
      exact mul_nonneg2 hlb t3 (by omega) (by omega) q3 q6
end Go.Proofs.Ytinohfgokpbcdaa
namespace Go.Proofs.Ytinohfgokpbcdaa
open Go.RowKit
attribute [local go_sem ↓] Go.wp_at_zero Go.wp_at_succ
attribute [local go_sem] run_store_float

/-- what Snow holds in memory -/
structure SW (W0 w : World) (hf hs hz ho g cap : Nat) (X Y : Int) (Wn Hn N : Nat) (A : Option Addr) (c a b c1 d : Nat) (cur : Array Value) (f : Nat → Nat) : Prop where
  fb : Bk w hf 26 #[.int .i64 X, .int .i64 Y, .int .i64 (Wn : Int), .int .i64 (Hn : Int), .slice A N c]
  sb : Bk w hs 66 #[.float .f32 a, .float .f32 b, .float .f32 c1, .float .f32 d]
  zb : Bk w hz 26 #[.int .i64 0, .int .i64 0, .int .i64 0, .int .i64 0, .slice none 0 0]
  ob : Bk w ho 26 #[.int .i64 X, .int .i64 Y, .int .i64 (Wn : Int), .int .i64 (Hn : Int), .slice (some ⟨g, 0, none⟩) N cap]
  cl : Cl w g cap cur N f
  ext : Ext W0 w
  b1 : W0.heap.size ≤ g
  b2 : W0.heap.size ≤ hz
section
variable {W0 w : World} {hf hs hz ho g cap : Nat} {X Y : Int} {Wn Hn N : Nat} {A : Option Addr} {c a b c1 d : Nat} {cur : Array Value} {f : Nat → Nat}
theorem SW.step (h : SW W0 w hf hs hz ho g cap X Y Wn Hn N A c a b c1 d cur f) {w' : World} (hx : Ext w w') : SW W0 w' hf hs hz ho g cap X Y Wn Hn N A c a b c1 d cur f :=
  ⟨h.fb.ext hx, h.sb.ext hx, h.zb.ext hx, h.ob.ext hx, h.cl.ext hx, h.ext.trans hx, h.b1, h.b2⟩
theorem SW.put (h : SW W0 w hf hs hz ho g cap X Y Wn Hn N A c a b c1 d cur f) (k x : Nat) : SW W0 (w.setCell ⟨g, k, none⟩ (.float .f32 x)) hf hs hz ho g cap X Y Wn Hn N A c a b c1 d (cur.setIfInBounds k (.float .f32 x)) (updF f k x) :=
  ⟨h.fb.far (Bk.ne h.fb h.cl.b (by decide)) _, h.sb.far (Bk.ne h.sb h.cl.b (by decide)) _, h.zb.far (Bk.ne h.zb h.cl.b (by decide)) _, h.ob.far (Bk.ne h.ob h.cl.b (by decide)) _, h.cl.put k x, h.ext.setCell h.b1 _, h.b1, h.b2⟩
end
def SK (w : World) (ho hs : Nat) (X Y : Int) (Wn Hn N g cap a b c1 d : Nat) : Prop := Bk w ho 26 #[.int .i64 X, .int .i64 Y, .int .i64 (Wn : Int), .int .i64 (Hn : Int), .slice (some ⟨g, 0, none⟩) N cap] ∧ Bk w hs 66 #[.float .f32 a, .float .f32 b, .float .f32 c1, .float .f32 d]
theorem SK.drew {w : World} {ho hs : Nat} {X Y : Int} {Wn Hn N g cap a b c1 d : Nat} (h : SK w ho hs X Y Wn Hn N g cap a b c1 d) : SK w.drew ho hs X Y Wn Hn N g cap a b c1 d := ⟨h.1.drew, h.2.drew⟩
theorem SK.far {w : World} {ho hs : Nat} {X Y : Int} {Wn Hn N g cap a b c1 d : Nat} (h : SK w ho hs X Y Wn Hn N g cap a b c1 d) {p : Addr} (h1 : ho ≠ p.block) (h2 : hs ≠ p.block) (u : Value) : SK (w.setCell p u) ho hs X Y Wn Hn N g cap a b c1 d := ⟨h.1.far h1 u, h.2.far h2 u⟩

/-- the error of the arguments -/
def snowA (X Y W H : Int) (l : List Nat) (a b c1 d : Nat) : Int := if fieldE X Y W H l ≠ 0 then fieldE X Y W H l else snowE a b c1 d
set_option maxRecDepth 100000 in
set_option maxHeartbeats 6400000 in
theorem Snow_ok (X Y : Int) (Wn Hn N : Nat) (A : Option Addr) (c : Nat) (l : List Nat) (a b c1 d : Nat) (w : World) (hr : Reg X Y Wn Hn) (hN : N = Wn * Hn) (hl : l.length = N) (hV : Rd w A (flt l)) (hf : fieldE X Y Wn Hn l = 0) (hs : snowE a b c1 d = 0) :
    Calls Try.prog 40 #[.agg #[.int .i64 X, .int .i64 Y, .int .i64 (Wn : Int), .int .i64 (Hn : Int), .slice A N c], .agg #[.float .f32 a, .float .f32 b, .float .f32 c1, .float .f32 d]] w fun e w' => WetPost X Y Wn Hn N ((List.range N).map (snowF (fun j => l.getD j 0) Wn Hn a b c1 d)) w e w' := by
  have hN6 : N ≤ 65536 := by rw [hN]; exact hr.n
  have hN1 : 1 ≤ N := by rw [hN]; exact Nat.mul_pos hr.w1 hr.h1
  have hnum : numE l = 0 := by
    have hr0 : regE X Y Wn Hn = 0 := by
      unfold fieldE at hf
      split at hf
      · rename_i h; exact absurd hf h
      · rename_i h; simpa using h
    rw [← hf, fieldE_num hr0 (by rw [hl, hN, Int.natCast_mul])]
  have hh : ∀ j, j < N → Bd 20 (l.getD j 0) := fun j hj => by
    have hjl : j < l.length := by omega
    have e : l.getD j 0 = l[j] := by simp [List.getD_eq_getElem?_getD, hjl]
    rw [e]
    exact hgt_bd ((numE_zero hnum).2 _ (List.getElem_mem hjl))
  have HC := fun (w : World) (h : Rd w A (flt l)) => hidA (check_any X Y Wn Hn A N c l w hl h (by omega))
  rw [hf] at HC
  have HQ := fun (w : World) => hidA (checkSnow_any a b c1 d w)
  rw [hs] at HQ
  have hkl0 : 0 < l.length := by omega
  obtain ⟨ad, hA, _, _⟩ := hV.at (k := 0) (by rw [flt_length]; exact hkl0)
  subst hA
  have HY := fun (w : World) (h : Rd w (some ad) (flt l)) => hidA (Copy_any X Y Wn Hn N c ad l w hl h hN1 (by omega))
  have HS := fun (k : Nat) (w : World) (h : Rd w (some ad) (flt l)) (hk : k < N) => hidA (sides_any X Y Wn Hn N k (some ad) c l w hr hN hl h hh hk)
  obtain ⟨ba, bb, bc, bd, z1, z2, z3⟩ := snowE_zero hs
  have H1 := fun (k : Nat) (hk : k < N) => hidA (snow_ok1 (hh k hk) ba bb)
  have HB := fun (k : Nat) (hk : k < N) => hidA (ris_bd (v := fun j => l.getD j 0) (Wn := Wn) (Hn := Hn) (k := k) (fun j hj => hh j (by omega)) (by omega) 8)
  have H2 := fun (k : Nat) (D : Nat) (hk : k < N) (hD : Bd 43 D) => hidA (snow_ok2 (HB k hk).out (ris_lt (fun j => l.getD j 0) Wn Hn k 8) bd hD bc)
  have HLs0 := fun (D : Nat) (w : World) => hidA (lesser_any D c1 w)
  have Hl := hidA hl
  clear hr hN hf hs hnum hh ba bb bc bd z1 z2 z3 hkl0 hl
  go_enter Try.func40, Try.ntmps40
  have kF0 : Bk (((w.alloc (.cells #[.int .i64 X, .int .i64 Y, .int .i64 (Wn : Int), .int .i64 (Hn : Int), .slice (some ad) N c] 26)).alloc (.cells #[.float .f32 a, .float .f32 b, .float .f32 c1, .float .f32 d] 66)).alloc (.cells #[.int .i64 0, .int .i64 0, .int .i64 0, .int .i64 0, .slice none 0 0] 26)) w.heap.size 26 #[.int .i64 X, .int .i64 Y, .int .i64 (Wn : Int), .int .i64 (Hn : Int), .slice (some ad) N c] := ((Bk.new' rfl).alloc _).alloc _
  have kS0 : Bk (((w.alloc (.cells #[.int .i64 X, .int .i64 Y, .int .i64 (Wn : Int), .int .i64 (Hn : Int), .slice (some ad) N c] 26)).alloc (.cells #[.float .f32 a, .float .f32 b, .float .f32 c1, .float .f32 d] 66)).alloc (.cells #[.int .i64 0, .int .i64 0, .int .i64 0, .int .i64 0, .slice none 0 0] 26)) (w.heap.size + 1) 66 #[.float .f32 a, .float .f32 b, .float .f32 c1, .float .f32 d] := (Bk.new' (by simp)).alloc _
  have kZ0 : Bk (((w.alloc (.cells #[.int .i64 X, .int .i64 Y, .int .i64 (Wn : Int), .int .i64 (Hn : Int), .slice (some ad) N c] 26)).alloc (.cells #[.float .f32 a, .float .f32 b, .float .f32 c1, .float .f32 d] 66)).alloc (.cells #[.int .i64 0, .int .i64 0, .int .i64 0, .int .i64 0, .slice none 0 0] 26)) (w.heap.size + 1 + 1) 26 #[.int .i64 0, .int .i64 0, .int .i64 0, .int .i64 0, .slice none 0 0] := Bk.new' (by simp)
  have hx0 : Ext w (((w.alloc (.cells #[.int .i64 X, .int .i64 Y, .int .i64 (Wn : Int), .int .i64 (Hn : Int), .slice (some ad) N c] 26)).alloc (.cells #[.float .f32 a, .float .f32 b, .float .f32 c1, .float .f32 d] 66)).alloc (.cells #[.int .i64 0, .int .i64 0, .int .i64 0, .int .i64 0, .slice none 0 0] 26)) := (((Ext.refl w).alloc _).alloc _).alloc _
  go_upto_region 1 with fail
  generalize ((w.alloc (.cells #[.int .i64 X, .int .i64 Y, .int .i64 (Wn : Int), .int .i64 (Hn : Int), .slice (some ad) N c] 26)).alloc (.cells #[.float .f32 a, .float .f32 b, .float .f32 c1, .float .f32 d] 66)).alloc (.cells #[.int .i64 0, .int .i64 0, .int .i64 0, .int .i64 0, .slice none 0 0] 26) = w0 at *
  have hz1 : w.heap.size ≤ w.heap.size + 1 + 1 := by omega
  generalize w.heap.size + 1 + 1 = hz at *
  generalize w.heap.size + 1 = hs at *
  have b0 := kF0.cell 0
  have b1 := kF0.cell 1
  have b2 := kF0.cell 2
  have b3 := kF0.cell 3
  have b4 := kF0.cell 4
  go_upto_region 4 with (go_at_call 80; refine ((HC _ (hV.ext hx0)).out).mono ?_; rintro e w1 ⟨rfl, hx1⟩)
  have kF1 := kF0.ext hx1
  have kS1 := kS0.ext hx1
  have kZ1 := kZ0.ext hx1
  have hxw1 := hx0.trans hx1
  clear b0 b1 b2 b3 b4 kF0 kS0 kZ0 hx0 HC hx1
  have s0 := kS1.cell 0
  have s1 := kS1.cell 1
  have s2 := kS1.cell 2
  have s3 := kS1.cell 3
  go_upto_region 7 with (go_at_call 41; refine ((HQ _).out).mono ?_; rintro e w2 ⟨rfl, hx2⟩)
  have kF2 := kF1.ext hx2
  have kS2 := kS1.ext hx2
  have kZ2 := kZ1.ext hx2
  have hxw2 := hxw1.trans hx2
  clear s0 s1 s2 s3 kF1 kS1 kZ1 hxw1 hx2 HQ
  have b0 := kF2.cell 0
  have b1 := kF2.cell 1
  have b2 := kF2.cell 2
  have b3 := kF2.cell 3
  have b4 := kF2.cell 4
  go_upto_region 8 with (go_at_call 90; refine ((HY _ (hV.ext hxw2)).out).mono ?_; rintro e w3 ⟨g, cap, cur, rfl, hge, hC, hx3⟩)
  have hxa : Ext w3 (w3.alloc (.cells #[.int .i64 X, .int .i64 Y, .int .i64 (Wn : Int), .int .i64 (Hn : Int), .slice (some ⟨g, 0, none⟩) N cap] 26)) := (Ext.refl w3).alloc _
  have hSW : SW w (w3.alloc (.cells #[.int .i64 X, .int .i64 Y, .int .i64 (Wn : Int), .int .i64 (Hn : Int), .slice (some ⟨g, 0, none⟩) N cap] 26)) w.heap.size hs hz w3.heap.size g cap X Y Wn Hn N (some ad) c a b c1 d cur (fun j => l.getD j 0) :=
    ⟨(kF2.ext hx3).ext hxa, (kS2.ext hx3).ext hxa, (kZ2.ext hx3).ext hxa, Bk.new' rfl, hC.ext hxa, (hxw2.trans hx3).trans hxa, by have := hxw2.size; omega, hz1⟩
  clear b0 b1 b2 b3 b4 kF2 kS2 kZ2 hxw2 hx3 hC HY hge hxa
  generalize w3.alloc (.cells #[.int .i64 X, .int .i64 Y, .int .i64 (Wn : Int), .int .i64 (Hn : Int), .slice (some ⟨g, 0, none⟩) N cap] 26) = w4 at *
  generalize w3.heap.size = ho at *
  have c4 := hSW.fb.cell 4
  go_wp2
  clear c4
  go_loopw [31] (fun s31 wr => ∃ (k : Nat) (cur : Array Value) (f : Nat → Nat), k ≤ N ∧ s31 = .int .i64 k ∧ SW w wr w.heap.size hs hz ho g cap X Y Wn Hn N (some ad) c a b c1 d cur f ∧ (∀ j, j < k → f j = snowF (fun j => l.getD j 0) Wn Hn a b c1 d j)) (fun s31 _ => N - (intOf s31).toNat)
  case atStart => exact ⟨0, _, _, Nat.zero_le _, rfl, hSW, fun j h => by omega⟩
  case round =>
    clear hSW
    obtain ⟨k, cur, f, hk, rfl, hSW, hfk⟩ := hrel
    have Hfk := hidA hfk
    clear hfk
    by_cases hkN : k < N
    · have hkl : k < l.length := by rw [Hl.out]; exact hkN
      obtain ⟨ad2, e2, hbk, hcv⟩ := (hV.ext hSW.ext).at (k := k) (by rw [flt_length]; exact hkl)
      injection e2 with e2
      subst e2
      have ck := hcv k _ (flt_get hkl)
      have ek : l.getD k 0 = l[k] := by simp [List.getD_eq_getElem?_getD, hkl]
      rw [← ek] at ck
      obtain ⟨f1, f2, f3⟩ := (H1 k hkN).out
      have HSk := HS k
      have HE := hidA (show snowF (fun j => l.getD j 0) Wn Hn a b c1 d k = snowX (l.getD k 0) (ris (fun j => l.getD j 0) Wn Hn k 8) a b c1 d from rfl)
      have HX := hidA (show snowX (l.getD k 0) (ris (fun j => l.getD j 0) Wn Hn k 8) a b c1 d = if gt (snowD (l.getD k 0) a b) 0 = false then 0 else if lt (ris (fun j => l.getD j 0) Wn Hn k 8) d = false then 0 else fmul (lesserB (snowD (l.getD k 0) a b) c1) (snowT (ris (fun j => l.getD j 0) Wn Hn k 8) d) from rfl)
      have H2k := fun h => H2 k _ hkN f3 h
      have HLs := fun w => HLs0 (snowD (l.getD k 0) a b) w
      have hle := leq_gtK f3 (by omega)
      have hlt : (FloatKind.f32.format.order (ris (fun j => l.getD j 0) Wn Hn k 8) d == some .lt) = lt (ris (fun j => l.getD j 0) Wn Hn k 8) d := rfl
      clear H1 H2 HB HS HLs0 hcv ek f3
      generalize hxe : snowF (fun j => l.getD j 0) Wn Hn a b c1 d k = E at HE
      have Hx := hidA hxe
      clear hxe
      generalize snowX (l.getD k 0) (ris (fun j => l.getD j 0) Wn Hn k 8) a b c1 d = E2 at *
      generalize ris (fun j => l.getD j 0) Wn Hn k 8 = r at *
      generalize snowD (l.getD k 0) a b = D at *
      generalize l.getD k 0 = x at *
      have q1 := fun (w : World) => run_float_arith (P := Try.prog) w .sub 27 .f32 _ _ _ f1
      have q2 := fun (w : World) => run_float_arith (P := Try.prog) w .mul 27 .f32 _ _ _ f2
      clear f1 f2
      have i0 : (0 : Int) ≤ k := by omega
      have i1 : (k : Int) < N := by omega
      have o4 := hSW.ob.cell 4
      have g0 := hSW.cl.cell hkN
      have g1 := hSW.cl.b.frozen k
      have hP := hSW.put k 0
      have s0 := hP.sb.cell 0
      have s1 := hP.sb.cell 1
      go_upto_region 13 with fail
      clear o4 g0 g1 s0 s1 ck q1 q2 hSW hbk
      generalize w.setCell ⟨g, k, none⟩ (.float .f32 0) = wj at *
      generalize wr.setCell ⟨g, k, none⟩ (.float .f32 0) = wp at *
      have hfz : ∀ j, j < k + 1 → updF f k 0 j = if j = k then 0 else snowF (fun j => l.getD j 0) Wn Hn a b c1 d j := fun j hj => by
        unfold updF
        by_cases hjk : j = k
        · rw [if_pos hjk, if_pos hjk]
        · rw [if_neg hjk, if_neg hjk]
          exact Hfk.out j (by omega)
      have Hfz := hidA hfz
      clear hfz Hfk
      cases h1 : gt D 0
      · have hv : Hid (E2 = 0) := by show E2 = _; rw [HX.out, if_pos h1]
        rw [h1] at hle
        clear h1 H2k HX hlt HLs HSk
        go_wp2_with fail
        go_roundw
        case rel =>
          refine ⟨k + 1, _, _, by omega, by go_num, hP, fun j hj => ?_⟩
          rw [Hfz.out j hj]
          by_cases hjk : j = k
          · subst hjk
            rw [if_pos rfl, Hx.out, HE.out, hv.out]
          · rw [if_neg hjk]
        case measure => simp [intOf]; omega
      · rw [h1] at hle
        rw [h1, if_neg (by decide)] at HX
        clear h1
        have b0 := hP.fb.cell 0
        have b1 := hP.fb.cell 1
        have b2 := hP.fb.cell 2
        have b3 := hP.fb.cell 3
        have b4 := hP.fb.cell 4
        go_upto_region 15 with (go_at_call 95; refine ((HSk _ (hV.ext hP.ext) hkN).out).mono ?_; rintro e w5 ⟨rfl, hx5⟩)
        have hP5 := hP.step hx5
        clear b0 b1 b2 b3 b4 hP hx5 HSk
        have s3 := hP5.sb.cell 3
        cases h2 : lt r d
        · have hv : Hid (E2 = 0) := by show E2 = _; rw [HX.out, if_pos h2]
          rw [h2] at hlt
          clear h2 H2k HX HLs
          go_wp2_with fail
          go_roundw
          case rel =>
            refine ⟨k + 1, _, _, by omega, by go_num, hP5, fun j hj => ?_⟩
            rw [Hfz.out j hj]
            by_cases hjk : j = k
            · subst hjk
              rw [if_pos rfl, Hx.out, HE.out, hv.out]
            · rw [if_neg hjk]
          case measure => simp [intOf]; omega
        · obtain ⟨g1, g2, g3, _⟩ := H2k h2
          have hv : Hid (E2 = fmul (lesserB D c1) (snowT r d)) := by show E2 = _; rw [HX.out, if_neg (by rw [h2]; decide)]
          have p1 := fun (w : World) => run_float_arith (P := Try.prog) w .quo 27 .f32 _ _ _ g1
          have p2 := fun (w : World) => run_float_arith (P := Try.prog) w .sub 27 .f32 _ _ _ g2
          have p3 := fun (w : World) => run_float_arith (P := Try.prog) w .mul 27 .f32 _ _ _ g3
          rw [h2] at hlt
          clear h2 H2k HX g1 g2 g3
          generalize fmul (lesserB D c1) (snowT r d) = y at *
          generalize lesserB D c1 = le at *
          generalize snowT r d = tt at *
          have hgo : ho ≠ g := Bk.ne hP5.ob hP5.cl.b (by decide)
          have hgs : hs ≠ g := Bk.ne hP5.sb hP5.cl.b (by decide)
          have kS : SK w5 ho hs X Y Wn Hn N g cap a b c1 d := ⟨hP5.ob, hP5.sb⟩
          have o4 : ∀ w', SK w' ho hs X Y Wn Hn N g cap a b c1 d → w'.cell? ⟨ho, 4, none⟩ = some (.slice (some ⟨g, 0, none⟩) N cap) := fun w' h => h.1.cell 4
          have o2 : ∀ w', SK w' ho hs X Y Wn Hn N g cap a b c1 d → w'.cell? ⟨hs, 2, none⟩ = some (.float .f32 c1) := fun w' h => h.2.cell 2
          have g0 := hP5.cl.cell hkN
          have g1 := hP5.cl.b.frozen k
          go_upto_region 17 with fail
          refine wp_region_noPanic ?_
          refine wp_region_held_drew (S := fun w' => SK w' ho hs X Y Wn Hn N g cap a b c1 d) (by kernel_rfl) ?_ (fun hHeld => ?_)
          · (first | exact kS | exact SK.drew kS | exact SK.far (SK.drew kS) hgo hgs _ | exact SK.far kS hgo hgs _)
          refine wpAnyH_take (i := 0) (oi := ?o1x0) (v := ?v1x0) ?hi1x0 (by kernel_rfl) ?hf1x0 ?hr1x0 (fun _ _ _ h => h) ?hy1x0 (by assumption) ?rest1x0
          case hi1x0 => (simp only [List.getElem?_toArray, List.getElem?_cons_zero]; exact rfl)
          case hf1x0 => kernel_rfl
          case hr1x0 => kernel_rfl
          case hy1x0 => (refine Or.inl ⟨by rfl, ?_⟩; intro w hSw; (try dsimp only at hSw); go_simp; try with_reducible rfl)
          simp only [put_mk, List.set_cons_succ, List.set_cons_zero]
          refine wpAnyH_take (i := 1) (oi := ?o1x1) (v := ?v1x1) ?hi1x1 (by kernel_rfl) ?hf1x1 ?hr1x1 (fun _ _ _ h => h) ?hy1x1 (by assumption) ?rest1x1
          case hi1x1 => (simp only [List.getElem?_toArray, List.getElem?_cons_succ, List.getElem?_cons_zero]; exact rfl)
          case hf1x1 => kernel_rfl
          case hr1x1 => kernel_rfl
          case hy1x1 => (refine Or.inl ⟨by rfl, ?_⟩; intro w hSw; (try dsimp only at hSw); go_simp; try with_reducible rfl)
          simp only [put_mk, List.set_cons_succ, List.set_cons_zero]
          refine wpAnyH_take (i := 2) (oi := ?o1x2) (v := ?v1x2) ?hi1x2 (by kernel_rfl) ?hf1x2 ?hr1x2 (fun _ _ _ h => h) ?hy1x2 (by assumption) ?rest1x2
          case hi1x2 => (simp only [List.getElem?_toArray, List.getElem?_cons_succ, List.getElem?_cons_zero]; exact rfl)
          case hf1x2 => kernel_rfl
          case hr1x2 => kernel_rfl
          case hy1x2 => (refine Or.inl ⟨by rfl, ?_⟩; intro w hSw; (try dsimp only at hSw); go_simp; try with_reducible rfl)
          simp only [put_mk, List.set_cons_succ, List.set_cons_zero]
          refine wpAnyH_take (i := 3) (oi := ?o1x3) (v := ?v1x3) ?hi1x3 (by kernel_rfl) ?hf1x3 ?hr1x3 (fun _ _ _ h => h) ?hy1x3 (by assumption) ?rest1x3
          case hi1x3 => (simp only [List.getElem?_toArray, List.getElem?_cons_succ, List.getElem?_cons_zero]; exact rfl)
          case hf1x3 => kernel_rfl
          case hr1x3 => kernel_rfl
          case hy1x3 => (refine Or.inl ⟨by rfl, ?_⟩; intro w hSw; (try dsimp only at hSw); go_simp; try with_reducible rfl)
          simp only [put_mk, List.set_cons_succ, List.set_cons_zero]
          refine wpAnyH_take (i := 4) (oi := ?o1x4) (v := ?v1x4) ?hi1x4 (by kernel_rfl) ?hf1x4 ?hr1x4 (fun _ _ _ h => h) ?hy1x4 (by assumption) ?rest1x4
          case hi1x4 => (simp only [List.getElem?_toArray, List.getElem?_cons_succ, List.getElem?_cons_zero]; exact rfl)
          case hf1x4 => kernel_rfl
          case hr1x4 => kernel_rfl
          case hy1x4 => (refine Or.inl ⟨by rfl, ?_⟩; intro w hSw; (try dsimp only at hSw); go_simp; try with_reducible rfl)
          simp only [put_mk, List.set_cons_succ, List.set_cons_zero]
          refine wpAnyH_take (i := 5) (oi := ?o1x5) (v := ?v1x5) ?hi1x5 (by kernel_rfl) ?hf1x5 ?hr1x5 (fun _ _ _ h => h) ?hy1x5 (by assumption) ?rest1x5
          case hi1x5 => (simp only [List.getElem?_toArray, List.getElem?_cons_succ, List.getElem?_cons_zero]; exact rfl)
          case hf1x5 => kernel_rfl
          case hr1x5 => kernel_rfl
          case hy1x5 => (refine Or.inl ⟨by rfl, ?_⟩; intro w hSw; (try dsimp only at hSw); go_simp; try with_reducible rfl)
          simp only [put_mk, List.set_cons_succ, List.set_cons_zero]
          refine wpAnyH_take (i := 7) (oi := ?o1x7) (v := ?v1x7) ?hi1x7 (by kernel_rfl) ?hf1x7 ?hr1x7 (fun _ _ _ h => h) ?hy1x7 (by assumption) ?rest1x7
          case hi1x7 => (simp only [List.getElem?_toArray, List.getElem?_cons_succ, List.getElem?_cons_zero]; exact rfl)
          case hf1x7 => kernel_rfl
          case hr1x7 => kernel_rfl
          case hy1x7 => (refine Or.inl ⟨by rfl, ?_⟩; intro w hSw; (try dsimp only at hSw); go_simp; try with_reducible rfl)
          simp only [put_mk, List.set_cons_succ, List.set_cons_zero]
          refine wpAnyH_ready (rs := [6]) (by kernel_rfl) (by simp) ?_
          refine AllReadyH.cons (o := ?o1x6) ?hi1x6 (fun K hK => ?_) AllReadyH.nil
          case hi1x6 => (simp only [List.getElem?_toArray, List.getElem?_cons_succ, List.getElem?_cons_zero]; exact rfl)
          go_simp
          refine ((HLs _).out).mono ?_
          rintro e w' ⟨rfl, hw'⟩
          subst hw'
          refine hK.out _ _ ?_ (fun hHeld => ?_)
          · (first | exact kS | exact SK.drew kS | exact SK.far (SK.drew kS) hgo hgs _ | exact SK.far kS hgo hgs _)
          clear hK K
          refine wpAnyH_take (i := 8) (oi := ?o1x8) (v := ?v1x8) ?hi1x8 (by kernel_rfl) ?hf1x8 ?hr1x8 (fun _ _ _ h => h) ?hy1x8 (by assumption) ?rest1x8
          case hi1x8 => (simp only [List.getElem?_toArray, List.getElem?_cons_succ, List.getElem?_cons_zero]; exact rfl)
          case hf1x8 => kernel_rfl
          case hr1x8 => kernel_rfl
          case hy1x8 => (refine Or.inl ⟨by rfl, ?_⟩; intro w hSw; (try dsimp only at hSw); go_simp; try with_reducible rfl)
          simp only [put_mk, List.set_cons_succ, List.set_cons_zero]
          refine wpAnyH_take (i := 9) (oi := ?o1x9) (v := ?v1x9) ?hi1x9 (by kernel_rfl) ?hf1x9 ?hr1x9 (fun _ _ _ h => h) ?hy1x9 (by assumption) ?rest1x9
          case hi1x9 => (simp only [List.getElem?_toArray, List.getElem?_cons_succ, List.getElem?_cons_zero]; exact rfl)
          case hf1x9 => kernel_rfl
          case hr1x9 => kernel_rfl
          case hy1x9 => (refine Or.inl ⟨by rfl, ?_⟩; intro w hSw; (try dsimp only at hSw); go_simp; try with_reducible rfl)
          simp only [put_mk, List.set_cons_succ, List.set_cons_zero]
          refine wpAnyH_ready (rs := [10]) (by kernel_rfl) (by simp) ?_
          refine AllReadyH.cons (o := ?o1x10) ?hi1x10 (fun K hK => ?_) AllReadyH.nil
          case hi1x10 => (simp only [List.getElem?_toArray, List.getElem?_cons_succ, List.getElem?_cons_zero]; exact rfl)
          go_simp
          refine hK.out _ _ ?_ (fun hHeld => ?_)
          · (first | exact kS | exact SK.drew kS | exact SK.far (SK.drew kS) hgo hgs _ | exact SK.far kS hgo hgs _)
          clear hK K
          refine wpAnyH_done (by kernel_rfl) ?_ _
          refine NoPanic.normal ?_
          have hP6 := hidA ((hP5.put k y).step ((Ext.refl _).drew))
          clear kS o4 o2 g0 g1 hHeld p1 p2 p3 hP5 HLs s3
          go_wp2_with fail
          go_roundw
          case rel =>
            refine ⟨k + 1, _, _, by omega, by go_num, hP6.out, fun j hj => ?_⟩
            have h9 := Hfz.out j hj
            unfold updF at h9 ⊢
            by_cases hjk : j = k
            · subst hjk
              rw [if_pos rfl, Hx.out, HE.out, hv.out]
            · rw [if_neg hjk, if_neg hjk] at h9
              rw [if_neg hjk, if_neg hjk]
              exact h9
          case measure => simp [intOf]; omega
    · have hkN' : k = N := by omega
      subst hkN'
      have hRv := hSW.cl.rd Hfk.out
      have hlv : ((List.range k).map (snowF (fun j => l.getD j 0) Wn Hn a b c1 d)).length = k := by simp
      have HRS := fun (w : World) (h : Rd w (some ⟨g, 0, none⟩) (flt ((List.range k).map (snowF (fun j => l.getD j 0) Wn Hn a b c1 d)))) => hidA (result_one X Y Wn Hn (some ⟨g, 0, none⟩) k cap ((List.range k).map (snowF (fun j => l.getD j 0) Wn Hn a b c1 d)) w hlv h (by omega))
      generalize hvv : (List.range k).map (snowF (fun j => l.getD j 0) Wn Hn a b c1 d) = vv at *
      have Hvv := hidA hvv
      have Hfk2 := hidA Hfk.out
      have b0 := hSW.ob.cell 0
      have b1 := hSW.ob.cell 1
      have b2 := hSW.ob.cell 2
      have b3 := hSW.ob.cell 3
      have b4 := hSW.ob.cell 4
      have HW := hidA hSW
      clear H1 H2 HB HS HLs0 hlv hvv hSW
      go_wp2_with (go_at_call 82; refine ((HRS _ (hRv.ext (by repeat (first | exact Ext.refl _ | assumption | refine Ext.setCell ?_ (by first | (simp; done) | (simp; omega)) _ | refine Ext.drewN ?_ _ | refine Ext.alloc ?_ _ | refine Ext.drew ?_ | refine Ext.trans ?_ (by assumption))))).out).mono ?_; rintro e w4 ⟨a', b', c', d', vA, vn, vc, ec, rfl, hrel, hx4⟩; have kZ4 := HW.out.zb.ext (Ext.trans (by repeat (first | exact Ext.refl _ | assumption | refine Ext.setCell ?_ (by first | (simp; done) | (simp; omega)) _ | refine Ext.drewN ?_ _ | refine Ext.alloc ?_ _ | refine Ext.drew ?_ | refine Ext.trans ?_ (by assumption))) hx4); have z0 := kZ4.cell 0; have z1 := kZ4.cell 1; have z2 := kZ4.cell 2; have z3 := kZ4.cell 3; have z4 := kZ4.cell 4; have y0 := kZ4.frozen 0; have y1 := kZ4.frozen 1; have y2 := kZ4.frozen 2; have y3 := kZ4.frozen 3; have y4 := kZ4.frozen 4)
      have hgz : g ≠ hz := Bk.ne HW.out.cl.b HW.out.zb (by decide)
      have hzw := HW.out.b2
      have hxw4 := HW.out.ext.trans (Ext.trans (by repeat (first | exact Ext.refl _ | assumption | refine Ext.setCell ?_ (by first | (simp; done) | (simp; omega)) _ | refine Ext.drewN ?_ _ | refine Ext.alloc ?_ _ | refine Ext.drew ?_ | refine Ext.trans ?_ (by assumption))) hx4)
      have hC5 := (((((HW.out.cl.ext (Ext.trans (by repeat (first | exact Ext.refl _ | assumption | refine Ext.setCell ?_ (by first | (simp; done) | (simp; omega)) _ | refine Ext.drewN ?_ _ | refine Ext.alloc ?_ _ | refine Ext.drew ?_ | refine Ext.trans ?_ (by assumption))) hx4)).far (p := ⟨hz, 0, none⟩) hgz (.int .i64 a')).far (p := ⟨hz, 1, none⟩) hgz (.int .i64 b')).far (p := ⟨hz, 2, none⟩) hgz (.int .i64 c')).far (p := ⟨hz, 3, none⟩) hgz (.int .i64 d')).far (p := ⟨hz, 4, none⟩) hgz (.slice vA vn vc)
      have hx5 := ((((hxw4.setCell (p := ⟨hz, 0, none⟩) hzw (.int .i64 a')).setCell (p := ⟨hz, 1, none⟩) hzw (.int .i64 b')).setCell (p := ⟨hz, 2, none⟩) hzw (.int .i64 c')).setCell (p := ⟨hz, 3, none⟩) hzw (.int .i64 d')).setCell (p := ⟨hz, 4, none⟩) hzw (.slice vA vn vc)
      refine bodyPost_ret (v := .tuple #[.agg #[.int .i64 a', .int .i64 b', .int .i64 c', .int .i64 d', .slice vA vn vc], .int .i64 ec]) (by simp [results, Try.results40, go_sem, z0, z1, z2, z3, z4]) rfl ?_
      refine ⟨g, cap, hC5.rd Hfk2.out, hx5, ?_⟩
      rw [Hvv.out]
      rcases hrel with ⟨h1, rfl, rfl, rfl, rfl, h6, rfl⟩ | ⟨h1, rfl, rfl, rfl, rfl, h6, rfl⟩
      · exact .inl ⟨h1, by rw [h6]⟩
      · exact .inr ⟨h1, by rw [h6]⟩
set_option maxRecDepth 100000 in
set_option maxHeartbeats 6400000 in
theorem Snow_bad (X Y W H : Int) (N : Nat) (A : Option Addr) (c : Nat) (l : List Nat) (a b c1 d : Nat) (w : World) (hl : l.length = N) (hV : Rd w A (flt l)) (hb : N ≤ 140737488351232) (hE : snowA X Y W H l a b c1 d ≠ 0) :
    Calls Try.prog 40 #[.agg #[.int .i64 X, .int .i64 Y, .int .i64 W, .int .i64 H, .slice A N c], .agg #[.float .f32 a, .float .f32 b, .float .f32 c1, .float .f32 d]] w fun e w' => e = .returned (.tuple #[.agg #[.int .i64 0, .int .i64 0, .int .i64 0, .int .i64 0, .slice none 0 0], .int .i64 (snowA X Y W H l a b c1 d)]) ∧ Ext w w' := by
  have HC := fun (w : World) (h : Rd w A (flt l)) => hidA (check_any X Y W H A N c l w hl h hb)
  have HQ := fun (w : World) => hidA (checkSnow_any a b c1 d w)
  unfold snowA at hE ⊢
  have kF0 : Bk (((w.alloc (.cells #[.int .i64 X, .int .i64 Y, .int .i64 W, .int .i64 H, .slice A N c] 26)).alloc (.cells #[.float .f32 a, .float .f32 b, .float .f32 c1, .float .f32 d] 66)).alloc (.cells #[.int .i64 0, .int .i64 0, .int .i64 0, .int .i64 0, .slice none 0 0] 26)) w.heap.size 26 #[.int .i64 X, .int .i64 Y, .int .i64 W, .int .i64 H, .slice A N c] := ((Bk.new' rfl).alloc _).alloc _
  have kS0 : Bk (((w.alloc (.cells #[.int .i64 X, .int .i64 Y, .int .i64 W, .int .i64 H, .slice A N c] 26)).alloc (.cells #[.float .f32 a, .float .f32 b, .float .f32 c1, .float .f32 d] 66)).alloc (.cells #[.int .i64 0, .int .i64 0, .int .i64 0, .int .i64 0, .slice none 0 0] 26)) (w.heap.size + 1) 66 #[.float .f32 a, .float .f32 b, .float .f32 c1, .float .f32 d] := (Bk.new' (by simp)).alloc _
  have kZ0 : Bk (((w.alloc (.cells #[.int .i64 X, .int .i64 Y, .int .i64 W, .int .i64 H, .slice A N c] 26)).alloc (.cells #[.float .f32 a, .float .f32 b, .float .f32 c1, .float .f32 d] 66)).alloc (.cells #[.int .i64 0, .int .i64 0, .int .i64 0, .int .i64 0, .slice none 0 0] 26)) (w.heap.size + 1 + 1) 26 #[.int .i64 0, .int .i64 0, .int .i64 0, .int .i64 0, .slice none 0 0] := Bk.new' (by simp)
  have hx0 : Ext w (((w.alloc (.cells #[.int .i64 X, .int .i64 Y, .int .i64 W, .int .i64 H, .slice A N c] 26)).alloc (.cells #[.float .f32 a, .float .f32 b, .float .f32 c1, .float .f32 d] 66)).alloc (.cells #[.int .i64 0, .int .i64 0, .int .i64 0, .int .i64 0, .slice none 0 0] 26)) := (((Ext.refl w).alloc _).alloc _).alloc _
  have hz1 : w.heap.size ≤ w.heap.size + 1 + 1 := by omega
  obtain ⟨w0, hw0⟩ : ∃ w0, w0 = ((w.alloc (.cells #[.int .i64 X, .int .i64 Y, .int .i64 W, .int .i64 H, .slice A N c] 26)).alloc (.cells #[.float .f32 a, .float .f32 b, .float .f32 c1, .float .f32 d] 66)).alloc (.cells #[.int .i64 0, .int .i64 0, .int .i64 0, .int .i64 0, .slice none 0 0] 26) := ⟨_, rfl⟩
  rw [← hw0] at kF0 kS0 kZ0 hx0
  have hVx := hV.ext hx0
  by_cases h1 : fieldE X Y W H l = 0
  · rw [if_neg (by simpa using h1)] at hE ⊢
    rw [h1] at HC
    generalize snowE a b c1 d = E at *
    have hE' : (E != 0) = true := by simpa using hE
    clear hl hb hE h1
    go_enter Try.func40, Try.ntmps40
    go_upto_region 1 with fail
    rw [← hw0]
    clear hw0
    generalize w.heap.size + 1 + 1 = hz at *
    generalize w.heap.size + 1 = hs at *
    have b0 := kF0.cell 0
    have b1 := kF0.cell 1
    have b2 := kF0.cell 2
    have b3 := kF0.cell 3
    have b4 := kF0.cell 4
    go_upto_region 4 with (go_at_call 80; refine ((HC _ hVx).out).mono ?_; rintro e w1 ⟨rfl, hx1⟩)
    have kS1 := kS0.ext hx1
    have kZ1 := kZ0.ext hx1
    have hxw1 := hx0.trans hx1
    clear b0 b1 b2 b3 b4 kF0 kZ0 kS0 hx0 HC hx1
    have s0 := kS1.cell 0
    have s1 := kS1.cell 1
    have s2 := kS1.cell 2
    have s3 := kS1.cell 3
    go_wp2_with (go_at_call 41; refine ((HQ _).out).mono ?_; rintro e w2 ⟨rfl, hx2⟩; have kZ2 := kZ1.ext hx2; have z0 := kZ2.cell 0; have z1 := kZ2.cell 1; have z2 := kZ2.cell 2; have z3 := kZ2.cell 3; have z4 := kZ2.cell 4; have y0 := kZ2.frozen 0; have y1 := kZ2.frozen 1; have y2 := kZ2.frozen 2; have y3 := kZ2.frozen 3; have y4 := kZ2.frozen 4)
    have hxw2 := hxw1.trans hx2
    refine bodyPost_ret (v := .tuple #[.agg #[.int .i64 0, .int .i64 0, .int .i64 0, .int .i64 0, .slice none 0 0], .int .i64 E]) (by simp [results, Try.results40, go_sem, z0, z1, z2, z3, z4]) rfl ⟨rfl, ?_⟩
    repeat (first | (with_reducible exact hxw2) | (with_reducible refine Ext.setCell ?_ (by assumption) _))
  · rw [if_pos h1] at hE ⊢
    generalize fieldE X Y W H l = E at *
    have hE' : (E != 0) = true := by simpa using hE
    clear hl hb hE h1 HQ
    go_enter Try.func40, Try.ntmps40
    go_upto_region 1 with fail
    rw [← hw0]
    clear hw0
    generalize w.heap.size + 1 + 1 = hz at *
    generalize w.heap.size + 1 = hs at *
    have b0 := kF0.cell 0
    have b1 := kF0.cell 1
    have b2 := kF0.cell 2
    have b3 := kF0.cell 3
    have b4 := kF0.cell 4
    go_wp2_with (go_at_call 80; refine ((HC _ hVx).out).mono ?_; rintro e w1 ⟨rfl, hx1⟩; have kZ2 := kZ0.ext hx1; have z0 := kZ2.cell 0; have z1 := kZ2.cell 1; have z2 := kZ2.cell 2; have z3 := kZ2.cell 3; have z4 := kZ2.cell 4; have y0 := kZ2.frozen 0; have y1 := kZ2.frozen 1; have y2 := kZ2.frozen 2; have y3 := kZ2.frozen 3; have y4 := kZ2.frozen 4)
    have hxw2 := hx0.trans hx1
    refine bodyPost_ret (v := .tuple #[.agg #[.int .i64 0, .int .i64 0, .int .i64 0, .int .i64 0, .slice none 0 0], .int .i64 E]) (by simp [results, Try.results40, go_sem, z0, z1, z2, z3, z4]) rfl ⟨rfl, ?_⟩
    repeat (first | (with_reducible exact hxw2) | (with_reducible refine Ext.setCell ?_ (by assumption) _))
theorem Snow_one (X Y : Int) (Wn Hn N : Nat) (A : Option Addr) (c : Nat) (l : List Nat) (a b c1 d : Nat) (w : World) (hr : Reg X Y Wn Hn) (hN : N = Wn * Hn) (hl : l.length = N) (hV : Rd w A (flt l)) (hf : fieldE X Y Wn Hn l = 0) (hs : snowE a b c1 d = 0) :
    Calls Try.prog 40 #[.agg #[.int .i64 X, .int .i64 Y, .int .i64 (Wn : Int), .int .i64 (Hn : Int), .slice A N c], .agg #[.float .f32 a, .float .f32 b, .float .f32 c1, .float .f32 d]] w fun e w' => ∃ (ra rb rc rd : Int) (vA : Option Addr) (vn vc : Nat) (ec : Int), e = .returned (.tuple #[.agg #[.int .i64 ra, .int .i64 rb, .int .i64 rc, .int .i64 rd, .slice vA vn vc], .int .i64 ec]) ∧
      WetR X Y Wn Hn N ((List.range N).map (snowF (fun j => l.getD j 0) Wn Hn a b c1 d)) w' ra rb rc rd vA vn vc ec ∧ Ext w w' := by
  refine (Snow_ok X Y Wn Hn N A c l a b c1 d w hr hN hl hV hf hs).mono ?_
  rintro e w' ⟨g, cap, hR, hx, ⟨h1, rfl⟩ | ⟨h1, rfl⟩⟩
  · exact ⟨_, _, _, _, _, _, _, _, rfl, .inl ⟨h1, rfl, rfl, rfl, rfl, rfl, rfl, hR⟩, hx⟩
  · exact ⟨_, _, _, _, _, _, _, _, rfl, .inr ⟨h1, rfl, rfl, rfl, rfl, rfl, rfl, rfl, rfl⟩, hx⟩
end Go.Proofs.Ytinohfgokpbcdaa
namespace Go.Proofs.Ytinohfgokpbcdaa
open Go.RowKit
attribute [local go_sem ↓] Go.wp_at_zero Go.wp_at_succ

theorem add_two (ad : Addr) (i j : Nat) (h : 0 < j) : (⟨(ad.add i).block, (ad.add i).off + j, none⟩ : Addr) = ad.add (i + j) := add_off ad i h

set_option maxRecDepth 100000 in
set_option maxHeartbeats 3200000 in
theorem checkAll_any (X Y W H X' Y' W' H' : Int) (A A' B : Option Addr) (n c n' c' : Nat) (l l' : List Nat) (w : World) (hn : l.length = n) (hn' : l'.length = n') (hd : Rd w A (flt l)) (hd' : Rd w A' (flt l')) (hb : n ≤ 140737488351232) (hb' : n' ≤ 140737488351232)
    (hB : Rd w B [.int .i64 X, .int .i64 Y, .int .i64 W, .int .i64 H, .slice A n c, .int .i64 X', .int .i64 Y', .int .i64 W', .int .i64 H', .slice A' n' c']) :
    Calls Try.prog 98 #[.slice B 2 2] w fun e w' => e = .returned (.int .i64 (firstE [fieldE X Y W H l, fieldE X' Y' W' H' l'])) ∧ Ext w w' := by
  obtain ⟨ad, rfl, hbk, hc⟩ := hB (by simp)
  have C0 := fun (w' : World) (h : Ext w w') (j : Nat) u (hu : [Value.int .i64 X, .int .i64 Y, .int .i64 W, .int .i64 H, .slice A n c, .int .i64 X', .int .i64 Y', .int .i64 W', .int .i64 H', .slice A' n' c'][j]? = some u) => (h.cell (ad.add j) (by rw [add_block]; exact hbk)).trans (hc j u hu)
  have HC := fun (w' : World) (h : Ext w w') => hidA (check_any X Y W H A n c l w' hn (hd.ext h) hb)
  have HC' := fun (w' : World) (h : Ext w w') => hidA (check_any X' Y' W' H' A' n' c' l' w' hn' (hd'.ext h) hb')
  clear hn hn' hd hd' hb hb' hB hc
  go_enter Try.func98, Try.ntmps98
  go_wp2_with fail
  go_loopw [8] (fun i wr => ∃ k : Nat, k ≤ 2 ∧ i = .int .i64 k ∧ (1 ≤ k → fieldE X Y W H l = 0) ∧ (2 ≤ k → fieldE X' Y' W' H' l' = 0) ∧ Ext w wr) (fun i _ => 2 - (intOf i).toNat)
  case atStart => exact ⟨0, by omega, rfl, fun h => by omega, fun h => by omega, (by repeat (first | exact Ext.refl _ | assumption | refine Ext.setCell ?_ (by first | (simp; done) | (simp; omega)) _ | refine Ext.drewN ?_ _ | refine Ext.alloc ?_ _ | refine Ext.drew ?_ | refine Ext.trans ?_ (by assumption)))⟩
  case round =>
    obtain ⟨k, hk, rfl, h1, h2, hx⟩ := hrel
    have H1 := hidA h1
    have H2 := hidA h2
    clear h1 h2
    rcases (by omega : k = 0 ∨ k = 1 ∨ k = 2) with rfl | rfl | rfl
    · have d0 := C0 wr hx 0 _ rfl
      have d1 := C0 wr hx 1 _ rfl
      have d2 := C0 wr hx 2 _ rfl
      have d3 := C0 wr hx 3 _ rfl
      have d4 := C0 wr hx 4 _ rfl
      rw [show ad.add 0 = ad from rfl] at d0
      rw [add_pos _ (by omega)] at d1 d2 d3 d4
      clear C0
      go_wp2_with fail
      refine ((HC _ ?_).out).mono ?_
      · (repeat (first | exact Ext.refl _ | assumption | refine Ext.setCell ?_ (by first | (simp; done) | (simp; omega)) _ | refine Ext.drewN ?_ _ | refine Ext.alloc ?_ _ | refine Ext.drew ?_ | refine Ext.trans ?_ (by assumption)))
      rintro e w5 ⟨rfl, hb5⟩
      by_cases hz : fieldE X Y W H l = 0
      · have b0 : (fieldE X Y W H l != 0) = false := by simpa using hz
        have Hz := hidA hz
        clear hz
        go_wp2_with fail
        go_roundw
        case rel => exact ⟨1, by omega, rfl, fun _ => Hz.out, fun h => by omega, (by repeat (first | exact Ext.refl _ | assumption | refine Ext.setCell ?_ (by first | (simp; done) | (simp; omega)) _ | refine Ext.drewN ?_ _ | refine Ext.alloc ?_ _ | refine Ext.drew ?_ | refine Ext.trans ?_ (by assumption)))⟩
        case measure => decide
      · have b0 : (fieldE X Y W H l != 0) = true := by simpa using hz
        have HN : Hid (fieldE X Y W H l = firstE [fieldE X Y W H l, fieldE X' Y' W' H' l']) := by show _ = _; simp [firstE, hz]
        clear hz
        go_wp2
        go_ret
        exact ⟨ret_i HN.out, (by repeat (first | exact Ext.refl _ | assumption | refine Ext.setCell ?_ (by first | (simp; done) | (simp; omega)) _ | refine Ext.drewN ?_ _ | refine Ext.alloc ?_ _ | refine Ext.drew ?_ | refine Ext.trans ?_ (by assumption)))⟩
    · have d0 := C0 wr hx 5 _ rfl
      have d1 := C0 wr hx 6 _ rfl
      have d2 := C0 wr hx 7 _ rfl
      have d3 := C0 wr hx 8 _ rfl
      have d4 := C0 wr hx 9 _ rfl
      rw [add_pos _ (by omega)] at d0 d1 d2 d3 d4
      have e1 : ad.add 5 = ⟨ad.block, ad.off + 5, none⟩ := add_pos _ (by omega)
      have hz1 := H1.out (by omega)
      clear C0
      go_wp2_with fail
      refine ((HC' _ ?_).out).mono ?_
      · (repeat (first | exact Ext.refl _ | assumption | refine Ext.setCell ?_ (by first | (simp; done) | (simp; omega)) _ | refine Ext.drewN ?_ _ | refine Ext.alloc ?_ _ | refine Ext.drew ?_ | refine Ext.trans ?_ (by assumption)))
      rintro e w5 ⟨rfl, hb5⟩
      by_cases hz : fieldE X' Y' W' H' l' = 0
      · have b0 : (fieldE X' Y' W' H' l' != 0) = false := by simpa using hz
        have Hz := hidA hz
        have Hz1 := hidA hz1
        clear hz hz1
        go_wp2_with fail
        go_roundw
        case rel => exact ⟨2, by omega, rfl, fun _ => Hz1.out, fun _ => Hz.out, (by repeat (first | exact Ext.refl _ | assumption | refine Ext.setCell ?_ (by first | (simp; done) | (simp; omega)) _ | refine Ext.drewN ?_ _ | refine Ext.alloc ?_ _ | refine Ext.drew ?_ | refine Ext.trans ?_ (by assumption)))⟩
        case measure => decide
      · have b0 : (fieldE X' Y' W' H' l' != 0) = true := by simpa using hz
        have HN : Hid (fieldE X' Y' W' H' l' = firstE [fieldE X Y W H l, fieldE X' Y' W' H' l']) := by show _ = _; simp [firstE, hz1]
        clear hz hz1
        go_wp2
        go_ret
        exact ⟨ret_i HN.out, (by repeat (first | exact Ext.refl _ | assumption | refine Ext.setCell ?_ (by first | (simp; done) | (simp; omega)) _ | refine Ext.drewN ?_ _ | refine Ext.alloc ?_ _ | refine Ext.drew ?_ | refine Ext.trans ?_ (by assumption)))⟩
    · have HN : Hid (0 = firstE [fieldE X Y W H l, fieldE X' Y' W' H' l']) := by show _ = _; simp [firstE, H1.out (by omega), H2.out (by omega)]
      clear C0
      go_wp2
      go_ret
      exact ⟨ret_i HN.out, (by repeat (first | exact Ext.refl _ | assumption | refine Ext.setCell ?_ (by first | (simp; done) | (simp; omega)) _ | refine Ext.drewN ?_ _ | refine Ext.alloc ?_ _ | refine Ext.drew ?_ | refine Ext.trans ?_ (by assumption)))⟩
end Go.Proofs.Ytinohfgokpbcdaa
namespace Go.Proofs.Ytinohfgokpbcdaa
open Go.RowKit
attribute [local go_sem ↓] Go.wp_at_zero Go.wp_at_succ
attribute [local go_sem] run_store_float

theorem floor_ext (d : Nat) (D : Ieee.Datum) (hn : D.isNaN = false) (h : Ieee.double.read d = D) (w : World) : (callFunc 102 #[.float .f64 d]).run Try.prog w = .ok (.value (.float .f64 (Ieee.double.write (D.integral .down)))) w := by
  have e : (callFunc 102 #[.float .f64 d]).run Try.prog w = ((Extern.MathFloor.toIntegral "math.archFloor" .down #[.float .f64 d]) >>= fun v => pure (Next.value v)).run Try.prog w := by kernel_rfl
  have h2 : FloatKind.f64.decode d = D := h
  obtain ⟨X, e2⟩ : ∃ X, Extern.MathFloor.toIntegral "math.archFloor" .down #[.float .f64 d] = Extern.MathFloor.toIntegral.match_1 (motive := fun _ => Sem Value) (FloatKind.f64.decode d) X (fun D => pure (.float .f64 (FloatKind.f64.encode (D.integral .down)))) := ⟨_, rfl⟩
  rw [e, e2, h2]
  cases D with
  | nan s t => cases hn
  | infinity s => rfl
  | number s m p => rfl
theorem mathFloor_any (d r : Nat) (hn : (Ieee.double.read d).isNaN = false) (hr : Ieee.double.write ((Ieee.double.read d).integral .down) = r) (w : World) :
    Calls Try.prog 44 #[.float .f64 d] w fun e w' => e = .returned (.float .f64 r) ∧ w' = w := by
  have h := floor_ext d _ hn rfl
  rw [hr] at h
  clear hn hr
  go_enter Try.func44, Try.ntmps44
  go_wp2
  go_ret
  exact ⟨rfl, rfl⟩
theorem floorM_any {q d r : Nat} {n : Int} (h : Meet q d r n) (w : World) :
    Calls Try.prog 101 #[.float .f32 q] w fun e w' => e = .returned (.float .f32 (floorB q)) ∧ w' = w := by
  have hA := fun (w : World) => hidA (mathFloor_any d _ h.num rfl w)
  have h1 := h.up
  have h2 := h.down
  have h3 := h.fl
  rw [h3] at hA
  have c1 := fun (w : World) => run_convert_float_float (P := Try.prog) w 27 72 .f32 .f64 q d (by kernel_rfl) Try.underlying72 h1
  have c2 := fun (w : World) => run_convert_float_float (P := Try.prog) w 72 27 .f64 .f32 r (floorB q) (by kernel_rfl) Try.underlying27 h2
  clear h1 h2 h3 h
  generalize floorB q = z at *
  go_enter Try.func101, Try.ntmps101
  go_wp2_with fail
  refine ((hA _).out).mono ?_
  rintro e w1 ⟨rfl, hw1⟩
  rw [hw1]
  clear hw1 w1
  go_wp2_with fail
  go_ret
  exact ⟨rfl, rfl⟩
theorem melt1_any (a : Nat) (w : World) (h : lt a 0 = false) : Calls Try.prog 100 #[.float .f32 a] w fun e w' => e = .returned (.bool false) ∧ w = w' := by
  have hf : (FloatKind.f32.format.order a 0 == some .lt) = false := h
  clear h
  go_enter Try.func100, Try.ntmps100
  go_wp2
  go_ret
  exact ⟨rfl, rfl⟩
set_option maxHeartbeats 800000 in
theorem index_none (B : Option Addr) (n d : Nat) (l : List Nat) (w : World) (hn : l.length = n) (hb : Rd w B (flt l)) (hnb : n ≤ 4000000000) (h : ∀ k, k < n → lt (l.getD k 0) 0 = false) :
    Calls Try.prog 147 #[.slice B n d, .func (.func 100) #[] #[]] w fun e w' => e = .returned (.int .i64 (-1)) ∧ w = w' := by
  have Hn := hidA hn
  have Hh := hidA h
  clear hn h
  go_enter Try.func147, Try.ntmps147
  go_wp2
  go_loop [8] (fun i => ∃ k : Nat, k ≤ n ∧ i = .int .i64 k) (fun i => n - (intOf i).toNat)
  case atStart => exact ⟨0, Nat.zero_le _, rfl⟩
  case round =>
    obtain ⟨k, hk, rfl⟩ := hrel
    by_cases hlt : k < n
    · have hkl : k < l.length := by have := Hn.out; omega
      obtain ⟨ad2, rfl, hbk2, hc2⟩ := hb.at (k := k) (by simpa using hkl)
      have e1 := hc2 k _ (flt_get hkl)
      have ek : l.getD k 0 = l[k] := by simp [List.getD_eq_getElem?_getD, hkl]
      have HM := fun (w : World) => hidA (melt1_any l[k] w (by rw [← ek]; exact Hh.out k hlt))
      clear hc2 hb
      have k0 : (0 : Int) ≤ k := by omega
      have k1 : (k : Int) < n := by omega
      go_wp2_with (go_at_call 100; refine ((HM _).out).mono ?_; rintro e w' ⟨rfl, rfl⟩)
      go_round
      case rel => exact ⟨k + 1, by omega, by go_num⟩
      case measure => simp [intOf]; omega
    · obtain rfl : k = n := by omega
      go_wp2
      go_ret
      exact ⟨rfl, rfl⟩
theorem contains_none (B : Option Addr) (n d : Nat) (l : List Nat) (w : World) (hn : l.length = n) (hb : Rd w B (flt l)) (hnb : n ≤ 4000000000) (h : ∀ k, k < n → lt (l.getD k 0) 0 = false) :
    Calls Try.prog 99 #[.slice B n d, .func (.func 100) #[] #[]] w fun e w' => e = .returned (.bool false) ∧ w = w' := by
  have HI := fun w h1 => hidA (index_none B n d l w hn h1 hnb h)
  go_enter Try.func99, Try.ntmps99
  go_wp2_with fail
  refine ((HI _ hb).out).mono ?_
  rintro e w' ⟨rfl, rfl⟩
  go_wp2
  go_ret
  exact ⟨rfl, rfl⟩

/-- what melts of a cell -/
def meltN (d wm x : Nat) : Int := (floatToIntVal .f32 (floorB (goneF d (leftP d wm x))) .i64).getD 0
theorem melt_one {d wm x : Nat} (hd : Bd 20 d) (hw : Bd 20 wm) (hx : Bd 20 x) (hw0 : 0 ≤ valI wm) (hd0 : 0 ≤ valI d) :
    (∃ a b, Meet (goneF d (leftP d wm x)) a b (meltN d wm x)) ∧ ∃ a b, Meet (goneF d (leftR d wm x)) a b (meltN d wm x) := by
  obtain ⟨n, ⟨a, b, h1⟩, h2⟩ := melt_meet hd hw hx hw0 hd0
  have e : meltN d wm x = n := by unfold meltN; rw [h1.i1]; rfl
  rw [e]
  exact ⟨⟨a, b, h1⟩, h2⟩
def meltE (wm : Nat) : Int := if numE [wm] ≠ 0 then numE [wm] else if lt wm 0 = true then 3 else 0

/-- what Melt holds in memory -/
structure MW (W0 w : World) (hf hg hz ho g cap gi : Nat) (X Y : Int) (Wn Hn N : Nat) (A : Option Addr) (c : Nat) (B : Option Addr) (c' : Nat) (cur : Array Value) (F : Nat → Nat) (I : Nat → Int) : Prop where
  fb : Bk w hf 26 #[.int .i64 X, .int .i64 Y, .int .i64 (Wn : Int), .int .i64 (Hn : Int), .slice A N c]
  gb : Bk w hg 26 #[.int .i64 X, .int .i64 Y, .int .i64 (Wn : Int), .int .i64 (Hn : Int), .slice B N c']
  zb : Bk w hz 26 #[.int .i64 0, .int .i64 0, .int .i64 0, .int .i64 0, .slice none 0 0]
  ob : Bk w ho 26 #[.int .i64 X, .int .i64 Y, .int .i64 (Wn : Int), .int .i64 (Hn : Int), .slice (some ⟨g, 0, none⟩) N cap]
  cl : Cl w g cap cur N F
  ib : Bk w gi 3 (intB N I)
  ext : Ext W0 w
  b1 : W0.heap.size ≤ g
  b2 : W0.heap.size ≤ hz
  b3 : W0.heap.size ≤ gi
section
variable {W0 w : World} {hf hg hz ho g cap gi : Nat} {X Y : Int} {Wn Hn N : Nat} {A B : Option Addr} {c c' : Nat} {cur : Array Value} {F : Nat → Nat} {I : Nat → Int}
theorem MW.step (h : MW W0 w hf hg hz ho g cap gi X Y Wn Hn N A c B c' cur F I) {w' : World} (hx : Ext w w') : MW W0 w' hf hg hz ho g cap gi X Y Wn Hn N A c B c' cur F I :=
  ⟨h.fb.ext hx, h.gb.ext hx, h.zb.ext hx, h.ob.ext hx, h.cl.ext hx, h.ib.ext hx, h.ext.trans hx, h.b1, h.b2, h.b3⟩
theorem MW.putF (h : MW W0 w hf hg hz ho g cap gi X Y Wn Hn N A c B c' cur F I) (k x : Nat) : MW W0 (w.setCell ⟨g, k, none⟩ (.float .f32 x)) hf hg hz ho g cap gi X Y Wn Hn N A c B c' (cur.setIfInBounds k (.float .f32 x)) (updF F k x) I :=
  ⟨h.fb.far (Bk.ne h.fb h.cl.b (by decide)) _, h.gb.far (Bk.ne h.gb h.cl.b (by decide)) _, h.zb.far (Bk.ne h.zb h.cl.b (by decide)) _, h.ob.far (Bk.ne h.ob h.cl.b (by decide)) _, h.cl.put k x, h.ib.far (Bk.ne h.ib h.cl.b (by decide)) _, h.ext.setCell h.b1 _, h.b1, h.b2, h.b3⟩
theorem MW.putI (h : MW W0 w hf hg hz ho g cap gi X Y Wn Hn N A c B c' cur F I) (k : Nat) (x : Int) : MW W0 (w.setCell ⟨gi, k, none⟩ (.int .i64 x)) hf hg hz ho g cap gi X Y Wn Hn N A c B c' cur F (updF I k x) := by
  have e1 := Bk.set h.ib k (.int .i64 x)
  rw [intB_set] at e1
  exact ⟨h.fb.far (Bk.ne h.fb h.ib (by decide)) _, h.gb.far (Bk.ne h.gb h.ib (by decide)) _, h.zb.far (Bk.ne h.zb h.ib (by decide)) _, h.ob.far (Bk.ne h.ob h.ib (by decide)) _, h.cl.far (Bk.ne h.cl.b h.ib (by decide)) _, e1, h.ext.setCell h.b3 _, h.b1, h.b2, h.b3⟩
end

set_option maxRecDepth 100000 in
set_option maxHeartbeats 6400000 in
theorem Melt_ok (X Y : Int) (Wn Hn N : Nat) (A : Option Addr) (c : Nat) (l : List Nat) (B : Option Addr) (c' : Nat) (s : List Nat) (wm : Nat) (w : World) (hr : Reg X Y Wn Hn) (hN : N = Wn * Hn) (hl : l.length = N) (hV : Rd w A (flt l)) (hf : fieldE X Y Wn Hn l = 0)
    (hsl : s.length = N) (hS : Rd w B (flt s)) (hfs : fieldE X Y Wn Hn s = 0) (hs0 : ∀ k, k < N → 0 ≤ valI (s.getD k 0)) (hE : meltE wm = 0) :
    Calls Try.prog 43 #[.agg #[.int .i64 X, .int .i64 Y, .int .i64 (Wn : Int), .int .i64 (Hn : Int), .slice A N c], .agg #[.int .i64 X, .int .i64 Y, .int .i64 (Wn : Int), .int .i64 (Hn : Int), .slice B N c'], .float .f32 wm] w fun e w' => ∃ g cap gi, e = .returned (.tuple #[.agg #[.int .i64 X, .int .i64 Y, .int .i64 (Wn : Int), .int .i64 (Hn : Int), .slice (some ⟨g, 0, none⟩) N cap], .slice (some ⟨gi, 0, none⟩) N N, .int .i64 0]) ∧
      Rd w' (some ⟨g, 0, none⟩) (flt ((List.range N).map fun k => leftP (s.getD k 0) wm (l.getD k 0))) ∧ Bk w' gi 3 (intB N fun k => meltN (s.getD k 0) wm (l.getD k 0)) ∧ Ext w w' := by
  have hN6 : N ≤ 65536 := by rw [hN]; exact hr.n
  have hN1 : 1 ≤ N := by rw [hN]; exact Nat.mul_pos hr.w1 hr.h1
  have hbd : ∀ (q : List Nat), q.length = N → fieldE X Y Wn Hn q = 0 → ∀ j, j < N → Bd 20 (q.getD j 0) := fun q hq hfq j hj => by
    have hnum : numE q = 0 := by
      have hr0 : regE X Y Wn Hn = 0 := by
        unfold fieldE at hfq
        split at hfq
        · rename_i h; exact absurd hfq h
        · rename_i h; simpa using h
      rw [← hfq, fieldE_num hr0 (by rw [hq, hN, Int.natCast_mul])]
    have hjl : j < q.length := by omega
    have e : q.getD j 0 = q[j] := by simp [List.getD_eq_getElem?_getD, hjl]
    rw [e]
    exact hgt_bd ((numE_zero hnum).2 _ (List.getElem_mem hjl))
  have hh := hbd l hl hf
  have hg := hbd s hsl hfs
  clear hbd
  have hnw : numE [wm] = 0 ∧ lt wm 0 = false := by
    unfold meltE at hE
    by_cases h1 : numE [wm] = 0
    · rw [if_neg (fun h2 => h2 h1)] at hE
      refine ⟨h1, ?_⟩
      cases h2 : lt wm 0
      · rfl
      · rw [h2] at hE
        cases hE
    · rw [if_pos h1] at hE
      exact absurd hE h1
  have hw : Bd 20 wm := hgt_bd ((numE_zero hnw.1).2 wm (by simp))
  have hw0 : 0 ≤ valI wm := by
    have h2 := hnw.2
    rw [lt_val (bd_Fin hw (by omega)) fin_zero, val_zero] at h2
    simpa using h2
  have HA := fun (D : Option Addr) (w : World) (h1 : Rd w A (flt l)) (h2 : Rd w B (flt s)) (hB : Rd w D [.int .i64 X, .int .i64 Y, .int .i64 (Wn : Int), .int .i64 (Hn : Int), .slice A N c, .int .i64 X, .int .i64 Y, .int .i64 (Wn : Int), .int .i64 (Hn : Int), .slice B N c']) => hidA (checkAll_any X Y Wn Hn X Y Wn Hn A B D N c N c' l s w hl hsl h1 h2 (by omega) (by omega) hB)
  have hz0 : firstE [(0 : Int), 0] = 0 := rfl
  rw [hf, hfs, hz0] at HA
  have HH := fun (D : Option Addr) (w : World) (h : Rd w D (flt [wm])) => hidA (heights_any D 1 1 [wm] w rfl h (by omega))
  rw [hnw.1] at HH
  have HCo := fun (w : World) (h : Rd w B (flt s)) => hidA (contains_none B N c' s w hsl h (by omega) (fun k hk => by
    rw [lt_val (bd_Fin (hg k hk) (by omega)) fin_zero, val_zero]
    have := hs0 k hk
    simpa using this))
  have hwl : (FloatKind.f32.format.order wm 0 == some .lt) = false := hnw.2
  obtain ⟨ad, hA, _, _⟩ := hV.at (k := 0) (by rw [flt_length]; omega)
  subst hA
  obtain ⟨bd, hB, _, _⟩ := hS.at (k := 0) (by rw [flt_length]; omega)
  subst hB
  have HY := fun (w : World) (h : Rd w (some bd) (flt s)) => hidA (Copy_any X Y Wn Hn N c' bd s w hsl h hN1 (by omega))
  have mi := mk_int N (by omega)
  have HX := fun (k : Nat) (hk : k < N) => hidA (on_ok (hh k hk))
  have HRs := fun (k : Nat) (hk : k < N) => hidA (rest_ok (hg k hk) hw (hh k hk) hw0)
  have HLo := fun (k : Nat) (hk : k < N) => hidA (left_ok (hg k hk) hw (hh k hk) hw0 (hs0 k hk))
  have HGo := fun (k : Nat) (hk : k < N) => hidA (gone_ok (hg k hk) (left_ok (hg k hk) hw (hh k hk) hw0 (hs0 k hk)).2.1 (by rw [(left_ok (hg k hk) hw (hh k hk) hw0 (hs0 k hk)).1]; exact (left_ok (hg k hk) hw (hh k hk) hw0 (hs0 k hk)).2.2.2))
  have HMe := fun (k : Nat) (hk : k < N) => hidA (melt_one (hg k hk) hw (hh k hk) hw0 (hs0 k hk)).1
  have Hl := hidA hl
  have Hsl := hidA hsl
  clear hr hN hl hsl hf hfs hs0 hE hnw hw hw0 hh hg hz0
  go_enter Try.func43, Try.ntmps43
  have kF0 : Bk (((w.alloc (.cells #[.int .i64 X, .int .i64 Y, .int .i64 (Wn : Int), .int .i64 (Hn : Int), .slice (some ad) N c] 26)).alloc (.cells #[.int .i64 X, .int .i64 Y, .int .i64 (Wn : Int), .int .i64 (Hn : Int), .slice (some bd) N c'] 26)).alloc (.cells #[.int .i64 0, .int .i64 0, .int .i64 0, .int .i64 0, .slice none 0 0] 26)) w.heap.size 26 #[.int .i64 X, .int .i64 Y, .int .i64 (Wn : Int), .int .i64 (Hn : Int), .slice (some ad) N c] := ((Bk.new' rfl).alloc _).alloc _
  have kG0 : Bk (((w.alloc (.cells #[.int .i64 X, .int .i64 Y, .int .i64 (Wn : Int), .int .i64 (Hn : Int), .slice (some ad) N c] 26)).alloc (.cells #[.int .i64 X, .int .i64 Y, .int .i64 (Wn : Int), .int .i64 (Hn : Int), .slice (some bd) N c'] 26)).alloc (.cells #[.int .i64 0, .int .i64 0, .int .i64 0, .int .i64 0, .slice none 0 0] 26)) (w.heap.size + 1) 26 #[.int .i64 X, .int .i64 Y, .int .i64 (Wn : Int), .int .i64 (Hn : Int), .slice (some bd) N c'] := (Bk.new' (by simp)).alloc _
  have kZ0 : Bk (((w.alloc (.cells #[.int .i64 X, .int .i64 Y, .int .i64 (Wn : Int), .int .i64 (Hn : Int), .slice (some ad) N c] 26)).alloc (.cells #[.int .i64 X, .int .i64 Y, .int .i64 (Wn : Int), .int .i64 (Hn : Int), .slice (some bd) N c'] 26)).alloc (.cells #[.int .i64 0, .int .i64 0, .int .i64 0, .int .i64 0, .slice none 0 0] 26)) (w.heap.size + 1 + 1) 26 #[.int .i64 0, .int .i64 0, .int .i64 0, .int .i64 0, .slice none 0 0] := Bk.new' (by simp)
  have hx0 : Ext w (((w.alloc (.cells #[.int .i64 X, .int .i64 Y, .int .i64 (Wn : Int), .int .i64 (Hn : Int), .slice (some ad) N c] 26)).alloc (.cells #[.int .i64 X, .int .i64 Y, .int .i64 (Wn : Int), .int .i64 (Hn : Int), .slice (some bd) N c'] 26)).alloc (.cells #[.int .i64 0, .int .i64 0, .int .i64 0, .int .i64 0, .slice none 0 0] 26)) := (((Ext.refl w).alloc _).alloc _).alloc _
  go_upto_region 1 with fail
  generalize ((w.alloc (.cells #[.int .i64 X, .int .i64 Y, .int .i64 (Wn : Int), .int .i64 (Hn : Int), .slice (some ad) N c] 26)).alloc (.cells #[.int .i64 X, .int .i64 Y, .int .i64 (Wn : Int), .int .i64 (Hn : Int), .slice (some bd) N c'] 26)).alloc (.cells #[.int .i64 0, .int .i64 0, .int .i64 0, .int .i64 0, .slice none 0 0] 26) = w0 at *
  have hz1 : w.heap.size ≤ w.heap.size + 1 + 1 := by omega
  generalize w.heap.size + 1 + 1 = hz at *
  generalize w.heap.size + 1 = hgg at *
  have b0 := kF0.cell 0
  have b1 := kF0.cell 1
  have b2 := kF0.cell 2
  have b3 := kF0.cell 3
  have b4 := kF0.cell 4
  have d0 := kG0.cell 0
  have d1 := kG0.cell 1
  have d2 := kG0.cell 2
  have d3 := kG0.cell 3
  have d4 := kG0.cell 4
  go_upto_region 4 with (go_at_call 98; refine ((HA _ _ (hV.ext (hx0.trans (by repeat (first | exact Ext.refl _ | assumption | refine Ext.setCell ?_ (by first | (simp; done) | (simp; omega)) _ | refine Ext.drewN ?_ _ | refine Ext.alloc ?_ _ | refine Ext.drew ?_ | refine Ext.trans ?_ (by assumption))))) (hS.ext (hx0.trans (by repeat (first | exact Ext.refl _ | assumption | refine Ext.setCell ?_ (by first | (simp; done) | (simp; omega)) _ | refine Ext.drewN ?_ _ | refine Ext.alloc ?_ _ | refine Ext.drew ?_ | refine Ext.trans ?_ (by assumption))))) (Rd.new (by first | rfl | simp) (by first | rfl | simp))).out).mono ?_; rintro e w1 ⟨rfl, hx1⟩)
  have hx1' : Ext w0 w1 := Ext.trans (by repeat (first | exact Ext.refl _ | assumption | refine Ext.setCell ?_ (by first | (simp; done) | (simp; omega)) _ | refine Ext.drewN ?_ _ | refine Ext.alloc ?_ _ | refine Ext.drew ?_ | refine Ext.trans ?_ (by assumption))) hx1
  have kF1 := kF0.ext hx1'
  have kG1 := kG0.ext hx1'
  have kZ1 := kZ0.ext hx1'
  have hxw1 := hx0.trans hx1'
  clear b0 b1 b2 b3 b4 d0 d1 d2 d3 d4 kF0 kG0 kZ0 hx0 HA hx1 hx1'
  go_upto_region 7 with (go_at_call 81; refine ((HH _ _ (Rd.new (by first | rfl | simp) (by first | rfl | simp))).out).mono ?_; rintro e w2 ⟨rfl, hw2⟩)
  have hx2 : Ext w1 w2 := by rw [← hw2]; (repeat (first | exact Ext.refl _ | assumption | refine Ext.setCell ?_ (by first | (simp; done) | (simp; omega)) _ | refine Ext.drewN ?_ _ | refine Ext.alloc ?_ _ | refine Ext.drew ?_ | refine Ext.trans ?_ (by assumption)))
  have kF2 := kF1.ext hx2
  have kG2 := kG1.ext hx2
  have kZ2 := kZ1.ext hx2
  have hxw2 := hxw1.trans hx2
  clear kF1 kG1 kZ1 hxw1 hw2 hx2 HH
  have b0 := kF2.cell 0
  have b1 := kF2.cell 1
  have b2 := kF2.cell 2
  have b3 := kF2.cell 3
  have d0 := kG2.cell 0
  have d1 := kG2.cell 1
  have d2 := kG2.cell 2
  have d3 := kG2.cell 3
  have d4 := kG2.cell 4
  go_upto_region 11 with (go_at_call 99; refine ((HCo _ (hS.ext hxw2)).out).mono ?_; rintro e w' ⟨rfl, hw'⟩; subst hw')
  go_upto_region 12 with (go_at_call 90; refine ((HY _ (hS.ext hxw2)).out).mono ?_; rintro e w3 ⟨g, cap, cur, rfl, hge, hC, hx3⟩)
  have hxa : Ext w3 ((w3.alloc (.cells #[.int .i64 X, .int .i64 Y, .int .i64 (Wn : Int), .int .i64 (Hn : Int), .slice (some ⟨g, 0, none⟩) N cap] 26)).alloc (.cells (intB N fun _ => 0) 3)) := ((Ext.refl w3).alloc _).alloc _
  have hMW : MW w ((w3.alloc (.cells #[.int .i64 X, .int .i64 Y, .int .i64 (Wn : Int), .int .i64 (Hn : Int), .slice (some ⟨g, 0, none⟩) N cap] 26)).alloc (.cells (intB N fun _ => 0) 3)) w.heap.size hgg hz w3.heap.size g cap (w3.heap.size + 1) X Y Wn Hn N (some ad) c (some bd) c' cur (fun k => s.getD k 0) (fun _ => 0) :=
    ⟨(kF2.ext hx3).ext hxa, (kG2.ext hx3).ext hxa, (kZ2.ext hx3).ext hxa, (Bk.new' rfl).alloc _, hC.ext hxa, Bk.new' (by simp), (hxw2.trans hx3).trans hxa, by have := hxw2.size; omega, hz1, by have := hxw2.size; have := hx3.size; omega⟩
  have d4' := ((kG2.ext hx3).alloc (.cells #[.int .i64 X, .int .i64 Y, .int .i64 (Wn : Int), .int .i64 (Hn : Int), .slice (some ⟨g, 0, none⟩) N cap] 26)).cell 4
  clear b0 b1 b2 b3 d0 d1 d2 d3 d4 kF2 kG2 kZ2 hxw2 hx3 hC HY hge hxa HCo hwl hz1
  go_upto_region 13 with fail
  generalize (w3.alloc (.cells #[.int .i64 X, .int .i64 Y, .int .i64 (Wn : Int), .int .i64 (Hn : Int), .slice (some ⟨g, 0, none⟩) N cap] 26)).alloc (.cells (intB N fun _ => 0) 3) = w4 at *
  generalize w3.heap.size + 1 = gi at *
  generalize w3.heap.size = ho at *
  clear d4' mi
  have d4 := hMW.gb.cell 4
  go_wp2_with fail
  clear d4
  go_loopw [56] (fun s56 wr => ∃ (k : Nat) (cur : Array Value) (F : Nat → Nat) (I : Nat → Int), k ≤ N ∧ s56 = .int .i64 k ∧ MW w wr w.heap.size hgg hz ho g cap gi X Y Wn Hn N (some ad) c (some bd) c' cur F I ∧ (∀ j, j < k → F j = leftP (s.getD j 0) wm (l.getD j 0) ∧ I j = meltN (s.getD j 0) wm (l.getD j 0))) (fun s56 _ => N - (intOf s56).toNat)
  case atStart => exact ⟨0, _, _, _, Nat.zero_le _, rfl, hMW, fun j h => by omega⟩
  case round =>
    clear hMW
    obtain ⟨k, cur, F, I, hk, rfl, hMW, hfk⟩ := hrel
    have Hfk := hidA hfk
    clear hfk
    by_cases hkN : k < N
    · have hkl : k < l.length := by rw [Hl.out]; exact hkN
      have hks : k < s.length := by rw [Hsl.out]; exact hkN
      have cs : wr.cell? (bd.add k) = some (.float .f32 (s.getD k 0)) := by
        refine (hS.ext hMW.ext).get ?_
        simp [flt, hks, List.getD_eq_getElem?_getD]
      have clx : wr.cell? (ad.add k) = some (.float .f32 (l.getD k 0)) := by
        refine (hV.ext hMW.ext).get ?_
        simp [flt, hkl, List.getD_eq_getElem?_getD]
      have ca := fun (w' : World) (h : Ext wr w') => ((hV.ext hMW.ext).ext h).get (j := k) (u := .float .f32 (l.getD k 0)) (by simp [flt, hkl, List.getD_eq_getElem?_getD])
      have Hst := hidA (show leftP (s.getD k 0) wm (l.getD k 0) = if lt (restF (s.getD k 0) wm (l.getD k 0)) 0 = true then 0 else restF (s.getD k 0) wm (l.getD k 0) from rfl)
      have HX2 := hidA (HX k hkN).out
      obtain ⟨x1, _, _, _⟩ := HX2.out
      obtain ⟨r1, r2, _, _⟩ := (HRs k hkN).out
      obtain ⟨g1, g2, _⟩ := (HGo k hkN).out
      obtain ⟨ma, mb, hmm⟩ := (HMe k hkN).out
      have HFl := fun (w : World) => hidA (floorM_any hmm w)
      have hi1 := hmm.i1
      have c3 := fun (w : World) => run_convert_float_int (P := Try.prog) w 27 3 .f32 .i64 _ _ (by kernel_rfl) Try.underlying3 hi1
      have hgt : (FloatKind.f32.format.order (l.getD k 0) 0 == some .gt) = gt (l.getD k 0) 0 := rfl
      have hlt : (FloatKind.f32.format.order (restF (s.getD k 0) wm (l.getD k 0)) 0 == some .lt) = lt (restF (s.getD k 0) wm (l.getD k 0)) 0 := rfl
      have hab : aboveF (l.getD k 0) = if gt (l.getD k 0) 0 = true then l.getD k 0 else 0 := rfl
      clear HX HX2 HRs HLo HGo HMe hmm hi1
      have Hmn := hidA (rfl : meltN (s.getD k 0) wm (l.getD k 0) = meltN (s.getD k 0) wm (l.getD k 0))
      generalize hmn : meltN (s.getD k 0) wm (l.getD k 0) = mn at c3
      have Hmn2 := hidA hmn
      clear hmn Hmn
      generalize hlp : leftP (s.getD k 0) wm (l.getD k 0) = lp at *
      have Hlp := hidA hlp
      clear hlp
      generalize restF (s.getD k 0) wm (l.getD k 0) = rs at *
      generalize onF (upF (l.getD k 0)) = on at *
      generalize goneF (s.getD k 0) lp = gn at *
      generalize fsub (s.getD k 0) lp = gs at *
      generalize fdiv wm on = tw at *
      have q2 := fun (w : World) => run_float_arith (P := Try.prog) w .quo 27 .f32 _ _ _ r1
      have q3 := fun (w : World) => run_float_arith (P := Try.prog) w .sub 27 .f32 _ _ _ r2
      have q4 := fun (w : World) => run_float_arith (P := Try.prog) w .sub 27 .f32 _ _ _ g1
      have q5 := fun (w : World) => run_float_arith (P := Try.prog) w .mul 27 .f32 _ _ _ g2
      clear r1 r2 g1 g2
      have i0 : (0 : Int) ≤ k := by omega
      have i1 : (k : Int) < N := by omega
      have c4 := hMW.fb.cell 4
      have o4 := hMW.ob.cell 4
      have g0 := hMW.cl.cell hkN
      have g1 := hMW.cl.b.frozen k
      have hP := hMW.putF k lp
      have h0 := hP.ib.cell k
      rw [intB_get _ hkN] at h0
      have h1 := hP.ib.frozen k
      have hP2 := hidA (hP.putI k mn)
      have Hfin := hidA (show ∀ j, j < k + 1 → updF F k lp j = leftP (s.getD j 0) wm (l.getD j 0) ∧ updF I k mn j = meltN (s.getD j 0) wm (l.getD j 0) from fun j hj => by
        by_cases hjk : j = k
        · subst hjk
          rw [updF_same, updF_same, Hlp.out, Hmn2.out]
          exact ⟨rfl, rfl⟩
        · rw [updF_ne _ _ hjk, updF_ne _ _ hjk]
          exact Hfk.out j (by omega))
      clear hMW hP Hfk Hlp Hmn2
      generalize s.getD k 0 = sv at *
      generalize l.getD k 0 = x at *
      cases hb1 : gt x 0
      all_goals
        rw [hb1] at hgt hab
        simp only [if_true, if_false, Bool.false_eq_true] at hab
        rw [hab] at x1
        have q1 := fun (w : World) => run_float_arith (P := Try.prog) w .add 27 .f32 _ _ _ x1
        clear hb1 hab x1
        cases hb2 : lt rs 0
        all_goals
          have Hst2 := hidA Hst.out
          rw [hb2] at hlt Hst2
          simp only [if_true, if_false, Bool.false_eq_true] at Hst2
          have e9 := Hst2.out
          clear hb2 Hst Hst2
          subst e9
          go_wp2_with (go_at_call 101; refine ((HFl _).out).mono ?_; rintro e w6 ⟨rfl, rfl⟩)
          go_roundw
          case rel => exact ⟨k + 1, _, _, _, by omega, by go_num, hP2.out, Hfin.out⟩
          case measure => simp [intOf]; omega
    · have hkN' : k = N := by omega
      subst hkN'
      have o0 := hMW.ob.cell 0
      have o1 := hMW.ob.cell 1
      have o2 := hMW.ob.cell 2
      have o3 := hMW.ob.cell 3
      have o4 := hMW.ob.cell 4
      have z0 := hMW.zb.cell 0
      have z1 := hMW.zb.cell 1
      have z2 := hMW.zb.cell 2
      have z3 := hMW.zb.cell 3
      have z4 := hMW.zb.cell 4
      have y0 := hMW.zb.frozen 0
      have y1 := hMW.zb.frozen 1
      have y2 := hMW.zb.frozen 2
      have y3 := hMW.zb.frozen 3
      have y4 := hMW.zb.frozen 4
      have hgz : g ≠ hz := Bk.ne hMW.cl.b hMW.zb (by decide)
      have hiz : gi ≠ hz := Bk.ne hMW.ib hMW.zb (by decide)
      have hzw := hMW.b2
      have hC5 := hidA (((((hMW.cl.far (p := ⟨hz, 0, none⟩) hgz (.int .i64 X)).far (p := ⟨hz, 1, none⟩) hgz (.int .i64 Y)).far (p := ⟨hz, 2, none⟩) hgz (.int .i64 (Wn : Int))).far (p := ⟨hz, 3, none⟩) hgz (.int .i64 (Hn : Int))).far (p := ⟨hz, 4, none⟩) hgz (.slice (some ⟨g, 0, none⟩) k cap))
      have hI5 := hidA (((((hMW.ib.far (p := ⟨hz, 0, none⟩) hiz (.int .i64 X)).far (p := ⟨hz, 1, none⟩) hiz (.int .i64 Y)).far (p := ⟨hz, 2, none⟩) hiz (.int .i64 (Wn : Int))).far (p := ⟨hz, 3, none⟩) hiz (.int .i64 (Hn : Int))).far (p := ⟨hz, 4, none⟩) hiz (.slice (some ⟨g, 0, none⟩) k cap))
      have hx5 := hidA (((((hMW.ext.setCell (p := ⟨hz, 0, none⟩) hzw (.int .i64 X)).setCell (p := ⟨hz, 1, none⟩) hzw (.int .i64 Y)).setCell (p := ⟨hz, 2, none⟩) hzw (.int .i64 (Wn : Int))).setCell (p := ⟨hz, 3, none⟩) hzw (.int .i64 (Hn : Int))).setCell (p := ⟨hz, 4, none⟩) hzw (.slice (some ⟨g, 0, none⟩) k cap))
      have Hfk2 := hidA Hfk.out
      clear HX HRs HLo HGo HMe hMW Hfk
      go_wp2_with fail
      refine bodyPost_ret (v := .tuple #[.agg #[.int .i64 X, .int .i64 Y, .int .i64 (Wn : Int), .int .i64 (Hn : Int), .slice (some ⟨g, 0, none⟩) k cap], .slice (some ⟨gi, 0, none⟩) k k, .int .i64 0]) (by simp [results, Try.results43, go_sem, z0, z1, z2, z3, z4]) rfl ?_
      refine ⟨g, cap, gi, rfl, hC5.out.rd (fun j hj => (Hfk2.out j hj).1), ?_, hx5.out⟩
      rw [← intB_congr fun j hj => (Hfk2.out j hj).2]
      exact hI5.out

set_option maxRecDepth 100000 in
set_option maxHeartbeats 6400000 in
theorem Melt_bad (X Y : Int) (Wn Hn N : Nat) (A : Option Addr) (c : Nat) (l : List Nat) (B : Option Addr) (c' : Nat) (s : List Nat) (wm : Nat) (w : World) (hr : Reg X Y Wn Hn) (hN : N = Wn * Hn) (hl : l.length = N) (hV : Rd w A (flt l)) (hf : fieldE X Y Wn Hn l = 0)
    (hsl : s.length = N) (hS : Rd w B (flt s)) (hfs : fieldE X Y Wn Hn s = 0) (hE : meltE wm ≠ 0) :
    Calls Try.prog 43 #[.agg #[.int .i64 X, .int .i64 Y, .int .i64 (Wn : Int), .int .i64 (Hn : Int), .slice A N c], .agg #[.int .i64 X, .int .i64 Y, .int .i64 (Wn : Int), .int .i64 (Hn : Int), .slice B N c'], .float .f32 wm] w fun e w' => e = .returned (.tuple #[.agg #[.int .i64 0, .int .i64 0, .int .i64 0, .int .i64 0, .slice none 0 0], .slice none 0 0, .int .i64 (meltE wm)]) ∧ Ext w w' := by
  have hN6 : N ≤ 65536 := by rw [hN]; exact hr.n
  have HA := fun (D : Option Addr) (w : World) (h1 : Rd w A (flt l)) (h2 : Rd w B (flt s)) (hB : Rd w D [.int .i64 X, .int .i64 Y, .int .i64 (Wn : Int), .int .i64 (Hn : Int), .slice A N c, .int .i64 X, .int .i64 Y, .int .i64 (Wn : Int), .int .i64 (Hn : Int), .slice B N c']) => hidA (checkAll_any X Y Wn Hn X Y Wn Hn A B D N c N c' l s w hl hsl h1 h2 (by omega) (by omega) hB)
  have hz0 : firstE [(0 : Int), 0] = 0 := rfl
  rw [hf, hfs, hz0] at HA
  have HH := fun (D : Option Addr) (w : World) (h : Rd w D (flt [wm])) => hidA (heights_any D 1 1 [wm] w rfl h (by omega))
  have hwl : (FloatKind.f32.format.order wm 0 == some .lt) = lt wm 0 := rfl
  have HE := hidA (show meltE wm = if numE [wm] ≠ 0 then numE [wm] else if lt wm 0 = true then 3 else 0 from rfl)
  have kF0 : Bk (((w.alloc (.cells #[.int .i64 X, .int .i64 Y, .int .i64 (Wn : Int), .int .i64 (Hn : Int), .slice A N c] 26)).alloc (.cells #[.int .i64 X, .int .i64 Y, .int .i64 (Wn : Int), .int .i64 (Hn : Int), .slice B N c'] 26)).alloc (.cells #[.int .i64 0, .int .i64 0, .int .i64 0, .int .i64 0, .slice none 0 0] 26)) w.heap.size 26 #[.int .i64 X, .int .i64 Y, .int .i64 (Wn : Int), .int .i64 (Hn : Int), .slice A N c] := ((Bk.new' rfl).alloc _).alloc _
  have kG0 : Bk (((w.alloc (.cells #[.int .i64 X, .int .i64 Y, .int .i64 (Wn : Int), .int .i64 (Hn : Int), .slice A N c] 26)).alloc (.cells #[.int .i64 X, .int .i64 Y, .int .i64 (Wn : Int), .int .i64 (Hn : Int), .slice B N c'] 26)).alloc (.cells #[.int .i64 0, .int .i64 0, .int .i64 0, .int .i64 0, .slice none 0 0] 26)) (w.heap.size + 1) 26 #[.int .i64 X, .int .i64 Y, .int .i64 (Wn : Int), .int .i64 (Hn : Int), .slice B N c'] := (Bk.new' (by simp)).alloc _
  have kZ0 : Bk (((w.alloc (.cells #[.int .i64 X, .int .i64 Y, .int .i64 (Wn : Int), .int .i64 (Hn : Int), .slice A N c] 26)).alloc (.cells #[.int .i64 X, .int .i64 Y, .int .i64 (Wn : Int), .int .i64 (Hn : Int), .slice B N c'] 26)).alloc (.cells #[.int .i64 0, .int .i64 0, .int .i64 0, .int .i64 0, .slice none 0 0] 26)) (w.heap.size + 1 + 1) 26 #[.int .i64 0, .int .i64 0, .int .i64 0, .int .i64 0, .slice none 0 0] := Bk.new' (by simp)
  have hx0 : Ext w (((w.alloc (.cells #[.int .i64 X, .int .i64 Y, .int .i64 (Wn : Int), .int .i64 (Hn : Int), .slice A N c] 26)).alloc (.cells #[.int .i64 X, .int .i64 Y, .int .i64 (Wn : Int), .int .i64 (Hn : Int), .slice B N c'] 26)).alloc (.cells #[.int .i64 0, .int .i64 0, .int .i64 0, .int .i64 0, .slice none 0 0] 26)) := (((Ext.refl w).alloc _).alloc _).alloc _
  have hz1 : w.heap.size ≤ w.heap.size + 1 + 1 := by omega
  generalize numE [wm] = f at *
  generalize meltE wm = E at *
  generalize lt wm 0 = B1 at *
  clear hr hN hl hsl hf hfs hz0 hN6
  go_enter Try.func43, Try.ntmps43
  go_upto_region 1 with fail
  generalize ((w.alloc (.cells #[.int .i64 X, .int .i64 Y, .int .i64 (Wn : Int), .int .i64 (Hn : Int), .slice A N c] 26)).alloc (.cells #[.int .i64 X, .int .i64 Y, .int .i64 (Wn : Int), .int .i64 (Hn : Int), .slice B N c'] 26)).alloc (.cells #[.int .i64 0, .int .i64 0, .int .i64 0, .int .i64 0, .slice none 0 0] 26) = w0 at *
  generalize w.heap.size + 1 + 1 = hz at *
  generalize w.heap.size + 1 = hgg at *
  have b0 := kF0.cell 0
  have b1 := kF0.cell 1
  have b2 := kF0.cell 2
  have b3 := kF0.cell 3
  have b4 := kF0.cell 4
  have d0 := kG0.cell 0
  have d1 := kG0.cell 1
  have d2 := kG0.cell 2
  have d3 := kG0.cell 3
  have d4 := kG0.cell 4
  go_upto_region 4 with (go_at_call 98; refine ((HA _ _ (hV.ext (hx0.trans (by repeat (first | exact Ext.refl _ | assumption | refine Ext.setCell ?_ (by first | (simp; done) | (simp; omega)) _ | refine Ext.drewN ?_ _ | refine Ext.alloc ?_ _ | refine Ext.drew ?_ | refine Ext.trans ?_ (by assumption))))) (hS.ext (hx0.trans (by repeat (first | exact Ext.refl _ | assumption | refine Ext.setCell ?_ (by first | (simp; done) | (simp; omega)) _ | refine Ext.drewN ?_ _ | refine Ext.alloc ?_ _ | refine Ext.drew ?_ | refine Ext.trans ?_ (by assumption))))) (Rd.new (by first | rfl | simp) (by first | rfl | simp))).out).mono ?_; rintro e w1 ⟨rfl, hx1⟩)
  have hx1' : Ext w0 w1 := Ext.trans (by repeat (first | exact Ext.refl _ | assumption | refine Ext.setCell ?_ (by first | (simp; done) | (simp; omega)) _ | refine Ext.drewN ?_ _ | refine Ext.alloc ?_ _ | refine Ext.drew ?_ | refine Ext.trans ?_ (by assumption))) hx1
  have kF1 := kF0.ext hx1'
  have kG1 := kG0.ext hx1'
  have kZ1 := kZ0.ext hx1'
  have hxw1 := hx0.trans hx1'
  clear b0 b1 b2 b3 b4 d0 d1 d2 d3 d4 kF0 kG0 kZ0 hx0 HA hx1 hx1'
  go_upto_region 5 with (go_at_call 81; refine ((HH _ _ (Rd.new (by first | rfl | simp) (by first | rfl | simp))).out).mono ?_; rintro e w2 ⟨rfl, hw2⟩)
  have hx2 : Ext w1 w2 := by rw [← hw2]; (repeat (first | exact Ext.refl _ | assumption | refine Ext.setCell ?_ (by first | (simp; done) | (simp; omega)) _ | refine Ext.drewN ?_ _ | refine Ext.alloc ?_ _ | refine Ext.drew ?_ | refine Ext.trans ?_ (by assumption)))
  have kF2 := kF1.ext hx2
  have kG2 := kG1.ext hx2
  have kZ2 := kZ1.ext hx2
  have hxw2 := hxw1.trans hx2
  clear kF1 kG1 kZ1 hxw1 hw2 hx2 HH
  have b0 := kF2.cell 0
  have b1 := kF2.cell 1
  have b2 := kF2.cell 2
  have b3 := kF2.cell 3
  have d0 := kG2.cell 0
  have d1 := kG2.cell 1
  have d2 := kG2.cell 2
  have d3 := kG2.cell 3
  have z0 := kZ2.cell 0
  have z1 := kZ2.cell 1
  have z2 := kZ2.cell 2
  have z3 := kZ2.cell 3
  have z4 := kZ2.cell 4
  have y0 := kZ2.frozen 0
  have y1 := kZ2.frozen 1
  have y2 := kZ2.frozen 2
  have y3 := kZ2.frozen 3
  have y4 := kZ2.frozen 4
  by_cases hf0 : f = 0
  · subst hf0
    have hB1 : B1 = true := by
      cases B1
      · exact absurd (by rw [HE.out]; rfl) hE
      · rfl
    subst hB1
    have hv : Hid (E = 3) := by show E = _; rw [HE.out]; rfl
    clear hE HE
    go_wp2_with fail
    refine bodyPost_ret (v := .tuple #[.agg #[.int .i64 0, .int .i64 0, .int .i64 0, .int .i64 0, .slice none 0 0], .slice none 0 0, .int .i64 3]) (by simp [results, Try.results43, go_sem, z0, z1, z2, z3, z4]) rfl ⟨by rw [hv.out], ?_⟩
    repeat (first | (with_reducible exact hxw2) | (with_reducible refine Ext.setCell ?_ (by assumption) _))
  · have hf' : (f != 0) = true := by simpa using hf0
    have hv : Hid (E = f) := by show E = _; rw [HE.out, if_pos hf0]
    clear hE HE hf0 hwl
    go_wp2_with fail
    refine bodyPost_ret (v := .tuple #[.agg #[.int .i64 0, .int .i64 0, .int .i64 0, .int .i64 0, .slice none 0 0], .slice none 0 0, .int .i64 f]) (by simp [results, Try.results43, go_sem, z0, z1, z2, z3, z4]) rfl ⟨by rw [hv.out], ?_⟩
    repeat (first | (with_reducible exact hxw2) | (with_reducible refine Ext.setCell ?_ (by assumption) _))
end Go.Proofs.Ytinohfgokpbcdaa
