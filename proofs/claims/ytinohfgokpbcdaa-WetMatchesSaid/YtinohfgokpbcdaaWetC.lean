/- The walk of the law WetMatches. -/
import Derived.Test.YtinohfgokpbcdaaWetB
namespace Go.Proofs.Ytinohfgokpbcdaa
open Go.RowKit
attribute [local go_sem ↓] Go.wp_at_zero Go.wp_at_succ
attribute [local go_sem] run_store_float

/-- the error that is wanted, after k numbers -/
def wantK (E0 : Int) (q : List Int) (k : Nat) : Int := if E0 ≠ 0 then E0 else if ∃ j, j < k ∧ (q.getD j 0 < 0 ∨ 1099511627776 < q.getD j 0) then 3 else 0
theorem wantK_zero (E0 : Int) (q : List Int) : wantK E0 q 0 = E0 := by
  unfold wantK
  by_cases h : E0 = 0
  · rw [if_neg (by simpa using h), if_neg (by rintro ⟨j, h1, _⟩; omega), h]
  · rw [if_pos h]
theorem first_two (a b : Int) : firstE [a, b] = if a ≠ 0 then a else b := by
  by_cases ha : a = 0
  · by_cases hb : b = 0 <;> simp [firstE, ha, hb]
  · simp [firstE, ha]
theorem wantK_nil (q : List Int) (k : Nat) : wantK 0 q k = if ∃ j, j < k ∧ (q.getD j 0 < 0 ∨ 1099511627776 < q.getD j 0) then 3 else 0 := by
  unfold wantK
  rw [if_neg (by decide)]
theorem wantK_old {E0 : Int} (h : E0 ≠ 0) (q : List Int) (k : Nat) : wantK E0 q k = E0 := by unfold wantK; rw [if_pos h]
theorem wantK_next (E0 : Int) (q : List Int) (k : Nat) : firstE [wantK E0 q k, if (!(decide (0 ≤ q.getD k 0) && decide (q.getD k 0 ≤ 1099511627776))) = true then 3 else 0] = wantK E0 q (k + 1) := by
  rw [first_two]
  by_cases h : E0 = 0
  · subst h
    have hz : (if (!(decide (0 ≤ q.getD k 0) && decide (q.getD k 0 ≤ 1099511627776))) = true then (3 : Int) else 0) = if q.getD k 0 < 0 ∨ 1099511627776 < q.getD k 0 then 3 else 0 := by
      generalize q.getD k 0 = n
      by_cases h : n < 0 ∨ 1099511627776 < n
      · have h2 : (!(decide (0 ≤ n) && decide (n ≤ 1099511627776))) = true := by
          by_cases h4 : 0 ≤ n <;> by_cases h5 : n ≤ 1099511627776 <;> simp [h4, h5] <;> omega
        rw [if_pos h, if_pos h2]
      · have h2 : ¬ (!(decide (0 ≤ n) && decide (n ≤ 1099511627776))) = true := by
          have h4 : 0 ≤ n := by omega
          have h5 : n ≤ 1099511627776 := by omega
          simp [h4, h5]
        rw [if_neg h, if_neg h2]
    rw [hz, wantK_nil, wantK_nil]
    by_cases h1 : ∃ j, j < k ∧ (q.getD j 0 < 0 ∨ 1099511627776 < q.getD j 0)
    · obtain ⟨j, h2, h3⟩ := h1
      have hA : (if ∃ j, j < k ∧ (q.getD j 0 < 0 ∨ 1099511627776 < q.getD j 0) then (3 : Int) else 0) = 3 := if_pos ⟨j, h2, h3⟩
      rw [hA, if_pos (by decide), if_pos ⟨j, by omega, h3⟩]
    · have hA : (if ∃ j, j < k ∧ (q.getD j 0 < 0 ∨ 1099511627776 < q.getD j 0) then (3 : Int) else 0) = 0 := if_neg h1
      rw [hA, if_neg (by decide)]
      by_cases h2 : q.getD k 0 < 0 ∨ 1099511627776 < q.getD k 0
      · rw [if_pos h2, if_pos ⟨k, by omega, h2⟩]
      · rw [if_neg h2, if_neg]
        rintro ⟨j, h3, h4⟩
        by_cases e : j = k
        · subst e; exact h2 h4
        · exact h1 ⟨j, by omega, h4⟩
  · rw [wantK_old h, wantK_old h, if_pos h]
theorem wantK_end (X Y W H : Int) (l : List Nat) (q : List Int) : wantK (firstE [fieldE X Y W H l, if q.length ≠ l.length then 2 else 0]) q q.length = wetE X Y W H l q := by
  rw [first_two]
  unfold wantK wetE numsE
  by_cases h : fieldE X Y W H l = 0
  · simp only [h, ne_eq, not_true_eq_false, if_false]
    by_cases h2 : q.length = l.length
    · simp [h2]
    · simp [h2]
  · simp [h]
set_option maxRecDepth 100000 in
set_option maxHeartbeats 6400000 in
theorem wet_bad_walk (X Y W H : Int) (N n : Nat) (A B : Option Addr) (c c' : Nat) (l : List Nat) (q : List Int) (w : World) (hl : l.length = N) (hn : q.length = n) (hV : Rd w A (flt l)) (hQ : Rd w B (intC q)) (hb : N ≤ 140737488351232) (hb2 : n ≤ 140737488351232) (hE : wetE X Y W H l q ≠ 0) :
    Calls Try.prog 6 #[.agg #[.int .i64 X, .int .i64 Y, .int .i64 W, .int .i64 H, .slice A N c], .slice B n c'] w fun e w' => e = .returned (.bool true) ∧ Ext w w' := by
  have HB := fun (w : World) (h : Rd w A (flt l)) (h2 : Rd w B (intC q)) => hidA (Wet_bad X Y W H N n A B c c' l q w hl hn h h2 hb hb2 hE)
  have HE := fun (w : World) (h : Rd w A (flt l)) => hidA (fieldError_any X Y W H A N c l w hl h hb)
  have HZ := fun (w : World) => hidA (empty_zero w)
  have HW := fun (w : World) => hidA (flows_any w)
  have HWh := fun (b : Bool) (x : Int) (w : World) => hidA (when_any b x w)
  have HWi := fun (x : Int) (w : World) => hidA (within_any x 0 1099511627776 w)
  have HS := fun (x y : Int) (B : Option Addr) (w : World) (h : Rd w B ([x, y].map (.int .i64))) => hidA (first_any B 2 2 [x, y] w rfl h (by omega))
  have hend := wantK_end X Y W H l q
  have hE' : (wetE X Y W H l q != 0) = true := by simpa using hE
  generalize wetE X Y W H l q = E at *
  generalize fieldE X Y W H l = f1 at *
  go_enter Try.func6, Try.ntmps6
  go_upto_region 2 with (go_at_call 36; refine ((HB _ (hV.ext (by repeat (first | (with_reducible exact Ext.refl _) | (with_reducible assumption) | (with_reducible refine Ext.setCell ?_ (by first | (simp; done) | (simp; omega)) _) | (with_reducible refine Ext.drewN ?_ _) | (with_reducible refine Ext.alloc ?_ _) | (with_reducible refine Ext.drew ?_) | (with_reducible refine Ext.trans ?_ (by assumption))))) (hQ.ext (by repeat (first | (with_reducible exact Ext.refl _) | (with_reducible assumption) | (with_reducible refine Ext.setCell ?_ (by first | (simp; done) | (simp; omega)) _) | (with_reducible refine Ext.drewN ?_ _) | (with_reducible refine Ext.alloc ?_ _) | (with_reducible refine Ext.drew ?_) | (with_reducible refine Ext.trans ?_ (by assumption)))))).out).mono ?_; rintro e w1 ⟨rfl, hx1⟩)
  have kF : Bk (w1.alloc (.cells #[.int .i64 0, .int .i64 0, .int .i64 0, .int .i64 0, .slice none 0 0] 26)) w.heap.size 26 #[.int .i64 X, .int .i64 Y, .int .i64 W, .int .i64 H, .slice A N c] := ((Bk.new' rfl).ext hx1).alloc _
  have kG : Bk (w1.alloc (.cells #[.int .i64 0, .int .i64 0, .int .i64 0, .int .i64 0, .slice none 0 0] 26)) w1.heap.size 26 #[.int .i64 0, .int .i64 0, .int .i64 0, .int .i64 0, .slice none 0 0] := Bk.new' rfl
  have hx2 : Ext w (w1.alloc (.cells #[.int .i64 0, .int .i64 0, .int .i64 0, .int .i64 0, .slice none 0 0] 26)) := (((Ext.refl w).alloc _).trans hx1).alloc _
  clear hx1 HB
  generalize w1.alloc (.cells #[.int .i64 0, .int .i64 0, .int .i64 0, .int .i64 0, .slice none 0 0] 26) = w2 at *
  generalize w1.heap.size = hg at *
  have b0 : ∀ w', Ext w2 w' → w'.cell? ⟨w.heap.size, 0, none⟩ = some (.int .i64 X) := fun w' h => (kF.ext h).cell 0
  have b1 : ∀ w', Ext w2 w' → w'.cell? ⟨w.heap.size, 1, none⟩ = some (.int .i64 Y) := fun w' h => (kF.ext h).cell 1
  have b2 : ∀ w', Ext w2 w' → w'.cell? ⟨w.heap.size, 2, none⟩ = some (.int .i64 W) := fun w' h => (kF.ext h).cell 2
  have b3 : ∀ w', Ext w2 w' → w'.cell? ⟨w.heap.size, 3, none⟩ = some (.int .i64 H) := fun w' h => (kF.ext h).cell 3
  have b4 : ∀ w', Ext w2 w' → w'.cell? ⟨w.heap.size, 4, none⟩ = some (.slice A N c) := fun w' h => (kF.ext h).cell 4
  refine wp_region_noPanic ?_
  refine wp_region_held_drew (S := fun w' => Ext w2 w') (by kernel_rfl) ?_ (fun hHeld => ?_)
  · (repeat (first | (with_reducible exact Ext.refl _) | (with_reducible assumption) | (with_reducible refine Ext.setCell ?_ (by first | (simp; done) | (simp; omega)) _) | (with_reducible refine Ext.drewN ?_ _) | (with_reducible refine Ext.alloc ?_ _) | (with_reducible refine Ext.drew ?_) | (with_reducible refine Ext.trans ?_ (by assumption))))
  refine wpAnyH_take (i := 0) (oi := ?o1x0) (v := ?v1x0) ?hi1x0 (by kernel_rfl) ?hf1x0 ?hr1x0 (fun _ _ _ h => h) ?hy1x0 (by assumption) ?rest1x0
  case hi1x0 => (simp only [List.getElem?_toArray, List.getElem?_cons_zero]; exact rfl)
  case hf1x0 => kernel_rfl
  case hr1x0 => kernel_rfl
  case hy1x0 => (refine Or.inl ⟨by rfl, ?_⟩; intro w hSw; (try dsimp only at hSw); go_simp; try with_reducible rfl)
  simp only [put_mk, List.set_cons_succ, List.set_cons_zero]
  refine wpAnyH_take (i := 2) (oi := ?o1x2) (v := ?v1x2) ?hi1x2 (by kernel_rfl) ?hf1x2 ?hr1x2 (fun _ _ _ h => h) ?hy1x2 (by assumption) ?rest1x2
  case hi1x2 => (simp only [List.getElem?_toArray, List.getElem?_cons_succ, List.getElem?_cons_zero]; exact rfl)
  case hf1x2 => kernel_rfl
  case hr1x2 => kernel_rfl
  case hy1x2 => (refine Or.inl ⟨by rfl, ?_⟩; intro w hSw; (try dsimp only at hSw); go_simp; try with_reducible rfl)
  simp only [put_mk, List.set_cons_succ, List.set_cons_zero]
  refine wpAnyH_take (i := 3) (oi := ?o1x3) (v := ?v1x3) ?hi1x3 (by kernel_rfl) ?hf1x3 ?hr1x3 (fun _ _ _ h => h) ?hy1x3 (by assumption) ?rest1x3
  case hi1x3 => (simp only [List.getElem?_toArray, List.getElem?_cons_succ, List.getElem?_cons_zero]; exact rfl)
  case hf1x3 => kernel_rfl
  case hr1x3 => kernel_rfl
  case hy1x3 => (refine Or.inl ⟨by rfl, ?_⟩; intro w hSw; (try dsimp only at hSw); go_simp; try with_reducible rfl)
  simp only [put_mk, List.set_cons_succ, List.set_cons_zero]
  refine wpAnyH_take (i := 4) (oi := ?o1x4) (v := ?v1x4) ?hi1x4 (by kernel_rfl) ?hf1x4 ?hr1x4 (fun _ _ _ h => h) ?hy1x4 (by assumption) ?rest1x4
  case hi1x4 => (simp only [List.getElem?_toArray, List.getElem?_cons_succ, List.getElem?_cons_zero]; exact rfl)
  case hf1x4 => kernel_rfl
  case hr1x4 => kernel_rfl
  case hy1x4 => (refine Or.inl ⟨by rfl, ?_⟩; intro w hSw; (try dsimp only at hSw); go_simp; try with_reducible rfl)
  simp only [put_mk, List.set_cons_succ, List.set_cons_zero]
  refine wpAnyH_take (i := 5) (oi := ?o1x5) (v := ?v1x5) ?hi1x5 (by kernel_rfl) ?hf1x5 ?hr1x5 (fun _ _ _ h => h) ?hy1x5 (by assumption) ?rest1x5
  case hi1x5 => (simp only [List.getElem?_toArray, List.getElem?_cons_succ, List.getElem?_cons_zero]; exact rfl)
  case hf1x5 => kernel_rfl
  case hr1x5 => kernel_rfl
  case hy1x5 => (refine Or.inl ⟨by rfl, ?_⟩; intro w hSw; (try dsimp only at hSw); go_simp; try with_reducible rfl)
  simp only [put_mk, List.set_cons_succ, List.set_cons_zero]
  refine wpAnyH_take (i := 6) (oi := ?o1x6) (v := ?v1x6) ?hi1x6 (by kernel_rfl) ?hf1x6 ?hr1x6 (fun _ _ _ h => h) ?hy1x6 (by assumption) ?rest1x6
  case hi1x6 => (simp only [List.getElem?_toArray, List.getElem?_cons_succ, List.getElem?_cons_zero]; exact rfl)
  case hf1x6 => kernel_rfl
  case hr1x6 => kernel_rfl
  case hy1x6 => (refine Or.inl ⟨by rfl, ?_⟩; intro w hSw; (try dsimp only at hSw); go_simp; try with_reducible rfl)
  simp only [put_mk, List.set_cons_succ, List.set_cons_zero]
  refine wpAnyH_take (i := 7) (oi := ?o1x7) (v := ?v1x7) ?hi1x7 (by kernel_rfl) ?hf1x7 ?hr1x7 (fun _ _ _ h => h) ?hy1x7 (by assumption) ?rest1x7
  case hi1x7 => (simp only [List.getElem?_toArray, List.getElem?_cons_succ, List.getElem?_cons_zero]; exact rfl)
  case hf1x7 => kernel_rfl
  case hr1x7 => kernel_rfl
  case hy1x7 => (refine Or.inl ⟨by rfl, ?_⟩; intro w hSw; (try dsimp only at hSw); go_simp; try with_reducible rfl)
  simp only [put_mk, List.set_cons_succ, List.set_cons_zero]
  refine wpAnyH_ready (rs := [1]) (by kernel_rfl) (by simp) ?_
  refine AllReadyH.cons (o := ?o1x1) ?hi1x1 (fun K hK => ?_) AllReadyH.nil
  case hi1x1 => (simp only [List.getElem?_toArray, List.getElem?_cons_succ, List.getElem?_cons_zero]; exact rfl)
  go_simp
  refine ((HE _ (hV.ext (hx2.trans (by repeat (first | (with_reducible exact Ext.refl _) | (with_reducible assumption) | (with_reducible refine Ext.setCell ?_ (by first | (simp; done) | (simp; omega)) _) | (with_reducible refine Ext.drewN ?_ _) | (with_reducible refine Ext.alloc ?_ _) | (with_reducible refine Ext.drew ?_) | (with_reducible refine Ext.trans ?_ (by assumption))))))).out).mono ?_
  rintro e w3 ⟨rfl, hx3⟩
  refine hK.out _ _ ?_ (fun hHeld => ?_)
  · (repeat (first | (with_reducible exact Ext.refl _) | (with_reducible assumption) | (with_reducible refine Ext.setCell ?_ (by first | (simp; done) | (simp; omega)) _) | (with_reducible refine Ext.drewN ?_ _) | (with_reducible refine Ext.alloc ?_ _) | (with_reducible refine Ext.drew ?_) | (with_reducible refine Ext.trans ?_ (by assumption))))
  clear hK K
  refine wpAnyH_ready (rs := [8]) (by kernel_rfl) (by simp) ?_
  refine AllReadyH.cons (o := ?o1x8) ?hi1x8 (fun K hK => ?_) AllReadyH.nil
  case hi1x8 => (simp only [List.getElem?_toArray, List.getElem?_cons_succ, List.getElem?_cons_zero]; exact rfl)
  go_simp
  refine ((HWh _ _ _).out).mono ?_
  rintro e w4 ⟨rfl, rfl⟩
  refine hK.out _ _ ?_ (fun hHeld => ?_)
  · (repeat (first | (with_reducible exact Ext.refl _) | (with_reducible assumption) | (with_reducible refine Ext.setCell ?_ (by first | (simp; done) | (simp; omega)) _) | (with_reducible refine Ext.drewN ?_ _) | (with_reducible refine Ext.alloc ?_ _) | (with_reducible refine Ext.drew ?_) | (with_reducible refine Ext.trans ?_ (by assumption))))
  clear hK K
  refine wpAnyH_ready (rs := [9]) (by kernel_rfl) (by simp) ?_
  refine AllReadyH.cons (o := ?o1x9) ?hi1x9 (fun K hK => ?_) AllReadyH.nil
  case hi1x9 => (simp only [List.getElem?_toArray, List.getElem?_cons_succ, List.getElem?_cons_zero]; exact rfl)
  go_simp
  refine hK.out _ _ ?_ (fun hHeld => ?_)
  · (repeat (first | (with_reducible exact Ext.refl _) | (with_reducible assumption) | (with_reducible refine Ext.setCell ?_ (by first | (simp; done) | (simp; omega)) _) | (with_reducible refine Ext.drewN ?_ _) | (with_reducible refine Ext.alloc ?_ _) | (with_reducible refine Ext.drew ?_) | (with_reducible refine Ext.trans ?_ (by assumption))))
  clear hK K
  refine wpAnyH_ready (rs := [10]) (by kernel_rfl) (by simp) ?_
  refine AllReadyH.cons (o := ?o1x10) ?hi1x10 (fun K hK => ?_) AllReadyH.nil
  case hi1x10 => (simp only [List.getElem?_toArray, List.getElem?_cons_succ, List.getElem?_cons_zero]; exact rfl)
  go_simp
  refine ((HS _ _ _ _ (Rd.new (by first | rfl | simp) (by first | rfl | simp))).out).mono ?_
  rintro e w5 ⟨rfl, hx5⟩
  have hg5 : Ext w2 w5 := by rw [← hx5]; (repeat (first | (with_reducible exact Ext.refl _) | (with_reducible assumption) | (with_reducible refine Ext.setCell ?_ (by first | (simp; done) | (simp; omega)) _) | (with_reducible refine Ext.drewN ?_ _) | (with_reducible refine Ext.alloc ?_ _) | (with_reducible refine Ext.drew ?_) | (with_reducible refine Ext.trans ?_ (by assumption))))
  refine hK.out _ _ ?_ (fun hHeld => ?_)
  · (repeat (first | (with_reducible exact Ext.refl _) | (with_reducible assumption) | (with_reducible refine Ext.setCell ?_ (by first | (simp; done) | (simp; omega)) _) | (with_reducible refine Ext.drewN ?_ _) | (with_reducible refine Ext.alloc ?_ _) | (with_reducible refine Ext.drew ?_) | (with_reducible refine Ext.trans ?_ (by assumption))))
  clear hK K
  refine wpAnyH_take (i := 11) (oi := ?o1x11) (v := ?v1x11) ?hi1x11 (by kernel_rfl) ?hf1x11 ?hr1x11 (fun _ _ _ h => h) ?hy1x11 (by assumption) ?rest1x11
  case hi1x11 => (simp only [List.getElem?_toArray, List.getElem?_cons_succ, List.getElem?_cons_zero]; exact rfl)
  case hf1x11 => kernel_rfl
  case hr1x11 => kernel_rfl
  case hy1x11 => (refine Or.inl ⟨by rfl, ?_⟩; intro w hSw; (try dsimp only at hSw); go_simp; try with_reducible rfl)
  simp only [put_mk, List.set_cons_succ, List.set_cons_zero]
  refine wpAnyH_done (by kernel_rfl) ?_ _
  refine NoPanic.normal ?_
  have hE0 : (if (n : Int) = (N : Int) then (0 : Int) else 2) = if q.length ≠ l.length then 2 else 0 := by
    by_cases h : n = N
    · rw [if_pos (by rw [h]), if_neg (by rw [hl, hn, h]; simp)]
    · rw [if_neg (by omega), if_pos (by rw [hl, hn]; exact h)]
  rw [hE0]
  generalize (if q.length ≠ l.length then (2 : Int) else 0) = u at *
  generalize firstE [f1, u] = E0 at *
  have hg6 := hx2.trans hg5
  have kG5 := kG.ext hg5
  rw [hn] at hend
  have Hend := hidA hend
  have Hn := hidA hn
  clear hx5 hE0 hg5 kF kG b0 b1 b2 b3 b4 hx3 hHeld hl hn hend hb hE HE
  go_wp2
  go_loopw [7, 34] (fun s7 s34 wr => ∃ k : Nat, k ≤ n ∧ s34 = .int .i64 k ∧ s7 = .int .i64 (wantK E0 q k) ∧ Ext w5 wr) (fun _ s34 _ => n - (intOf s34).toNat)
  case atStart => exact ⟨0, Nat.zero_le _, rfl, by rw [wantK_zero], Ext.refl _⟩
  case round =>
    obtain ⟨k, hk, rfl, rfl, hx⟩ := hrel
    by_cases hkn : k < n
    · have hkq : k < q.length := by rw [Hn.out]; exact hkn
      obtain ⟨ad, rfl, hbk, hcv⟩ := (hQ.ext (hg6.trans hx)).at (k := k) (by rw [intC_length]; exact hkq)
      have ck := hcv k _ (intC_get hkq)
      have hnext := wantK_next E0 q k
      generalize q.getD k 0 = z at *
      have HWz := fun w => HWi z w
      clear HWi hcv hkq
      generalize wantK E0 q k = a at *
      generalize hzz : wantK E0 q (k + 1) = a2 at *
      have Hzz := hidA hzz
      clear hzz
      have i0 : (0 : Int) ≤ k := by omega
      have i1 : (k : Int) < n := by omega
      cases hbb : (decide (0 ≤ z) && decide (z ≤ 1099511627776))
      all_goals
        rw [hbb] at hnext
        rw [hbb] at HWz
        simp only [Bool.not_true, Bool.not_false, if_true, if_false, Bool.false_eq_true] at hnext
        have Hnext := hidA hnext
        clear hbb hnext
        go_wp2_with (first | (go_at_call 27; refine ((HWz _).out).mono ?_; rintro e w6 ⟨rfl, rfl⟩) | (go_at_call 19; refine ((HWh _ _ _).out).mono ?_; rintro e w7 ⟨rfl, rfl⟩) | (go_at_call 16; refine ((HS _ _ _ _ (Rd.new (by first | rfl | simp) (by first | rfl | simp))).out).mono ?_; rintro e w8 ⟨rfl, hx8⟩))
        have hx9 : Ext w5 w8 := hx.trans (by rw [← hx8]; (repeat (first | (with_reducible exact Ext.refl _) | (with_reducible assumption) | (with_reducible refine Ext.setCell ?_ (by first | (simp; done) | (simp; omega)) _) | (with_reducible refine Ext.drewN ?_ _) | (with_reducible refine Ext.alloc ?_ _) | (with_reducible refine Ext.drew ?_) | (with_reducible refine Ext.trans ?_ (by assumption)))))
        go_roundw
        case rel => exact ⟨k + 1, by omega, by go_num, by rw [Hnext.out, Hzz.out], hx9⟩
        case measure => simp [intOf]; omega
    · have hkn' : k = n := by omega
      subst hkn'
      rw [Hend.out]
      have kG6 := kG5.ext hx
      have hgx := hg6.trans hx
      clear hx kG5 hg6 Hend
      have c0 := kG6.cell 0
      have c1 := kG6.cell 1
      have c2 := kG6.cell 2
      have c3 := kG6.cell 3
      have c4 := kG6.cell 4
      go_upto_region 9 with (go_at_call 20; refine ((HW _).out).mono ?_; rintro e w6 ⟨rfl, hx6⟩)
      have kG7 := kG6.ext hx6
      have hgy := hgx.trans hx6
      clear c0 c1 c2 c3 c4 kG6 hgx hx6
      go_wp2_with (first | (go_at_call 20; refine ((HW _).out).mono ?_; rintro e w7 ⟨rfl, hx7⟩; have kG8 := kG7.ext hx7; have hgz := hgy.trans hx7; have c0 := kG8.cell 0; have c1 := kG8.cell 1; have c2 := kG8.cell 2; have c3 := kG8.cell 3; have c4 := kG8.cell 4) | (go_at_call 21; refine ((HZ _).out).mono ?_; rintro e w8 ⟨rfl, hx8⟩))
      go_ret
      exact ⟨rfl, hgz.trans hx8⟩
end Go.Proofs.Ytinohfgokpbcdaa
