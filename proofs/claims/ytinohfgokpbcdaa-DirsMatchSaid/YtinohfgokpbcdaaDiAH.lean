/- Contracts: what Next and Gather return matches; tarnref2.DirsError at whatever directions. -/
import Derived.Test.YtinohfgokpbcdaaDiAE
import Derived.Test.YtinohfgokpbcdaaDiAF
import Derived.Test.YtinohfgokpbcdaaDiAG
import Derived.Test.YtinohfgokpbcdaaBaseA
import Derived.Test.YtinohfgokpbcdaaDiAD
import Derived.Test.YtinohfgokpbcdaaFillB
import Derived.Test.YtinohfgokpbcdaaGridB
import Derived.Test.YtinohfgokpbcdaaBaseB
namespace Go.Proofs.Ytinohfgokpbcdaa
open Go.RowKit
attribute [local go_sem ↓] Go.wp_at_zero Go.wp_at_succ

/-- the error that is wanted, after k numbers -/
def wantM (M : Int) (E0 : Int) (q : List Int) (k : Nat) : Int := if E0 ≠ 0 then E0 else if ∃ j, j < k ∧ (q.getD j 0 < 0 ∨ M < q.getD j 0) then 3 else 0
theorem wantM_zero (M : Int) (E0 : Int) (q : List Int) : wantM M E0 q 0 = E0 := by
  unfold wantM
  by_cases h : E0 = 0
  · rw [if_neg (by simpa using h), if_neg (by rintro ⟨j, h1, _⟩; omega), h]
  · rw [if_pos h]
theorem first_twoM (a b : Int) : firstE [a, b] = if a ≠ 0 then a else b := by
  by_cases ha : a = 0
  · by_cases hb : b = 0 <;> simp [firstE, ha, hb]
  · simp [firstE, ha]
theorem wantM_nil (M : Int) (q : List Int) (k : Nat) : wantM M 0 q k = if ∃ j, j < k ∧ (q.getD j 0 < 0 ∨ M < q.getD j 0) then 3 else 0 := by
  unfold wantM
  rw [if_neg (by decide)]
theorem wantM_old (M : Int) {E0 : Int} (h : E0 ≠ 0) (q : List Int) (k : Nat) : wantM M E0 q k = E0 := by unfold wantM; rw [if_pos h]
theorem wantM_next (M : Int) (E0 : Int) (q : List Int) (k : Nat) : firstE [wantM M E0 q k, if (!(decide (0 ≤ q.getD k 0) && decide (q.getD k 0 ≤ M))) = true then 3 else 0] = wantM M E0 q (k + 1) := by
  rw [first_twoM]
  by_cases h : E0 = 0
  · subst h
    have hz : (if (!(decide (0 ≤ q.getD k 0) && decide (q.getD k 0 ≤ M))) = true then (3 : Int) else 0) = if q.getD k 0 < 0 ∨ M < q.getD k 0 then 3 else 0 := by
      generalize q.getD k 0 = n
      by_cases h : n < 0 ∨ M < n
      · have h2 : (!(decide (0 ≤ n) && decide (n ≤ M))) = true := by
          by_cases h4 : 0 ≤ n <;> by_cases h5 : n ≤ M <;> simp [h4, h5] <;> omega
        rw [if_pos h, if_pos h2]
      · have h2 : ¬ (!(decide (0 ≤ n) && decide (n ≤ M))) = true := by
          have h4 : 0 ≤ n := by omega
          have h5 : n ≤ M := by omega
          simp [h4, h5]
        rw [if_neg h, if_neg h2]
    rw [hz, wantM_nil, wantM_nil]
    by_cases h1 : ∃ j, j < k ∧ (q.getD j 0 < 0 ∨ M < q.getD j 0)
    · obtain ⟨j, h2, h3⟩ := h1
      have hA : (if ∃ j, j < k ∧ (q.getD j 0 < 0 ∨ M < q.getD j 0) then (3 : Int) else 0) = 3 := if_pos ⟨j, h2, h3⟩
      rw [hA, if_pos (by decide), if_pos ⟨j, by omega, h3⟩]
    · have hA : (if ∃ j, j < k ∧ (q.getD j 0 < 0 ∨ M < q.getD j 0) then (3 : Int) else 0) = 0 := if_neg h1
      rw [hA, if_neg (by decide)]
      by_cases h2 : q.getD k 0 < 0 ∨ M < q.getD k 0
      · rw [if_pos h2, if_pos ⟨k, by omega, h2⟩]
      · rw [if_neg h2, if_neg]
        rintro ⟨j, h3, h4⟩
        by_cases e : j = k
        · subst e; exact h2 h4
        · exact h1 ⟨j, by omega, h4⟩
  · rw [wantM_old M h, wantM_old M h, if_pos h]
theorem wantM_end (M : Int) (q : List Int) (N : Nat) : wantM M (if q.length ≠ N then 2 else 0) q q.length = numsE q N M := by
  unfold wantM numsE
  by_cases h2 : q.length = N
  · simp [h2]
  · simp [h2]
set_option maxRecDepth 100000 in
set_option maxHeartbeats 6400000 in
theorem gatherM_bad (X Y : Int) (Wn Hn N c n cR : Nat) (A R : Option Addr) (q : List Int) (w : World) (hn : q.length = n) (hR : Rd w R (intL q)) (hb : n ≤ 140737488351232) (hE : numsE q N 1073741824 ≠ 0) :
    Calls Try.prog 52 #[.agg #[.int .i64 X, .int .i64 Y, .int .i64 (Wn : Int), .int .i64 (Hn : Int)], .slice A N c, .slice R n cR, .slice none 0 0, .int .i64 (numsE q N 1073741824)] w fun e w' => e = .returned (.bool true) ∧ Ext w w' := by
  have hne : (numsE q N 1073741824 != 0) = true := by simpa using hE
  have HWh := fun (b : Bool) (x : Int) (w : World) => hidA (when_any b x w)
  have HWi := fun (x : Int) (w : World) => hidA (within_any x 0 1073741824 w)
  have HS := fun (x y : Int) (B : Option Addr) (w : World) (h : Rd w B ([x, y].map (.int .i64))) => hidA (first_any B 2 2 [x, y] w rfl h (by omega))
  have hend := wantM_end 1073741824 q N
  rw [hn] at hend
  have Hend := hidA hend
  have Hqn := hidA hn
  have kR : Bk (w.alloc (.cells #[.int .i64 X, .int .i64 Y, .int .i64 (Wn : Int), .int .i64 (Hn : Int)] 23)) w.heap.size 23 #[.int .i64 X, .int .i64 Y, .int .i64 (Wn : Int), .int .i64 (Hn : Int)] := Bk.new' rfl
  have hx0 : Ext w (w.alloc (.cells #[.int .i64 X, .int .i64 Y, .int .i64 (Wn : Int), .int .i64 (Hn : Int)] 23)) := (Ext.refl w).alloc _
  have hE1 : (if (n : Int) = (N : Int) then (0 : Int) else 2) = if n ≠ N then 2 else 0 := by
    by_cases h : n = N
    · rw [if_pos (by rw [h]), if_neg (by simp [h])]
    · rw [if_neg (by omega), if_pos h]
  obtain ⟨E0, hE⟩ : ∃ E0, E0 = if n ≠ N then (2 : Int) else 0 := ⟨_, rfl⟩
  rw [← hE] at hE1 Hend
  have HE0 := hidA hE1
  clear hn hend hE1 hE
  go_enter Try.func52, Try.ntmps52
  go_upto_region 1 with fail
  generalize w.alloc (.cells #[.int .i64 X, .int .i64 Y, .int .i64 (Wn : Int), .int .i64 (Hn : Int)] 23) = w1 at *
  generalize w.heap.size = h0 at kR
  go_upto_region 2 with (go_at_call 19; refine ((HWh _ _ _).out).mono ?_; rintro e w2 ⟨rfl, rfl⟩)
  simp only [HE0.out]
  clear HE0
  go_wp2_with fail
  go_loopw [11, 22] (fun s11 s22 wr => ∃ k : Nat, k ≤ n ∧ s22 = .int .i64 k ∧ s11 = .int .i64 (wantM 1073741824 E0 q k) ∧ Ext w1 wr) (fun _ s22 _ => n - (intOf s22).toNat)
  case atStart => exact ⟨0, Nat.zero_le _, rfl, by rw [wantM_zero], Ext.refl _⟩
  case round =>
    obtain ⟨k, hk, rfl, rfl, hx⟩ := hrel
    by_cases hkn : k < n
    · have hkq : k < q.length := by rw [Hqn.out]; exact hkn
      obtain ⟨ad, rfl, hbk, hcv⟩ := (hR.ext (hx0.trans hx)).at (k := k) (by simpa [intL] using hkq)
      have ck : wr.cell? (ad.add k) = some (.int .i64 (q.getD k 0)) := hcv k _ (by simp [intL, hkq, List.getD_eq_getElem?_getD])
      have hnext := wantM_next 1073741824 E0 q k
      generalize q.getD k 0 = z at *
      have HWz := fun w => HWi z w
      clear HWi hcv hkq
      generalize wantM 1073741824 E0 q k = a at *
      generalize hzz : wantM 1073741824 E0 q (k + 1) = a2 at *
      have Hzz := hidA hzz
      clear hzz
      have i0 : (0 : Int) ≤ k := by omega
      have i1 : (k : Int) < n := by omega
      cases hbb : (decide (0 ≤ z) && decide (z ≤ 1073741824))
      all_goals
        rw [hbb] at hnext
        rw [hbb] at HWz
        simp only [Bool.not_true, Bool.not_false, if_true, if_false, Bool.false_eq_true] at hnext
        have Hnext := hidA hnext
        clear hbb hnext
        go_wp2_with (first | (go_at_call 27; refine ((HWz _).out).mono ?_; rintro e w6 ⟨rfl, rfl⟩) | (go_at_call 19; refine ((HWh _ _ _).out).mono ?_; rintro e w7 ⟨rfl, rfl⟩) | (go_at_call 16; refine ((HS _ _ _ _ (Rd.new (by first | rfl | simp) (by first | rfl | simp))).out).mono ?_; rintro e w8 ⟨rfl, hx8⟩))
        have hx9 : Ext w1 w8 := hx.trans (by rw [← hx8]; (repeat (first | exact Ext.refl _ | assumption | refine Ext.setCell ?_ (by first | (simp; done) | (simp; omega)) _ | refine Ext.drewN ?_ _ | refine Ext.alloc ?_ _ | refine Ext.drew ?_ | refine Ext.trans ?_ (by assumption))))
        go_roundw
        case rel => exact ⟨k + 1, by omega, by go_num, by rw [Hnext.out, Hzz.out], hx9⟩
        case measure => simp [intOf]; omega
    · have hkn' : k = n := by omega
      subst hkn'
      rw [Hend.out]
      generalize numsE q N 1073741824 = E at *
      have hxx := hx0.trans hx
      go_wp2_with fail
      go_ret
      exact ⟨by first | rfl | simp, hxx⟩
set_option maxRecDepth 100000 in
set_option maxHeartbeats 6400000 in
theorem gatherM_good (X Y : Int) (Wn Hn N c n cR : Nat) (A R : Option Addr) (q : List Int) (D : Nat → Int) (m : Nat → Nat) (g cp : Nat) (w : World) (hn : q.length = n) (hR : Rd w R (intL q)) (hb : n ≤ 140737488351232) (hr : Reg X Y Wn Hn) (hN : N = Wn * Hn) (hD : DirsAt w A N D) (hL : Lead Wn Hn N D m) (hE : numsE q N 1073741824 = 0) (hG : CI w g cp N (gatV (trD D Wn Hn) (fun k => q.getD k 0) N)) :
    Calls Try.prog 52 #[.agg #[.int .i64 X, .int .i64 Y, .int .i64 (Wn : Int), .int .i64 (Hn : Int)], .slice A N c, .slice R n cR, .slice (some ⟨g, 0, none⟩) N cp, .int .i64 0] w fun e w' => e = .returned (.bool true) ∧ Ext w w' := by
  have hN6 : N ≤ 65536 := by rw [hN]; exact hr.n
  have hqN : q.length = N := by
    unfold numsE at hE
    split at hE
    · cases hE
    · rename_i h; simpa using h
  have hrb : ∀ k, k < N → 0 ≤ q.getD k 0 ∧ q.getD k 0 ≤ 1073741824 := fun k hk => by
    unfold numsE at hE
    rw [if_neg (by simpa using hqN)] at hE
    split at hE
    · cases hE
    · rename_i h
      have h1 : ¬ (q.getD k 0 < 0 ∨ 1073741824 < q.getD k 0) := fun h2 => h ⟨k, by omega, h2⟩
      omega
  have hnN : n = N := by omega
  have HGO := hidA (fun (w' : World) (h : Ext w w') => GatherOf_any X Y Wn Hn N c cR A R D _ (trD D Wn Hn) (fun k => q.getD k 0) w' hr hN (hD.ext h) (trD_lead hL hN).1 (fun k hk => Nat.le_of_lt ((trD_lead hL hN).2 k hk)) (trD_ok hL hN) (DirsAt.of_list hqN (hR.ext h)) hrb)
  have HQ := hidA (fun (g g' d d' : Nat) (w : World) (h1 : CI w g d N (gatV (trD D Wn Hn) (fun k => q.getD k 0) N)) (h2 : CI w g' d' N (gatV (trD D Wn Hn) (fun k => q.getD k 0) N)) => eqInts_same (some ⟨g, 0, none⟩) (some ⟨g', 0, none⟩) N d d' _ w (by simp) h1.dirs h2.dirs (by omega))
  unfold rgv at HGO
  have HnN := hidA hnN
  have HG := hidA hG
  have HEz := hidA hE
  clear hr hN hD hL hE hG hqN hrb hnN
  have HWh := fun (b : Bool) (x : Int) (w : World) => hidA (when_any b x w)
  have HWi := fun (x : Int) (w : World) => hidA (within_any x 0 1073741824 w)
  have HS := fun (x y : Int) (B : Option Addr) (w : World) (h : Rd w B ([x, y].map (.int .i64))) => hidA (first_any B 2 2 [x, y] w rfl h (by omega))
  have hend := wantM_end 1073741824 q N
  rw [hn] at hend
  have Hend := hidA hend
  have Hqn := hidA hn
  have kR : Bk (w.alloc (.cells #[.int .i64 X, .int .i64 Y, .int .i64 (Wn : Int), .int .i64 (Hn : Int)] 23)) w.heap.size 23 #[.int .i64 X, .int .i64 Y, .int .i64 (Wn : Int), .int .i64 (Hn : Int)] := Bk.new' rfl
  have hx0 : Ext w (w.alloc (.cells #[.int .i64 X, .int .i64 Y, .int .i64 (Wn : Int), .int .i64 (Hn : Int)] 23)) := (Ext.refl w).alloc _
  have hE1 : (if (n : Int) = (N : Int) then (0 : Int) else 2) = if n ≠ N then 2 else 0 := by
    by_cases h : n = N
    · rw [if_pos (by rw [h]), if_neg (by simp [h])]
    · rw [if_neg (by omega), if_pos h]
  obtain ⟨E0, hE⟩ : ∃ E0, E0 = if n ≠ N then (2 : Int) else 0 := ⟨_, rfl⟩
  rw [← hE] at hE1 Hend
  have HE0 := hidA hE1
  clear hn hend hE1 hE
  go_enter Try.func52, Try.ntmps52
  go_upto_region 1 with fail
  generalize w.alloc (.cells #[.int .i64 X, .int .i64 Y, .int .i64 (Wn : Int), .int .i64 (Hn : Int)] 23) = w1 at *
  generalize w.heap.size = h0 at kR
  go_upto_region 2 with (go_at_call 19; refine ((HWh _ _ _).out).mono ?_; rintro e w2 ⟨rfl, rfl⟩)
  simp only [HE0.out]
  clear HE0
  go_wp2_with fail
  go_loopw [11, 22] (fun s11 s22 wr => ∃ k : Nat, k ≤ n ∧ s22 = .int .i64 k ∧ s11 = .int .i64 (wantM 1073741824 E0 q k) ∧ Ext w1 wr) (fun _ s22 _ => n - (intOf s22).toNat)
  case atStart => exact ⟨0, Nat.zero_le _, rfl, by rw [wantM_zero], Ext.refl _⟩
  case round =>
    obtain ⟨k, hk, rfl, rfl, hx⟩ := hrel
    by_cases hkn : k < n
    · have hkq : k < q.length := by rw [Hqn.out]; exact hkn
      obtain ⟨ad, rfl, hbk, hcv⟩ := (hR.ext (hx0.trans hx)).at (k := k) (by simpa [intL] using hkq)
      have ck : wr.cell? (ad.add k) = some (.int .i64 (q.getD k 0)) := hcv k _ (by simp [intL, hkq, List.getD_eq_getElem?_getD])
      have hnext := wantM_next 1073741824 E0 q k
      generalize q.getD k 0 = z at *
      have HWz := fun w => HWi z w
      clear HWi hcv hkq
      generalize wantM 1073741824 E0 q k = a at *
      generalize hzz : wantM 1073741824 E0 q (k + 1) = a2 at *
      have Hzz := hidA hzz
      clear hzz
      have i0 : (0 : Int) ≤ k := by omega
      have i1 : (k : Int) < n := by omega
      cases hbb : (decide (0 ≤ z) && decide (z ≤ 1073741824))
      all_goals
        rw [hbb] at hnext
        rw [hbb] at HWz
        simp only [Bool.not_true, Bool.not_false, if_true, if_false, Bool.false_eq_true] at hnext
        have Hnext := hidA hnext
        clear hbb hnext
        go_wp2_with (first | (go_at_call 27; refine ((HWz _).out).mono ?_; rintro e w6 ⟨rfl, rfl⟩) | (go_at_call 19; refine ((HWh _ _ _).out).mono ?_; rintro e w7 ⟨rfl, rfl⟩) | (go_at_call 16; refine ((HS _ _ _ _ (Rd.new (by first | rfl | simp) (by first | rfl | simp))).out).mono ?_; rintro e w8 ⟨rfl, hx8⟩))
        have hx9 : Ext w1 w8 := hx.trans (by rw [← hx8]; (repeat (first | exact Ext.refl _ | assumption | refine Ext.setCell ?_ (by first | (simp; done) | (simp; omega)) _ | refine Ext.drewN ?_ _ | refine Ext.alloc ?_ _ | refine Ext.drew ?_ | refine Ext.trans ?_ (by assumption))))
        go_roundw
        case rel => exact ⟨k + 1, by omega, by go_num, by rw [Hnext.out, Hzz.out], hx9⟩
        case measure => simp [intOf]; omega
    · have hkn' : k = n := by omega
      subst hkn'
      rw [Hend.out]
      rw [HEz.out]
      have kR2 := kR.ext hx
      have c0 := kR2.cell 0
      have c1 := kR2.cell 1
      have c2 := kR2.cell 2
      have c3 := kR2.cell 3
      have HGx := hidA (hx0.trans hx)
      rw [← HnN.out] at HGO HG HQ
      rw [← HnN.out]
      go_wp2_with (first | (go_at_call 110; refine (HGO.out _ (HGx.out.trans (by repeat (first | exact Ext.refl _ | assumption | refine Ext.setCell ?_ (by first | (simp; done) | (simp; omega)) _ | refine Ext.drewN ?_ _ | refine Ext.alloc ?_ _ | refine Ext.drew ?_ | refine Ext.trans ?_ (by assumption))))).mono ?_; rintro e w6 ⟨g', rfl, hG', _, hx6⟩) | (go_at_call 30; refine (HQ.out _ _ _ _ _ (HG.out.ext (HGx.out.trans hx6)) hG').mono ?_; rintro e w7 ⟨rfl, hx7⟩))
      go_ret
      exact ⟨by first | rfl | simp, (HGx.out.trans hx6).trans hx7⟩
end Go.Proofs.Ytinohfgokpbcdaa

namespace Go.Proofs.Ytinohfgokpbcdaa
open Go.RowKit
attribute [local go_sem ↓] Go.wp_at_zero Go.wp_at_succ

/-- what DirsError holds: the region, the ends -/
structure DE (W0 w : World) (hr ge : Nat) (X Y : Int) (Wn Hn N : Nat) (E : Nat → Bool) : Prop where
  rb : Bk w hr 23 #[.int .i64 X, .int .i64 Y, .int .i64 (Wn : Int), .int .i64 (Hn : Int)]
  eb : Bk w ge 4 (bools N E)
  ext : Ext W0 w
  b1 : W0.heap.size ≤ ge
theorem DE.step {W0 w : World} {hr ge : Nat} {X Y : Int} {Wn Hn N : Nat} {E : Nat → Bool} (h : DE W0 w hr ge X Y Wn Hn N E) {w' : World} (hx : Ext w w') : DE W0 w' hr ge X Y Wn Hn N E := ⟨h.rb.ext hx, h.eb.ext hx, h.ext.trans hx, h.b1⟩
theorem DE.put {W0 w : World} {hr ge : Nat} {X Y : Int} {Wn Hn N : Nat} {E : Nat → Bool} (h : DE W0 w hr ge X Y Wn Hn N E) (k : Nat) : DE W0 (w.setCell ⟨ge, k, none⟩ (.bool true)) hr ge X Y Wn Hn N (updF E k true) := by
  have e1 := Bk.set h.eb k (.bool true)
  rw [bools_set] at e1
  exact ⟨h.rb.far (Bk.ne h.rb h.eb (by decide)) _, e1, h.ext.setCell h.b1 _, h.b1⟩
theorem DE.cell {W0 w : World} {hr ge : Nat} {X Y : Int} {Wn Hn N : Nat} {E : Nat → Bool} (h : DE W0 w hr ge X Y Wn Hn N E) {k : Nat} (hk : k < N) : w.cell? ⟨ge, k, none⟩ = some (.bool (E k)) := by rw [h.eb.cell]; exact bools_get _ hk
section
variable {D : Nat → Int} {Wn Hn N : Nat}
/-- nothing is to be added among the first cells -/
def EClo (D : Nat → Int) (Wn Hn k : Nat) (E : Nat → Bool) : Prop := ∀ j, j < k → E j = false → 0 ≤ D j ∧ ∀ n, nxtD D Wn Hn j = some n → E n = false
theorem EndsOk.upd {E : Nat → Bool} (h : EndsOk D Wn Hn N E) {k : Nat} (hk : k < N) (hE : D k < 0 ∨ ∃ n, nxtD D Wn Hn k = some n ∧ n < N ∧ E n = true) : EndsOk D Wn Hn N (updF E k true) := by
  have h1 := h.put hk hE
  have e : updF E k true = fun j => if j = k then true else E j := by
    funext j
    by_cases e : j = k
    · subst e; rw [updF_same]; simp
    · rw [updF_ne _ _ e]; simp [e]
  rw [e]
  exact h1
theorem cnt_upd {E : Nat → Bool} {k : Nat} (hk : k < N) (h : E k = false) : cntB (fun j => !updF E k true j) N + 1 = cntB (fun j => !E j) N := by
  refine (cntB_one (q := k) (by simp [h]) (by simp [updF_same]) N hk fun j _ hj => ?_).symm
  rw [updF_ne _ _ hj]
theorem EClo.more {E : Nat → Bool} {k : Nat} (h : EClo D Wn Hn k E) (hk : E k = true ∨ (0 ≤ D k ∧ ∀ n, nxtD D Wn Hn k = some n → E n = false)) : EClo D Wn Hn (k + 1) E := fun j hj hE => by
  by_cases e : j = k
  · subst e
    rcases hk with hk | hk
    · rw [hk] at hE; cases hE
    · exact hk
  · exact h j (by omega) hE
end
set_option maxRecDepth 100000 in
set_option maxHeartbeats 12800000 in
theorem DirsRef_reg (X Y : Int) (Wn Hn N c : Nat) (A : Option Addr) (D : Nat → Int) (w : World) (hr : Reg X Y Wn Hn) (hr0 : regE X Y Wn Hn = 0) (hN : N = Wn * Hn) (hD : DirsAt w A N D) :
    Calls Try.prog 46 #[rgv X Y Wn Hn, .slice A N c] w fun e w' => e = .returned (.int .i64 (dirG Wn Hn N D)) ∧ Ext w w' := by
  have hN6 : N ≤ 65536 := by rw [hN]; exact hr.n
  have HR := fun (w : World) => hidA (regionError_any X Y Wn Hn w)
  rw [hr0] at HR
  have HB := hidA (fun (k : Nat) (d : Nat) (w : World) (hk : k < N) (hd : d < 8) => nb_any X Y Wn Hn k d w hr (by rw [← hN]; exact hk) hd)
  unfold rgv at HB ⊢
  have Hfirst := hidA (fun (k : Nat) (hk : k < N) (h : dirF Wn Hn D k = 0) (hc : dirC Wn Hn (D k) k ≠ 0) => dirG_first hk h hc)
  have Hval := hidA (fun (h : dirF Wn Hn D N = 0) => dirF_valid h)
  have Hend := hidA (fun (h : dirF Wn Hn D N = 0) (E : Nat → Bool) (h1 : EndsOk D Wn Hn N E) (h2 : EClo D Wn Hn N E) => show ((∀ k, k < N → E k = true) → dirG Wn Hn N D = 0) ∧ (∀ k, k < N → E k = false → dirG Wn Hn N D = 14) from by
    unfold dirG
    rw [if_neg (by simpa using h)]
    refine ⟨fun hl => if_pos (ends_lead (dirF_valid h) hN fun k hk => h1 k hk (hl k hk)), fun k hk hE => if_neg ?_⟩
    rintro ⟨m, hm⟩
    obtain ⟨t, ht⟩ := lead_ends hm hN hk
    have h3 := ends_full (dirF_valid h) hN h2 t k hk ht
    rw [hE] at h3
    cases h3)
  generalize dirG Wn Hn N D = R at *
  have Hlt := hidA (fun (k n : Nat) (h : nbr Wn Hn k (D k).toNat = some n) => show n < N from by rw [hN]; exact nbr_lt h)
  have HD := hidA hD
  have W1 : wrap64 ((Wn : Int) * (Hn : Int)) = (N : Int) := by rw [← Int.natCast_mul, ← hN]; exact IntWalk.wrap64_in _ ⟨by omega, by omega⟩
  have W1' : IntKind.i64.wrap ((Wn : Int) * (Hn : Int)) = (N : Int) := by rw [← Int.natCast_mul, ← hN]; exact IntWalk.i64_in _ (by omega)
  have W2 : (Wn : Int) * (Hn : Int) = (N : Int) := by rw [← Int.natCast_mul, ← hN]
  have kR : Bk (w.alloc (.cells #[.int .i64 X, .int .i64 Y, .int .i64 (Wn : Int), .int .i64 (Hn : Int)] 23)) w.heap.size 23 #[.int .i64 X, .int .i64 Y, .int .i64 (Wn : Int), .int .i64 (Hn : Int)] := Bk.new' rfl
  have hx0 : Ext w (w.alloc (.cells #[.int .i64 X, .int .i64 Y, .int .i64 (Wn : Int), .int .i64 (Hn : Int)] 23)) := (Ext.refl w).alloc _
  have mb := mk_bool N (by omega)
  clear hr hr0 hN hD
  go_enter Try.func46, Try.ntmps46
  go_upto_region 1 with fail
  generalize w.alloc (.cells #[.int .i64 X, .int .i64 Y, .int .i64 (Wn : Int), .int .i64 (Hn : Int)] 23) = w1 at *
  generalize w.heap.size = h0 at kR ⊢
  have c0 := kR.cell 0
  have c1 := kR.cell 1
  have c2 := kR.cell 2
  have c3 := kR.cell 3
  go_upto_region 4 with (go_at_call 26; refine ((HR _).out).mono ?_; rintro e w2 ⟨rfl, hx2⟩)
  have kR2 := kR.ext hx2
  have hxw := hx0.trans hx2
  clear c0 c1 c2 c3 kR hx0 hx2
  have c2 := kR2.cell 2
  have c3 := kR2.cell 3
  go_wp2_with fail
  clear c2 c3
  go_loopw [29] (fun s29 wr => ∃ (k : Nat), k ≤ N ∧ s29 = .int .i64 k ∧ Hid (dirF Wn Hn D k = 0) ∧ Bk wr h0 23 #[.int .i64 X, .int .i64 Y, .int .i64 (Wn : Int), .int .i64 (Hn : Int)] ∧ Ext w wr) (fun s29 _ => N - (intOf s29).toNat)
  case atStart => exact ⟨0, Nat.zero_le _, rfl, hidA rfl, kR2, hxw⟩
  case round =>
    clear kR2 hxw
    obtain ⟨k, hk, rfl, Hk, kR, hx⟩ := hrel
    have c0 := kR.cell 0
    have c1 := kR.cell 1
    have c2 := kR.cell 2
    have c3 := kR.cell 3
    by_cases hkN : k < N
    · have i1 : (0 : Int) ≤ k := by omega
      have i2 : (k : Int) < N := by omega
      obtain ⟨ad, rfl, _, q0⟩ := (HD.out.ext hx).cell hkN
      by_cases hd0 : D k = -1
      · have Hk2 := hidA (dirF_next Hk.out (by rw [hd0]; exact dirC_none))
        rw [hd0] at q0
        clear hd0
        go_wp2_with fail
        go_roundw
        case rel => exact ⟨k + 1, by omega, by go_num, Hk2, kR, hx⟩
        case measure => simp [intOf]; omega
      · by_cases hlo : D k < -1
        · have hR := hidA (Hfirst.out k hkN Hk.out (by rw [dirC_range (.inl hlo)]; decide))
          rw [dirC_range (.inl hlo)] at hR
          generalize D k = z at q0 hd0 hlo
          go_wp2_with fail
          go_ret
          exact ⟨by rw [hR.out]; first | rfl | simp, hx⟩
        · by_cases h8 : 8 ≤ D k
          · have hR := hidA (Hfirst.out k hkN Hk.out (by rw [dirC_range (.inr h8)]; decide))
            rw [dirC_range (.inr h8)] at hR
            have h7 : 7 < D k := by omega
            generalize D k = z at q0 hd0 hlo h8 h7
            go_wp2_with fail
            go_ret
            exact ⟨by rw [hR.out]; first | rfl | simp, hx⟩
          · have HBk := fun (w : World) => HB.out k (D k).toNat w hkN (by omega)
            rw [Int.toNat_of_nonneg (by omega)] at HBk
            have h7 : ¬ (7 < D k) := by omega
            have h00 : 0 ≤ D k := by omega
            cases hn : nbr Wn Hn k (D k).toNat with
            | none =>
              rw [hn, show nbI none = -1 from rfl] at HBk
              have hR := hidA (Hfirst.out k hkN Hk.out (by rw [dirC_place (by omega) (by omega) hn]; decide))
              rw [dirC_place (by omega) (by omega) hn] at hR
              clear hn
              generalize D k = z at q0 HBk h7 h00 hlo h8 hd0
              go_wp2_with (go_at_call 63; refine (HBk _).mono ?_; rintro e w5 ⟨rfl, hx5⟩)
              go_ret
              exact ⟨by rw [hR.out]; first | rfl | simp, hx.trans hx5⟩
            | some n =>
              rw [hn, show nbI (some n) = (n : Int) from rfl] at HBk
              have Hk2 := hidA (dirF_next Hk.out (dirC_some (by omega) (by omega) hn))
              have hn0 : ¬ ((n : Int) < 0) := by omega
              clear hn
              generalize D k = z at q0 HBk h7 h00 hlo h8 hd0
              go_wp2_with (go_at_call 63; refine (HBk _).mono ?_; rintro e w5 ⟨rfl, hx5⟩)
              go_roundw
              case rel => exact ⟨k + 1, by omega, by go_num, Hk2, kR.ext hx5, hx.trans hx5⟩
              case measure => simp [intOf]; omega
    · obtain rfl : N = k := by omega
      clear c0 c1 c2 c3
      have HV := hidA (Hval.out Hk.out)
      have HE := hidA (Hend.out Hk.out)
      clear Hval Hend Hfirst Hk
      have hS : DE w (wr.alloc (.cells (bools N fun _ => false) 4)) h0 wr.heap.size X Y Wn Hn N (fun _ => false) := ⟨kR.alloc _, Bk.new' (by simp), hx.alloc _, hx.size⟩
      clear kR hx
      go_upto_region 15 with fail
      generalize wr.alloc (.cells (bools N fun _ => false) 4) = w3 at *
      generalize wr.heap.size = ge at *
      clear mb
      go_wp2_with fail
      go_loopg [9] (2 * N + 1) (fun gk s9 wr => ∃ (ag : Bool) (E : Nat → Bool), s9 = .bool ag ∧ DE w wr h0 ge X Y Wn Hn N E ∧ EndsOk D Wn Hn N E ∧ (ag = false → EClo D Wn Hn N E) ∧ 2 * cntB (fun j => !E j) N + ag.toNat ≤ gk)
      case atStart => exact ⟨true, _, rfl, hS, (fun k _ h => by cases h), (fun h => by cases h), by have := cntB_le (fun _ => !false) N; simp at this ⊢; omega⟩
      case round =>
        clear hS
        obtain ⟨ag, E, rfl, hS, hO, hC, hg⟩ := hrel
        have HO := hidA hO
        have HC := hidA hC
        have Hg := hidA hg
        clear hO hC hg
        cases ag
        · have Hfin := hidA (HE.out E HO.out (HC.out rfl))
          clear HC HE HO Hg
          go_wp2_with fail
          go_loopw [85] (fun s85 wr => ∃ (k : Nat), k ≤ N ∧ s85 = .int .i64 k ∧ Hid (∀ j, j < k → E j = true) ∧ DE w wr h0 ge X Y Wn Hn N E) (fun s85 _ => N - (intOf s85).toNat)
          case atStart => exact ⟨0, Nat.zero_le _, rfl, hidA (fun j h => by omega), hS⟩
          case round =>
            clear hS
            obtain ⟨k, hk, rfl, Hk, hS⟩ := hrel
            by_cases hkN : k < N
            · have i1 : (0 : Int) ≤ k := by omega
              have i2 : (k : Int) < N := by omega
              have q0 := hS.cell hkN
              cases hEk : E k
              · have hR := hidA (Hfin.out.2 k hkN hEk)
                rw [hEk] at q0
                clear hEk
                go_wp2_with fail
                go_ret
                exact ⟨by rw [hR.out]; first | rfl | simp, hS.ext⟩
              · have Hk2 := hidA (show ∀ j, j < k + 1 → E j = true from fun j hj => by
                  by_cases e : j = k
                  · rw [e]; exact hEk
                  · exact Hk.out j (by omega))
                rw [hEk] at q0
                clear hEk
                go_wp2_with fail
                go_roundw
                case rel => exact ⟨k + 1, by omega, by go_num, Hk2, hS⟩
                case measure => simp [intOf]; omega
            · obtain rfl : N = k := by omega
              have hR := hidA (Hfin.out.1 Hk.out)
              go_wp2_with fail
              go_ret
              exact ⟨by rw [hR.out]; first | rfl | simp, hS.ext⟩
        · have Hg2 := hidA (show 2 * cntB (fun j => !E j) N + 1 ≤ gk from Hg.out)
          obtain ⟨M0, hM0⟩ : ∃ M0, M0 = cntB (fun j => !E j) N := ⟨_, rfl⟩
          rw [← hM0] at Hg2
          have HM0 := hidA hM0
          clear hM0
          go_wp2_with fail
          go_loopw [9, 56] (fun s9 s56 wr => ∃ (ag : Bool) (k : Nat) (E : Nat → Bool), s9 = .bool ag ∧ s56 = .int .i64 k ∧ k ≤ N ∧ DE w wr h0 ge X Y Wn Hn N E ∧ Hid (EndsOk D Wn Hn N E) ∧ Hid (ag = false → EClo D Wn Hn k E) ∧ Hid (cntB (fun j => !E j) N ≤ M0) ∧ Hid (ag = true → cntB (fun j => !E j) N < M0)) (fun _ s56 _ => N - (intOf s56).toNat)
          case atStart => exact ⟨false, 0, E, rfl, rfl, Nat.zero_le _, hS, HO, hidA (fun _ j hj => by omega), hidA (Nat.le_of_eq HM0.out.symm), hidA (fun h => by cases h)⟩
          case round =>
            clear hS HO HC Hg HM0
            obtain ⟨ag, k, E, rfl, rfl, hk, hS, HO, HC, HM, HT⟩ := hrel
            by_cases hkN : k < N
            · have i1 : (0 : Int) ≤ k := by omega
              have i2 : (k : Int) < N := by omega
              obtain ⟨ad, rfl, _, q0⟩ := (HD.out.ext hS.ext).cell hkN
              have c0 := hS.rb.cell 0
              have c1 := hS.rb.cell 1
              have c2 := hS.rb.cell 2
              have c3 := hS.rb.cell 3
              have e0 := hS.cell hkN
              have f0 := hS.eb.frozen k
              cases hEk : E k
              · rw [hEk] at e0
                have HP := hidA (fun (w' : World) (h : Ext wr w') => (hS.step h).put k)
                have Hcnt := hidA (cnt_upd hkN hEk)
                by_cases hd0 : D k < 0
                · have HO2 := hidA (HO.out.upd hkN (.inl hd0))
                  have HP0 := hidA (HP.out wr (Ext.refl _))
                  clear hEk
                  generalize D k = z at q0 hd0
                  go_wp2_with fail
                  go_roundw
                  case rel => exact ⟨true, k + 1, _, rfl, by go_num, by omega, HP0.out, HO2, hidA (fun h => by cases h), hidA (by have := Hcnt.out; have := HM.out; omega), hidA (fun _ => by have := Hcnt.out; have := HM.out; omega)⟩
                  case measure => simp [intOf]; omega
                · have hd1 : 0 ≤ D k := by omega
                  obtain ⟨n, hn⟩ := HV.out.into k hkN hd1
                  have hnN := Hlt.out k n hn
                  have h8 := HV.out.hi k hkN
                  have hnx : nxtD D Wn Hn k = some n := by
                    unfold nxtD
                    rw [if_neg (by omega)]
                    exact hn
                  have HBk := fun (w : World) => HB.out k (D k).toNat w hkN (by omega)
                  rw [Int.toNat_of_nonneg hd1, hn, show nbI (some n) = (n : Int) from rfl] at HBk
                  have e1 : ∀ w', Ext wr w' → w'.cell? ⟨ge, n, none⟩ = some (.bool (E n)) := fun w' h => (hS.step h).cell hnN
                  have i3 : (0 : Int) ≤ n := by omega
                  have i4 : (n : Int) < N := by omega
                  cases hEn : E n
                  · rw [hEn] at e1
                    have HC2 := hidA (fun h => (HC.out h).more (.inr ⟨hd1, fun m hm => by rw [hnx] at hm; injection hm with hm; rw [← hm]; exact hEn⟩))
                    have Hst := hidA (fun (w' : World) (h : Ext wr w') => hS.step h)
                    clear hEk hEn hnx hn h8 hnN
                    generalize D k = z at q0 hd0 hd1 HBk
                    go_wp2_with (go_at_call 63; refine (HBk _).mono ?_; rintro e w5 ⟨rfl, hx5⟩; have e2 := e1 _ hx5)
                    go_roundw
                    case rel => exact ⟨ag, k + 1, E, rfl, by go_num, by omega, Hst.out _ hx5, HO, HC2, HM, HT⟩
                    case measure => simp [intOf]; omega
                  · rw [hEn] at e1
                    have HO2 := hidA (HO.out.upd hkN (.inr ⟨n, hnx, hnN, hEn⟩))
                    have Hfz := hidA (fun (w' : World) (h : Ext wr w') => (hS.step h).eb.frozen k)
                    have Hce := hidA (fun (w' : World) (h : Ext wr w') => (hS.step h).cell hkN)
                    clear hEn hnx hn h8 hnN
                    rw [hEk] at Hce
                    clear hEk
                    generalize D k = z at q0 hd0 hd1 HBk
                    go_wp2_with (go_at_call 63; refine (HBk _).mono ?_; rintro e w5 ⟨rfl, hx5⟩; have e2 := e1 _ hx5; have f2 := Hfz.out _ hx5; have g2 := Hce.out _ hx5)
                    go_roundw
                    case rel => exact ⟨true, k + 1, _, rfl, by go_num, by omega, HP.out _ hx5, HO2, hidA (fun h => by cases h), hidA (by have := Hcnt.out; have := HM.out; omega), hidA (fun _ => by have := Hcnt.out; have := HM.out; omega)⟩
                    case measure => simp [intOf]; omega
              · rw [hEk] at e0
                have HC2 := hidA (fun h => (HC.out h).more (.inl hEk))
                clear hEk
                go_wp2_with fail
                go_roundw
                case rel => exact ⟨ag, k + 1, E, rfl, by go_num, by omega, hS, HO, HC2, HM, HT⟩
                case measure => simp [intOf]; omega
            · obtain rfl : N = k := by omega
              go_wp2_with fail
              go_roundg (2 * cntB (fun j => !E j) N + ag.toNat)
              case measure =>
                have h1 := Hg2.out
                have h2 := HM.out
                cases ag
                · simp
                  omega
                · have h3 := HT.out rfl
                  simp
                  omega
              case rel => exact ⟨ag, E, rfl, hS, HO.out, HC.out, Nat.le_refl _⟩
end Go.Proofs.Ytinohfgokpbcdaa

namespace Go.Proofs.Ytinohfgokpbcdaa
open Go.RowKit
attribute [local go_sem ↓] Go.wp_at_zero Go.wp_at_succ

set_option maxRecDepth 100000 in
set_option maxHeartbeats 3200000 in
theorem DirsRef_any (x y ww hh : Int) (A : Option Addr) (n c : Nat) (q : List Int) (w : World) (hq : q.length = n) (hR : Rd w A (intL q)) (_hb : n ≤ 140737488351232) :
    Calls Try.prog 46 #[.agg #[.int .i64 x, .int .i64 y, .int .i64 ww, .int .i64 hh], .slice A n c] w fun e w' => e = .returned (.int .i64 (dirsE x y ww hh q)) ∧ Ext w w' := by
  by_cases h1 : regE x y ww hh = 0
  · obtain ⟨Wn, Hn, rfl, rfl, hr⟩ := Reg.of_zero h1
    by_cases h2 : (q.length : Int) = (Wn : Int) * (Hn : Int)
    · rw [dirsE_reg h1 h2]
      have hN : n = Wn * Hn := by rw [hq, ← Int.natCast_mul] at h2; exact Int.ofNat.inj h2
      have h := DirsRef_reg x y Wn Hn n c A (fun k => q.getD k 0) w hr h1 hN (DirsAt.of_list hq hR)
      unfold rgv at h
      rw [hq]
      exact h
    · rw [dirsE_len h1 h2]
      have HR := fun (w : World) => hidA (regionError_any x y Wn Hn w)
      rw [h1] at HR
      have hw2 := hr.w2
      have hh2 := hr.h2
      have hn6 := hr.n
      rw [hq] at h2
      have W1 : wrap64 ((Wn : Int) * (Hn : Int)) = ((Wn * Hn : Nat) : Int) := by rw [← Int.natCast_mul]; exact IntWalk.wrap64_in _ ⟨by omega, by omega⟩
      have W1' : IntKind.i64.wrap ((Wn : Int) * (Hn : Int)) = ((Wn * Hn : Nat) : Int) := by rw [← Int.natCast_mul]; exact IntWalk.i64_in _ (by omega)
      rw [← Int.natCast_mul] at h2
      have kR : Bk (w.alloc (.cells #[.int .i64 x, .int .i64 y, .int .i64 (Wn : Int), .int .i64 (Hn : Int)] 23)) w.heap.size 23 #[.int .i64 x, .int .i64 y, .int .i64 (Wn : Int), .int .i64 (Hn : Int)] := Bk.new' rfl
      have hx0 : Ext w (w.alloc (.cells #[.int .i64 x, .int .i64 y, .int .i64 (Wn : Int), .int .i64 (Hn : Int)] 23)) := (Ext.refl w).alloc _
      have W2 : (Wn : Int) * (Hn : Int) = ((Wn * Hn : Nat) : Int) := by rw [← Int.natCast_mul]
      have hbb : ((n : Int) != ((Wn * Hn : Nat) : Int)) = true := by simpa using h2
      generalize Wn * Hn = M at *
      clear hr h1 hq hR
      go_enter Try.func46, Try.ntmps46
      go_upto_region 1 with fail
      generalize w.alloc (.cells #[.int .i64 x, .int .i64 y, .int .i64 (Wn : Int), .int .i64 (Hn : Int)] 23) = w1 at *
      generalize w.heap.size = h0 at kR ⊢
      have c0 := kR.cell 0
      have c1 := kR.cell 1
      have c2 := kR.cell 2
      have c3 := kR.cell 3
      go_upto_region 4 with (go_at_call 26; refine ((HR _).out).mono ?_; rintro e w2 ⟨rfl, hx2⟩)
      have kR2 := kR.ext hx2
      have hxw := hx0.trans hx2
      clear c0 c1 c2 c3 kR hx0 hx2
      have c2 := kR2.cell 2
      have c3 := kR2.cell 3
      go_wp2_with fail
      go_ret
      exact ⟨by first | rfl | simp, hxw⟩
  · rw [dirsE_bad h1]
    have HR := fun (w : World) => hidA (regionError_any x y ww hh w)
    have hne : (regE x y ww hh != 0) = true := by simpa using h1
    generalize regE x y ww hh = R at *
    have kR : Bk (w.alloc (.cells #[.int .i64 x, .int .i64 y, .int .i64 ww, .int .i64 hh] 23)) w.heap.size 23 #[.int .i64 x, .int .i64 y, .int .i64 ww, .int .i64 hh] := Bk.new' rfl
    have hx0 : Ext w (w.alloc (.cells #[.int .i64 x, .int .i64 y, .int .i64 ww, .int .i64 hh] 23)) := (Ext.refl w).alloc _
    clear hq hR
    go_enter Try.func46, Try.ntmps46
    go_upto_region 1 with fail
    generalize w.alloc (.cells #[.int .i64 x, .int .i64 y, .int .i64 ww, .int .i64 hh] 23) = w1 at *
    generalize w.heap.size = h0 at kR ⊢
    have c0 := kR.cell 0
    have c1 := kR.cell 1
    have c2 := kR.cell 2
    have c3 := kR.cell 3
    go_wp2_with (go_at_call 26; refine ((HR _).out).mono ?_; rintro e w2 ⟨rfl, hx2⟩)
    go_ret
    exact ⟨by first | rfl | simp, hx0.trans hx2⟩
theorem Next_matches (X Y px py : Int) (Wn Hn N c : Nat) (A : Option Addr) (D : Nat → Int) (m : Nat → Nat) (w : World) (hr : Reg X Y Wn Hn) (hr0 : regE X Y Wn Hn = 0) (hN : N = Wn * Hn) (hD : DirsAt w A N D) (hL : Lead Wn Hn N D m) :
    Calls Try.prog 47 #[.agg #[.int .i64 X, .int .i64 Y, .int .i64 (Wn : Int), .int .i64 (Hn : Int)], .slice A N c, .agg #[.int .i64 px, .int .i64 py]] w fun e w' => ∃ (tx ty : Int) (is : Bool) (e1 : Int), e = .returned (.tuple #[.agg #[.int .i64 tx, .int .i64 ty], .bool is, .int .i64 e1]) ∧ Ext w w' ∧
      ∀ w2, Ext w w2 → Calls Try.prog 51 #[.agg #[.int .i64 X, .int .i64 Y, .int .i64 (Wn : Int), .int .i64 (Hn : Int)], .slice A N c, .agg #[.int .i64 px, .int .i64 py], .agg #[.int .i64 tx, .int .i64 ty], .bool is, .int .i64 e1] w2 fun e w' => e = .returned (.bool true) ∧ Ext w2 w' := by
  by_cases hin : InR X Y Wn Hn px py
  · obtain ⟨k, hk, rfl, rfl⟩ := place_cell hr hin
    have hkN : k < N := by rw [hN]; exact hk
    have h := Next_ok X Y Wn Hn N c k A D m w hr hr0 hN hD hL hkN
    unfold rgv at h
    cases hn : nxtD D Wn Hn k with
    | none =>
      rw [hn] at h
      have h0 : D k < 0 := by
        by_cases h0 : D k < 0
        · exact h0
        · obtain ⟨n, h1, _⟩ := hL.step k hkN (by omega)
          unfold nxtD at hn
          rw [if_neg h0, h1] at hn
          cases hn
      refine h.mono ?_
      rintro e w' ⟨rfl, hx⟩
      exact ⟨0, 0, false, 0, rfl, hx, fun w2 h2 => nextM_none X Y Wn Hn N c k A D w2 hr hN (hD.ext h2) hkN h0⟩
    | some n =>
      rw [hn] at h
      refine h.mono ?_
      rintro e w' ⟨rfl, hx⟩
      exact ⟨_, _, true, 0, rfl, hx, fun w2 h2 => nextM_some X Y Wn Hn N c k n A D m w2 hr hN (hD.ext h2) hL hkN hn⟩
  · refine (Next_out X Y px py Wn Hn N c A D m w hr hr0 hN hD hL hin).mono ?_
    rintro e w' ⟨rfl, hx⟩
    exact ⟨0, 0, false, 5, rfl, hx, fun w2 _ => nextM_out X Y px py Wn Hn N c A w2 hr hin⟩
theorem numsE_zero {q : List Int} {N : Nat} {most : Int} (h : numsE q N most = 0) : q.length = N ∧ ∀ k, k < N → 0 ≤ q.getD k 0 ∧ q.getD k 0 ≤ most := by
  unfold numsE at h
  split at h
  · cases h
  · rename_i h1
    have hl : q.length = N := by simpa using h1
    refine ⟨hl, fun k hk => ?_⟩
    split at h
    · cases h
    · rename_i h2
      have h3 : ¬ (q.getD k 0 < 0 ∨ most < q.getD k 0) := fun h3 => h2 ⟨k, by omega, h3⟩
      omega
theorem Gather_matches (X Y : Int) (Wn Hn N c n cR : Nat) (A R : Option Addr) (D : Nat → Int) (m : Nat → Nat) (q : List Int) (w : World) (hr : Reg X Y Wn Hn) (hr0 : regE X Y Wn Hn = 0) (hN : N = Wn * Hn) (hD : DirsAt w A N D) (hL : Lead Wn Hn N D m) (hq : q.length = n) (hR : Rd w R (intL q)) (hb : n ≤ 140737488351232) :
    Calls Try.prog 48 #[.agg #[.int .i64 X, .int .i64 Y, .int .i64 (Wn : Int), .int .i64 (Hn : Int)], .slice A N c, .slice R n cR] w fun e w' => ∃ (vA : Option Addr) (vn vc : Nat) (e2 : Int), e = .returned (.tuple #[.slice vA vn vc, .int .i64 e2]) ∧ Ext w w' ∧
      ∀ w2, Ext w' w2 → Calls Try.prog 52 #[.agg #[.int .i64 X, .int .i64 Y, .int .i64 (Wn : Int), .int .i64 (Hn : Int)], .slice A N c, .slice R n cR, .slice vA vn vc, .int .i64 e2] w2 fun e w' => e = .returned (.bool true) ∧ Ext w2 w' := by
  by_cases hE : numsE q N 1073741824 = 0
  · obtain ⟨hqN, hrb⟩ := numsE_zero hE
    obtain rfl : n = N := by omega
    have h := Gather_ok X Y Wn Hn n c cR A R D m (trD D Wn Hn) q w hr hr0 hN hD hL (trD_ok hL hN) hqN hR hrb
    unfold rgv at h
    refine h.mono ?_
    rintro e w' ⟨g, cp, rfl, hG, _, hx⟩
    exact ⟨_, _, _, _, rfl, hx, fun w2 h2 => gatherM_good X Y Wn Hn n c n cR A R q D m g cp w2 hq (hR.ext (hx.trans h2)) hb hr hN (hD.ext (hx.trans h2)) hL hE (hG.ext h2)⟩
  · refine (Gather_rain X Y Wn Hn N c n cR A R D m q w hr hr0 hN hD hL hq hR hb hE).mono ?_
    rintro e w' ⟨rfl, hx⟩
    exact ⟨_, _, _, _, rfl, hx, fun w2 h2 => gatherM_bad X Y Wn Hn N c n cR A R q w2 hq (hR.ext (hx.trans h2)) hb hE⟩
end Go.Proofs.Ytinohfgokpbcdaa
