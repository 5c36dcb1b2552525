/- Contract: water.Depth; the walk of the law DepthMatches. -/
import Derived.Test.YtinohfgokpbcdaaDepthB
import Derived.Test.YtinohfgokpbcdaaFlows
namespace Go.Proofs.Ytinohfgokpbcdaa
open Go.RowKit
attribute [local go_sem ↓] Go.wp_at_zero Go.wp_at_succ

theorem f32bits' (a : Nat) (w : World) : (callFunc 35 #[.float .f32 a]).run Try.prog w = .ok (.value (.int .u32 a)) w := by kernel_rfl
attribute [local go_sem] f32bits'
/-- the error of a depth -/
def depE (r le mo : Nat) (st n : Int) (drop : Nat) : Int := if carvE r le mo st ≠ 0 then carvE r le mo st else if numE [drop] ≠ 0 then numE [drop] else if n < 0 ∨ 1099511627776 < n then 3 else 0
theorem dep_first (r le mo : Nat) (st n : Int) (drop : Nat) : firstE [carvE r le mo st, numE [drop], if (!(decide (0 ≤ n) && decide (n ≤ 1099511627776))) = true then 3 else 0] = depE r le mo st n drop := by
  have h3 : ∀ a b c : Int, firstE [a, b, c] = if a ≠ 0 then a else if b ≠ 0 then b else c := fun a b c => by
    by_cases ha : a = 0
    · by_cases hb : b = 0
      · by_cases hc : c = 0 <;> simp [firstE, ha, hb, hc]
      · simp [firstE, ha, hb]
    · simp [firstE, ha]
  have hb : (if (!(decide (0 ≤ n) && decide (n ≤ 1099511627776))) = true then (3 : Int) else 0) = if n < 0 ∨ 1099511627776 < n then 3 else 0 := by
    by_cases h : n < 0 ∨ 1099511627776 < n
    · have h2 : (!(decide (0 ≤ n) && decide (n ≤ 1099511627776))) = true := by
        by_cases h4 : 0 ≤ n <;> by_cases h5 : n ≤ 1099511627776 <;> simp [h4, h5] <;> omega
      rw [if_pos h, if_pos h2]
    · have h2 : ¬ (!(decide (0 ≤ n) && decide (n ≤ 1099511627776))) = true := by
        have h4 : 0 ≤ n := by omega
        have h5 : n ≤ 1099511627776 := by omega
        simp [h4, h5]
      rw [if_neg h, if_neg h2]
  rw [h3, hb]
  rfl
theorem carv_bd {r le mo : Nat} {st : Int} (h : carvE r le mo st = 0) : Bd 20 r := by
  have h1 : numE [r, le, mo] = 0 := Classical.byContradiction fun h2 => by
    unfold carvE at h
    rw [if_pos h2] at h
    exact h2 h
  exact hgt_bd ((numE_zero h1).2 r (by simp))

theorem depE_zero {r le mo : Nat} {st n : Int} {drop : Nat} (h : depE r le mo st n drop = 0) : carvE r le mo st = 0 ∧ numE [drop] = 0 ∧ n ≤ 1099511627776 := by
  unfold depE at h
  by_cases h1 : carvE r le mo st = 0
  · rw [if_neg (fun h2 => h2 h1)] at h
    by_cases h2 : numE [drop] = 0
    · rw [if_neg (fun h3 => h3 h2)] at h
      by_cases h3 : n < 0 ∨ 1099511627776 < n
      · rw [if_pos h3] at h; cases h
      · exact ⟨h1, h2, by omega⟩
    · rw [if_pos h2] at h; exact absurd h h2
  · rw [if_pos h1] at h; exact absurd h h1
/-- what Depth returns -/
def depV (r le mo : Nat) (st n : Int) (drop : Nat) : Nat := if depE r le mo st n drop = 0 then depF r le mo n drop else 0
set_option maxRecDepth 100000 in
set_option maxHeartbeats 3200000 in
theorem Depth_any (r le mo : Nat) (st n : Int) (drop : Nat) (w : World) : Calls Try.prog 31 #[.agg #[.float .f32 r, .float .f32 le, .float .f32 mo, .int .i64 st], .int .i64 n, .float .f32 drop] w fun e w' => e = .returned (.tuple #[.float .f32 (depV r le mo st n drop), .int .i64 (depE r le mo st n drop)]) ∧ Ext w w' := by
  have HC := fun (w : World) => hidA (checkCarving_any r le mo st w)
  have HN := fun (B : Option Addr) (w : World) (h : Rd w B (flt [drop])) => hidA (heights_any B 1 1 [drop] w rfl h (by omega))
  have hE : depE r le mo st n drop = if carvE r le mo st ≠ 0 then carvE r le mo st else if numE [drop] ≠ 0 then numE [drop] else if n < 0 ∨ 1099511627776 < n then 3 else 0 := rfl
  have hV : depV r le mo st n drop = if depE r le mo st n drop = 0 then depF r le mo n drop else 0 := rfl
  have HE := hidA hE
  have HV := hidA hV
  have HB := hidA (@carv_bd r le mo st)
  have HD := hidA (show numE [drop] = 0 → Bd 20 drop from fun h => hgt_bd ((numE_zero h).2 drop (by simp)))
  have HF := fun (w : World) (h1 : carvE r le mo st = 0) (h2 : numE [drop] = 0) (h3 : n ≤ 1099511627776) => hidA (depth_any r le mo st n drop w (HB.out h1) (HD.out h2) h3)
  generalize depV r le mo st n drop = V at *
  generalize depF r le mo n drop = D at *
  generalize depE r le mo st n drop = E at *
  generalize carvE r le mo st = f1 at *
  generalize numE [drop] = f2 at *
  clear hE hV HB HD
  by_cases h1 : f1 = 0
  · subst h1
    by_cases h2 : f2 = 0
    · subst h2
      by_cases h3 : n < 0 ∨ 1099511627776 < n
      · have hv : Hid (E = 3 ∧ V = 0) := by
          have e : E = 3 := by rw [HE.out]; simp [h3]
          exact ⟨e, by rw [HV.out, e]; rfl⟩
        have h4 : n < 0 ∨ (¬ n < 0 ∧ 1099511627776 < n) := by omega
        clear HF
        rcases h4 with c1 | ⟨c1, c2⟩
        · clear h3
          obtain ⟨hv1, hv2⟩ := hv.out
          clear HE HV hv
          subst hv1
          subst hv2
          go_enter Try.func31, Try.ntmps31
          go_wp2_with (first | (go_at_call 33; refine ((HC _).out).mono ?_; rintro e w1 ⟨rfl, hx1⟩; have kC : Bk w1 w.heap.size 52 #[.float .f32 r, .float .f32 le, .float .f32 mo, .int .i64 st] := (Bk.new' rfl).ext hx1; have c0' := kC.cell 0; have c1' := kC.cell 1; have c2' := kC.cell 2; have c3' := kC.cell 3; have kl := kC.lt) | (go_at_call 81; refine ((HN _ _ (Rd.new rfl rfl)).out).mono ?_; rintro e w2 ⟨rfl, rfl⟩))
          go_ret2
          exact ⟨rfl, (by repeat (first | (with_reducible exact Ext.refl _) | (with_reducible assumption) | (with_reducible refine Ext.setCell ?_ (by first | (simp; done) | (simp; omega)) _) | (with_reducible refine Ext.drewN ?_ _) | (with_reducible refine Ext.alloc ?_ _) | (with_reducible refine Ext.drew ?_) | (with_reducible refine Ext.trans ?_ (by assumption))))⟩
        · clear h3
          obtain ⟨hv1, hv2⟩ := hv.out
          clear HE HV hv
          subst hv1
          subst hv2
          go_enter Try.func31, Try.ntmps31
          go_wp2_with (first | (go_at_call 33; refine ((HC _).out).mono ?_; rintro e w1 ⟨rfl, hx1⟩; have kC : Bk w1 w.heap.size 52 #[.float .f32 r, .float .f32 le, .float .f32 mo, .int .i64 st] := (Bk.new' rfl).ext hx1; have c0' := kC.cell 0; have c1' := kC.cell 1; have c2' := kC.cell 2; have c3' := kC.cell 3; have kl := kC.lt) | (go_at_call 81; refine ((HN _ _ (Rd.new rfl rfl)).out).mono ?_; rintro e w2 ⟨rfl, rfl⟩))
          go_ret2
          exact ⟨rfl, (by repeat (first | (with_reducible exact Ext.refl _) | (with_reducible assumption) | (with_reducible refine Ext.setCell ?_ (by first | (simp; done) | (simp; omega)) _) | (with_reducible refine Ext.drewN ?_ _) | (with_reducible refine Ext.alloc ?_ _) | (with_reducible refine Ext.drew ?_) | (with_reducible refine Ext.trans ?_ (by assumption))))⟩
      · have hv : Hid (E = 0 ∧ V = D) := by
          have e : E = 0 := by rw [HE.out]; simp [h3]
          exact ⟨e, by rw [HV.out, e]; rfl⟩
        have c1 : ¬ n < 0 := by omega
        have c2 : ¬ 1099511627776 < n := by omega
        have HG := fun (w : World) => HF w rfl rfl (by omega)
        clear h3 HF
        obtain ⟨hv1, hv2⟩ := hv.out
        clear HE HV hv
        subst hv1
        subst hv2
        go_enter Try.func31, Try.ntmps31
        go_wp2_with (first | (go_at_call 33; refine ((HC _).out).mono ?_; rintro e w1 ⟨rfl, hx1⟩; have kC : Bk w1 w.heap.size 52 #[.float .f32 r, .float .f32 le, .float .f32 mo, .int .i64 st] := (Bk.new' rfl).ext hx1; have c0' := kC.cell 0; have c1' := kC.cell 1; have c2' := kC.cell 2; have c3' := kC.cell 3; have kl := kC.lt) | (go_at_call 81; refine ((HN _ _ (Rd.new rfl rfl)).out).mono ?_; rintro e w2 ⟨rfl, rfl⟩) | (go_at_call 88; refine ((HG _).out).mono ?_; rintro e w3 ⟨rfl, hx3⟩))
        go_ret2
        exact ⟨rfl, (by repeat (first | (with_reducible exact Ext.refl _) | (with_reducible assumption) | (with_reducible refine Ext.setCell ?_ (by first | (simp; done) | (simp; omega)) _) | (with_reducible refine Ext.drewN ?_ _) | (with_reducible refine Ext.alloc ?_ _) | (with_reducible refine Ext.drew ?_) | (with_reducible refine Ext.trans ?_ (by assumption))))⟩
    · have h2' : (f2 != 0) = true := by simpa using h2
      have hv : Hid (E = f2 ∧ V = 0) := by
        have e : E = f2 := by rw [HE.out]; simp [h2]
        exact ⟨e, by rw [HV.out, if_neg (by rw [e]; exact h2)]⟩
      clear HF h2
      obtain ⟨hv1, hv2⟩ := hv.out
      clear HE HV hv
      subst hv1
      subst hv2
      go_enter Try.func31, Try.ntmps31
      go_wp2_with (first | (go_at_call 33; refine ((HC _).out).mono ?_; rintro e w1 ⟨rfl, hx1⟩; have kC : Bk w1 w.heap.size 52 #[.float .f32 r, .float .f32 le, .float .f32 mo, .int .i64 st] := (Bk.new' rfl).ext hx1; have c0' := kC.cell 0; have c1' := kC.cell 1; have c2' := kC.cell 2; have c3' := kC.cell 3; have kl := kC.lt) | (go_at_call 81; refine ((HN _ _ (Rd.new rfl rfl)).out).mono ?_; rintro e w2 ⟨rfl, rfl⟩))
      go_ret2
      exact ⟨rfl, (by repeat (first | (with_reducible exact Ext.refl _) | (with_reducible assumption) | (with_reducible refine Ext.setCell ?_ (by first | (simp; done) | (simp; omega)) _) | (with_reducible refine Ext.drewN ?_ _) | (with_reducible refine Ext.alloc ?_ _) | (with_reducible refine Ext.drew ?_) | (with_reducible refine Ext.trans ?_ (by assumption))))⟩
  · have h1' : (f1 != 0) = true := by simpa using h1
    have hv : Hid (E = f1 ∧ V = 0) := by
      have e : E = f1 := by rw [HE.out]; simp [h1]
      exact ⟨e, by rw [HV.out, if_neg (by rw [e]; exact h1)]⟩
    clear HF h1
    obtain ⟨hv1, hv2⟩ := hv.out
    clear HE HV hv
    subst hv1
    subst hv2
    go_enter Try.func31, Try.ntmps31
    go_wp2_with (first | (go_at_call 33; refine ((HC _).out).mono ?_; rintro e w1 ⟨rfl, hx1⟩; have kC : Bk w1 w.heap.size 52 #[.float .f32 r, .float .f32 le, .float .f32 mo, .int .i64 st] := (Bk.new' rfl).ext hx1; have c0' := kC.cell 0; have c1' := kC.cell 1; have c2' := kC.cell 2; have c3' := kC.cell 3; have kl := kC.lt) | (go_at_call 81; refine ((HN _ _ (Rd.new rfl rfl)).out).mono ?_; rintro e w2 ⟨rfl, rfl⟩))
    go_ret2
    exact ⟨rfl, (by repeat (first | (with_reducible exact Ext.refl _) | (with_reducible assumption) | (with_reducible refine Ext.setCell ?_ (by first | (simp; done) | (simp; omega)) _) | (with_reducible refine Ext.drewN ?_ _) | (with_reducible refine Ext.alloc ?_ _) | (with_reducible refine Ext.drew ?_) | (with_reducible refine Ext.trans ?_ (by assumption))))⟩

set_option maxRecDepth 100000 in
set_option maxHeartbeats 6400000 in
theorem depth_walk (r le mo : Nat) (st n : Int) (drop : Nat) (w : World) : Calls Try.prog 5 #[.agg #[.float .f32 r, .float .f32 le, .float .f32 mo, .int .i64 st], .int .i64 n, .float .f32 drop] w fun e w' => e = .returned (.bool true) ∧ Ext w w' := by
  have HD := fun (w : World) => hidA (Depth_any r le mo st n drop w)
  have HC := fun (w : World) => hidA (checkCarving_any r le mo st w)
  have HE := fun (w : World) => hidA (carvingError_any r le mo st w)
  have HW := fun (w : World) => hidA (flows_any w)
  have HN := fun (B : Option Addr) (w : World) (h : Rd w B (flt [drop])) => hidA (numberError_any B 1 1 [drop] w rfl h (by omega))
  have HB := fun (w : World) => hidA (within_any n 0 1099511627776 w)
  have HWh := fun (b : Bool) (w : World) => hidA (when_any b 3 w)
  have HS := fun (B : Option Addr) (w : World) (h : Rd w B ([carvE r le mo st, numE [drop], if (!(decide (0 ≤ n) && decide (n ≤ 1099511627776))) = true then 3 else 0].map (.int .i64))) => hidA (first_any B 3 3 [carvE r le mo st, numE [drop], if (!(decide (0 ≤ n) && decide (n ≤ 1099511627776))) = true then 3 else 0] w rfl h (by omega))
  rw [dep_first] at HS
  have hV : depV r le mo st n drop = if depE r le mo st n drop = 0 then depF r le mo n drop else 0 := rfl
  have HO := fun (w : World) (h : depE r le mo st n drop = 0) => hidA (depthOf_any r le mo st n drop w (carv_bd (depE_zero h).1) (hgt_bd ((numE_zero (depE_zero h).2.1).2 drop (by simp))) (depE_zero h).2.2)
  have HV := hidA hV
  generalize (decide (0 ≤ n) && decide (n ≤ 1099511627776)) = b at *
  generalize depV r le mo st n drop = V at *
  generalize depF r le mo n drop = D at *
  generalize depE r le mo st n drop = E at *
  generalize carvE r le mo st = f1 at *
  generalize numE [drop] = f2 at *
  have heq : (f1 != f1) = false := by simp
  clear hV
  by_cases hE : E = 0
  · subst hE
    have hv : V = D := by rw [HV.out]; rfl
    subst hv
    have HO' := fun w => HO w rfl
    clear HO HV
    cases b
    all_goals
      go_enter Try.func5, Try.ntmps5
      go_wp2_with fail
      refine ((HD _).out).mono ?_
      rintro e w1 ⟨rfl, hx1⟩
      have kC : Bk w1 w.heap.size 52 #[.float .f32 r, .float .f32 le, .float .f32 mo, .int .i64 st] := (Bk.new' rfl).ext hx1
      have c0 := kC.cell 0
      have c1 := kC.cell 1
      have c2 := kC.cell 2
      have c3 := kC.cell 3
      go_wp2_with fail
      refine ((HE _).out).mono ?_
      rintro e w2 ⟨rfl, hx2⟩
      clear c0 c1 c2 c3
      have kC2 := kC.ext hx2
      go_wp2_with fail
      refine ((HW _).out).mono ?_
      rintro e w3 ⟨rfl, hx3⟩
      have kC3 := kC2.ext hx3
      have c0 := kC3.cell 0
      have c1 := kC3.cell 1
      have c2 := kC3.cell 2
      have c3 := kC3.cell 3
      go_wp2_with fail
      refine ((HC _).out).mono ?_
      rintro e w4 ⟨rfl, hx4⟩
      have kC4 := kC3.ext hx4
      clear c0 c1 c2 c3
      go_wp2_with fail
      refine ((HN _ _ (Rd.new (by first | rfl | simp) (by first | rfl | simp))).out).mono ?_
      rintro e w5 ⟨rfl, rfl⟩
      go_wp2_with fail
      refine ((HB _).out).mono ?_
      rintro e w6 ⟨rfl, rfl⟩
      go_wp2_with fail
      refine ((HWh _ _).out).mono ?_
      rintro e w7 ⟨rfl, rfl⟩
      go_wp2_with fail
      refine ((HS _ _ (Rd.new (by first | rfl | simp) (by first | rfl | simp))).out).mono ?_
      rintro e w8 ⟨rfl, hx8⟩
      have hg8 : Ext w w8 := by rw [← hx8]; (repeat (first | (with_reducible exact Ext.refl _) | (with_reducible assumption) | (with_reducible refine Ext.setCell ?_ (by first | (simp; done) | (simp; omega)) _) | (with_reducible refine Ext.drewN ?_ _) | (with_reducible refine Ext.alloc ?_ _) | (with_reducible refine Ext.drew ?_) | (with_reducible refine Ext.trans ?_ (by assumption))))
      have kC8 : Bk w8 w.heap.size 52 #[.float .f32 r, .float .f32 le, .float .f32 mo, .int .i64 st] := by rw [← hx8]; exact (kC4.alloc _).alloc _
      have c0 := kC8.cell 0
      have c1 := kC8.cell 1
      have c2 := kC8.cell 2
      have c3 := kC8.cell 3
      clear hx8
      go_wp2_with fail
      refine ((HO' _).out).mono ?_
      rintro e w9 ⟨rfl, hx9⟩
      go_wp2_with fail
      go_ret
      exact ⟨by first | rfl | simp, (by repeat (first | (with_reducible exact Ext.refl _) | (with_reducible assumption) | (with_reducible refine Ext.setCell ?_ (by first | (simp; done) | (simp; omega)) _) | (with_reducible refine Ext.drewN ?_ _) | (with_reducible refine Ext.alloc ?_ _) | (with_reducible refine Ext.drew ?_) | (with_reducible refine Ext.trans ?_ (by assumption))))⟩
  · have hE' : (E != 0) = true := by simpa using hE
    have hv : V = 0 := by rw [HV.out, if_neg hE]
    subst hv
    clear HO HV hE
    cases b
    all_goals
      go_enter Try.func5, Try.ntmps5
      go_wp2_with fail
      refine ((HD _).out).mono ?_
      rintro e w1 ⟨rfl, hx1⟩
      have kC : Bk w1 w.heap.size 52 #[.float .f32 r, .float .f32 le, .float .f32 mo, .int .i64 st] := (Bk.new' rfl).ext hx1
      have c0 := kC.cell 0
      have c1 := kC.cell 1
      have c2 := kC.cell 2
      have c3 := kC.cell 3
      go_wp2_with fail
      refine ((HE _).out).mono ?_
      rintro e w2 ⟨rfl, hx2⟩
      clear c0 c1 c2 c3
      have kC2 := kC.ext hx2
      go_wp2_with fail
      refine ((HW _).out).mono ?_
      rintro e w3 ⟨rfl, hx3⟩
      have kC3 := kC2.ext hx3
      have c0 := kC3.cell 0
      have c1 := kC3.cell 1
      have c2 := kC3.cell 2
      have c3 := kC3.cell 3
      go_wp2_with fail
      refine ((HC _).out).mono ?_
      rintro e w4 ⟨rfl, hx4⟩
      have kC4 := kC3.ext hx4
      clear c0 c1 c2 c3
      go_wp2_with fail
      refine ((HN _ _ (Rd.new (by first | rfl | simp) (by first | rfl | simp))).out).mono ?_
      rintro e w5 ⟨rfl, rfl⟩
      go_wp2_with fail
      refine ((HB _).out).mono ?_
      rintro e w6 ⟨rfl, rfl⟩
      go_wp2_with fail
      refine ((HWh _ _).out).mono ?_
      rintro e w7 ⟨rfl, rfl⟩
      go_wp2_with fail
      refine ((HS _ _ (Rd.new (by first | rfl | simp) (by first | rfl | simp))).out).mono ?_
      rintro e w8 ⟨rfl, hx8⟩
      have hg8 : Ext w w8 := by rw [← hx8]; (repeat (first | (with_reducible exact Ext.refl _) | (with_reducible assumption) | (with_reducible refine Ext.setCell ?_ (by first | (simp; done) | (simp; omega)) _) | (with_reducible refine Ext.drewN ?_ _) | (with_reducible refine Ext.alloc ?_ _) | (with_reducible refine Ext.drew ?_) | (with_reducible refine Ext.trans ?_ (by assumption))))
      have kC8 : Bk w8 w.heap.size 52 #[.float .f32 r, .float .f32 le, .float .f32 mo, .int .i64 st] := by rw [← hx8]; exact (kC4.alloc _).alloc _
      have c0 := kC8.cell 0
      have c1 := kC8.cell 1
      have c2 := kC8.cell 2
      have c3 := kC8.cell 3
      clear hx8
      go_wp2_with fail
      go_ret
      exact ⟨by first | rfl | simp, (by repeat (first | (with_reducible exact Ext.refl _) | (with_reducible assumption) | (with_reducible refine Ext.setCell ?_ (by first | (simp; done) | (simp; omega)) _) | (with_reducible refine Ext.drewN ?_ _) | (with_reducible refine Ext.alloc ?_ _) | (with_reducible refine Ext.drew ?_) | (with_reducible refine Ext.trans ?_ (by assumption))))⟩
end Go.Proofs.Ytinohfgokpbcdaa
