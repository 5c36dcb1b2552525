/- The walk of the law ShowersArePlaces. -/
import Derived.Test.YtinohfgokpbcdaaShowA
namespace Go.Proofs.Ytinohfgokpbcdaa
open Go.RowKit
attribute [local go_sem ↓] Go.wp_at_zero Go.wp_at_succ

def intL (l : List Int) : List Value := l.map (.int .i64)
theorem Rd.reads {w : World} {ad : Addr} {xs : List Value} (h : Rd w (some ad) xs) : ∀ j u, xs[j]? = some u → w.cell? (ad.add j) = some u := fun j u hu => by
  obtain ⟨ad', e, _, hc⟩ := h (by rintro e; rw [e] at hu; simp at hu)
  injection e with e
  subst e
  exact hc j u hu
set_option maxRecDepth 100000 in
set_option maxHeartbeats 1600000 in
theorem eqInts_same (A B : Option Addr) (n c d : Nat) (q : List Int) (w : World) (hn : q.length = n) (ha : Rd w A (intL q)) (hb : Rd w B (intL q)) (hnb : n ≤ 4000000) :
    Calls Try.prog 30 #[.slice A n c, .slice B n d] w fun e w' => e = .returned (.bool true) ∧ Ext w w' := by
  have Hn := hidA hn
  clear hn
  go_enter Try.func30, Try.ntmps30
  go_wp2
  go_loopw [13] (fun i wr => ∃ k m : Nat, k ≤ n ∧ i = .int .i64 k ∧ wr = w.drewN m) (fun i _ => n - (intOf i).toNat)
  case atStart => exact ⟨0, 0, Nat.zero_le _, rfl, rfl⟩
  case round =>
    obtain ⟨k, m, hk, rfl, rfl⟩ := hrel
    by_cases hlt : k < n
    · have hkl : k < q.length := by have := Hn.out; omega
      obtain ⟨ad, rfl, hbk, _⟩ := ha.at (k := k) (by simpa [intL] using hkl)
      obtain ⟨ad2, rfl, hbk2, _⟩ := hb.at (k := k) (by simpa [intL] using hkl)
      have e0 := ha.reads k (.int .i64 q[k]) (by simp [intL, hkl])
      have e2 := hb.reads k (.int .i64 q[k]) (by simp [intL, hkl])
      generalize q[k] = v at *
      have k0 : (0 : Int) ≤ k := by omega
      have k1 : (k : Int) < n := by omega
      clear ha hb
      go_wp2
      go_quiet (fail)
      go_wp2
      go_roundw
      case rel => exact ⟨k + 1, _, by omega, by go_num, rfl⟩
      case measure => simp [intOf]; omega
    · obtain rfl : k = n := by omega
      go_wp2
      go_ret
      exact ⟨rfl, (by repeat (first | exact Ext.refl _ | assumption | refine Ext.setCell ?_ (by first | (simp; done) | (simp; omega)) _ | refine Ext.drewN ?_ _ | refine Ext.alloc ?_ _ | refine Ext.drew ?_ | refine Ext.trans ?_ (by assumption)))⟩

theorem first2 (a b : Int) : firstE [a, b] = if a ≠ 0 then a else b := by
  by_cases ha : a = 0
  · by_cases hb : b = 0 <;> simp [firstE, ha, hb]
  · simp [firstE, ha]
def withB (most : Int) : Bool := decide (0 ≤ most) && decide (most ≤ 1048576)
theorem showE_first (x y ww hh most : Int) : firstE [regE x y ww hh, if (!withB most) = true then 3 else 0] = showE x y ww hh most := by
  rw [first2]
  unfold showE withB
  by_cases h : most < 0 ∨ 1048576 < most
  · rw [if_pos h]
    have : (!(decide (0 ≤ most) && decide (most ≤ 1048576))) = true := by simp; omega
    rw [if_pos this]
  · rw [if_neg h]
    have : ¬ (!(decide (0 ≤ most) && decide (most ≤ 1048576))) = true := by simp; omega
    rw [if_neg this]

set_option maxRecDepth 100000 in
set_option maxHeartbeats 3200000 in
theorem showers_bad (x y ww hh s most : Int) (w : World) (hE : showE x y ww hh most ≠ 0) :
    Calls Try.prog 4 #[.agg #[.int .i64 x, .int .i64 y, .int .i64 ww, .int .i64 hh], .int .u32 s, .int .i64 most] w fun e w' => e = .returned (.bool true) ∧ Ext w w' := by
  have HF := fun (w : World) => hidA (Shower_bad x y ww hh s most w hE)
  have HE := fun (w : World) => hidA (regionError_any x y ww hh w)
  have HB := fun (w : World) => hidA (within_any most 0 1048576 w)
  have HWh := fun (b : Bool) (w : World) => hidA (when_any b 3 w)
  have HS := fun (B : Option Addr) (w : World) (h : Rd w B ([regE x y ww hh, if (!withB most) = true then 3 else 0].map (.int .i64))) => hidA (first_any B 2 2 [regE x y ww hh, if (!withB most) = true then 3 else 0] w rfl h (by omega))
  rw [showE_first] at HS
  have HW := fun (w : World) => hidA (flows_any w)
  have hE' : (showE x y ww hh most != 0) = true := by simpa using hE
  have hwb : (decide (0 ≤ most) && decide (most ≤ 1048576)) = withB most := rfl
  simp only [hwb] at HB
  clear hE hwb
  generalize showE x y ww hh most = E at *
  generalize regE x y ww hh = f1 at *
  generalize withB most = b at *
  go_enter Try.func4, Try.ntmps4
  go_wp2_with fail
  refine ((HF _).out).mono ?_
  rintro e w1 ⟨rfl, hx1⟩
  have kF : Bk w1 w.heap.size 23 #[.int .i64 x, .int .i64 y, .int .i64 ww, .int .i64 hh] := (Bk.new' rfl).ext hx1
  have c0 := kF.cell 0
  have c1 := kF.cell 1
  have c2 := kF.cell 2
  have c3 := kF.cell 3
  go_wp2_with fail
  refine ((HE _).out).mono ?_
  rintro e w2 ⟨rfl, hx2⟩
  have hx3 : Ext w w2 := (((Ext.refl w).alloc _).trans hx1).trans hx2
  clear c0 c1 c2 c3 kF hx1 hx2
  go_wp2_with fail
  refine ((HB _).out).mono ?_
  rintro e w3 ⟨rfl, rfl⟩
  cases b
  all_goals
    go_wp2_with fail
    refine ((HWh _ _).out).mono ?_
    rintro e w4 ⟨rfl, rfl⟩
    go_wp2_with fail
    refine ((HS _ _ (Rd.new (by first | rfl | simp) (by first | rfl | simp))).out).mono ?_
    rintro e w5 ⟨rfl, hx5⟩
    have hg5 : Ext w2 w5 := by rw [← hx5]; (repeat (first | (with_reducible exact Ext.refl _) | (with_reducible assumption) | (with_reducible refine Ext.setCell ?_ (by first | (simp; done) | (simp; omega)) _) | (with_reducible refine Ext.drewN ?_ _) | (with_reducible refine Ext.alloc ?_ _) | (with_reducible refine Ext.drew ?_) | (with_reducible refine Ext.trans ?_ (by assumption))))
    clear hx5
    go_wp2_with fail
    refine ((HW _).out).mono ?_
    rintro e w6 ⟨rfl, hx6⟩
    go_wp2_with fail
    refine ((HW _).out).mono ?_
    rintro e w7 ⟨rfl, hx7⟩
    go_wp2_with fail
    go_ret
    exact ⟨by first | rfl | simp, hx3.trans (hg5.trans (hx6.trans hx7))⟩

/-- a list of integers of the call's own -/
def OwnI (w : World) (base : Nat) (v : Value) (q : List Int) : Prop := w.ownsRow base 3 1 v q.length (intL q)
theorem OwnI.form {w : World} {base : Nat} {v : Value} {q : List Int} (h : OwnI w base v q) : ∃ A cap, v = .slice A q.length cap := by
  rcases h.2 with ⟨h1, h2⟩ | ⟨g, cap, cur, hv, _⟩
  · exact ⟨none, 0, by rw [h1]; simp [h2]⟩
  · exact ⟨_, cap, hv⟩
theorem OwnI.ext {w w' : World} {base : Nat} {v : Value} {xs : List Int} (h : OwnI w base v xs) (hx : Ext w w') : OwnI w' base v xs := World.ownsRow.kept h (grown_ext hx none) (by cases h : v.ownBlock <;> simp)

set_option maxRecDepth 100000 in
set_option maxHeartbeats 6400000 in
theorem showers_good (X Y s most : Int) (Wn Hn N : Nat) (w : World) (hr : Reg X Y Wn Hn) (hN : N = Wn * Hn) (hr0 : regE X Y Wn Hn = 0) (h0 : 0 ≤ most) (h1 : most ≤ 1048576) :
    Calls Try.prog 4 #[.agg #[.int .i64 X, .int .i64 Y, .int .i64 (Wn : Int), .int .i64 (Hn : Int)], .int .u32 s, .int .i64 most] w fun e w' => e = .returned (.bool true) ∧ Ext w w' := by
  have hN6 : N ≤ 65536 := by rw [hN]; exact hr.n
  have HF := fun (w : World) => hidA (Shower_ok X Y s most Wn Hn N w hr hN hr0 h0 h1)
  unfold rgv at HF
  have HE := fun (w : World) => hidA (regionError_any X Y Wn Hn w)
  rw [hr0] at HE
  have HB := fun (w : World) => hidA (within_any most 0 1048576 w)
  have hwb : (decide (0 ≤ most) && decide (most ≤ 1048576)) = true := by simp; omega
  rw [hwb] at HB
  have HWh := fun (w : World) => hidA (when_any false 3 w)
  have HS := fun (B : Option Addr) (w : World) (h : Rd w B ([(0 : Int), 0].map (.int .i64))) => hidA (first_any B 2 2 [0, 0] w rfl h (by omega))
  have hS0 : firstE [(0 : Int), 0] = 0 := rfl
  rw [hS0] at HS
  have HW := fun (w : World) => hidA (flows_any w)
  have HP := fun (k : Nat) (w : World) (h : k < N) => hidA (Place_any X Y Wn Hn k w hr.ok (by omega))
  have W1 : wrap64 ((Wn : Int) * (Hn : Int)) = (N : Int) := by rw [← Int.natCast_mul, ← hN]; exact IntWalk.wrap64_in _ ⟨by omega, by omega⟩
  have W2 : (Wn : Int) * (Hn : Int) = (N : Int) := by rw [← Int.natCast_mul, ← hN]
  obtain ⟨i0, hi0, hz0, hz1, hz2⟩ := info_parts infoInt
  clear hr hr0 hwb hS0 hN
  go_enter Try.func4, Try.ntmps4
  go_wp2_with fail
  refine ((HF _).out).mono ?_
  rintro e w1 ⟨g, rfl, kI, hx1⟩
  have kF : Bk w1 w.heap.size 23 #[.int .i64 X, .int .i64 Y, .int .i64 (Wn : Int), .int .i64 (Hn : Int)] := (Bk.new' rfl).ext hx1
  have c0 := kF.cell 0
  have c1 := kF.cell 1
  have c2 := kF.cell 2
  have c3 := kF.cell 3
  go_wp2_with fail
  refine ((HE _).out).mono ?_
  rintro e w2 ⟨rfl, hx2⟩
  have hx3 : Ext w w2 := (((Ext.refl w).alloc _).trans hx1).trans hx2
  have kF2 := kF.ext hx2
  have kI2 := kI.ext hx2
  clear c0 c1 c2 c3 kF hx1 hx2 kI
  go_wp2_with fail
  refine ((HB _).out).mono ?_
  rintro e w3 ⟨rfl, rfl⟩
  go_wp2_with fail
  refine ((HWh _).out).mono ?_
  rintro e w4 ⟨rfl, rfl⟩
  go_wp2_with fail
  refine ((HS _ _ (Rd.new (by first | rfl | simp) (by first | rfl | simp))).out).mono ?_
  rintro e w5 ⟨rfl, hx5⟩
  have hg5 : Ext w2 w5 := by rw [← hx5]; (repeat (first | (with_reducible exact Ext.refl _) | (with_reducible assumption) | (with_reducible refine Ext.setCell ?_ (by first | (simp; done) | (simp; omega)) _) | (with_reducible refine Ext.drewN ?_ _) | (with_reducible refine Ext.alloc ?_ _) | (with_reducible refine Ext.drew ?_) | (with_reducible refine Ext.trans ?_ (by assumption))))
  clear hx5
  go_wp2_with fail
  refine ((HW _).out).mono ?_
  rintro e w6 ⟨rfl, hx6⟩
  have hg6 := hg5.trans hx6
  have kF6 := kF2.ext hg6
  have c2 := kF6.cell 2
  have c3 := kF6.cell 3
  clear hg5 hx6 HF HE HB HS HW HWh
  go_wp2_with fail
  clear c2 c3
  have hx6 := hx3.trans hg6
  have kI6 := kI2.ext hg6
  have hs6 := hx6.size
  go_loopw [10, 51] (fun s10 s51 wr => ∃ k : Nat, k ≤ N ∧ s51 = .int .i64 k ∧ OwnI wr w6.heap.size s10 ((List.range k).map (rainK X Y Wn s most)) ∧ Ext w6 wr) (fun _ s51 _ => N - (intOf s51).toNat)
  case atStart => exact ⟨0, Nat.zero_le _, rfl, World.ownsRow_nil w6 _ _ 1, Ext.refl _⟩
  case round =>
    obtain ⟨k, hk, rfl, hO, hx⟩ := hrel
    by_cases hkN : k < N
    · have c0 := (kF6.ext hx).cell 0
      have c1 := (kF6.ext hx).cell 1
      have c2 := (kF6.ext hx).cell 2
      have c3 := (kF6.ext hx).cell 3
      have HPk := fun (w : World) => HP k w hkN
      have hpl : placeK X Y Wn k = (colK X Wn k, rowK Y Wn k) := rfl
      rw [hpl] at HPk
      dsimp only at HPk
      obtain ⟨m1, m2⟩ := mixK_in s (colK X Wn k) (rowK Y Wn k) 2 3 (by omega)
      have HRn := hidA (show (List.range (k + 1)).map (rainK X Y Wn s most) = (List.range k).map (rainK X Y Wn s most) ++ [mixK s (colK X Wn k) (rowK Y Wn k) 2 3 % (most + 1)] from by rw [List.range_succ, List.map_append]; rfl)
      have HM := fun (w : World) => hidA (mixed_any s (colK X Wn k) (rowK Y Wn k) 2 w)
      generalize colK X Wn k = cx at *
      generalize rowK Y Wn k = cy at *
      generalize mixK s cx cy 2 3 = mx at *
      have hv : wrap64 (mx % (most + 1)) = mx % (most + 1) := IntWalk.wrap64_in _ ⟨by have := Int.emod_nonneg mx (show most + 1 ≠ 0 by omega); omega, by have := Int.emod_lt_of_pos mx (show 0 < most + 1 by omega); omega⟩
      have HO := hidA hO
      clear hO hpl
      go_upto_region 10 with (go_at_call 28; refine ((HPk _).out).mono ?_; rintro e w7 ⟨rfl, hx7⟩)
      clear c0 c1 c2 c3 HPk
      have hlk : ((List.range k).map (rainK X Y Wn s most)).length = k := by simp
      have u1 : mx % (most + 1) = mx % (most + 1) := rfl
      have Hlk := hidA hlk
      have Hm6 := hidA hx
      clear hlk hx u1
      go_upto_region 11 with (first | (go_at_call 29; refine ((HM _).out).mono ?_; rintro e w8 ⟨rfl, hx8⟩; have hO8 := hidA (((HO.out.ext hx7).ext hx8).ext ((Ext.refl w8).alloc (.cells #[.int .i64 (mx % (most + 1))] 3))); have hN8 := hidA (World.news_of_block (w := w8.alloc (.cells #[.int .i64 (mx % (most + 1))] 3)) (cs := #[.int .i64 (mx % (most + 1))]) (t := 3) (fr := (0, 0)) (heap_alloc_new w8 _)); have hs8 := hidA (show w6.heap.size ≤ (w8.alloc (.cells #[.int .i64 (mx % (most + 1))] 3)).heap.size from by have h1 := ((Hm6.out.trans hx7).trans hx8).size; simp; omega); have hx89 := hidA (((Hm6.out.trans hx7).trans hx8).alloc (.cells #[.int .i64 (mx % (most + 1))] 3)); clear hx7 hx8) | (at_builtin; (refine wpList_append_lies _ (by rfl) (.tmp 60) (.tmp 69) 41 (by rfl) w6.heap.size 3 i0 (.int .i64 0) 1 8 Try.underlying41 hi0 hz0 hz1 hz2 (by rfl) (by decide) _ _ _ (by rfl) hO8.out ⟨w8.heap.size, 0, none⟩ 1 1 [.int .i64 (mx % (most + 1))] (by rfl) (by rfl) hN8.out (by intro u hu; simp at hu; subst hu; rfl) (by decide) (by rw [Hlk.out]; unfold maxLen; omega) (by rw [Hlk.out]; omega) hs8.out (w8.heap.size + 1) (by simp) ?_; intro gg cap w9 hown hgrow hat hltg)))
      have hO9 : OwnI w9 w6.heap.size (.slice (some ⟨gg, 0, none⟩) (k + 1) cap) ((List.range (k + 1)).map (rainK X Y Wn s most)) := by
        rw [HRn.out]
        unfold OwnI intL
        rw [List.length_append, Hlk.out, List.map_append]
        rw [Hlk.out] at hown
        exact hown
      have hx9 : Ext w6 w9 := Ext.grown hx89.out hgrow (fun q he => (World.ownsRow.lt hO8.out q he).1)
      have HO9 := hidA hO9
      clear hO9 hown hgrow hat hltg hO8 hN8 hs8 hx89 HO HM hv
      go_wp2
      go_roundw
      case rel => exact ⟨k + 1, by omega, by go_num, HO9.out, hx9⟩
      case measure => simp [intOf]; omega
    · have hkN' : N = k := by omega
      subst hkN'
      have hq : ((List.range N).map (rainK X Y Wn s most)).length = N := by simp
      obtain ⟨A2, q2, h2⟩ := hO.form
      rw [hq] at h2
      subst h2
      have hR2 : Rd wr A2 (intL ((List.range N).map (rainK X Y Wn s most))) := by
        have h := hO
        unfold OwnI at h
        rw [hq] at h
        exact Rd.of_own h
      have hR1 : Rd wr (some ⟨g, 0, none⟩) (intL ((List.range N).map (rainK X Y Wn s most))) := by
        have h := Rd.new_bk (kI6.ext hx)
        rwa [intB_list] at h
      have HEq := hidA (eqInts_same (some ⟨g, 0, none⟩) A2 N N q2 _ wr hq hR1 hR2 (by omega))
      clear hO hR1 hR2 hq
      go_wp2_with (go_at_call 30; refine HEq.out.mono ?_; rintro e w7 ⟨rfl, hx7⟩)
      go_ret
      exact ⟨by first | rfl | simp, hx6.trans (hx.trans hx7)⟩

theorem showers_walk (x y ww hh s most : Int) (w : World) :
    Calls Try.prog 4 #[.agg #[.int .i64 x, .int .i64 y, .int .i64 ww, .int .i64 hh], .int .u32 s, .int .i64 most] w fun e w' => e = .returned (.bool true) ∧ Ext w w' := by
  by_cases hE : showE x y ww hh most = 0
  · unfold showE at hE
    by_cases h1 : regE x y ww hh = 0
    · rw [if_neg (fun h => h h1)] at hE
      by_cases h2 : most < 0 ∨ 1048576 < most
      · rw [if_pos h2] at hE; cases hE
      · obtain ⟨Wn, Hn, rfl, rfl, hr⟩ := Reg.of_zero h1
        exact showers_good x y s most Wn Hn (Wn * Hn) w hr rfl h1 (by omega) (by omega)
    · rw [if_pos h1] at hE; exact absurd hE h1
  · exact showers_bad x y ww hh s most w hE
end Go.Proofs.Ytinohfgokpbcdaa
