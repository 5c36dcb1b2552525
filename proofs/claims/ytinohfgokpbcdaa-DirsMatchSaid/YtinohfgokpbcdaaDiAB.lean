/- What water.ranks holds in memory. -/
import Derived.Test.YtinohfgokpbcdaaShowA
import Derived.Test.YtinohfgokpbcdaaDiAA
import Derived.Test.YtinohfgokpbcdaaWetA
import Derived.ArgAppend
namespace Go.Proofs.Ytinohfgokpbcdaa
open Go.RowKit
attribute [local go_sem ↓] Go.wp_at_zero Go.wp_at_succ

def intL (l : List Int) : List Value := l.map (.int .i64)
theorem Rd.reads {w : World} {ad : Addr} {xs : List Value} (h : Rd w (some ad) xs) : ∀ j u, xs[j]? = some u → w.cell? (ad.add j) = some u := fun j u hu => by
  obtain ⟨ad', e, _, hc⟩ := h (by rintro e; rw [e] at hu; simp at hu)
  injection e with e
  subst e
  exact hc j u hu
set_option maxRecDepth 100000 in
set_option maxHeartbeats 1600000 in
theorem eqInts_same (A B : Option Addr) (n c d : Nat) (q : List Int) (w : World) (hn : q.length = n) (ha : Rd w A (intL q)) (hb : Rd w B (intL q)) (hnb : n ≤ 4000000) :
    Calls Try.prog 30 #[.slice A n c, .slice B n d] w fun e w' => e = .returned (.bool true) ∧ Ext w w' := by
  have Hn := hidA hn
  clear hn
  go_enter Try.func30, Try.ntmps30
  go_wp2
  go_loopw [13] (fun i wr => ∃ k m : Nat, k ≤ n ∧ i = .int .i64 k ∧ wr = w.drewN m) (fun i _ => n - (intOf i).toNat)
  case atStart => exact ⟨0, 0, Nat.zero_le _, rfl, rfl⟩
  case round =>
    obtain ⟨k, m, hk, rfl, rfl⟩ := hrel
    by_cases hlt : k < n
    · have hkl : k < q.length := by have := Hn.out; omega
      obtain ⟨ad, rfl, hbk, _⟩ := ha.at (k := k) (by simpa [intL] using hkl)
      obtain ⟨ad2, rfl, hbk2, _⟩ := hb.at (k := k) (by simpa [intL] using hkl)
      have e0 := ha.reads k (.int .i64 q[k]) (by simp [intL, hkl])
      have e2 := hb.reads k (.int .i64 q[k]) (by simp [intL, hkl])
      generalize q[k] = v at *
      have k0 : (0 : Int) ≤ k := by omega
      have k1 : (k : Int) < n := by omega
      clear ha hb
      go_wp2
      go_quiet (fail)
      go_wp2
      go_roundw
      case rel => exact ⟨k + 1, _, by omega, by go_num, rfl⟩
      case measure => simp [intOf]; omega
    · obtain rfl : k = n := by omega
      go_wp2
      go_ret
      exact ⟨rfl, (by repeat (first | exact Ext.refl _ | assumption | refine Ext.setCell ?_ (by first | (simp; done) | (simp; omega)) _ | refine Ext.drewN ?_ _ | refine Ext.alloc ?_ _ | refine Ext.drew ?_ | refine Ext.trans ?_ (by assumption)))⟩

theorem first2 (a b : Int) : firstE [a, b] = if a ≠ 0 then a else b := by
  by_cases ha : a = 0
  · by_cases hb : b = 0 <;> simp [firstE, ha, hb]
  · simp [firstE, ha]
def withB (most : Int) : Bool := decide (0 ≤ most) && decide (most ≤ 1048576)
theorem showE_first (x y ww hh most : Int) : firstE [regE x y ww hh, if (!withB most) = true then 3 else 0] = showE x y ww hh most := by
  rw [first2]
  unfold showE withB
  by_cases h : most < 0 ∨ 1048576 < most
  · rw [if_pos h]
    have : (!(decide (0 ≤ most) && decide (most ≤ 1048576))) = true := by simp; omega
    rw [if_pos this]
  · rw [if_neg h]
    have : ¬ (!(decide (0 ≤ most) && decide (most ≤ 1048576))) = true := by simp; omega
    rw [if_neg this]

set_option maxRecDepth 100000 in
set_option maxHeartbeats 3200000 in
theorem showers_bad (x y ww hh s most : Int) (w : World) (hE : showE x y ww hh most ≠ 0) :
    Calls Try.prog 4 #[.agg #[.int .i64 x, .int .i64 y, .int .i64 ww, .int .i64 hh], .int .u32 s, .int .i64 most] w fun e w' => e = .returned (.bool true) ∧ Ext w w' := by
  have HF := fun (w : World) => hidA (Shower_bad x y ww hh s most w hE)
  have HE := fun (w : World) => hidA (regionError_any x y ww hh w)
  have HB := fun (w : World) => hidA (within_any most 0 1048576 w)
  have HWh := fun (b : Bool) (w : World) => hidA (when_any b 3 w)
  have HS := fun (B : Option Addr) (w : World) (h : Rd w B ([regE x y ww hh, if (!withB most) = true then 3 else 0].map (.int .i64))) => hidA (first_any B 2 2 [regE x y ww hh, if (!withB most) = true then 3 else 0] w rfl h (by omega))
  rw [showE_first] at HS
  have HW := fun (w : World) => hidA (flows_any w)
  have hE' : (showE x y ww hh most != 0) = true := by simpa using hE
  have hwb : (decide (0 ≤ most) && decide (most ≤ 1048576)) = withB most := rfl
  simp only [hwb] at HB
  clear hE hwb
  generalize showE x y ww hh most = E at *
  generalize regE x y ww hh = f1 at *
  generalize withB most = b at *
  go_enter Try.func4, Try.ntmps4
  go_wp2_with fail
  refine ((HF _).out).mono ?_
  rintro e w1 ⟨rfl, hx1⟩
  have kF : Bk w1 w.heap.size 23 #[.int .i64 x, .int .i64 y, .int .i64 ww, .int .i64 hh] := (Bk.new' rfl).ext hx1
  have c0 := kF.cell 0
  have c1 := kF.cell 1
  have c2 := kF.cell 2
  have c3 := kF.cell 3
  go_wp2_with fail
  refine ((HE _).out).mono ?_
  rintro e w2 ⟨rfl, hx2⟩
  have hx3 : Ext w w2 := (((Ext.refl w).alloc _).trans hx1).trans hx2
  clear c0 c1 c2 c3 kF hx1 hx2
  go_wp2_with fail
  refine ((HB _).out).mono ?_
  rintro e w3 ⟨rfl, rfl⟩
  cases b
  all_goals
    go_wp2_with fail
    refine ((HWh _ _).out).mono ?_
    rintro e w4 ⟨rfl, rfl⟩
    go_wp2_with fail
    refine ((HS _ _ (Rd.new (by first | rfl | simp) (by first | rfl | simp))).out).mono ?_
    rintro e w5 ⟨rfl, hx5⟩
    have hg5 : Ext w2 w5 := by rw [← hx5]; (repeat (first | (with_reducible exact Ext.refl _) | (with_reducible assumption) | (with_reducible refine Ext.setCell ?_ (by first | (simp; done) | (simp; omega)) _) | (with_reducible refine Ext.drewN ?_ _) | (with_reducible refine Ext.alloc ?_ _) | (with_reducible refine Ext.drew ?_) | (with_reducible refine Ext.trans ?_ (by assumption))))
    clear hx5
    go_wp2_with fail
    refine ((HW _).out).mono ?_
    rintro e w6 ⟨rfl, hx6⟩
    go_wp2_with fail
    refine ((HW _).out).mono ?_
    rintro e w7 ⟨rfl, hx7⟩
    go_wp2_with fail
    go_ret
    exact ⟨by first | rfl | simp, hx3.trans (hg5.trans (hx6.trans hx7))⟩

/-- a list of integers of the call's own -/
def OwnI (w : World) (base : Nat) (v : Value) (q : List Int) : Prop := w.ownsRow base 3 1 v q.length (intL q)
theorem OwnI.form {w : World} {base : Nat} {v : Value} {q : List Int} (h : OwnI w base v q) : ∃ A cap, v = .slice A q.length cap := by
  rcases h.2 with ⟨h1, h2⟩ | ⟨g, cap, cur, hv, _⟩
  · exact ⟨none, 0, by rw [h1]; simp [h2]⟩
  · exact ⟨_, cap, hv⟩
theorem OwnI.ext {w w' : World} {base : Nat} {v : Value} {xs : List Int} (h : OwnI w base v xs) (hx : Ext w w') : OwnI w' base v xs := World.ownsRow.kept h (grown_ext hx none) (by cases h : v.ownBlock <;> simp)

set_option maxRecDepth 100000 in
set_option maxHeartbeats 6400000 in
theorem showers_good (X Y s most : Int) (Wn Hn N : Nat) (w : World) (hr : Reg X Y Wn Hn) (hN : N = Wn * Hn) (hr0 : regE X Y Wn Hn = 0) (h0 : 0 ≤ most) (h1 : most ≤ 1048576) :
    Calls Try.prog 4 #[.agg #[.int .i64 X, .int .i64 Y, .int .i64 (Wn : Int), .int .i64 (Hn : Int)], .int .u32 s, .int .i64 most] w fun e w' => e = .returned (.bool true) ∧ Ext w w' := by
  have hN6 : N ≤ 65536 := by rw [hN]; exact hr.n
  have HF := fun (w : World) => hidA (Shower_ok X Y s most Wn Hn N w hr hN hr0 h0 h1)
  unfold rgv at HF
  have HE := fun (w : World) => hidA (regionError_any X Y Wn Hn w)
  rw [hr0] at HE
  have HB := fun (w : World) => hidA (within_any most 0 1048576 w)
  have hwb : (decide (0 ≤ most) && decide (most ≤ 1048576)) = true := by simp; omega
  rw [hwb] at HB
  have HWh := fun (w : World) => hidA (when_any false 3 w)
  have HS := fun (B : Option Addr) (w : World) (h : Rd w B ([(0 : Int), 0].map (.int .i64))) => hidA (first_any B 2 2 [0, 0] w rfl h (by omega))
  have hS0 : firstE [(0 : Int), 0] = 0 := rfl
  rw [hS0] at HS
  have HW := fun (w : World) => hidA (flows_any w)
  have HP := fun (k : Nat) (w : World) (h : k < N) => hidA (Place_any X Y Wn Hn k w hr.ok (by omega))
  have W1 : wrap64 ((Wn : Int) * (Hn : Int)) = (N : Int) := by rw [← Int.natCast_mul, ← hN]; exact IntWalk.wrap64_in _ ⟨by omega, by omega⟩
  have W2 : (Wn : Int) * (Hn : Int) = (N : Int) := by rw [← Int.natCast_mul, ← hN]
  obtain ⟨i0, hi0, hz0, hz1, hz2⟩ := info_parts infoInt
  clear hr hr0 hwb hS0 hN
  go_enter Try.func4, Try.ntmps4
  go_wp2_with fail
  refine ((HF _).out).mono ?_
  rintro e w1 ⟨g, rfl, kI, hx1⟩
  have kF : Bk w1 w.heap.size 23 #[.int .i64 X, .int .i64 Y, .int .i64 (Wn : Int), .int .i64 (Hn : Int)] := (Bk.new' rfl).ext hx1
  have c0 := kF.cell 0
  have c1 := kF.cell 1
  have c2 := kF.cell 2
  have c3 := kF.cell 3
  go_wp2_with fail
  refine ((HE _).out).mono ?_
  rintro e w2 ⟨rfl, hx2⟩
  have hx3 : Ext w w2 := (((Ext.refl w).alloc _).trans hx1).trans hx2
  have kF2 := kF.ext hx2
  have kI2 := kI.ext hx2
  clear c0 c1 c2 c3 kF hx1 hx2 kI
  go_wp2_with fail
  refine ((HB _).out).mono ?_
  rintro e w3 ⟨rfl, rfl⟩
  go_wp2_with fail
  refine ((HWh _).out).mono ?_
  rintro e w4 ⟨rfl, rfl⟩
  go_wp2_with fail
  refine ((HS _ _ (Rd.new (by first | rfl | simp) (by first | rfl | simp))).out).mono ?_
  rintro e w5 ⟨rfl, hx5⟩
  have hg5 : Ext w2 w5 := by rw [← hx5]; (repeat (first | (with_reducible exact Ext.refl _) | (with_reducible assumption) | (with_reducible refine Ext.setCell ?_ (by first | (simp; done) | (simp; omega)) _) | (with_reducible refine Ext.drewN ?_ _) | (with_reducible refine Ext.alloc ?_ _) | (with_reducible refine Ext.drew ?_) | (with_reducible refine Ext.trans ?_ (by assumption))))
  clear hx5
  go_wp2_with fail
  refine ((HW _).out).mono ?_
  rintro e w6 ⟨rfl, hx6⟩
  have hg6 := hg5.trans hx6
  have kF6 := kF2.ext hg6
  have c2 := kF6.cell 2
  have c3 := kF6.cell 3
  clear hg5 hx6 HF HE HB HS HW HWh
  go_wp2_with fail
  clear c2 c3
  have hx6 := hx3.trans hg6
  have kI6 := kI2.ext hg6
  have hs6 := hx6.size
  go_loopw [10, 51] (fun s10 s51 wr => ∃ k : Nat, k ≤ N ∧ s51 = .int .i64 k ∧ OwnI wr w6.heap.size s10 ((List.range k).map (rainK X Y Wn s most)) ∧ Ext w6 wr) (fun _ s51 _ => N - (intOf s51).toNat)
  case atStart => exact ⟨0, Nat.zero_le _, rfl, World.ownsRow_nil w6 _ _ 1, Ext.refl _⟩
  case round =>
    obtain ⟨k, hk, rfl, hO, hx⟩ := hrel
    by_cases hkN : k < N
    · have c0 := (kF6.ext hx).cell 0
      have c1 := (kF6.ext hx).cell 1
      have c2 := (kF6.ext hx).cell 2
      have c3 := (kF6.ext hx).cell 3
      have HPk := fun (w : World) => HP k w hkN
      have hpl : placeK X Y Wn k = (colK X Wn k, rowK Y Wn k) := rfl
      rw [hpl] at HPk
      dsimp only at HPk
      obtain ⟨m1, m2⟩ := mixK_in s (colK X Wn k) (rowK Y Wn k) 2 3 (by omega)
      have HRn := hidA (show (List.range (k + 1)).map (rainK X Y Wn s most) = (List.range k).map (rainK X Y Wn s most) ++ [mixK s (colK X Wn k) (rowK Y Wn k) 2 3 % (most + 1)] from by rw [List.range_succ, List.map_append]; rfl)
      have HM := fun (w : World) => hidA (mixed_any s (colK X Wn k) (rowK Y Wn k) 2 w)
      generalize colK X Wn k = cx at *
      generalize rowK Y Wn k = cy at *
      generalize mixK s cx cy 2 3 = mx at *
      have hv : wrap64 (mx % (most + 1)) = mx % (most + 1) := IntWalk.wrap64_in _ ⟨by have := Int.emod_nonneg mx (show most + 1 ≠ 0 by omega); omega, by have := Int.emod_lt_of_pos mx (show 0 < most + 1 by omega); omega⟩
      have HO := hidA hO
      clear hO hpl
      go_upto_region 10 with (go_at_call 28; refine ((HPk _).out).mono ?_; rintro e w7 ⟨rfl, hx7⟩)
      clear c0 c1 c2 c3 HPk
      have hlk : ((List.range k).map (rainK X Y Wn s most)).length = k := by simp
      have u1 : mx % (most + 1) = mx % (most + 1) := rfl
      have Hlk := hidA hlk
      have Hm6 := hidA hx
      clear hlk hx u1
      go_upto_region 11 with (first | (go_at_call 29; refine ((HM _).out).mono ?_; rintro e w8 ⟨rfl, hx8⟩; have hO8 := hidA (((HO.out.ext hx7).ext hx8).ext ((Ext.refl w8).alloc (.cells #[.int .i64 (mx % (most + 1))] 3))); have hN8 := hidA (World.news_of_block (w := w8.alloc (.cells #[.int .i64 (mx % (most + 1))] 3)) (cs := #[.int .i64 (mx % (most + 1))]) (t := 3) (fr := (0, 0)) (heap_alloc_new w8 _)); have hs8 := hidA (show w6.heap.size ≤ (w8.alloc (.cells #[.int .i64 (mx % (most + 1))] 3)).heap.size from by have h1 := ((Hm6.out.trans hx7).trans hx8).size; simp; omega); have hx89 := hidA (((Hm6.out.trans hx7).trans hx8).alloc (.cells #[.int .i64 (mx % (most + 1))] 3)); clear hx7 hx8) | (at_builtin; (refine wpList_append_lies _ (by rfl) (.tmp 60) (.tmp 69) 41 (by rfl) w6.heap.size 3 i0 (.int .i64 0) 1 8 Try.underlying41 hi0 hz0 hz1 hz2 (by rfl) (by decide) _ _ _ (by rfl) hO8.out ⟨w8.heap.size, 0, none⟩ 1 1 [.int .i64 (mx % (most + 1))] (by rfl) (by rfl) hN8.out (by intro u hu; simp at hu; subst hu; rfl) (by decide) (by rw [Hlk.out]; unfold maxLen; omega) (by rw [Hlk.out]; omega) hs8.out (w8.heap.size + 1) (by simp) ?_; intro gg cap w9 hown hgrow hat hltg)))
      have hO9 : OwnI w9 w6.heap.size (.slice (some ⟨gg, 0, none⟩) (k + 1) cap) ((List.range (k + 1)).map (rainK X Y Wn s most)) := by
        rw [HRn.out]
        unfold OwnI intL
        rw [List.length_append, Hlk.out, List.map_append]
        rw [Hlk.out] at hown
        exact hown
      have hx9 : Ext w6 w9 := Ext.grown hx89.out hgrow (fun q he => (World.ownsRow.lt hO8.out q he).1)
      have HO9 := hidA hO9
      clear hO9 hown hgrow hat hltg hO8 hN8 hs8 hx89 HO HM hv
      go_wp2
      go_roundw
      case rel => exact ⟨k + 1, by omega, by go_num, HO9.out, hx9⟩
      case measure => simp [intOf]; omega
    · have hkN' : N = k := by omega
      subst hkN'
      have hq : ((List.range N).map (rainK X Y Wn s most)).length = N := by simp
      obtain ⟨A2, q2, h2⟩ := hO.form
      rw [hq] at h2
      subst h2
      have hR2 : Rd wr A2 (intL ((List.range N).map (rainK X Y Wn s most))) := by
        have h := hO
        unfold OwnI at h
        rw [hq] at h
        exact Rd.of_own h
      have hR1 : Rd wr (some ⟨g, 0, none⟩) (intL ((List.range N).map (rainK X Y Wn s most))) := by
        have h := Rd.new_bk (kI6.ext hx)
        rwa [intB_list] at h
      have HEq := hidA (eqInts_same (some ⟨g, 0, none⟩) A2 N N q2 _ wr hq hR1 hR2 (by omega))
      clear hO hR1 hR2 hq
      go_wp2_with (go_at_call 30; refine HEq.out.mono ?_; rintro e w7 ⟨rfl, hx7⟩)
      go_ret
      exact ⟨by first | rfl | simp, hx6.trans (hx.trans hx7)⟩

theorem showers_walk (x y ww hh s most : Int) (w : World) :
    Calls Try.prog 4 #[.agg #[.int .i64 x, .int .i64 y, .int .i64 ww, .int .i64 hh], .int .u32 s, .int .i64 most] w fun e w' => e = .returned (.bool true) ∧ Ext w w' := by
  by_cases hE : showE x y ww hh most = 0
  · unfold showE at hE
    by_cases h1 : regE x y ww hh = 0
    · rw [if_neg (fun h => h h1)] at hE
      by_cases h2 : most < 0 ∨ 1048576 < most
      · rw [if_pos h2] at hE; cases hE
      · obtain ⟨Wn, Hn, rfl, rfl, hr⟩ := Reg.of_zero h1
        exact showers_good x y s most Wn Hn (Wn * Hn) w hr rfl h1 (by omega) (by omega)
    · rw [if_pos h1] at hE; exact absurd hE h1
  · exact showers_bad x y ww hh s most w hE
end Go.Proofs.Ytinohfgokpbcdaa

namespace Go.Proofs.Ytinohfgokpbcdaa
open Go.RowKit
attribute [local go_sem ↓] Go.wp_at_zero Go.wp_at_succ
attribute [local go_sem] run_store_float

/-- directions in memory: the first N cells of a slice -/
def DirsAt (w : World) (A : Option Addr) (N : Nat) (D : Nat → Int) : Prop := Rd w A (intL ((List.range N).map D))
theorem DirsAt.ext {w w' : World} {A : Option Addr} {N : Nat} {D : Nat → Int} (h : DirsAt w A N D) (hx : Ext w w') : DirsAt w' A N D := Rd.ext h hx
theorem DirsAt.cell {w : World} {A : Option Addr} {N k : Nat} {D : Nat → Int} (h : DirsAt w A N D) (hk : k < N) : ∃ ad, A = some ad ∧ ad.block < w.heap.size ∧ w.cell? (ad.add k) = some (.int .i64 (D k)) := by
  obtain ⟨ad, e, hb, hc⟩ := Rd.at h (k := k) (by simpa [intL] using hk)
  exact ⟨ad, e, hb, hc k _ (by simp [intL, hk])⟩
theorem DirsAt.of_bk {w : World} {g N : Nat} {D : Nat → Int} (h : Bk w g 3 (intB N D)) : DirsAt w (some ⟨g, 0, none⟩) N D := by
  have h1 := Rd.new_bk h
  rwa [intB_list] at h1
set_option maxRecDepth 100000 in
set_option maxHeartbeats 1600000 in
theorem next_any (X Y : Int) (Wn Hn N k c : Nat) (A : Option Addr) (D : Nat → Int) (w : World) (hr : Reg X Y Wn Hn) (hN : N = Wn * Hn) (hD : DirsAt w A N D) (hk : k < N) (h0 : -1 ≤ D k) (h8 : D k < 8) (hin : 0 ≤ D k → ∃ n, nbr Wn Hn k (D k).toNat = some n) :
    Calls Try.prog 107 #[rgv X Y Wn Hn, .slice A N c, .int .i64 k] w fun e w' => e = .returned (.int .i64 (nbI (nxtD D Wn Hn k))) ∧ Ext w w' := by
  have HB := fun (d : Nat) (w : World) (hd : d < 8) => hidA (beside_any X Y Wn Hn k d w hr (by rw [← hN]; exact hk) hd)
  obtain ⟨ad, rfl, hb, hc⟩ := hD.cell hk
  have hN6 : N ≤ 65536 := by rw [hN]; exact hr.n
  unfold rgv at HB ⊢
  have i0 : (0 : Int) ≤ k := by omega
  have i1 : (k : Int) < N := by omega
  clear hr hN hD
  unfold nxtD
  by_cases hd : D k < 0
  · have e : D k = -1 := by omega
    rw [if_pos hd]
    rw [e] at hc
    have hc0 : (w.alloc (.cells #[.int .i64 X, .int .i64 Y, .int .i64 (Wn : Int), .int .i64 (Hn : Int)] 23)).cell? (ad.add k) = some (.int .i64 (-1)) := by
      rw [(Ext.alloc (Ext.refl w) _).cell _ (by rw [add_block]; exact hb)]
      exact hc
    clear e hd hin h0 h8 hc
    go_enter Try.func107, Try.ntmps107
    go_wp2_with fail
    go_ret
    exact ⟨rfl, (by repeat (first | exact Ext.refl _ | assumption | refine Ext.setCell ?_ (by first | (simp; done) | (simp; omega)) _ | refine Ext.drewN ?_ _ | refine Ext.alloc ?_ _ | refine Ext.drew ?_ | refine Ext.trans ?_ (by assumption)))⟩
  · rw [if_neg hd]
    obtain ⟨n, hn⟩ := hin (by omega)
    have HBd := fun (w : World) => HB (D k).toNat w (by omega)
    rw [hn] at HBd ⊢
    have e : (((D k).toNat : Nat) : Int) = D k := Int.toNat_of_nonneg (by omega)
    rw [e] at HBd
    have hne : (D k == -1) = false := by simp; omega
    generalize D k = z at *
    clear HB hin h0 h8 hd e hn
    have c0 : ∀ w', Ext (w.alloc (.cells #[.int .i64 X, .int .i64 Y, .int .i64 (Wn : Int), .int .i64 (Hn : Int)] 23)) w' → w'.cell? (ad.add k) = some (.int .i64 z) := fun w' h => by
      rw [(((Ext.refl w).alloc _).trans h).cell _ (by rw [add_block]; exact hb)]
      exact hc
    have kR : Bk (w.alloc (.cells #[.int .i64 X, .int .i64 Y, .int .i64 (Wn : Int), .int .i64 (Hn : Int)] 23)) w.heap.size 23 #[.int .i64 X, .int .i64 Y, .int .i64 (Wn : Int), .int .i64 (Hn : Int)] := Bk.new' rfl
    have hx0 : Ext w (w.alloc (.cells #[.int .i64 X, .int .i64 Y, .int .i64 (Wn : Int), .int .i64 (Hn : Int)] 23)) := (Ext.refl w).alloc _
    have c0' := c0 _ (Ext.refl _)
    go_enter Try.func107, Try.ntmps107
    go_upto_region 3 with fail
    clear c0'
    generalize w.alloc (.cells #[.int .i64 X, .int .i64 Y, .int .i64 (Wn : Int), .int .i64 (Hn : Int)] 23) = w1 at *
    generalize w.heap.size = h0 at *
    have e0 : ∀ w', Ext w1 w' → w'.cell? ⟨h0, 0, none⟩ = some (.int .i64 X) := fun w' h => (kR.ext h).cell 0
    have e1 : ∀ w', Ext w1 w' → w'.cell? ⟨h0, 1, none⟩ = some (.int .i64 Y) := fun w' h => (kR.ext h).cell 1
    have e2 : ∀ w', Ext w1 w' → w'.cell? ⟨h0, 2, none⟩ = some (.int .i64 (Wn : Int)) := fun w' h => (kR.ext h).cell 2
    have e3 : ∀ w', Ext w1 w' → w'.cell? ⟨h0, 3, none⟩ = some (.int .i64 (Hn : Int)) := fun w' h => (kR.ext h).cell 3
    clear kR hc hb
    refine wp_region_noPanic ?_
    refine wp_region_held_drew (S := fun w' => Ext w1 w') (by kernel_rfl) ?_ (fun hHeld => ?_)
    · (repeat (first | exact Ext.refl _ | assumption | refine Ext.setCell ?_ (by first | (simp; done) | (simp; omega)) _ | refine Ext.drewN ?_ _ | refine Ext.alloc ?_ _ | refine Ext.drew ?_ | refine Ext.trans ?_ (by assumption)))
    refine wpAnyH_take (i := 0) (oi := ?o1x0) (v := ?v1x0) ?hi1x0 (by kernel_rfl) ?hf1x0 ?hr1x0 (fun _ _ _ h => h) ?hy1x0 (by assumption) ?rest1x0
    case hi1x0 => (simp only [List.getElem?_toArray, List.getElem?_cons_zero]; exact rfl)
    case hf1x0 => kernel_rfl
    case hr1x0 => kernel_rfl
    case hy1x0 => (refine Or.inl ⟨by rfl, ?_⟩; intro w hSw; (try dsimp only at hSw); go_simp; try with_reducible rfl)
    simp only [put_mk, List.set_cons_succ, List.set_cons_zero]
    refine wpAnyH_take (i := 1) (oi := ?o1x1) (v := ?v1x1) ?hi1x1 (by kernel_rfl) ?hf1x1 ?hr1x1 (fun _ _ _ h => h) ?hy1x1 (by assumption) ?rest1x1
    case hi1x1 => (simp only [List.getElem?_toArray, List.getElem?_cons_succ, List.getElem?_cons_zero]; exact rfl)
    case hf1x1 => kernel_rfl
    case hr1x1 => kernel_rfl
    case hy1x1 => (refine Or.inl ⟨by rfl, ?_⟩; intro w hSw; (try dsimp only at hSw); go_simp; try with_reducible rfl)
    simp only [put_mk, List.set_cons_succ, List.set_cons_zero]
    refine wpAnyH_take (i := 2) (oi := ?o1x2) (v := ?v1x2) ?hi1x2 (by kernel_rfl) ?hf1x2 ?hr1x2 (fun _ _ _ h => h) ?hy1x2 (by assumption) ?rest1x2
    case hi1x2 => (simp only [List.getElem?_toArray, List.getElem?_cons_succ, List.getElem?_cons_zero]; exact rfl)
    case hf1x2 => kernel_rfl
    case hr1x2 => kernel_rfl
    case hy1x2 => (refine Or.inl ⟨by rfl, ?_⟩; intro w hSw; (try dsimp only at hSw); go_simp; try with_reducible rfl)
    simp only [put_mk, List.set_cons_succ, List.set_cons_zero]
    refine wpAnyH_take (i := 3) (oi := ?o1x3) (v := ?v1x3) ?hi1x3 (by kernel_rfl) ?hf1x3 ?hr1x3 (fun _ _ _ h => h) ?hy1x3 (by assumption) ?rest1x3
    case hi1x3 => (simp only [List.getElem?_toArray, List.getElem?_cons_succ, List.getElem?_cons_zero]; exact rfl)
    case hf1x3 => kernel_rfl
    case hr1x3 => kernel_rfl
    case hy1x3 => (refine Or.inl ⟨by rfl, ?_⟩; intro w hSw; (try dsimp only at hSw); go_simp; try with_reducible rfl)
    simp only [put_mk, List.set_cons_succ, List.set_cons_zero]
    refine wpAnyH_take (i := 4) (oi := ?o1x4) (v := ?v1x4) ?hi1x4 (by kernel_rfl) ?hf1x4 ?hr1x4 (fun _ _ _ h => h) ?hy1x4 (by assumption) ?rest1x4
    case hi1x4 => (simp only [List.getElem?_toArray, List.getElem?_cons_succ, List.getElem?_cons_zero]; exact rfl)
    case hf1x4 => kernel_rfl
    case hr1x4 => kernel_rfl
    case hy1x4 => (refine Or.inl ⟨by rfl, ?_⟩; intro w hSw; (try dsimp only at hSw); go_simp; try with_reducible rfl)
    simp only [put_mk, List.set_cons_succ, List.set_cons_zero]
    refine wpAnyH_take (i := 5) (oi := ?o1x5) (v := ?v1x5) ?hi1x5 (by kernel_rfl) ?hf1x5 ?hr1x5 (fun _ _ _ h => h) ?hy1x5 (by assumption) ?rest1x5
    case hi1x5 => (simp only [List.getElem?_toArray, List.getElem?_cons_succ, List.getElem?_cons_zero]; exact rfl)
    case hf1x5 => kernel_rfl
    case hr1x5 => kernel_rfl
    case hy1x5 => (refine Or.inl ⟨by rfl, ?_⟩; intro w hSw; (try dsimp only at hSw); go_simp; try with_reducible rfl)
    simp only [put_mk, List.set_cons_succ, List.set_cons_zero]
    refine wpAnyH_ready (rs := [6]) (by kernel_rfl) (by simp) ?_
    refine AllReadyH.cons (o := ?o1x6) ?hi1x6 (fun K hK => ?_) AllReadyH.nil
    case hi1x6 => (simp only [List.getElem?_toArray, List.getElem?_cons_succ, List.getElem?_cons_zero]; exact rfl)
    go_simp
    refine ((HBd _).out).mono ?_
    rintro e w2 ⟨rfl, hx2⟩
    unfold nbV
    refine hK.out _ _ ?_ (fun hHeld => ?_)
    · (repeat (first | exact Ext.refl _ | assumption | refine Ext.setCell ?_ (by first | (simp; done) | (simp; omega)) _ | refine Ext.drewN ?_ _ | refine Ext.alloc ?_ _ | refine Ext.drew ?_ | refine Ext.trans ?_ (by assumption)))
    clear hK K
    refine wpAnyH_take (i := 7) (oi := ?o1x7) (v := ?v1x7) ?hi1x7 (by kernel_rfl) ?hf1x7 ?hr1x7 (fun _ _ _ h => h) ?hy1x7 (by assumption) ?rest1x7
    case hi1x7 => (simp only [List.getElem?_toArray, List.getElem?_cons_succ, List.getElem?_cons_zero]; exact rfl)
    case hf1x7 => kernel_rfl
    case hr1x7 => kernel_rfl
    case hy1x7 => (refine Or.inl ⟨by rfl, ?_⟩; intro w hSw; (try dsimp only at hSw); go_simp; try with_reducible rfl)
    simp only [put_mk, List.set_cons_succ, List.set_cons_zero]
    refine wpAnyH_take (i := 8) (oi := ?o1x8) (v := ?v1x8) ?hi1x8 (by kernel_rfl) ?hf1x8 ?hr1x8 (fun _ _ _ h => h) ?hy1x8 (by assumption) ?rest1x8
    case hi1x8 => (simp only [List.getElem?_toArray, List.getElem?_cons_succ, List.getElem?_cons_zero]; exact rfl)
    case hf1x8 => kernel_rfl
    case hr1x8 => kernel_rfl
    case hy1x8 => (refine Or.inl ⟨by rfl, ?_⟩; intro w hSw; (try dsimp only at hSw); go_simp; try with_reducible rfl)
    simp only [put_mk, List.set_cons_succ, List.set_cons_zero]
    refine wpAnyH_take (i := 9) (oi := ?o1x9) (v := ?v1x9) ?hi1x9 (by kernel_rfl) ?hf1x9 ?hr1x9 (fun _ _ _ h => h) ?hy1x9 (by assumption) ?rest1x9
    case hi1x9 => (simp only [List.getElem?_toArray, List.getElem?_cons_succ, List.getElem?_cons_zero]; exact rfl)
    case hf1x9 => kernel_rfl
    case hr1x9 => kernel_rfl
    case hy1x9 => (refine Or.inl ⟨by rfl, ?_⟩; intro w hSw; (try dsimp only at hSw); go_simp; try with_reducible rfl)
    simp only [put_mk, List.set_cons_succ, List.set_cons_zero]
    refine wpAnyH_take (i := 10) (oi := ?o1x10) (v := ?v1x10) ?hi1x10 (by kernel_rfl) ?hf1x10 ?hr1x10 (fun _ _ _ h => h) ?hy1x10 (by assumption) ?rest1x10
    case hi1x10 => (simp only [List.getElem?_toArray, List.getElem?_cons_succ, List.getElem?_cons_zero]; exact rfl)
    case hf1x10 => kernel_rfl
    case hr1x10 => kernel_rfl
    case hy1x10 => (refine Or.inl ⟨by rfl, ?_⟩; intro w hSw; (try dsimp only at hSw); go_simp; try with_reducible rfl)
    simp only [put_mk, List.set_cons_succ, List.set_cons_zero]
    refine wpAnyH_take (i := 11) (oi := ?o1x11) (v := ?v1x11) ?hi1x11 (by kernel_rfl) ?hf1x11 ?hr1x11 (fun _ _ _ h => h) ?hy1x11 (by assumption) ?rest1x11
    case hi1x11 => (simp only [List.getElem?_toArray, List.getElem?_cons_succ, List.getElem?_cons_zero]; exact rfl)
    case hf1x11 => kernel_rfl
    case hr1x11 => kernel_rfl
    case hy1x11 => (refine Or.inl ⟨by rfl, ?_⟩; intro w hSw; (try dsimp only at hSw); go_simp; try with_reducible rfl)
    simp only [put_mk, List.set_cons_succ, List.set_cons_zero]
    refine wpAnyH_done (by kernel_rfl) ?_ _
    refine NoPanic.normal ?_
    go_wp2_with fail
    go_ret
    exact ⟨rfl, (by repeat (first | exact Ext.refl _ | assumption | refine Ext.setCell ?_ (by first | (simp; done) | (simp; omega)) _ | refine Ext.drewN ?_ _ | refine Ext.alloc ?_ _ | refine Ext.drew ?_ | refine Ext.trans ?_ (by assumption)))⟩

/-- what lies apart from the block g is kept -/
def Kept (g : Nat) (w w' : World) : Prop := w.heap.size ≤ w'.heap.size ∧ ∀ b t cs, b ≠ g → Bk w b t cs → Bk w' b t cs
theorem Kept.refl (g : Nat) (w : World) : Kept g w w := ⟨Nat.le_refl _, fun _ _ _ _ h => h⟩
theorem Kept.ext {g : Nat} {w w1 w2 : World} (h : Kept g w w1) (hx : Ext w1 w2) : Kept g w w2 := ⟨Nat.le_trans h.1 hx.size, fun b t cs hb hB => (h.2 b t cs hb hB).ext hx⟩
theorem Kept.set {g : Nat} {w w1 : World} (h : Kept g w w1) (i : Nat) (v : Value) : Kept g w (w1.setCell ⟨g, i, none⟩ v) := ⟨by simpa using h.1, fun b t cs hb hB => (h.2 b t cs hb hB).far hb _⟩
/-- the first N cells of a block of singles of cp cells -/
def CF (w : World) (g cp N : Nat) (v : Nat → Nat) : Prop := ∃ cur, Cl w g cp cur N v
theorem CF.ext {w w' : World} {g cp N : Nat} {v : Nat → Nat} (h : CF w g cp N v) (hx : Ext w w') : CF w' g cp N v := let ⟨_, h⟩ := h; ⟨_, h.ext hx⟩
theorem CF.far {w : World} {g cp N : Nat} {v : Nat → Nat} (h : CF w g cp N v) {p : Addr} (hp : g ≠ p.block) (u : Value) : CF (w.setCell p u) g cp N v := let ⟨_, h⟩ := h; ⟨_, h.far hp u⟩
theorem CF.put {w : World} {g cp N : Nat} {v : Nat → Nat} (h : CF w g cp N v) (k x : Nat) : CF (w.setCell ⟨g, k, none⟩ (.float .f32 x)) g cp N (updF v k x) := let ⟨_, h⟩ := h; ⟨_, h.put k x⟩
theorem CF.cell {w : World} {g cp N k : Nat} {v : Nat → Nat} (h : CF w g cp N v) (hk : k < N) : w.cell? ⟨g, k, none⟩ = some (.float .f32 (v k)) := let ⟨_, h⟩ := h; h.cell hk
theorem CF.frozen {w : World} {g cp N : Nat} {v : Nat → Nat} (h : CF w g cp N v) (k : Nat) : w.frozen? ⟨g, k, none⟩ = false := let ⟨_, h⟩ := h; h.b.frozen k
theorem CF.lt {w : World} {g cp N : Nat} {v : Nat → Nat} (h : CF w g cp N v) : g < w.heap.size := let ⟨_, h⟩ := h; h.b.lt
theorem CF.ne {w : World} {g cp N b : Nat} {v : Nat → Nat} {t : TypeId} {cs : Array Value} (h : CF w g cp N v) (hb : Bk w b t cs) (ht : t ≠ 27) : b ≠ g := let ⟨_, h⟩ := h; Bk.ne hb h.b ht
theorem CF.kept {w w' : World} {g q cp N : Nat} {v : Nat → Nat} (h : CF w g cp N v) (hk : Kept q w w') (hg : g ≠ q) : CF w' g cp N v := let ⟨_, h⟩ := h; ⟨_, hk.2 _ _ _ hg h.b, h.n, h.s, h.c⟩
set_option maxRecDepth 100000 in
set_option maxHeartbeats 3200000 in
theorem cut_any (X Y : Int) (Wn Hn N k c s gv cp : Nat) (A : Option Addr) (D : Nat → Int) (m : Nat → Nat) (v : Nat → Nat) (t : List Nat) (W0 w : World) (hr : Reg X Y Wn Hn) (hN : N = Wn * Hn) (hD : DirsAt W0 A N D) (hL : Lead Wn Hn N D m) (hk : k < N) (hs : Fin s)
    (hx : Ext W0 w) (hg : W0.heap.size ≤ gv) (hv : CF w gv cp N v) (hn : ∀ j, j < N → NN (v j)) (ht : IsTr D Wn Hn k t) :
    Calls Try.prog 133 #[.agg #[.int .i64 X, .int .i64 Y, .int .i64 (Wn : Int), .int .i64 (Hn : Int), .slice (some ⟨gv, 0, none⟩) N cp], .slice A N c, .int .i64 k, .float .f32 s] w fun e w' => e = .returned (.tuple #[]) ∧ CF w' gv cp N (cutV s t (v k) v) ∧ Kept gv w w' ∧ Ext W0 w' := by
  have hN6 : N ≤ 65536 := by rw [hN]; exact hr.n
  have HNx := hidA (fun (k : Nat) (w : World) (hk : k < N) (h : Ext W0 w) => next_any X Y Wn Hn N k c A D w hr hN (hD.ext h) hk (hL.rng k hk).1 (hL.rng k hk).2 (fun h0 => by obtain ⟨n, h1, _⟩ := hL.step k hk h0; exact ⟨n, h1⟩))
  unfold rgv at HNx
  have HN := hidA hN
  have Hs := hidA hs
  have Hnn := hidA (hn k hk)
  have Ht := hidA ht
  have i0 : (0 : Int) ≤ k := by omega
  have i1 : (k : Int) < N := by omega
  have hne : w.heap.size ≠ gv := by have := hv.lt; omega
  have kF : Bk (w.alloc (.cells #[.int .i64 X, .int .i64 Y, .int .i64 (Wn : Int), .int .i64 (Hn : Int), .slice (some ⟨gv, 0, none⟩) N cp] 26)) w.heap.size 26 #[.int .i64 X, .int .i64 Y, .int .i64 (Wn : Int), .int .i64 (Hn : Int), .slice (some ⟨gv, 0, none⟩) N cp] := Bk.new' rfl
  have kV := hv.ext ((Ext.refl w).alloc (.cells #[.int .i64 X, .int .i64 Y, .int .i64 (Wn : Int), .int .i64 (Hn : Int), .slice (some ⟨gv, 0, none⟩) N cp] 26))
  have hx1 : Ext W0 (w.alloc (.cells #[.int .i64 X, .int .i64 Y, .int .i64 (Wn : Int), .int .i64 (Hn : Int), .slice (some ⟨gv, 0, none⟩) N cp] 26)) := hx.alloc _
  have hK1 : Kept gv w (w.alloc (.cells #[.int .i64 X, .int .i64 Y, .int .i64 (Wn : Int), .int .i64 (Hn : Int), .slice (some ⟨gv, 0, none⟩) N cp] 26)) := (Kept.refl gv w).ext ((Ext.refl w).alloc _)
  clear hr hN hD hL hs hn ht hv hx
  go_enter Try.func133, Try.ntmps133
  go_upto_region 1 with fail
  generalize w.alloc (.cells #[.int .i64 X, .int .i64 Y, .int .i64 (Wn : Int), .int .i64 (Hn : Int), .slice (some ⟨gv, 0, none⟩) N cp] 26) = w1 at *
  generalize w.heap.size = hf at kF hne ⊢
  have c0 := kF.cell 0
  have c1 := kF.cell 1
  have c2 := kF.cell 2
  have c3 := kF.cell 3
  have c4 := kF.cell 4
  have v0 := kV.cell hk
  have HNk := fun (w : World) (h : Ext W0 w) => hidA (HNx.out k w hk h)
  go_upto_region 3 with (go_at_call 107; refine ((HNk _ (hx1.trans (by repeat (first | exact Ext.refl _ | assumption | refine Ext.setCell ?_ (by first | (simp; done) | (simp; omega)) _ | refine Ext.drewN ?_ _ | refine Ext.alloc ?_ _ | refine Ext.drew ?_ | refine Ext.trans ?_ (by assumption))))).out).mono ?_; rintro e w2 ⟨rfl, hx2⟩)
  have kF2 := kF.ext hx2
  have kV2 := kV.ext hx2
  have hK2 := hK1.ext hx2
  have hw2 := hx1.trans hx2
  clear c0 c1 c2 c3 c4 v0 HNk kF kV hK1 hx1 hx2 i0 i1
  go_loopg [8, 9] t.length (fun gk s8 s9 wr => ∃ (p h : Nat) (t' : List Nat) (u : Nat → Nat), p < N ∧ s8 = .float .f32 h ∧ s9 = .int .i64 (nbI (nxtD D Wn Hn p)) ∧ IsTr D Wn Hn p t' ∧ NN h ∧ cutV s t (v k) v = cutV s t' h u ∧ Bk wr hf 26 #[.int .i64 X, .int .i64 Y, .int .i64 (Wn : Int), .int .i64 (Hn : Int), .slice (some ⟨gv, 0, none⟩) N cp] ∧ CF wr gv cp N u ∧ Kept gv w wr ∧ Ext W0 wr ∧ t'.length ≤ gk)
  case atStart => exact ⟨k, v k, t, v, hk, rfl, rfl, Ht.out, Hnn.out, rfl, kF2, kV2, hK2, hw2, Nat.le_refl _⟩
  case round =>
    clear kF2 kV2 hK2 hw2
    obtain ⟨p, h, t', u, hp, rfl, rfl, htr, hh, hcut, kF, kV, hK, hW, hgk⟩ := hrel
    have Hcut := hidA hcut
    have Hgk := hidA hgk
    clear hcut hgk
    cases t' with
    | nil =>
      have hn : nxtD D Wn Hn p = none := htr
      rw [hn, show nbI none = -1 from rfl]
      have Htr := hidA htr
      have HkV := hidA (show CF wr gv cp N (cutV s t (v k) v) from by rw [Hcut.out]; exact kV)
      clear hn htr hh kF kV
      go_wp2_with fail
      refine bodyPost_end (results_none Try.results133 _ _ _) rfl ?_
      exact ⟨rfl, HkV.out, hK, hW⟩
    | cons q t2 =>
      have hn := htr.1
      have Htr := hidA htr.2
      rw [hn, show nbI (some q) = (q : Int) from rfl]
      have hq : q < N := by rw [HN.out]; exact nxt_lt hn
      have j0 : (0 : Int) ≤ q := by omega
      have j1 : (q : Int) < N := by omega
      have jne : ((q : Int) != -1) = true := by simp
      obtain ⟨hsub, hxn⟩ := sub_nn hh Hs.out
      have HNq := fun (w : World) (h : Ext W0 w) => hidA (HNx.out q w hq h)
      have hle : (FloatKind.f32.format.order (u q) (fsub h s) == some .lt || FloatKind.f32.format.order (u q) (fsub h s) == some .eq) = leB (u q) (fsub h s) := rfl
      have Hcc := hidA (show cutV s (q :: t2) h u = if leB (u q) (fsub h s) = true then u else cutV s t2 (fsub h s) (updF u q (fsub h s)) from rfl)
      have c4 : wr.cell? ⟨hf, 4, none⟩ = some (.slice (some ⟨gv, 0, none⟩) N cp) := kF.cell 4
      have v0 := kV.cell hq
      have g1 := kV.frozen q
      have Hxn := hidA hxn
      clear hn htr hh hxn
      have q1 := fun (w : World) => run_float_arith (P := Try.prog) w .sub 27 .f32 _ _ _ hsub
      clear hsub
      generalize fsub h s = x at *
      cases hb : leB (u q) x with
      | true =>
        rw [hb] at hle
        rw [hb, if_pos rfl] at Hcc
        have HkV := hidA (show CF wr gv cp N (cutV s t (v k) v) from by rw [Hcut.out, Hcc.out]; exact kV)
        clear hb kV
        generalize u q = y at *
        go_wp2_with fail
        refine bodyPost_ret (v := .tuple #[]) (results_none Try.results133 _ _ _) rfl ?_
        exact ⟨rfl, HkV.out, hK, hW⟩
      | false =>
        rw [hb] at hle
        rw [hb, if_neg (by decide)] at Hcc
        have e1 := kV.put q x
        have kF1 := kF.far (p := ⟨gv, q, none⟩) hne (.float .f32 x)
        have hK1 := hK.set q (.float .f32 x)
        have hW1 := hW.setCell (p := ⟨gv, q, none⟩) hg (.float .f32 x)
        have HE1 := hidA e1
        have HKK := hidA hK1
        have HWW := hidA hW1
        clear hb kV hK1 hW1 hW hK e1
        generalize u q = y at *
        have KF1 := hidA kF1
        clear kF1 kF
        go_upto_region 4 with fail
        have kF1 := KF1.out
        have z0 := kF1.cell 0
        have z1 := kF1.cell 1
        have z2 := kF1.cell 2
        have z3 := kF1.cell 3
        generalize wr.setCell ⟨gv, q, none⟩ (.float .f32 x) = w5 at *
        clear c4 v0 g1
        go_wp2_with (go_at_call 107; refine ((HNq _ (HWW.out.trans (by repeat (first | exact Ext.refl _ | assumption | refine Ext.setCell ?_ (by first | (simp; done) | (simp; omega)) _ | refine Ext.drewN ?_ _ | refine Ext.alloc ?_ _ | refine Ext.drew ?_ | refine Ext.trans ?_ (by assumption))))).out).mono ?_; rintro e w6 ⟨rfl, hx6⟩)
        go_roundg t2.length
        case measure => have := Hgk.out; simp only [List.length_cons] at this; omega
        case rel => exact ⟨q, x, t2, _, hq, rfl, rfl, Htr.out, Hxn.out, by rw [Hcut.out, Hcc.out], kF1.ext hx6, HE1.out.ext hx6, HKK.out.ext hx6, HWW.out.trans hx6, Nat.le_refl _⟩
end Go.Proofs.Ytinohfgokpbcdaa

namespace Go.Proofs.Ytinohfgokpbcdaa
open Go.RowKit

/-- the cells xs lie in a block of its own from off on, and behind them is room up to cap -/
structure Qs (w : World) (base : Nat) (e : TypeId) (A : Option Addr) (n cap : Nat) (xs : List Value) : Prop where
  len : xs.length = n
  le : n ≤ cap
  max : cap ≤ maxLen
  own : (A = none ∧ cap = 0) ∨ ∃ g off cur, A = some ⟨g, off, none⟩ ∧ base ≤ g ∧ w.heap[g]? = some (.cells cur e (0, 0)) ∧ off + cap ≤ cur.size ∧ ∀ j u, xs[j]? = some u → cur[off + j]? = some u
section
variable {w : World} {base : Nat} {e : TypeId} {A : Option Addr} {n cap : Nat} {xs : List Value}
theorem Qs.nil (w : World) (base : Nat) (e : TypeId) : Qs w base e none 0 0 [] := ⟨rfl, Nat.le_refl _, Nat.zero_le _, .inl ⟨rfl, rfl⟩⟩
theorem Qs.of_own {c : Nat} (h : w.ownsRow base e 1 (.slice A n c) n xs) : Qs w base e A n c xs := by
  obtain ⟨hl, ⟨hv, h0⟩ | ⟨g, cap, cur, hv, hb, hg, hn, hm, hs, hx⟩⟩ := h
  · injection hv with h1 h2 h3
    subst h1; subst h2; subst h3
    exact ⟨by simpa using hl, Nat.le_refl _, Nat.zero_le _, .inl ⟨rfl, rfl⟩⟩
  · injection hv with h1 h2 h3
    subst h1; subst h3
    refine ⟨by simpa using hl, hn, hm, .inr ⟨g, 0, cur, rfl, hb, hg, by omega, fun j u hu => ?_⟩⟩
    rw [← hx, List.getElem?_take] at hu
    split at hu
    · rw [Nat.zero_add]
      simpa using hu
    · cases hu
theorem Qs.rd (h : Qs w base e A n cap xs) : Rd w A xs := fun hne => by
  rcases h.own with ⟨_, h0⟩ | ⟨g, off, cur, hA, hb, hg, hs, hx⟩
  · have h1 := h.len
    have h2 := h.le
    exact absurd (List.eq_nil_of_length_eq_zero (by omega)) hne
  · refine ⟨_, hA, (Array.getElem?_eq_some_iff.1 hg).1, fun j u hu => ?_⟩
    rw [show (⟨g, off, none⟩ : Addr).add j = ⟨g, off + j, none⟩ by unfold Addr.add; split <;> simp_all, cell_of_row _ _ _ cur e (0, 0) hg]
    exact hx j u hu
theorem Qs.kept {w' : World} (h : Qs w base e A n cap xs) (hk : ∀ a, A = some a → a.block < w.heap.size → w'.heap[a.block]? = w.heap[a.block]?) : Qs w' base e A n cap xs := by
  refine ⟨h.len, h.le, h.max, ?_⟩
  rcases h.own with h0 | ⟨g, off, cur, hA, hb, hg, hs, hx⟩
  · exact .inl h0
  · exact .inr ⟨g, off, cur, hA, hb, (hk _ hA (Array.getElem?_eq_some_iff.1 hg).1).trans hg, hs, hx⟩
theorem Qs.lt (h : Qs w base e A n cap xs) {a : Addr} (hA : A = some a) : base ≤ a.block ∧ a.block < w.heap.size ∧ a.spot = none := by
  rcases h.own with ⟨h0, _⟩ | ⟨g, off, cur, hA', hb, hg, hs, hx⟩
  · rw [h0] at hA; cases hA
  · rw [hA'] at hA
    cases hA
    exact ⟨hb, (Array.getElem?_eq_some_iff.1 hg).1, rfl⟩
/-- cut in front -/
theorem Qs.cut {x : Value} (h : Qs w base e A n cap (x :: xs)) : ∃ A', sliced A 1 n cap 1 = .slice A' (n - 1) (cap - 1) ∧ Qs w base e A' (n - 1) (cap - 1) xs ∧ A'.map (·.block) = A.map (·.block) := by
  have h1 := h.len
  have h2 := h.le
  have h3 := h.max
  rw [List.length_cons] at h1
  unfold sliced
  by_cases hc : cap = 1
  · subst hc
    rw [if_pos rfl]
    refine ⟨A, rfl, ⟨by omega, by omega, by omega, ?_⟩, rfl⟩
    rcases h.own with ⟨h0, h00⟩ | ⟨g, off, cur, hA, hb, hg, hs, hx⟩
    · omega
    · refine .inr ⟨g, off, cur, hA, hb, hg, by omega, fun j u hu => ?_⟩
      have : xs = [] := List.eq_nil_of_length_eq_zero (by omega)
      subst this
      simp at hu
  · rw [if_neg hc]
    rcases h.own with ⟨h0, h00⟩ | ⟨g, off, cur, hA, hb, hg, hs, hx⟩
    · omega
    · subst hA
      refine ⟨some ⟨g, off + 1, none⟩, by simp [Addr.add], ⟨by omega, by omega, by omega, .inr ⟨g, off + 1, cur, rfl, hb, hg, by omega, fun j u hu => ?_⟩⟩, rfl⟩
      have := hx (j + 1) u (by simpa using hu)
      rwa [show off + (j + 1) = off + 1 + j by omega] at this
end
theorem heap_set {w : World} {g o : Nat} {cur : Array Value} {e : TypeId} {fz : Nat × Nat} {u : Value} (h : w.heap[g]? = some (.cells cur e fz)) : (w.setCell ⟨g, o, none⟩ u).heap[g]? = some (.cells (cur.setIfInBounds o u) e fz) := by
  unfold World.setCell
  simp [Array.getElem?_modify, h]
/-- one more behind: into the room, or into a new block -/
theorem wpList_append_q {P : Program} (w : World) {ops : Array Oper} {rest : List Oper} {o : Oper} {a : Act} {Q : Exit → Act → World → Prop}
    (hg : o.guard = none) (s x : Operand) (t : TypeId) (hop : o.op = Op.call { callee := Callee.builtin Builtin.append, args := #[s, x], argTypes := #[t, t] })
    (base : Nat) (e : TypeId) (i : TypeInfo) (z : Value) (bytes : Nat) (h1 : P.underlying t = some (.slice e)) (h2 : P.info? e = some i) (h3 : i.zero = some z) (h4 : i.size = 1) (h5 : i.bytes = bytes) (h6 : z.cells.size = 1)
    (A : Option Addr) (n cap : Nat) (olds : List Value) (hs : a.eval s = .slice A n cap) (hq : Qs w base e A n cap olds) (hbase : base ≤ w.heap.size)
    (ad : Addr) (c : Nat) (u : Value) (hx : a.eval x = .slice (some ad) 1 c) (hc : w.cell? ad = some u) (h1c : u.oneCell' = true)
    (b1 : n + 1 ≤ maxLen) (b2 : (n + 1) * bytes ≤ 140737488355328)
    (hK : ∀ A' cap' w', Qs w' base e A' (n + 1) cap' (olds ++ [u]) → w.grownBy w' (A.map (·.block)) → (∀ b, A'.map (·.block) = some b → A.map (·.block) = some b ∨ w.heap.size ≤ b) → wpList P ops Q rest (a.put o.dst (.slice A' (n + 1) cap')) w') :
    wpList P ops Q (o :: rest) a w := by
  have hcc : ∀ j u', [u][j]? = some u' → w.cell? (ad.add j) = some u' := fun j u' hu => by
    cases j with
    | zero => simp at hu; subst hu; simpa [Addr.add] using hc
    | succ j => simp at hu
  have hgrow : ∀ v' w', w'.ownsRow w.heap.size e 1 v' (n + 1) (olds ++ [u]) → w.grownBy w' none → wpList P ops Q rest (a.put o.dst v') w' := by
    intro v' w' ho hgr
    obtain ⟨hl, ⟨hv, h0⟩ | ⟨g, cap', cur, hv, hb, hgg, hn, hm, hss, hxx⟩⟩ := ho
    · omega
    · subst hv
      refine hK _ _ _ ?_ ⟨hgr.os, hgr.tape, hgr.output, hgr.size, fun k hk _ => hgr.block k hk (by simp)⟩ (fun b hb' => .inr ?_)
      · have q : Qs w' w.heap.size e (some ⟨g, 0, none⟩) (n + 1) cap' (olds ++ [u]) := Qs.of_own ⟨hl, .inr ⟨g, cap', cur, rfl, hb, hgg, hn, hm, hss, hxx⟩⟩
        refine ⟨q.len, q.le, q.max, .inr ⟨g, 0, cur, rfl, by omega, hgg, by omega, ?_⟩⟩
        rcases q.own with ⟨h, _⟩ | ⟨g', off', cur', hA', _, hg', _, hx'⟩
        · cases h
        · cases hA'
          rw [hgg] at hg'
          cases hg'
          exact hx'
      · simp at hb'
        omega
  rcases hq.own with ⟨hA, h0⟩ | ⟨g, off, cur, hA, hb, hgg, hss, hxx⟩
  · subst hA
    have hn0 := hq.le
    exact wpList_append_grows w hg s x t hop e i z 1 bytes h1 h2 h3 h4 h5 h6 (by omega) none n cap olds hs (fun _ => ⟨by omega, h0⟩) (by rw [hq.len, Nat.mul_one]) (fun b hb => by cases hb) ad 1 c [u] hx rfl hcc (by simpa using h1c) (by omega) b1 b2 hgrow
  · subst hA
    have hcell : ∀ j, w.cell? ⟨g, off + j, none⟩ = cur[off + j]? := fun j => cell_of_row _ _ _ cur e (0, 0) hgg
    refine wpList_append_arg w hg s x t hop e i z 1 bytes h1 h2 h3 h4 h5 h6 (by omega) g off n cap olds hs (by rw [hq.len, Nat.mul_one]) (fun j u' hu => by rw [hcell]; exact hxx j u' hu) ad 1 c [u] hx rfl hcc (by simpa using h1c) (fun hr j hj => ?_) b1 b2 (fun hr => ?_) (fun _ => hgrow)
    · simp at hj
      subst hj
      simp only [Nat.mul_one, Nat.add_zero]
      refine ⟨by rw [hcell, Array.getElem?_eq_getElem (by omega)]; rfl, ?_⟩
      unfold World.frozen?
      rw [hgg]
      simp
    · rw [Nat.mul_one]
      show wpList P ops Q rest _ (w.setCell ⟨g, off + n, none⟩ u)
      refine hK _ _ _ ⟨by rw [List.length_append, hq.len]; rfl, hr, hq.max, .inr ⟨g, off, cur.setIfInBounds (off + n) u, rfl, hb, heap_set hgg, by rw [Array.size_setIfInBounds]; exact hss, fun j u' hu => ?_⟩⟩ ?_ (fun b hb' => .inl hb')
      · have hl := hq.len
        rw [Array.getElem?_setIfInBounds]
        rcases Nat.lt_or_ge j n with h | h
        · rw [if_neg (by omega)]
          rw [List.getElem?_append_left (by omega)] at hu
          exact hxx j u' hu
        · rw [List.getElem?_append_right (by omega)] at hu
          obtain rfl : j = n := by
            rcases Nat.lt_or_ge n j with h' | h'
            · rw [List.getElem?_eq_none (by simp; omega)] at hu
              cases hu
            · omega
          rw [hl, Nat.sub_self] at hu
          rw [if_pos rfl, if_pos (by omega)]
          simpa using hu
      · refine ⟨rfl, rfl, rfl, by unfold World.setCell; simp, fun k hk hne => ?_⟩
        unfold World.setCell
        simp only [Array.getElem?_modify]
        rw [if_neg (by rintro rfl; exact hne rfl)]
end Go.Proofs.Ytinohfgokpbcdaa

namespace Go.Proofs.Ytinohfgokpbcdaa
open Go.RowKit

def inq (q : List Nat) : List Value := q.map fun (k : Nat) => Value.int .i64 (k : Int)
theorem inq_snoc (q : List Nat) (i : Nat) : inq (q ++ [i]) = inq q ++ [.int .i64 (i : Int)] := by simp [inq]
theorem inq_get {q : List Nat} {k : Nat} (hk : k < q.length) : (inq q)[k]? = some (.int .i64 (q[k] : Nat)) := by simp [inq, hk]
theorem inq_length (q : List Nat) : (inq q).length = q.length := by simp [inq]
theorem Qs.ne {w : World} {base : Nat} {e : TypeId} {A : Option Addr} {n cap : Nat} {xs : List Value} (h : Qs w base e A n cap xs) {g : Nat} {t : TypeId} {cs : Array Value} (hb : Bk w g t cs) (ht : t ≠ e) : some g ≠ A.map (·.block) := by
  rcases h.own with ⟨h0, _⟩ | ⟨g', off, cur, hA, _, hg, _, _⟩
  · subst h0
    simp
  · subst hA
    intro h2
    simp at h2
    subst h2
    unfold Bk at hb
    rw [hb] at hg
    injection hg with hg
    injection hg with _ h3 _
    exact ht h3
/-- what ranks holds in memory: the field, the cell that is looked at, the ranks, the directions, the queue -/
structure RM (W0 w : World) (hf hk hr hd hq gr : Nat) (X Y : Int) (Wn Hn N : Nat) (A : Option Addr) (c : Nat) (D : Option Addr) (cD p : Nat) (o : Nat → Int) (L : List Nat) (Q : Option Addr) (cap : Nat) : Prop where
  fb : Bk w hf 26 #[.int .i64 X, .int .i64 Y, .int .i64 (Wn : Int), .int .i64 (Hn : Int), .slice A N c]
  kb : Bk w hk 3 #[.int .i64 (p : Int)]
  rb : Bk w hr 41 #[.slice (some ⟨gr, 0, none⟩) N N]
  db : Bk w hd 41 #[.slice D N cD]
  gb : Bk w gr 3 (intB N o)
  qb : Bk w hq 41 #[.slice Q L.length cap]
  qs : Qs w W0.heap.size 3 Q L.length cap (inq L)
  qk : some hk ≠ Q.map (·.block)
  qr : some gr ≠ Q.map (·.block)
  ext : Ext W0 w
  b1 : W0.heap.size ≤ gr
  b2 : W0.heap.size ≤ hq
  n1 : hk ≠ gr
  n2 : hr ≠ hq
  n3 : hd ≠ hq
section
variable {W0 w : World} {hf hk hr hd hq gr : Nat} {X Y : Int} {Wn Hn N : Nat} {A : Option Addr} {c : Nat} {D : Option Addr} {cD p : Nat} {o : Nat → Int} {L : List Nat} {Q : Option Addr} {cap : Nat}
theorem RM.step (h : RM W0 w hf hk hr hd hq gr X Y Wn Hn N A c D cD p o L Q cap) {w' : World} (hx : Ext w w') : RM W0 w' hf hk hr hd hq gr X Y Wn Hn N A c D cD p o L Q cap :=
  ⟨h.fb.ext hx, h.kb.ext hx, h.rb.ext hx, h.db.ext hx, h.gb.ext hx, h.qb.ext hx, h.qs.kept fun a _ ha => hx.block a.block ha, h.qk, h.qr, h.ext.trans hx, h.b1, h.b2, h.n1, h.n2, h.n3⟩
theorem RM.put (h : RM W0 w hf hk hr hd hq gr X Y Wn Hn N A c D cD p o L Q cap) (n : Nat) (x : Int) : RM W0 (w.setCell ⟨gr, n, none⟩ (.int .i64 x)) hf hk hr hd hq gr X Y Wn Hn N A c D cD p (updF o n x) L Q cap := by
  have e1 := Bk.set h.gb n (.int .i64 x)
  rw [intB_set] at e1
  exact ⟨h.fb.far (Bk.ne h.fb h.gb (by decide)) _, h.kb.far h.n1 _, h.rb.far (Bk.ne h.rb h.gb (by decide)) _, h.db.far (Bk.ne h.db h.gb (by decide)) _, e1, h.qb.far (Bk.ne h.qb h.gb (by decide)) _,
    h.qs.kept (fun a ha _ => Below.heap_setCell w _ _ _ (fun e => h.qr (by subst ha; simp only [Option.map_some]; exact congrArg some e.symm))), h.qk, h.qr, h.ext.setCell h.b1 _, h.b1, h.b2, h.n1, h.n2, h.n3⟩
theorem RM.app (h : RM W0 w hf hk hr hd hq gr X Y Wn Hn N A c D cD p o L Q cap) {w' : World} {n : Nat} {Q' : Option Addr} {cap' : Nat} (hq' : Qs w' W0.heap.size 3 Q' (L.length + 1) cap' (inq L ++ [.int .i64 (n : Int)])) (hg : w.grownBy w' (Q.map (·.block)))
    (ho : ∀ b, Q'.map (·.block) = some b → Q.map (·.block) = some b ∨ w.heap.size ≤ b) :
    RM W0 (w'.setCell ⟨hq, 0, none⟩ (.slice Q' (L.length + 1) cap')) hf hk hr hd hq gr X Y Wn Hn N A c D cD p o (L ++ [n]) Q' cap' := by
  have hx : Ext W0 w' := h.ext.grown hg (fun k hk => by
    cases hQ : Q with
    | none => rw [hQ] at hk; cases hk
    | some a => rw [hQ] at hk; cases hk; exact (h.qs.lt hQ).1)
  have f1 := h.fb.grown hg (h.qs.ne h.fb (by decide))
  have k1 := h.kb.grown hg h.qk
  have r1 := h.rb.grown hg (h.qs.ne h.rb (by decide))
  have d1 := h.db.grown hg (h.qs.ne h.db (by decide))
  have g1 := h.gb.grown hg h.qr
  have q1 := h.qb.grown hg (h.qs.ne h.qb (by decide))
  have e1 := Bk.set q1 0 (.slice Q' (L.length + 1) cap')
  have hl : (L ++ [n]).length = L.length + 1 := by simp
  refine ⟨f1.far (Bk.ne f1 q1 (by decide)) _, k1.far (Bk.ne k1 q1 (by decide)) _, r1.far h.n2 _, d1.far h.n3 _, g1.far (Bk.ne g1 q1 (by decide)) _, ?_, ?_, ?_, ?_, hx.setCell h.b2 _, h.b1, h.b2, h.n1, h.n2, h.n3⟩
  · rw [hl]; exact e1
  · rw [hl, inq_snoc]
    exact hq'.kept (fun a ha _ => Below.heap_setCell w' _ _ _ (fun e => hq'.ne q1 (by decide) (by subst ha; simp only [Option.map_some]; exact congrArg some e.symm)))
  · intro e
    rcases ho hk e.symm with e2 | e2
    · exact h.qk e2.symm
    · have := h.kb.lt
      omega
  · intro e
    rcases ho gr e.symm with e2 | e2
    · exact h.qr e2.symm
    · have := h.gb.lt
      omega
theorem RM.rcell (h : RM W0 w hf hk hr hd hq gr X Y Wn Hn N A c D cD p o L Q cap) {k : Nat} (hk : k < N) {w' : World} (hx : Ext w w') : w'.cell? ⟨gr, k, none⟩ = some (.int .i64 (o k)) := by rw [(h.gb.ext hx).cell]; exact intB_get _ hk
end
end Go.Proofs.Ytinohfgokpbcdaa
