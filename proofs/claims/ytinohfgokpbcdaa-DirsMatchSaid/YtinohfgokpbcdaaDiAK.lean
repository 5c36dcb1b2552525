/- The walk of the law DirsMatch. -/
import Derived.Test.YtinohfgokpbcdaaPlaces
import Derived.Test.YtinohfgokpbcdaaDiAH
import Derived.Test.YtinohfgokpbcdaaDiAI
import Derived.Test.YtinohfgokpbcdaaDiAJ
import Derived.Test.YtinohfgokpbcdaaFlows
import Derived.Maps.Own
import Derived.Maps.OwnOps
import Derived.Maps.Views
import Derived.RegionTactic
import Derived.BigQuiet
namespace Go.Proofs.Ytinohfgokpbcdaa
open Go.RowKit

theorem f32bits' (a : Nat) (w : World) : (callFunc 35 #[.float .f32 a]).run Try.prog w = .ok (.value (.int .u32 a)) w := by kernel_rfl

set_option maxHeartbeats 400000 in
theorem bits1_same (a : Nat) (w : World) : Calls Try.prog 113 #[.float .f32 a, .float .f32 a] w fun e w' => e = .returned (.bool true) ∧ w = w' := by
  have hf := f32bits' a
  go_enter Try.func113, Try.ntmps113
  go_wp2
  go_ret
  exact ⟨ret_b (by simp), rfl⟩

set_option maxHeartbeats 800000 in
theorem eqFunc_same (A B : Option Addr) (n c d : Nat) (l : List Nat) (w : World) (hn : l.length = n) (ha : Rd w A (flt l)) (hb : Rd w B (flt l)) (hnb : n ≤ 4000000000) :
    Calls Try.prog 112 #[.slice A n c, .slice B n d, .func (.func 113) #[] #[]] w fun e w' => e = .returned (.bool true) ∧ w = w' := by
  have Hn := hidA hn
  clear hn
  go_enter Try.func112, Try.ntmps112
  go_wp2
  go_loop [17] (fun i => ∃ k : Nat, k ≤ n ∧ i = .int .i64 k) (fun i => n - (intOf i).toNat)
  case atStart => exact ⟨0, Nat.zero_le _, rfl⟩
  case round =>
    obtain ⟨k, hk, rfl⟩ := hrel
    by_cases hlt : k < n
    · have hkl : k < l.length := by have := Hn.out; omega
      obtain ⟨ad, rfl, hbk, hc⟩ := ha.at (k := k) (by simpa using hkl)
      obtain ⟨ad2, rfl, hbk2, hc2⟩ := hb.at (k := k) (by simpa using hkl)
      have e0 := hc k _ (flt_get hkl)
      have e1 := hc2 k _ (flt_get hkl)
      clear hc hc2 ha hb
      go_wp2_with (go_at_call 113; refine (bits1_same _ _).mono ?_; rintro e w' ⟨rfl, rfl⟩)
      go_round
      case rel => exact ⟨k + 1, by omega, by go_num⟩
      case measure => simp [intOf]; omega
    · obtain rfl : k = n := by omega
      go_wp2
      go_ret
      exact ⟨rfl, rfl⟩

theorem bits_same (A B : Option Addr) (n c d : Nat) (l : List Nat) (w : World) (hn : l.length = n) (ha : Rd w A (flt l)) (hb : Rd w B (flt l)) (hnb : n ≤ 4000000000) :
    Calls Try.prog 56 #[.slice A n c, .slice B n d] w fun e w' => e = .returned (.bool true) ∧ w = w' := by
  go_enter Try.func56, Try.ntmps56
  go_wp2_with fail
  refine (eqFunc_same A B n c d l _ hn ha hb hnb).mono ?_
  rintro e w' ⟨rfl, rfl⟩
  go_wp2
  go_ret
  exact ⟨rfl, rfl⟩

end Go.Proofs.Ytinohfgokpbcdaa

namespace Go.Proofs.Ytinohfgokpbcdaa
open Go.RowKit Go.Maps
attribute [local go_sem ↓] Go.wp_at_zero Go.wp_at_succ
attribute [local go_sem] run_store_float

theorem ptsC_length {X Y : Int} {Wn : Nat} : ∀ M : List Nat, (ptsC X Y Wn M).length = 2 * M.length
  | [] => rfl
  | a :: M => by
    have ih := ptsC_length (X := X) (Y := Y) (Wn := Wn) M
    unfold ptsC at ih ⊢
    rw [List.flatMap_cons, List.length_append, ih]
    simp
    omega
theorem ptsC_get {X Y : Int} {Wn : Nat} : ∀ {M : List Nat} {k : Nat} (hk : k < M.length), (ptsC X Y Wn M)[k * 2]? = some (.int .i64 (colK X Wn M[k])) ∧ (ptsC X Y Wn M)[k * 2 + 1]? = some (.int .i64 (rowK Y Wn M[k]))
  | [], k, h => by simp at h
  | a :: M, 0, _ => ⟨rfl, rfl⟩
  | a :: M, k + 1, h => by
    have ih := ptsC_get (X := X) (Y := Y) (Wn := Wn) (M := M) (k := k) (by simpa using h)
    have e1 : (k + 1) * 2 = k * 2 + 1 + 1 := by omega
    rw [e1]
    exact ih
set_option maxRecDepth 100000 in
set_option maxHeartbeats 1600000 in
theorem eqPtsC_same (X Y : Int) (Wn : Nat) (A B : Option Addr) (n c d : Nat) (M : List Nat) (w : World) (hn : M.length = n) (ha : Rd w A (ptsC X Y Wn M)) (hb : Rd w B (ptsC X Y Wn M)) (hnb : n ≤ 4000000000) :
    Calls Try.prog 55 #[.slice A n c, .slice B n d] w fun e w' => e = .returned (.bool true) ∧ Ext w w' := by
  have Hn := hidA hn
  clear hn
  go_enter Try.func55, Try.ntmps55
  go_wp2
  go_loopw [13] (fun i wr => ∃ k m : Nat, k ≤ n ∧ i = .int .i64 k ∧ wr = w.drewN m) (fun i _ => n - (intOf i).toNat)
  case atStart => exact ⟨0, 0, Nat.zero_le _, rfl, rfl⟩
  case round =>
    obtain ⟨k, m, hk, rfl, rfl⟩ := hrel
    by_cases hlt : k < n
    · have hkl : k < M.length := by have := Hn.out; omega
      obtain ⟨ad, rfl, hbk, hc⟩ := ha.at (k := k * 2) (by rw [ptsC_length]; omega)
      obtain ⟨ad2, rfl, hbk2, hc2⟩ := hb.at (k := k * 2) (by rw [ptsC_length]; omega)
      have e0 := hc (k * 2) _ (ptsC_get hkl).1
      have e1 : w.cell? ⟨(ad.add (k * 2)).block, (ad.add (k * 2)).off + 1, none⟩ = some (.int .i64 (rowK Y Wn M[k])) := by rw [add_off _ _ (by omega)]; exact hc (k * 2 + 1) _ (ptsC_get hkl).2
      have e2 := hc2 (k * 2) _ (ptsC_get hkl).1
      have e3 : w.cell? ⟨(ad2.add (k * 2)).block, (ad2.add (k * 2)).off + 1, none⟩ = some (.int .i64 (rowK Y Wn M[k])) := by rw [add_off _ _ (by omega)]; exact hc2 (k * 2 + 1) _ (ptsC_get hkl).2
      have k0 : (0 : Int) ≤ k := by omega
      have k1 : (k : Int) < n := by omega
      generalize colK X Wn M[k] = qx at *
      generalize rowK Y Wn M[k] = qy at *
      clear hc hc2 ha hb
      go_wp2
      go_quiet (fail)
      go_wp2
      go_roundw
      case rel => exact ⟨k + 1, _, by omega, by go_num, rfl⟩
      case measure => simp [intOf]; omega
    · obtain rfl : k = n := by omega
      go_wp2
      go_ret
      exact ⟨rfl, (by repeat (first | exact Ext.refl _ | assumption | refine Ext.setCell ?_ (by first | (simp; done) | (simp; omega)) _ | refine Ext.drewN ?_ _ | refine Ext.alloc ?_ _ | refine Ext.drew ?_ | refine Ext.trans ?_ (by assumption)))⟩
/-- where a way ends is a mouth -/
theorem end_mouth {Wn Hn N : Nat} {D : Nat → Int} {m : Nat → Nat} {tr : Nat → List Nat} (hL : Lead Wn Hn N D m) (hN : N = Wn * Hn) (htr : ∀ k, k < N → IsTr D Wn Hn k (tr k)) : ∀ {k : Nat}, k < N → endC tr k < N ∧ mouB D (endC tr k) = true := by
  have key : ∀ b k, m k < b → k < N → endC tr k < N ∧ mouB D (endC tr k) = true := by
    intro b
    induction b with
    | zero => intro k h; omega
    | succ b ih =>
      intro k hb hk
      cases hn : nxtD D Wn Hn k with
      | none =>
        rw [end_none (htr k hk) hn]
        exact ⟨hk, by rw [mou_nxt hL hk, hn]; rfl⟩
      | some n =>
        obtain ⟨hnN, hm⟩ := hL.nxt hN hk hn
        rw [end_some (htr k hk) (htr n hnN) hn]
        exact ih n (by omega) hnN
  exact fun {k} hk => key (m k + 1) k (Nat.lt_succ_self _) hk
/-- the names of the mouths, as a map's datum -/
def nmC (D : Nat → Int) : Nat → DataW Unit
  | 0 => .map []
  | n + 1 => if mouB D n = true then (nmC D n).put (.int .i64 n) (.lit (.int .i64 (cntB (mouB D) n : Nat))) else nmC D n
theorem nmC_map (D : Nat → Int) : ∀ n, IsMap (nmC D n)
  | 0 => ⟨[], rfl⟩
  | n + 1 => by
    unfold nmC
    split
    · exact (nmC_map D n).put _ _
    · exact nmC_map D n
theorem nmC_at (D : Nat → Int) (z : DataW Unit) (j : Nat) (hm : mouB D j = true) : ∀ n, j < n → (nmC D n).atKey (.int .i64 j) z = .lit (.int .i64 (cntB (mouB D) j : Nat))
  | 0, h => by omega
  | n + 1, h => by
    unfold nmC
    by_cases e : j = n
    · subst e
      rw [if_pos hm]
      exact atKey_put_same (nmC_map D j) (by first | trivial | exact .inr ⟨_, _, rfl⟩ | decide) _ _
    · have ih := nmC_at D z j hm n (by omega)
      split
      · rw [atKey_put_other (by intro h; injection h with _ h; omega), ih]
      · exact ih
set_option maxRecDepth 100000 in
set_option maxHeartbeats 6400000 in
theorem dirs_large (x y ww hh px py : Int) (n c nR cR : Nat) (A R : Option Addr) (q qr : List Int) (w : World) (hq : q.length = n) (hd : Rd w A (intL q)) (hb : n ≤ 140737488351232) (_hqr : qr.length = nR) (_hR : Rd w R (intL qr)) (_hbr : nR ≤ 140737488351232) (hl : 200 < n) :
    Calls Try.prog 8 #[.agg #[.int .i64 x, .int .i64 y, .int .i64 ww, .int .i64 hh], .slice A n c, .slice R nR cR, .agg #[.int .i64 px, .int .i64 py]] w fun e w' => e = .returned (.bool true) ∧ Ext w w' := by
  have HC := hidA (fun (w' : World) (h : Ext w w') => CheckDirs_any x y ww hh A n c q w' hq (hd.ext h) hb)
  have HW := fun (w : World) => hidA (flows_any w)
  have hl' : (200 : Int) < (n : Int) := by omega
  generalize dirsE x y ww hh q = E at *
  clear hq hd hb hl
  have kR : Bk ((w.alloc (.cells #[.int .i64 x, .int .i64 y, .int .i64 ww, .int .i64 hh] 23)).alloc (.cells #[.int .i64 px, .int .i64 py] 76)) w.heap.size 23 #[.int .i64 x, .int .i64 y, .int .i64 ww, .int .i64 hh] := (Bk.new' rfl).alloc _
  have kP : Bk ((w.alloc (.cells #[.int .i64 x, .int .i64 y, .int .i64 ww, .int .i64 hh] 23)).alloc (.cells #[.int .i64 px, .int .i64 py] 76)) (w.heap.size + 1) 76 #[.int .i64 px, .int .i64 py] := Bk.new' (by simp)
  have hx0 : Ext w ((w.alloc (.cells #[.int .i64 x, .int .i64 y, .int .i64 ww, .int .i64 hh] 23)).alloc (.cells #[.int .i64 px, .int .i64 py] 76)) := ((Ext.refl w).alloc _).alloc _
  go_enter Try.func8, Try.ntmps8
  go_upto_region 1 with fail
  generalize (w.alloc (.cells #[.int .i64 x, .int .i64 y, .int .i64 ww, .int .i64 hh] 23)).alloc (.cells #[.int .i64 px, .int .i64 py] 76) = w1 at *
  generalize w.heap.size + 1 = h1 at *
  generalize hh0 : w.heap.size = h0 at kR ⊢
  have Hh0 := hidA hh0
  clear hh0
  have c0 := kR.cell 0
  have c1 := kR.cell 1
  have c2 := kR.cell 2
  have c3 := kR.cell 3
  go_upto_region 3 with (first | (go_at_call 45; refine (HC.out _ (hx0.trans (by repeat (first | exact Ext.refl _ | assumption | refine Ext.setCell ?_ (by first | (simp; done) | (simp; omega)) _ | refine Ext.drewN ?_ _ | refine Ext.alloc ?_ _ | refine Ext.drew ?_ | refine Ext.trans ?_ (by assumption))))).mono ?_; rintro e w2 ⟨rfl, hx2⟩) | (go_at_call 20; refine ((HW _).out).mono ?_; rintro e w3 ⟨rfl, hx3⟩))
  go_wp2_with (go_at_call 20; refine ((HW _).out).mono ?_; rintro e w4 ⟨rfl, hx4⟩)
  go_ret
  exact ⟨by first | rfl | simp, ((hx0.trans hx2).trans hx3).trans hx4⟩
set_option maxRecDepth 100000 in
set_option maxHeartbeats 6400000 in
theorem dirs_bad (x y ww hh px py : Int) (n c nR cR : Nat) (A R : Option Addr) (q qr : List Int) (w : World) (hq : q.length = n) (hd : Rd w A (intL q)) (hb : n ≤ 140737488351232) (_hqr : qr.length = nR) (_hR : Rd w R (intL qr)) (_hbr : nR ≤ 140737488351232) (hl : n ≤ 200) (hE : dirsE x y ww hh q ≠ 0) :
    Calls Try.prog 8 #[.agg #[.int .i64 x, .int .i64 y, .int .i64 ww, .int .i64 hh], .slice A n c, .slice R nR cR, .agg #[.int .i64 px, .int .i64 py]] w fun e w' => e = .returned (.bool true) ∧ Ext w w' := by
  have HC := hidA (fun (w' : World) (h : Ext w w') => CheckDirs_any x y ww hh A n c q w' hq (hd.ext h) hb)
  have HR := hidA (fun (w' : World) (h : Ext w w') => DirsRef_any x y ww hh A n c q w' hq (hd.ext h) hb)
  have HN := hidA (fun (w' : World) (h : Ext w w') => Next_bad x y ww hh px py A n c q w' hq (hd.ext h) hb hE)
  have HG := hidA (fun (w' : World) (h : Ext w w') => Gather_bad x y ww hh A n c q R nR cR w' hq (hd.ext h) hb hE)
  have HB := hidA (fun (w' : World) (h : Ext w w') => Basins_bad x y ww hh A n c q w' hq (hd.ext h) hb hE)
  have HF := hidA (fun (w' : World) (h : Ext w w') => Far_bad x y ww hh A n c q w' hq (hd.ext h) hb hE)
  have HW := fun (w : World) => hidA (flows_any w)
  have hl' : ¬ ((200 : Int) < (n : Int)) := by omega
  have hne : (dirsE x y ww hh q != 0) = true := by simpa using hE
  generalize dirsE x y ww hh q = E at *
  clear hq hd hb hl
  have kR : Bk ((w.alloc (.cells #[.int .i64 x, .int .i64 y, .int .i64 ww, .int .i64 hh] 23)).alloc (.cells #[.int .i64 px, .int .i64 py] 76)) w.heap.size 23 #[.int .i64 x, .int .i64 y, .int .i64 ww, .int .i64 hh] := (Bk.new' rfl).alloc _
  have kP : Bk ((w.alloc (.cells #[.int .i64 x, .int .i64 y, .int .i64 ww, .int .i64 hh] 23)).alloc (.cells #[.int .i64 px, .int .i64 py] 76)) (w.heap.size + 1) 76 #[.int .i64 px, .int .i64 py] := Bk.new' (by simp)
  have hx0 : Ext w ((w.alloc (.cells #[.int .i64 x, .int .i64 y, .int .i64 ww, .int .i64 hh] 23)).alloc (.cells #[.int .i64 px, .int .i64 py] 76)) := ((Ext.refl w).alloc _).alloc _
  go_enter Try.func8, Try.ntmps8
  go_upto_region 1 with fail
  generalize (w.alloc (.cells #[.int .i64 x, .int .i64 y, .int .i64 ww, .int .i64 hh] 23)).alloc (.cells #[.int .i64 px, .int .i64 py] 76) = w1 at *
  generalize w.heap.size + 1 = h1 at *
  generalize hh0 : w.heap.size = h0 at kR ⊢
  have Hh0 := hidA hh0
  clear hh0
  have c0 := kR.cell 0
  have c1 := kR.cell 1
  have c2 := kR.cell 2
  have c3 := kR.cell 3
  go_upto_region 2 with (go_at_call 45; refine (HC.out _ (hx0.trans (by repeat (first | exact Ext.refl _ | assumption | refine Ext.setCell ?_ (by first | (simp; done) | (simp; omega)) _ | refine Ext.drewN ?_ _ | refine Ext.alloc ?_ _ | refine Ext.drew ?_ | refine Ext.trans ?_ (by assumption))))).mono ?_; rintro e w2 ⟨rfl, hx2⟩)
  go_upto_region 4 with (go_at_call 20; refine ((HW _).out).mono ?_; rintro e w3 ⟨rfl, hx3⟩)
  have kR3 := kR.ext (hx2.trans hx3)
  have kP3 := kP.ext (hx2.trans hx3)
  have hxw := hx0.trans (hx2.trans hx3)
  clear c0 c1 c2 c3 kR kP hx0 hx2 hx3 HC HW
  have c0 := kR3.cell 0
  have c1 := kR3.cell 1
  have c2 := kR3.cell 2
  have c3 := kR3.cell 3
  go_upto_region 5 with (go_at_call 46; refine (HR.out _ (hxw.trans (by repeat (first | exact Ext.refl _ | assumption | refine Ext.setCell ?_ (by first | (simp; done) | (simp; omega)) _ | refine Ext.drewN ?_ _ | refine Ext.alloc ?_ _ | refine Ext.drew ?_ | refine Ext.trans ?_ (by assumption))))).mono ?_; rintro e w4 ⟨rfl, hx4⟩)
  have kR4 := kR3.ext hx4
  have kP4 := kP3.ext hx4
  have hxw4 := hxw.trans hx4
  clear c0 c1 c2 c3 kR3 kP3 hxw hx4 HR
  have c0 := kR4.cell 0
  have c1 := kR4.cell 1
  have c2 := kR4.cell 2
  have c3 := kR4.cell 3
  have p0 := kP4.cell 0
  have p1 := kP4.cell 1
  go_upto_region 6 with (go_at_call 47; refine (HN.out _ (hxw4.trans (by repeat (first | exact Ext.refl _ | assumption | refine Ext.setCell ?_ (by first | (simp; done) | (simp; omega)) _ | refine Ext.drewN ?_ _ | refine Ext.alloc ?_ _ | refine Ext.drew ?_ | refine Ext.trans ?_ (by assumption))))).mono ?_; rintro e w5 ⟨rfl, hx5⟩)
  have hx6 : Ext w5 (w5.alloc (.cells #[.int .i64 0, .int .i64 0] 76)) := (Ext.refl w5).alloc _
  have kT : Bk (w5.alloc (.cells #[.int .i64 0, .int .i64 0] 76)) w5.heap.size 76 #[.int .i64 0, .int .i64 0] := Bk.new' rfl
  have kR6 := kR4.ext (hx5.trans hx6)
  have hxw6 := hxw4.trans (hx5.trans hx6)
  clear c0 c1 c2 c3 p0 p1 kR4 kP4 hxw4 hx5 hx6 HN
  generalize w5.alloc (.cells #[.int .i64 0, .int .i64 0] 76) = w6 at *
  generalize w5.heap.size = ht at *
  have c0 := kR6.cell 0
  have c1 := kR6.cell 1
  have c2 := kR6.cell 2
  have c3 := kR6.cell 3
  go_upto_region 7 with (go_at_call 48; refine (HG.out _ (hxw6.trans (by repeat (first | exact Ext.refl _ | assumption | refine Ext.setCell ?_ (by first | (simp; done) | (simp; omega)) _ | refine Ext.drewN ?_ _ | refine Ext.alloc ?_ _ | refine Ext.drew ?_ | refine Ext.trans ?_ (by assumption))))).mono ?_; rintro e w7 ⟨rfl, hx7⟩)
  have kR7 := kR6.ext hx7
  have kT7 := kT.ext hx7
  have hxw7 := hxw6.trans hx7
  clear c0 c1 c2 c3 kR6 kT hxw6 hx7 HG
  have c0 := kR7.cell 0
  have c1 := kR7.cell 1
  have c2 := kR7.cell 2
  have c3 := kR7.cell 3
  go_upto_region 8 with (go_at_call 49; refine (HB.out _ (hxw7.trans (by repeat (first | exact Ext.refl _ | assumption | refine Ext.setCell ?_ (by first | (simp; done) | (simp; omega)) _ | refine Ext.drewN ?_ _ | refine Ext.alloc ?_ _ | refine Ext.drew ?_ | refine Ext.trans ?_ (by assumption))))).mono ?_; rintro e w8 ⟨rfl, hx8⟩)
  have kR8 := kR7.ext hx8
  have kT8 := kT7.ext hx8
  have hxw8 := hxw7.trans hx8
  clear c0 c1 c2 c3 kR7 kT7 hxw7 hx8 HB
  have c0 := kR8.cell 0
  have c1 := kR8.cell 1
  have c2 := kR8.cell 2
  have c3 := kR8.cell 3
  go_upto_region 9 with (go_at_call 50; refine (HF.out _ (hxw8.trans (by repeat (first | exact Ext.refl _ | assumption | refine Ext.setCell ?_ (by first | (simp; done) | (simp; omega)) _ | refine Ext.drewN ?_ _ | refine Ext.alloc ?_ _ | refine Ext.drew ?_ | refine Ext.trans ?_ (by assumption))))).mono ?_; rintro e w9 ⟨rfl, hx9⟩)
  have kT9 := kT8.ext hx9
  clear c0 c1 c2 c3 kR8
  have t0 := kT9.cell 0
  have t1 := kT9.cell 1
  go_wp2_with fail
  go_ret
  exact ⟨by first | rfl | simp, hxw8.trans hx9⟩
theorem own_neMap {H : Type} {P : Program} {w : World} {b e s n B k nn : Nat} {v : Value} {xs : List Value} {R : Value → Option (DataW H × List MemPlace)} {D : DataW H} (h : w.ownsRow b e s v n xs) (hm : w.ownsMap P k R B nn D) : some B ≠ v.ownBlock := by
  rcases h.2 with ⟨rfl, _⟩ | ⟨g, cap, cur, rfl, _, hg, _⟩
  · intro h; cases h
  · intro h
    obtain ⟨es, clock, hb, _⟩ := hm
    simp only [Value.ownBlock, Option.some.injEq] at h
    subst h
    rw [hb] at hg
    cases hg
/-- the mouths so far, and their names -/
structure LN (W0 w : World) (B : Nat) (X Y : Int) (Wn : Nat) (D : Nat → Int) (k : Nat) (v : Value) : Prop where
  mp : w.ownsMap Try.prog 3 (plainElem Try.prog 3) B k (nmC D k)
  own : w.ownsRow W0.heap.size 76 2 v (mouL D k).length (ptsC X Y Wn (mouL D k))
  ext : Ext W0 w
  b1 : W0.heap.size ≤ B
theorem LN.step {W0 w : World} {B : Nat} {X Y : Int} {Wn : Nat} {D : Nat → Int} {k : Nat} {v : Value} (h : LN W0 w B X Y Wn D k v) {w' : World} (hx : Ext w w') : LN W0 w' B X Y Wn D k v :=
  ⟨h.mp.kept (grown_ext hx none) (by simp), World.ownsRow.kept h.own (grown_ext hx none) (by cases h : v.ownBlock <;> simp), h.ext.trans hx, h.b1⟩
theorem mouL_skip {D : Nat → Int} {k : Nat} (h : mouB D k = false) : mouL D (k + 1) = mouL D k := by unfold mouL; rw [List.range_succ, List.filter_append]; simp [h]
theorem mouL_more {D : Nat → Int} {k : Nat} (h : mouB D k = true) : mouL D (k + 1) = mouL D k ++ [k] := by unfold mouL; rw [List.range_succ, List.filter_append]; simp [h]
theorem LN.skip {W0 w : World} {B : Nat} {X Y : Int} {Wn : Nat} {D : Nat → Int} {k : Nat} {v : Value} (h : LN W0 w B X Y Wn D k v) (hm : mouB D k = false) : LN W0 w B X Y Wn D (k + 1) v := by
  refine ⟨?_, ?_, h.ext, h.b1⟩
  · have e : nmC D (k + 1) = nmC D k := by rw [nmC]; simp [hm]
    rw [e]
    exact h.mp.mono (by omega)
  · rw [mouL_skip hm]
    exact h.own
theorem law_int : Keyed Try.prog 3 := int_keyed Try.underlying3
theorem zero_int (w : World) : (zeroValue 3).run Try.prog w = .ok (.int .i64 0) w := by kernel_rfl
set_option maxRecDepth 100000 in
set_option maxHeartbeats 12800000 in
theorem dirs_good (X Y px py : Int) (Wn Hn : Nat) (n c nR cR : Nat) (A R : Option Addr) (q qr : List Int) (w : World) (hq : q.length = n) (hd : Rd w A (intL q)) (hb : n ≤ 140737488351232) (hqr : qr.length = nR) (hR : Rd w R (intL qr)) (hbr : nR ≤ 140737488351232) (hl : n ≤ 200) (hr : Reg X Y Wn Hn) (hr0 : regE X Y Wn Hn = 0) (hN : n = Wn * Hn) (hE : dirsE X Y Wn Hn q = 0) (m : Nat → Nat) (hL : Lead Wn Hn n (fun k => q.getD k 0) m) :
    Calls Try.prog 8 #[.agg #[.int .i64 X, .int .i64 Y, .int .i64 (Wn : Int), .int .i64 (Hn : Int)], .slice A n c, .slice R nR cR, .agg #[.int .i64 px, .int .i64 py]] w fun e w' => e = .returned (.bool true) ∧ Ext w w' := by
  have HC := hidA (fun (w' : World) (h : Ext w w') => CheckDirs_any X Y Wn Hn A n c q w' hq (hd.ext h) hb)
  have HR := hidA (fun (w' : World) (h : Ext w w') => DirsRef_any X Y Wn Hn A n c q w' hq (hd.ext h) hb)
  rw [hE] at HC HR
  have hDa := DirsAt.of_list hq hd
  obtain ⟨D, hDe⟩ : ∃ D : Nat → Int, D = fun k => q.getD k 0 := ⟨_, rfl⟩
  rw [← hDe] at hDa hL
  have HNm := hidA (fun (w' : World) (h : Ext w w') => Next_matches X Y px py Wn Hn n c A D m w' hr hr0 hN (hDa.ext h) hL)
  have HGm := hidA (fun (w' : World) (h : Ext w w') => Gather_matches X Y Wn Hn n c nR cR A R D m qr w' hr hr0 hN (hDa.ext h) hL hqr (hR.ext h) hbr)
  have HB := hidA (fun (w' : World) (h : Ext w w') => Basins_ok X Y Wn Hn n c A D m (trD D Wn Hn) w' hr hr0 hN (hDa.ext h) hL (trD_ok hL hN))
  have HF := hidA (fun (w' : World) (h : Ext w w') => Far_ok X Y Wn Hn n c A D m (trD D Wn Hn) w' hr hr0 hN (hDa.ext h) hL (trD_ok hL hN))
  have HTr := hidA (fun (k : Nat) (w' : World) (hk : k < n) (h : Ext w w') => Trail_any X Y Wn Hn n k c A D m (trD D Wn Hn k) w' hr hN (hDa.ext h) hL hk (trD_ok hL hN k hk) (Nat.le_of_lt ((trD_lead hL hN).2 k hk)))
  have HFo := hidA (fun (k : Nat) (w' : World) (hk : k < n) (h : Ext w w') => FarOf_any X Y Wn Hn n c A D hr hN hL.valid (trD D Wn Hn k) k w' hk (trD_ok hL hN k hk) (hDa.ext h))
  have HPl := hidA (fun (k : Nat) (w : World) (hk : k < n) => show Calls Try.prog 28 #[.agg #[.int .i64 X, .int .i64 Y, .int .i64 (Wn : Int), .int .i64 (Hn : Int)], .int .i64 (k : Int)] w fun e w' => e = .returned (.tuple #[.int .i64 (colK X Wn k), .int .i64 (rowK Y Wn k)]) ∧ Ext w w' from Place_any X Y Wn Hn k w hr.ok (by omega))
  unfold rgv at HB HF HTr HFo
  have Hend := hidA (fun (k : Nat) (hk : k < n) => show endC (trD D Wn Hn) k < n ∧ mouB D (endC (trD D Wn Hn) k) = true from end_mouth hL hN (trD_ok hL hN) hk)
  have Htl := hidA (fun (k : Nat) (hk : k < n) => (trD_lead hL hN).2 k hk)
  have Hlo := hidA (fun k (hk : k < n) => (hL.rng k hk).1)
  have HW := fun (w : World) => hidA (flows_any w)
  have HDa := hidA hDa
  have hl' : ¬ ((200 : Int) < (n : Int)) := by omega
  have hmm := @run_makeMap Try.prog
  clear hq hd hb hqr hR hbr hr hr0 hN hE hL hDa hDe
  have kR : Bk ((w.alloc (.cells #[.int .i64 X, .int .i64 Y, .int .i64 (Wn : Int), .int .i64 (Hn : Int)] 23)).alloc (.cells #[.int .i64 px, .int .i64 py] 76)) w.heap.size 23 #[.int .i64 X, .int .i64 Y, .int .i64 (Wn : Int), .int .i64 (Hn : Int)] := (Bk.new' rfl).alloc _
  have kP : Bk ((w.alloc (.cells #[.int .i64 X, .int .i64 Y, .int .i64 (Wn : Int), .int .i64 (Hn : Int)] 23)).alloc (.cells #[.int .i64 px, .int .i64 py] 76)) (w.heap.size + 1) 76 #[.int .i64 px, .int .i64 py] := Bk.new' (by simp)
  have hx0 : Ext w ((w.alloc (.cells #[.int .i64 X, .int .i64 Y, .int .i64 (Wn : Int), .int .i64 (Hn : Int)] 23)).alloc (.cells #[.int .i64 px, .int .i64 py] 76)) := ((Ext.refl w).alloc _).alloc _
  go_enter Try.func8, Try.ntmps8
  go_upto_region 1 with fail
  generalize (w.alloc (.cells #[.int .i64 X, .int .i64 Y, .int .i64 (Wn : Int), .int .i64 (Hn : Int)] 23)).alloc (.cells #[.int .i64 px, .int .i64 py] 76) = w1 at *
  generalize w.heap.size + 1 = h1 at *
  generalize hh0 : w.heap.size = h0 at kR ⊢
  have Hh0 := hidA hh0
  clear hh0
  have c0 := kR.cell 0
  have c1 := kR.cell 1
  have c2 := kR.cell 2
  have c3 := kR.cell 3
  go_upto_region 2 with (go_at_call 45; refine (HC.out _ (hx0.trans (by repeat (first | exact Ext.refl _ | assumption | refine Ext.setCell ?_ (by first | (simp; done) | (simp; omega)) _ | refine Ext.drewN ?_ _ | refine Ext.alloc ?_ _ | refine Ext.drew ?_ | refine Ext.trans ?_ (by assumption))))).mono ?_; rintro e w2 ⟨rfl, hx2⟩)
  go_upto_region 4 with (go_at_call 20; refine ((HW _).out).mono ?_; rintro e w3 ⟨rfl, hx3⟩)
  have kR3 := kR.ext (hx2.trans hx3)
  have kP3 := kP.ext (hx2.trans hx3)
  have hxw := hx0.trans (hx2.trans hx3)
  clear c0 c1 c2 c3 kR kP hx0 hx2 hx3 HC HW
  have c0 := kR3.cell 0
  have c1 := kR3.cell 1
  have c2 := kR3.cell 2
  have c3 := kR3.cell 3
  go_upto_region 5 with (go_at_call 46; refine (HR.out _ (hxw.trans (by repeat (first | exact Ext.refl _ | assumption | refine Ext.setCell ?_ (by first | (simp; done) | (simp; omega)) _ | refine Ext.drewN ?_ _ | refine Ext.alloc ?_ _ | refine Ext.drew ?_ | refine Ext.trans ?_ (by assumption))))).mono ?_; rintro e w4 ⟨rfl, hx4⟩)
  have kR4 := kR3.ext hx4
  have kP4 := kP3.ext hx4
  have hxw4 := hxw.trans hx4
  clear c0 c1 c2 c3 kR3 kP3 hxw hx4 HR
  have c0 := kR4.cell 0
  have c1 := kR4.cell 1
  have c2 := kR4.cell 2
  have c3 := kR4.cell 3
  have p0 := kP4.cell 0
  have p1 := kP4.cell 1
  go_upto_region 6 with (go_at_call 47; refine (HNm.out _ (hxw4.trans (by repeat (first | exact Ext.refl _ | assumption | refine Ext.setCell ?_ (by first | (simp; done) | (simp; omega)) _ | refine Ext.drewN ?_ _ | refine Ext.alloc ?_ _ | refine Ext.drew ?_ | refine Ext.trans ?_ (by assumption))))).mono ?_; rintro e w5 ⟨tx, ty, is, e1, rfl, hx5, hnm⟩)
  have hx6 : Ext w5 (w5.alloc (.cells #[.int .i64 tx, .int .i64 ty] 76)) := (Ext.refl w5).alloc _
  have kT : Bk (w5.alloc (.cells #[.int .i64 tx, .int .i64 ty] 76)) w5.heap.size 76 #[.int .i64 tx, .int .i64 ty] := Bk.new' rfl
  have kR6 := kR4.ext (hx5.trans hx6)
  have kP6 := kP4.ext (hx5.trans hx6)
  have hxw6 := hxw4.trans (hx5.trans hx6)
  have Hnm := hidA (fun w2 (h : Ext w4 w2) => hnm w2 h)
  have hx46 := hx5.trans hx6
  clear c0 c1 c2 c3 p0 p1 kR4 kP4 hxw4 hx5 hx6 HNm hnm
  generalize w5.alloc (.cells #[.int .i64 tx, .int .i64 ty] 76) = w6 at *
  generalize w5.heap.size = ht at *
  have c0 := kR6.cell 0
  have c1 := kR6.cell 1
  have c2 := kR6.cell 2
  have c3 := kR6.cell 3
  go_upto_region 7 with (go_at_call 48; refine (HGm.out _ (hxw6.trans (by repeat (first | exact Ext.refl _ | assumption | refine Ext.setCell ?_ (by first | (simp; done) | (simp; omega)) _ | refine Ext.drewN ?_ _ | refine Ext.alloc ?_ _ | refine Ext.drew ?_ | refine Ext.trans ?_ (by assumption))))).mono ?_; rintro e w7 ⟨vA, vn, vc, e2, rfl, hx7, hgm⟩)
  have Hgm := hidA (fun w2 (h : Ext w7 w2) => hgm w2 h)
  have kR7 := kR6.ext hx7
  have kP7 := kP6.ext hx7
  have kT7 := kT.ext hx7
  have hxw7 := hxw6.trans hx7
  have hx47 := hx46.trans hx7
  clear c0 c1 c2 c3 kR6 kP6 kT hxw6 hx7 HGm hgm hx46
  have c0 := kR7.cell 0
  have c1 := kR7.cell 1
  have c2 := kR7.cell 2
  have c3 := kR7.cell 3
  go_upto_region 8 with (go_at_call 49; refine (HB.out _ (hxw7.trans (by repeat (first | exact Ext.refl _ | assumption | refine Ext.setCell ?_ (by first | (simp; done) | (simp; omega)) _ | refine Ext.drewN ?_ _ | refine Ext.alloc ?_ _ | refine Ext.drew ?_ | refine Ext.trans ?_ (by assumption))))).mono ?_; rintro e w8 ⟨go, vm, rfl, hbas, hown, _, hx8⟩)
  obtain ⟨MA, mc, hv⟩ := own_form hown
  subst hv
  have kR8 := kR7.ext hx8
  have kP8 := kP7.ext hx8
  have kT8 := kT7.ext hx8
  have hxw8 := hxw7.trans hx8
  have hx48 := hx47.trans hx8
  have Hx78 := hidA hx8
  clear c0 c1 c2 c3 kR7 kP7 kT7 hxw7 hx8 HB hx47
  generalize w7.heap.size = mb at *
  have c0 := kR8.cell 0
  have c1 := kR8.cell 1
  have c2 := kR8.cell 2
  have c3 := kR8.cell 3
  go_upto_region 9 with (go_at_call 50; refine (HF.out _ (hxw8.trans (by repeat (first | exact Ext.refl _ | assumption | refine Ext.setCell ?_ (by first | (simp; done) | (simp; omega)) _ | refine Ext.drewN ?_ _ | refine Ext.alloc ?_ _ | refine Ext.drew ?_ | refine Ext.trans ?_ (by assumption))))).mono ?_; rintro e w9 ⟨gf, rfl, hfar, _, hx9⟩)
  have kR9 := kR8.ext hx9
  have kP9 := kP8.ext hx9
  have kT9 := kT8.ext hx9
  have hxw9 := hxw8.trans hx9
  have hx49 := hidA (hx48.trans hx9)
  have hx79 := hidA (Hx78.out.trans hx9)
  have hbas9 := hbas.ext hx9
  have hown9 : w9.ownsRow mb 76 2 (.slice MA (mouL D n).length mc) (mouL D n).length (ptsC X Y Wn (mouL D n)) := World.ownsRow.kept hown (grown_ext hx9 none) (by cases h : (Value.slice MA (mouL D n).length mc).ownBlock <;> simp)
  clear c0 c1 c2 c3 kR8 kP8 kT8 hxw8 hx9 HF hx48 Hx78 hbas hown
  have c0 := kR9.cell 0
  have c1 := kR9.cell 1
  have c2 := kR9.cell 2
  have c3 := kR9.cell 3
  have p0 := kP9.cell 0
  have p1 := kP9.cell 1
  have t0 := kT9.cell 0
  have t1 := kT9.cell 1
  go_upto_region 13 with (first | (go_at_call 51; refine (Hnm.out _ (hx49.out.trans (by repeat (first | exact Ext.refl _ | assumption | refine Ext.setCell ?_ (by first | (simp; done) | (simp; omega)) _ | refine Ext.drewN ?_ _ | refine Ext.alloc ?_ _ | refine Ext.drew ?_ | refine Ext.trans ?_ (by assumption))))).mono ?_; rintro e w10 ⟨rfl, hx10⟩; have kR10 := kR9.ext hx10; have d0 := kR10.cell 0; have d1 := kR10.cell 1; have d2 := kR10.cell 2; have d3 := kR10.cell 3) | (go_at_call 52; refine (Hgm.out _ (hx79.out.trans (hx10.trans (by repeat (first | exact Ext.refl _ | assumption | refine Ext.setCell ?_ (by first | (simp; done) | (simp; omega)) _ | refine Ext.drewN ?_ _ | refine Ext.alloc ?_ _ | refine Ext.drew ?_ | refine Ext.trans ?_ (by assumption)))))).mono ?_; rintro e w11 ⟨rfl, hx11⟩))
  have hx911 := hx10.trans hx11
  have kR11 := kR9.ext hx911
  have hb11 := hbas9.ext hx911
  have hf11 := hfar.ext hx911
  have ho11 : w11.ownsRow mb 76 2 (.slice MA (mouL D n).length mc) (mouL D n).length (ptsC X Y Wn (mouL D n)) := World.ownsRow.kept hown9 (grown_ext hx911 none) (by cases h : (Value.slice MA (mouL D n).length mc).ownBlock <;> simp)
  have hxw11 := hxw9.trans hx911
  clear c0 c1 c2 c3 p0 p1 t0 t1 d0 d1 d2 d3 kR9 kP9 kT9 kR10 hbas9 hown9 hfar hxw9 hx911 hx10 hx11 Hnm Hgm hx49 hx79
  go_upto_region 14 with fail
  have hLN : LN w11 (w11.alloc (.map #[] 0)) w11.heap.size X Y Wn D 0 (.slice none 0 0) := ⟨World.ownsMap_made _ _ _ _, World.ownsRow_nil _ _ _ 2, (Ext.refl w11).alloc _, Nat.le_refl _⟩
  generalize w11.alloc (.map #[] 0) = w12 at *
  generalize hBs : w11.heap.size = B at *
  have HBs := hidA hBs
  clear hmm hBs
  obtain ⟨i0, hi0, hz0, hz1, hz2⟩ := info_parts infoPnt
  go_wp2_with fail
  go_loopw [22, 158] (fun s22 s158 wr => ∃ (k : Nat), k ≤ n ∧ s158 = .int .i64 k ∧ LN w11 wr B X Y Wn D k s22) (fun _ s158 _ => n - (intOf s158).toNat)
  case atStart => exact ⟨0, Nat.zero_le _, rfl, hLN⟩
  case round =>
    clear hLN
    obtain ⟨k, hk, rfl, hS⟩ := hrel
    by_cases hkN : k < n
    · have j1 : (0 : Int) ≤ k := by omega
      have j2 : (k : Int) < n := by omega
      obtain ⟨ad, rfl, _, q0⟩ := (HDa.out.ext (hxw11.trans hS.ext)).cell hkN
      cases hm : mouB D k with
      | false =>
        have h0 : ¬ (D k < 0) := by unfold mouB at hm; exact of_decide_eq_false hm
        have HS := hidA (hS.skip hm)
        clear hm hS
        generalize D k = z at *
        go_wp2_with fail
        go_roundw
        case rel => exact ⟨k + 1, by omega, by go_num, HS.out⟩
        case measure => simp [intOf]; omega
      | true =>
        have h0 : D k < 0 := by unfold mouB at hm; exact of_decide_eq_true hm
        obtain ⟨PA, pc, hv⟩ := own_form hS.own
        subst hv
        have hml := mouL_len D k
        have hmb := cntB_le (mouB D) k
        have hnm : nmC D (k + 1) = (nmC D k).put (.int .i64 k) (.lit (.int .i64 ((mouL D k).length : Nat))) := by rw [nmC, if_pos hm, hml]
        have hmo := mouL_more hm
        have Hnm := hidA hnm
        have Hmo := hidA hmo
        have hkey : keyOf Try.prog 3 (.int .i64 (k : Int)) = some (.int .i64 (k : Int)) := keyOf_int_mk Try.underlying3 (WalkArith.wf_i64 (by omega))
        have hlb : (mouL D k).length ≤ 200 := by omega
        clear hm hnm hmo hml hmb
        generalize D k = z at *
        generalize hM : mouL D k = M at *
        have HS := hidA hS
        have hmp := hidA hS.mp
        clear hS
        go_upto_region 20 with (at_mapUpdate; refine wpList_mapUpdate_own _ rfl _ _ _ 88 rfl 3 3 law_int Try.underlying88 _ B k _ rfl hmp.out (by unfold maxLen; omega) _ _ _ rfl rfl hkey _ [] (plainElem_int Try.underlying3 (WalkArith.wf_i64 (by omega))) ?_; intro w1 hown1 hgrow1)
        have hx1 : Ext w11 w1 := HS.out.ext.grown hgrow1 (fun q he => by cases he; exact HS.out.b1)
        have hrow1 : w1.ownsRow w11.heap.size 76 2 (.slice PA M.length pc) M.length (ptsC X Y Wn M) := by
          have h := HS.out.own
          rw [hM] at h
          exact World.ownsRow.kept h hgrow1 (by
            have h3 := own_neMap HS.out.own HS.out.mp
            cases hob : (Value.slice PA M.length pc).ownBlock with
            | none => exact .inl rfl
            | some b => rw [hob] at h3; exact .inr (fun e => h3 e.symm))
        have hne1 : some B ≠ (Value.slice PA M.length pc).ownBlock := by
          have h3 := own_neMap HS.out.own HS.out.mp
          exact h3
        rw [← Hnm.out] at hown1
        have hb1 := hidA HS.out.b1
        clear HS hmp hgrow1 hM
        have kR1 := kR11.ext hx1
        have c0 := kR1.cell 0
        have c1 := kR1.cell 1
        have c2 := kR1.cell 2
        have c3 := kR1.cell 3
        have HPk := fun (w : World) => hidA (HPl.out k w hkN)
        generalize hcx : colK X Wn k = qx at *
        generalize hcy : rowK Y Wn k = qy at *
        have Hcx := hidA hcx
        have Hcy := hidA hcy
        clear hcx hcy
        go_upto_region 21 with (go_at_call 28; refine ((HPk _).out).mono ?_; rintro e w13 ⟨rfl, hx13⟩)
        have hx2 : Ext w1 (w13.alloc (.cells #[.int .i64 qx, .int .i64 qy] 76)) := hx13.alloc _
        have ho2 := hidA (show (w13.alloc (.cells #[.int .i64 qx, .int .i64 qy] 76)).ownsRow w11.heap.size 76 2 (.slice PA M.length pc) M.length (ptsC X Y Wn M) from World.ownsRow.kept hrow1 (grown_ext hx2 none) (by cases h : (Value.slice PA M.length pc).ownBlock <;> simp))
        have hmap2 := hidA (hown1.kept (grown_ext hx2 none) (by simp))
        have hnews := hidA (World.news_of_block (w := w13.alloc (.cells #[.int .i64 qx, .int .i64 qy] 76)) (cs := #[.int .i64 qx, .int .i64 qy]) (t := 76) (fr := (0, 0)) (heap_alloc_new w13 _))
        have hone : Hid (∀ u ∈ ([Value.int .i64 qx, .int .i64 qy] : List Value), u.oneCell' = true) := (by intro u hu; simp at hu; rcases hu with rfl | rfl <;> rfl)
        have hs2 := hidA (show w11.heap.size ≤ (w13.alloc (.cells #[.int .i64 qx, .int .i64 qy] 76)).heap.size from by have := (hx1.trans hx2).size; omega)
        have hxa := hidA (hx1.trans hx2)
        clear c0 c1 c2 c3 kR1 HPk hx2 hx13 hrow1 hown1 hx1
        go_wp2_with (at_builtin; (refine wpList_append_lies _ (by rfl) _ _ 81 (by rfl) w11.heap.size 76 i0 (.agg #[.int .i64 0, .int .i64 0]) 2 16 Try.underlying81 hi0 hz0 hz1 hz2 (by rfl) (by decide) _ M.length (ptsC X Y Wn M) (by rfl) ho2.out ⟨w13.heap.size, 0, none⟩ 1 1 [.int .i64 qx, .int .i64 qy] (by rfl) (by rfl) hnews.out hone.out (by decide) (by unfold maxLen; omega) (by omega) hs2.out (w13.heap.size + 1) (by simp) ?_; intro gg cap' w14 hown hgrow hat hltg))
        have HS2 : Hid (LN w11 w14 B X Y Wn D (k + 1) (.slice (some ⟨gg, 0, none⟩) (M.length + 1) cap')) := by
          refine ⟨hmap2.out.kept hgrow hne1, ?_, hxa.out.grown hgrow (fun q he => (World.ownsRow.lt ho2.out q he).1), hb1.out⟩
          rw [Hmo.out, List.length_append, ptsC_snoc, Hcx.out, Hcy.out]
          exact hown
        clear ho2 hmap2 hnews hone hs2 hxa hown hgrow hat hltg
        go_wp2_with fail
        go_roundw
        case rel => exact ⟨k + 1, by omega, by go_num, HS2.out⟩
        case measure => simp [intOf]; omega
    · obtain rfl : n = k := by omega
      obtain ⟨PA, pc, hv⟩ := own_form hS.own
      subst hv
      obtain ⟨wo, rfl⟩ : ∃ wo, wo = wr := ⟨_, rfl⟩
      obtain ⟨far, hfr⟩ : ∃ far : Nat → Nat, far = fun j => farT D j (trD D Wn Hn j) := ⟨_, rfl⟩
      have hFk := hidA (fun j => show farT D j (trD D Wn Hn j) = far j from by rw [hfr])
      rw [← hfr] at hf11
      have hlk := hidA (fun (w' : World) (h : Ext wo w') (j : Nat) (hj : j < n) (hm : mouB D j = true) => show (Instr.lookup 88 (.map (some B)) (.int .i64 (j : Int)) false).run Try.prog w' = .ok (.int .i64 (cntB (mouB D) j : Nat)) w' from by
        have hmp := (hS.step h).mp
        obtain ⟨c, hrun, hat, _⟩ := hmp.lookup_int law_int Try.underlying88 Try.underlying3 (zero_int w') (keyOf_int_mk Try.underlying3 (WalkArith.wf_i64 (n := (j : Int)) (by omega)))
        rw [nmC_at D _ j hm n hj] at hat
        injection hat with hat
        injection hat with _ hat
        rw [← hat] at hrun
        exact hrun)
      clear hfr
      obtain ⟨i1, hi1, ha0, ha1, ha2⟩ := info_parts infoFlo
      have hx11 := hidA hS.ext
      have HSo := hidA hS
      clear hS
      go_wp2_with fail
      go_loopw [27, 184] (fun s27 s184 wy => ∃ (k : Nat), k ≤ n ∧ s184 = .int .i64 k ∧ wy.ownsRow wo.heap.size 27 1 s27 k (flt ((List.range k).map far)) ∧ Ext wo wy) (fun _ s184 _ => n - (intOf s184).toNat)
      case atStart => exact ⟨0, Nat.zero_le _, rfl, World.ownsRow_nil _ _ _ 1, Ext.refl _⟩
      case round =>
        obtain ⟨k, hk, rfl, hrow, hx⟩ := hrel
        by_cases hkN : k < n
        · have j1 : (0 : Int) ≤ k := by omega
          have j2 : (k : Int) < n := by omega
          have hxr := hx11.out.trans hx
          have kRr := kR11.ext hxr
          have c0 := kRr.cell 0
          have c1 := kRr.cell 1
          have c2 := kRr.cell 2
          have c3 := kRr.cell 3
          have HTk := hidA (fun w' h => HTr.out k w' hkN h)
          have hHr := hidA hrow
          clear hrow
          go_upto_region 28 with (go_at_call 53; refine (HTk.out _ ((hxw11.trans hxr).trans (by repeat (first | exact Ext.refl _ | assumption | refine Ext.setCell ?_ (by first | (simp; done) | (simp; omega)) _ | refine Ext.drewN ?_ _ | refine Ext.alloc ?_ _ | refine Ext.drew ?_ | refine Ext.trans ?_ (by assumption))))).mono ?_; rintro e w16 ⟨Q, qc, rfl, hQ, hx16⟩)
          have htl := Htl.out k hkN
          obtain ⟨heN, hem⟩ := Hend.out k hkN
          have hlast : (k :: trD D Wn Hn k)[(trD D Wn Hn k).length]'(by simp) = endC (trD D Wn Hn) k := by
            unfold endC
            rw [List.getLast_eq_getElem]
            simp
          have hbv : basV D (trD D Wn Hn) k = cntB (mouB D) (endC (trD D Wn Hn) k) := rfl
          have q9 : ∀ w', Ext w16 w' → w'.cell? (Q.add (trD D Wn Hn k).length) = some (.int .i64 ((endC (trD D Wn Hn) k : Nat) : Int)) := fun w' h => by
            rw [← hlast]
            have h1 := (Rd.ext hQ.rd h).reads (trD D Wn Hn k).length _ (inq_get (q := k :: trD D Wn Hn k) (by simp))
            exact h1
          have q8 : ∀ w', Ext w16 w' → w'.cell? ⟨go, k, none⟩ = some (.int .i64 ((basV D (trD D Wn Hn) k : Nat) : Int)) := fun w' h => by
            rw [(hb11.ext ((hxr.trans hx16).trans h)).cell, intB_get _ hkN]
          rw [hbv] at q8
          have q7 := fun (w' : World) (h : Ext w16 w') => hlk.out w' ((hx.trans hx16).trans h) _ heN hem
          have hHr2 := hidA (World.ownsRow.kept hHr.out (grown_ext hx16 none) (by cases h : u27.ownBlock <;> simp))
          have hx2 := hx.trans hx16
          have hFv := hidA (hFk.out k)
          clear c0 c1 c2 c3 kRr HTk hQ hlast hbv heN hem hHr hx hxr hx16
          generalize (trD D Wn Hn k).length = tl at *
          generalize endC (trD D Wn Hn) k = ec at *
          generalize cntB (mouB D) ec = bv at *
          have j3 : (0 : Int) ≤ tl := by omega
          have j4 : ((tl : Int) + 1 - 1) = tl := by omega
          have j5 : (tl : Int) < (tl : Int) + 1 := by omega
          have j6 : (tl : Int) ≤ 200 := by omega
          have j7 : IntKind.i64.wrap (tl : Int) = tl := IntWalk.i64_in _ ⟨by omega, by omega⟩
          refine wp_region_noPanic ?_
          refine wp_region_held_drew (S := fun w' => Ext w16 w') (by kernel_rfl) ?_ (fun hHeld => ?_)
          · (repeat (first | exact Ext.refl _ | assumption | refine Ext.setCell ?_ (by first | (simp; done) | (simp; omega)) _ | refine Ext.drewN ?_ _ | refine Ext.alloc ?_ _ | refine Ext.drew ?_ | refine Ext.trans ?_ (by assumption)))
          refine wpAnyH_take (i := 0) (oi := ?o1x0) (v := ?v1x0) ?hi1x0 (by kernel_rfl) ?hf1x0 ?hr1x0 (fun _ _ _ h => h) ?hy1x0 (by assumption) ?rest1x0
          case hi1x0 => (simp only [List.getElem?_toArray, List.getElem?_cons_zero]; exact rfl)
          case hf1x0 => kernel_rfl
          case hr1x0 => kernel_rfl
          case hy1x0 => (refine Or.inl ⟨by rfl, ?_⟩; intro w hSw; (try dsimp only at hSw); go_simp; try with_reducible rfl)
          simp only [put_mk, List.set_cons_succ, List.set_cons_zero]
          refine wpAnyH_take (i := 1) (oi := ?o1x1) (v := ?v1x1) ?hi1x1 (by kernel_rfl) ?hf1x1 ?hr1x1 (fun _ _ _ h => h) ?hy1x1 (by assumption) ?rest1x1
          case hi1x1 => (simp only [List.getElem?_toArray, List.getElem?_cons_succ, List.getElem?_cons_zero]; exact rfl)
          case hf1x1 => kernel_rfl
          case hr1x1 => kernel_rfl
          case hy1x1 => (refine Or.inl ⟨by rfl, ?_⟩; intro w hSw; (try dsimp only at hSw); go_simp; try with_reducible rfl)
          simp only [put_mk, List.set_cons_succ, List.set_cons_zero]
          refine wpAnyH_take (i := 2) (oi := ?o1x2) (v := ?v1x2) ?hi1x2 (by kernel_rfl) ?hf1x2 ?hr1x2 (fun _ _ _ h => h) ?hy1x2 (by assumption) ?rest1x2
          case hi1x2 => (simp only [List.getElem?_toArray, List.getElem?_cons_succ, List.getElem?_cons_zero]; exact rfl)
          case hf1x2 => kernel_rfl
          case hr1x2 => kernel_rfl
          case hy1x2 => (refine Or.inl ⟨by rfl, ?_⟩; intro w hSw; (try dsimp only at hSw); go_simp; try with_reducible rfl)
          simp only [put_mk, List.set_cons_succ, List.set_cons_zero]
          refine wpAnyH_take (i := 3) (oi := ?o1x3) (v := ?v1x3) ?hi1x3 (by kernel_rfl) ?hf1x3 ?hr1x3 (fun _ _ _ h => h) ?hy1x3 (by assumption) ?rest1x3
          case hi1x3 => (simp only [List.getElem?_toArray, List.getElem?_cons_succ, List.getElem?_cons_zero]; exact rfl)
          case hf1x3 => kernel_rfl
          case hr1x3 => kernel_rfl
          case hy1x3 => (refine Or.inl ⟨by rfl, ?_⟩; intro w hSw; (try dsimp only at hSw); go_simp; try with_reducible rfl)
          simp only [put_mk, List.set_cons_succ, List.set_cons_zero]
          refine wpAnyH_take (i := 4) (oi := ?o1x4) (v := ?v1x4) ?hi1x4 (by kernel_rfl) ?hf1x4 ?hr1x4 (fun _ _ _ h => h) ?hy1x4 (by assumption) ?rest1x4
          case hi1x4 => (simp only [List.getElem?_toArray, List.getElem?_cons_succ, List.getElem?_cons_zero]; exact rfl)
          case hf1x4 => kernel_rfl
          case hr1x4 => kernel_rfl
          case hy1x4 => (refine Or.inl ⟨by rfl, ?_⟩; intro w hSw; (try dsimp only at hSw); go_simp; try with_reducible rfl)
          simp only [put_mk, List.set_cons_succ, List.set_cons_zero]
          refine wpAnyH_take (i := 5) (oi := ?o1x5) (v := ?v1x5) ?hi1x5 (by kernel_rfl) ?hf1x5 ?hr1x5 (fun _ _ _ h => h) ?hy1x5 (by assumption) ?rest1x5
          case hi1x5 => (simp only [List.getElem?_toArray, List.getElem?_cons_succ, List.getElem?_cons_zero]; exact rfl)
          case hf1x5 => kernel_rfl
          case hr1x5 => kernel_rfl
          case hy1x5 => (refine Or.inl ⟨by rfl, ?_⟩; intro w hSw; (try dsimp only at hSw); go_simp; try with_reducible rfl)
          simp only [put_mk, List.set_cons_succ, List.set_cons_zero]
          refine wpAnyH_take (i := 6) (oi := ?o1x6) (v := ?v1x6) ?hi1x6 (by kernel_rfl) ?hf1x6 ?hr1x6 (fun _ _ _ h => h) ?hy1x6 (by assumption) ?rest1x6
          case hi1x6 => (simp only [List.getElem?_toArray, List.getElem?_cons_succ, List.getElem?_cons_zero]; exact rfl)
          case hf1x6 => kernel_rfl
          case hr1x6 => kernel_rfl
          case hy1x6 => (refine Or.inl ⟨by rfl, ?_⟩; intro w hSw; (try dsimp only at hSw); go_simp; try with_reducible rfl)
          simp only [put_mk, List.set_cons_succ, List.set_cons_zero]
          refine wpAnyH_take (i := 7) (oi := ?o1x7) (v := ?v1x7) ?hi1x7 (by kernel_rfl) ?hf1x7 ?hr1x7 (fun _ _ _ h => h) ?hy1x7 (by assumption) ?rest1x7
          case hi1x7 => (simp only [List.getElem?_toArray, List.getElem?_cons_succ, List.getElem?_cons_zero]; exact rfl)
          case hf1x7 => kernel_rfl
          case hr1x7 => kernel_rfl
          case hy1x7 => (refine Or.inl ⟨by rfl, ?_⟩; intro w hSw; (try dsimp only at hSw); go_simp; try with_reducible rfl)
          simp only [put_mk, List.set_cons_succ, List.set_cons_zero]
          refine wpAnyH_take (i := 8) (oi := ?o1x8) (v := ?v1x8) ?hi1x8 (by kernel_rfl) ?hf1x8 ?hr1x8 (fun _ _ _ h => h) ?hy1x8 (by assumption) ?rest1x8
          case hi1x8 => (simp only [List.getElem?_toArray, List.getElem?_cons_succ, List.getElem?_cons_zero]; exact rfl)
          case hf1x8 => kernel_rfl
          case hr1x8 => kernel_rfl
          case hy1x8 => (refine Or.inl ⟨by rfl, ?_⟩; intro w hSw; (try dsimp only at hSw); go_simp; try with_reducible rfl)
          simp only [put_mk, List.set_cons_succ, List.set_cons_zero]
          refine wpAnyH_take (i := 9) (oi := ?o1x9) (v := ?v1x9) ?hi1x9 (by kernel_rfl) ?hf1x9 ?hr1x9 (fun _ _ _ h => h) ?hy1x9 (by assumption) ?rest1x9
          case hi1x9 => (simp only [List.getElem?_toArray, List.getElem?_cons_succ, List.getElem?_cons_zero]; exact rfl)
          case hf1x9 => kernel_rfl
          case hr1x9 => kernel_rfl
          case hy1x9 => (refine Or.inl ⟨by rfl, ?_⟩; intro w hSw; (try dsimp only at hSw); go_simp; try with_reducible rfl)
          simp only [put_mk, List.set_cons_succ, List.set_cons_zero]
          refine wpAnyH_take (i := 10) (oi := ?o1x10) (v := ?v1x10) ?hi1x10 (by kernel_rfl) ?hf1x10 ?hr1x10 (fun _ _ _ h => h) ?hy1x10 (by assumption) ?rest1x10
          case hi1x10 => (simp only [List.getElem?_toArray, List.getElem?_cons_succ, List.getElem?_cons_zero]; exact rfl)
          case hf1x10 => kernel_rfl
          case hr1x10 => kernel_rfl
          case hy1x10 => (refine Or.inl ⟨by rfl, ?_⟩; intro w hSw; (try dsimp only at hSw); go_simp; try with_reducible rfl)
          simp only [put_mk, List.set_cons_succ, List.set_cons_zero]
          refine wpAnyH_take (i := 11) (oi := ?o1x11) (v := ?v1x11) ?hi1x11 (by kernel_rfl) ?hf1x11 ?hr1x11 (fun _ _ _ h => h) ?hy1x11 (by assumption) ?rest1x11
          case hi1x11 => (simp only [List.getElem?_toArray, List.getElem?_cons_succ, List.getElem?_cons_zero]; exact rfl)
          case hf1x11 => kernel_rfl
          case hr1x11 => kernel_rfl
          case hy1x11 => (refine Or.inl ⟨by rfl, ?_⟩; intro w hSw; (try dsimp only at hSw); go_simp; try with_reducible rfl)
          simp only [put_mk, List.set_cons_succ, List.set_cons_zero]
          refine wpAnyH_take (i := 12) (oi := ?o1x12) (v := ?v1x12) ?hi1x12 (by kernel_rfl) ?hf1x12 ?hr1x12 (fun _ _ _ h => h) ?hy1x12 (by assumption) ?rest1x12
          case hi1x12 => (simp only [List.getElem?_toArray, List.getElem?_cons_succ, List.getElem?_cons_zero]; exact rfl)
          case hf1x12 => kernel_rfl
          case hr1x12 => kernel_rfl
          case hy1x12 => (refine Or.inl ⟨by rfl, ?_⟩; intro w hSw; (try dsimp only at hSw); go_simp; try with_reducible rfl)
          simp only [put_mk, List.set_cons_succ, List.set_cons_zero]
          refine wpAnyH_done (by kernel_rfl) ?_ _
          refine NoPanic.normal ?_
          clear q7 q8 q9
          have kRs := kR11.ext ((hx11.out.trans hx2).trans (Ext.drew (Ext.refl _)))
          have c0 := kRs.cell 0
          have c1 := kRs.cell 1
          have c2 := kRs.cell 2
          have c3 := kRs.cell 3
          have HFw := hidA (fun w' h => HFo.out k w' hkN h)
          have hx3 := hx2.trans (Ext.drew (Ext.refl _))
          go_upto_region 30 with fail
          go_upto_region 31 with (first | (go_at_call 54; refine (HFw.out _ ((hxw11.trans (hx11.out.trans hx3)).trans (by repeat (first | exact Ext.refl _ | assumption | refine Ext.setCell ?_ (by first | (simp; done) | (simp; omega)) _ | refine Ext.drewN ?_ _ | refine Ext.alloc ?_ _ | refine Ext.drew ?_ | refine Ext.trans ?_ (by assumption))))).mono ?_; rintro e w17 ⟨rfl, hx17⟩; rw [hFv.out]; have hx18 : Ext wo (w17.alloc (.cells #[.float .f32 (far k)] 27)) := (hx3.trans hx17).alloc _; have hA1 := hidA (show (w17.alloc (.cells #[.float .f32 (far k)] 27)).ownsRow wo.heap.size 27 1 u27 k (flt ((List.range k).map far)) from World.ownsRow.kept hHr2.out (grown_ext ((Ext.drew (Ext.refl _)).trans (hx17.alloc _)) none) (by cases h : u27.ownBlock <;> simp)); have hN1 := hidA (World.news_of_block (w := w17.alloc (.cells #[.float .f32 (far k)] 27)) (cs := #[.float .f32 (far k)]) (t := 27) (fr := (0, 0)) (heap_alloc_new w17 _)); have ho1 : Hid (∀ u ∈ ([Value.float .f32 (far k)] : List Value), u.oneCell' = true) := (by intro u hu; simp at hu; subst hu; rfl); have hs1 := hidA (show wo.heap.size ≤ (w17.alloc (.cells #[.float .f32 (far k)] 27)).heap.size from hx18.size)) | (at_builtin; (refine wpList_append_lies _ (by rfl) _ _ 24 (by rfl) wo.heap.size 27 i1 (.float .f32 0) 1 4 Try.underlying24 hi1 ha0 ha1 ha2 rfl (by decide) u27 k (flt ((List.range k).map far)) (by rfl) hA1.out ⟨w17.heap.size, 0, none⟩ 1 1 [.float .f32 (far k)] (by rfl) (by rfl) hN1.out ho1.out (by decide) (by unfold maxLen; omega) (by omega) hs1.out (w17.heap.size + 1) (by simp) ?_; intro g4 cap4 w19 hown4 hgrow4 hat4 hlt4)))
          have hx19 : Ext wo w19 := hx18.grown hgrow4 (fun q he => (World.ownsRow.lt hA1.out q he).1)
          have hrow2 : w19.ownsRow wo.heap.size 27 1 (.slice (some ⟨g4, 0, none⟩) (k + 1) cap4) (k + 1) (flt ((List.range (k + 1)).map far)) := by
            have e : flt ((List.range (k + 1)).map far) = flt ((List.range k).map far) ++ [.float .f32 (far k)] := by unfold flt; rw [List.range_succ]; simp
            rw [e]
            exact hown4
          have Hrow2 := hidA hrow2
          clear hrow2 hown4 hgrow4 hat4 hlt4 hA1 hN1 ho1 hs1 hx18 hx17 hx3 hHr2 HFw c0 c1 c2 c3 kRs
          go_wp2_with fail
          go_roundw
          case rel => exact ⟨k + 1, by omega, by go_num, Hrow2.out, hx19⟩
          case measure => simp [intOf]; omega
        · obtain rfl : n = k := by omega
          obtain ⟨FA, fc, hv⟩ := own_form hrow
          subst hv
          have hxr := hx11.out.trans hx
          have hM1 := hidA (fun (w' : World) (h : Ext wr w') => Rd.of_own (World.ownsRow.kept ho11 (grown_ext (hxr.trans h) none) (by cases h : (Value.slice MA (mouL D n).length mc).ownBlock <;> simp)))
          have hM2 := hidA (fun (w' : World) (h : Ext wr w') => Rd.of_own (HSo.out.step (hx.trans h)).own)
          have hF1 := hidA (fun (w' : World) (h : Ext wr w') => show Rd w' (some ⟨gf, 0, none⟩) (flt ((List.range n).map far)) from by
            have h1 := Rd.new_bk (hf11.ext (hxr.trans h))
            rwa [flo_list] at h1)
          have hF2 := hidA (fun (w' : World) (h : Ext wr w') => Rd.of_own (World.ownsRow.kept hrow (grown_ext h none) (by cases h : (Value.slice FA n fc).ownBlock <;> simp)))
          have hml := mouL_len D n
          have hmb := cntB_le (mouB D) n
          have HE := fun (w' : World) (h : Ext wr w') => hidA (eqPtsC_same X Y Wn MA PA (mouL D n).length mc pc (mouL D n) w' rfl (hM1.out w' h) (hM2.out w' h) (by omega))
          have HBt := fun (w' : World) (h : Ext wr w') => hidA (bits_same (some ⟨gf, 0, none⟩) FA n n fc ((List.range n).map far) w' (by simp) (hF1.out w' h) (hF2.out w' h) (by omega))
          have Hxr := hidA (hxw11.trans hxr)
          clear hrow hx hxr hM1 hM2 hF1 hF2 hml hmb
          go_wp2_with (first | (go_at_call 55; refine ((HE _ (by repeat (first | exact Ext.refl _ | assumption | refine Ext.setCell ?_ (by first | (simp; done) | (simp; omega)) _ | refine Ext.drewN ?_ _ | refine Ext.alloc ?_ _ | refine Ext.drew ?_ | refine Ext.trans ?_ (by assumption)))).out).mono ?_; rintro e w20 ⟨rfl, hx20⟩) | (go_at_call 56; refine ((HBt _ (hx20.trans (by repeat (first | exact Ext.refl _ | assumption | refine Ext.setCell ?_ (by first | (simp; done) | (simp; omega)) _ | refine Ext.drewN ?_ _ | refine Ext.alloc ?_ _ | refine Ext.drew ?_ | refine Ext.trans ?_ (by assumption))))).out).mono ?_; rintro e w21 ⟨rfl, rfl⟩))
          go_ret
          exact ⟨by first | rfl | simp, Hxr.out.trans hx20⟩

theorem dirs_walk (x y ww hh px py : Int) (n c nR cR : Nat) (A R : Option Addr) (q qr : List Int) (w : World) (hq : q.length = n) (hd : Rd w A (intL q)) (hb : n ≤ 140737488351232) (hqr : qr.length = nR) (hR : Rd w R (intL qr)) (hbr : nR ≤ 140737488351232) :
    Calls Try.prog 8 #[.agg #[.int .i64 x, .int .i64 y, .int .i64 ww, .int .i64 hh], .slice A n c, .slice R nR cR, .agg #[.int .i64 px, .int .i64 py]] w fun e w' => e = .returned (.bool true) ∧ Ext w w' := by
  by_cases hl : n ≤ 200
  · by_cases hE : dirsE x y ww hh q = 0
    · obtain ⟨Wn, Hn, rfl, rfl, hr, hr0, hN, _, m, hL⟩ := dirsE_zero hE
      rw [hq] at hN hL
      exact dirs_good x y px py Wn Hn n c nR cR A R q qr w hq hd hb hqr hR hbr hl hr hr0 hN hE m hL
    · exact dirs_bad x y ww hh px py n c nR cR A R q qr w hq hd hb hqr hR hbr hl hE
  · exact dirs_large x y ww hh px py n c nR cR A R q qr w hq hd hb hqr hR hbr (by omega)
end Go.Proofs.Ytinohfgokpbcdaa
