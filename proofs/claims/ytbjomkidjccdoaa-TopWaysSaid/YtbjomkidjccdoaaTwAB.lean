/- Prices of ways, plainly: parts of ways, ways that are joined, and the least price. No program in sight. -/
import Derived.Test.YtbjomkidjccdoaaRdV
import Derived.Test.YtbjomkidjccdoaaTwAA
import Derived.Test.YtbjomkidjccdoaaRdWA
import Derived.Test.YtbjomkidjccdoaaRdO
import Derived.Deep.LoopGhost
namespace Go.Proofs.Ytbjomkidjccdoaa
open Go.RowKit
attribute [local go_sem ↓] Go.wp_at_zero Go.wp_at_succ
attribute [local go_sem] run_store_float

/-- whether a place is too far away -/
def farP (p : Int × Int) : Bool := decide (p.1 < -4194304) || decide (4194304 < p.1) || decide (p.2 < -4194304) || decide (4194304 < p.2)
theorem farP_false {p : Int × Int} (h : farP p = false) : -4194304 ≤ p.1 ∧ p.1 ≤ 4194304 ∧ -4194304 ≤ p.2 ∧ p.2 ≤ 4194304 := by
  unfold farP at h
  simp at h
  omega
/-- a step that a way may not have -/
def stepBad (a b : Int × Int) : Bool := match leapO (b.1 - a.1) (b.2 - a.2) with
  | none => true
  | some (_, n) => decide (12 < n)
/-- the error of a way, from place k on -/
def wayI (bad : Int × Int → Bool) (l : List (Int × Int)) : Nat → Nat → Int
  | _, 0 => 0
  | k, m + 1 => if bad (l.getD k (0, 0)) = true then 5 else if 0 < k ∧ stepBad (l.getD (k - 1) (0, 0)) (l.getD k (0, 0)) = true then 2 else wayI bad l (k + 1) m
def wayE (bad : Int × Int → Bool) (l : List (Int × Int)) : Int := if l.length = 0 then 10 else if 65536 < l.length then 4 else wayI bad l 0 l.length
theorem wayI_step {bad : Int × Int → Bool} {l : List (Int × Int)} {k n : Nat} (h : k < n) : wayI bad l k (n - k) = if bad (l.getD k (0, 0)) = true then 5 else if 0 < k ∧ stepBad (l.getD (k - 1) (0, 0)) (l.getD k (0, 0)) = true then 2 else wayI bad l (k + 1) (n - (k + 1)) := by
  obtain ⟨m, hm⟩ : ∃ m, n - k = m + 1 := ⟨n - k - 1, by omega⟩
  rw [hm, wayI, show n - (k + 1) = m by omega]
theorem pt_at {w : World} {A : Option Addr} {l : List (Int × Int)} (h : Rd w A (ptv l)) {k : Nat} (hk : k < l.length) : ∃ ad, A = some ad ∧ ad.block < w.heap.size ∧ w.cell? (ad.add (k * 2)) = some (.int .i64 (l.getD k (0, 0)).1) ∧ w.cell? ⟨(ad.add (k * 2)).block, (ad.add (k * 2)).off + 1, none⟩ = some (.int .i64 (l.getD k (0, 0)).2) := by
  obtain ⟨ad, rfl, hb, hc⟩ := h (by rintro e; have := ptv_length l; rw [e] at this; simp at this; omega)
  have ek : l.getD k (0, 0) = l[k] := by simp [List.getD_eq_getElem?_getD, hk]
  rw [ek]
  refine ⟨ad, rfl, hb, hc _ _ (ptv_get hk).1, ?_⟩
  have := hc _ _ (ptv_get hk).2
  rw [show ad.add (k * 2 + 1) = ⟨(ad.add (k * 2)).block, (ad.add (k * 2)).off + 1, none⟩ from (add_off ad (k * 2) (by omega)).symm] at this
  exact this
end Go.Proofs.Ytbjomkidjccdoaa

namespace Go.Proofs.Ytbjomkidjccdoaa
open Go.RowKit
attribute [local go_sem ↓] Go.wp_at_zero Go.wp_at_succ
attribute [local go_sem] run_store_float

/-- the error of how many places there are -/
def amtE (q : Nat) : Int := if q = 0 then 10 else if 65536 < q then 4 else 0
/-- the cell of a place -/
def kOf (X Y : Int) (Wn : Nat) (p : Int × Int) : Nat := (p.2 - Y).toNat * Wn + (p.1 - X).toNat
theorem kOf_in {X Y : Int} {Wn Hn : Nat} {p : Int × Int} (h : InR X Y Wn Hn p.1 p.2) : kOf X Y Wn p < Wn * Hn ∧ p.1 = X + ((kOf X Y Wn p % Wn : Nat) : Int) ∧ p.2 = Y + ((kOf X Y Wn p / Wn : Nat) : Int) := by
  unfold InR at h
  unfold kOf
  obtain ⟨a, ha⟩ := Int.eq_ofNat_of_zero_le (show 0 ≤ p.1 - X by omega)
  obtain ⟨b, hb⟩ := Int.eq_ofNat_of_zero_le (show 0 ≤ p.2 - Y by omega)
  have h1 : a < Wn := by omega
  have h2 : b < Hn := by omega
  rw [ha, hb, Int.toNat_natCast, Int.toNat_natCast]
  refine ⟨?_, ?_, ?_⟩
  · calc b * Wn + a < b * Wn + Wn := by omega
      _ = (b + 1) * Wn := by rw [Nat.add_mul, Nat.one_mul]
      _ ≤ Hn * Wn := Nat.mul_le_mul_right _ h2
      _ = Wn * Hn := Nat.mul_comm _ _
  · rw [Nat.mul_comm, Nat.mul_add_mod, Nat.mod_eq_of_lt h1]; omega
  · rw [Nat.mul_comm, Nat.mul_add_div (by omega), Nat.div_eq_of_lt h1]; omega
/-- the price of the first steps of a way -/
def prA (R : RlR) (V : Nat → Nat) (X Y : Int) (Wn Hn : Nat) (ps : List (Int × Int)) : Nat → Option Nat
  | 0 => some 0
  | i + 1 => match prA R V X Y Wn Hn ps i with
    | none => none
    | some s => match stepF R V Wn Hn (kOf X Y Wn (ps.getD i (0, 0))) (kOf X Y Wn (ps.getD (i + 1) (0, 0))) with
      | none => none
      | some c => some (fadd s c)
theorem prA_none {R : RlR} {V : Nat → Nat} {X Y : Int} {Wn Hn : Nat} {ps : List (Int × Int)} {i : Nat} (h : prA R V X Y Wn Hn ps i = none) : ∀ j, i ≤ j → prA R V X Y Wn Hn ps j = none
  | 0, hj => by
    obtain rfl : i = 0 := by omega
    exact h
  | j + 1, hj => by
    by_cases e : i = j + 1
    · subst e; exact h
    · rw [prA, prA_none h j (by omega)]
theorem stepF_bd {R : RlR} {V : Nat → Nat} {Wn Hn N k t c : Nat} (hR : RlOk R N) (hN : N = Wn * Hn) (hW : 1 ≤ Wn) (hV : ∀ j, j < N → Bd 20 (V j)) (hk : k < N) (ht : t < N) (h : stepF R V Wn Hn k t = some c) : Bd 56 c ∧ 2 ^ 149 ≤ valI c := by
  unfold stepF at h
  cases hl : leapO (dX Wn k t) (dY Wn k t) with
  | none => rw [hl] at h; cases h
  | some p =>
    obtain ⟨d, n⟩ := p
    rw [hl] at h
    dsimp only at h
    split at h
    · rename_i hs
      obtain ⟨_, h1, _, _⟩ := leap_grid hW (by rw [← hN]; exact hk) (by rw [← hN]; exact ht) hl
      have h12 : n ≤ 12 := by have := hR.sp; unfold spanN at hs; omega
      exact costF_ok hR (hV k hk) (hV t ht) ht h1 h12 h
    · cases h
theorem fadd_lt (x y : Nat) : fadd x y < 4294967296 := by
  unfold fadd
  cases h : floatBits .add .f32 x y with
  | none => simp
  | some r => exact bits_lt h (by simp)
theorem fmul_lt (x y : Nat) : fmul x y < 4294967296 := by
  unfold fmul
  cases h : floatBits .mul .f32 x y with
  | none => simp
  | some r => exact bits_lt h (by simp)
theorem costF_lt {R : RlR} {V : Nat → Nat} {k t d n top c : Nat} (h : costF R V k t d n top = some c) : c < 4294967296 := by
  unfold costF at h
  split at h
  · cases h
  · split at h
    · split at h
      · injection h with h; subst h; unfold costB; exact fadd_lt _ _
      · cases h
    · injection h with h; subst h
      unfold costC
      split
      · unfold costN; exact fmul_lt _ _
      · exact fmul_lt _ _
theorem stepF_lt {R : RlR} {V : Nat → Nat} {Wn Hn k t c : Nat} (h : stepF R V Wn Hn k t = some c) : c < 4294967296 := by
  unfold stepF at h
  split at h
  · cases h
  · split at h
    · exact costF_lt h
    · cases h
theorem prA_bd {R : RlR} {V : Nat → Nat} {X Y : Int} {Wn Hn N : Nat} {ps : List (Int × Int)} (hR : RlOk R N) (hN : N = Wn * Hn) (hW : 1 ≤ Wn) (hV : ∀ j, j < N → Bd 20 (V j)) (hin : ∀ j, j < ps.length → kOf X Y Wn (ps.getD j (0, 0)) < N) : ∀ i s, i < ps.length → prA R V X Y Wn Hn ps i = some s → Bd 84 s ∧ 0 ≤ valI s
  | 0, s, _, h => by
    rw [prA] at h
    injection h with h
    subst h
    exact ⟨by unfold Bd; decide, by decide +kernel⟩
  | i + 1, s, hi, h => by
    rw [prA] at h
    cases h1 : prA R V X Y Wn Hn ps i with
    | none => rw [h1] at h; cases h
    | some a =>
      rw [h1] at h
      dsimp only at h
      obtain ⟨a1, a2⟩ := prA_bd hR hN hW hV hin i a (by omega) h1
      cases h2 : stepF R V Wn Hn (kOf X Y Wn (ps.getD i (0, 0))) (kOf X Y Wn (ps.getD (i + 1) (0, 0))) with
      | none => rw [h2] at h; cases h
      | some c =>
        rw [h2] at h
        dsimp only at h
        injection h with h
        subst h
        obtain ⟨c1, c2⟩ := stepF_bd hR hN hW hV (hin i (by omega)) (hin (i + 1) hi) h2
        have h3 := fadd_ge a1 (c1.mono (by omega)) (by omega) (by omega)
        exact ⟨fadd_cap a1 c1 (by omega), by omega⟩
theorem add0 {c : Nat} (hc : Bd 56 c) (h1 : 2 ^ 149 ≤ valI c) (hlt : c < 4294967296) : fadd 0 c = c := by
  obtain ⟨a, b⟩ := fadd_ok (x := 0) (y := c) (K := 56) (by unfold Bd; omega) hc (by omega)
  have hk := add_key (x := 0) (y := c) fin_zero (bd_Fin hc (by omega)) (show Ieee.single.add 0 c = some (fadd 0 c) from a)
  have hz : valI 0 = 0 := by decide +kernel
  rw [hz, Int.zero_add, rkey_val (bd_Fin hc (by omega))] at hk
  exact val_one (bits_lt a (by simp)) hlt (val_key_eq.2 hk) (by rw [val_key_eq.2 hk]; omega)
/-- the rest of a way in memory -/
theorem Rd.ptail {w : World} {ad : Addr} {p : Int × Int} {r : List (Int × Int)} (h : Rd w (some ad) (ptv (p :: r))) : Rd w (some (ad.add 2)) (ptv r) := by
  intro hne
  obtain ⟨a, e, hb, hc⟩ := h (by rw [ptv_cons]; simp)
  injection e with e
  subst e
  refine ⟨_, rfl, by rw [add_block]; exact hb, fun j u hu => ?_⟩
  rw [add_add']
  exact hc _ _ (by rw [ptv_cons, Nat.add_comm 2 j]; simpa using hu)
set_option maxRecDepth 100000 in
set_option maxHeartbeats 6400000 in
theorem Price_bad1 (X Y W H : Int) (A : Option Addr) (n c : Nat) (lf : List Nat) (gr wt br de : Nat) (sp : Int) (C : Option Addr) (m cc : Nat) (X' Y' W' H' : Int) (l : List Nat) (B : Option Addr) (q d : Nat) (w : World) (hn : lf.length = n) (hV : Rd w A (flt lf)) (hb : n ≤ 140737488351232) (hC : CoP w C m X' Y' W' H' l) (hm : m ≤ 140737488351232) (hE : grndE X Y W H lf gr wt br de sp m X' Y' W' H' l ≠ 0) :
    Calls Try.prog 7 #[.agg #[.int .i64 X, .int .i64 Y, .int .i64 W, .int .i64 H, .slice A n c], .agg #[.float .f32 gr, .float .f32 wt, .float .f32 br, .float .f32 de, .int .i64 sp, .slice C m cc], .slice B q d] w fun e w' => e = .returned (.tuple #[.float .f32 0, .int .i64 (grndE X Y W H lf gr wt br de sp m X' Y' W' H' l)]) ∧ Ext w w' := by
  have HC := fun (w' : World) (h : Ext w w') => hidA (chk_any X Y W H A n c lf gr wt br de sp C m cc X' Y' W' H' l w' hn (hV.ext h) hb (hC.ext h) hm)
  have hne : (grndE X Y W H lf gr wt br de sp m X' Y' W' H' l != 0) = true := by simpa using hE
  generalize grndE X Y W H lf gr wt br de sp m X' Y' W' H' l = E at *
  clear hn hV hb hC hm hE
  go_enter Try.func7, Try.ntmps7
  go_upto_region 1 with fail
  obtain ⟨w0, hw0⟩ : ∃ w0, w0 = (w.alloc (.cells #[.int .i64 X, .int .i64 Y, .int .i64 W, .int .i64 H, .slice A n c] 26)).alloc (.cells #[.float .f32 gr, .float .f32 wt, .float .f32 br, .float .f32 de, .int .i64 sp, .slice C m cc] 30) := ⟨_, rfl⟩
  have kF : Bk w0 w.heap.size 26 #[.int .i64 X, .int .i64 Y, .int .i64 W, .int .i64 H, .slice A n c] := by rw [hw0]; exact (Bk.new' rfl).alloc _
  have kR : Bk w0 (w.heap.size + 1) 30 #[.float .f32 gr, .float .f32 wt, .float .f32 br, .float .f32 de, .int .i64 sp, .slice C m cc] := by rw [hw0]; exact Bk.new' (by simp)
  have hx0 : Ext w w0 := by rw [hw0]; exact ((Ext.refl w).alloc _).alloc _
  rw [← hw0]
  clear hw0
  generalize w.heap.size + 1 = hr' at *
  generalize hfe : w.heap.size = hf at *
  clear hfe
  have f0 := kF.cell 0
  have f1 := kF.cell 1
  have f2 := kF.cell 2
  have f3 := kF.cell 3
  have f4 := kF.cell 4
  have r0 := kR.cell 0
  have r1 := kR.cell 1
  have r2 := kR.cell 2
  have r3 := kR.cell 3
  have r4 := kR.cell 4
  have r5 := kR.cell 5
  clear kF kR
  go_wp2_with (go_at_call 10; refine ((HC _ hx0).out).mono ?_; rintro e w1 ⟨rfl, hx1⟩)
  go_ret2
  exact ⟨rfl, hx0.trans hx1⟩
set_option maxRecDepth 100000 in
set_option maxHeartbeats 6400000 in
theorem Price_bad2 (X Y W H : Int) (A : Option Addr) (n c : Nat) (lf : List Nat) (gr wt br de : Nat) (sp : Int) (C : Option Addr) (m cc : Nat) (X' Y' W' H' : Int) (l : List Nat) (B : Option Addr) (q d : Nat) (w : World) (hn : lf.length = n) (hV : Rd w A (flt lf)) (hb : n ≤ 140737488351232) (hC : CoP w C m X' Y' W' H' l) (hm : m ≤ 140737488351232) (hE : grndE X Y W H lf gr wt br de sp m X' Y' W' H' l = 0) (hq : amtE q ≠ 0) :
    Calls Try.prog 7 #[.agg #[.int .i64 X, .int .i64 Y, .int .i64 W, .int .i64 H, .slice A n c], .agg #[.float .f32 gr, .float .f32 wt, .float .f32 br, .float .f32 de, .int .i64 sp, .slice C m cc], .slice B q d] w fun e w' => e = .returned (.tuple #[.float .f32 0, .int .i64 (amtE q)]) ∧ Ext w w' := by
  have HC := fun (w' : World) (h : Ext w w') => hidA (chk_any X Y W H A n c lf gr wt br de sp C m cc X' Y' W' H' l w' hn (hV.ext h) hb (hC.ext h) hm)
  rw [hE] at HC
  have HA := fun (w : World) => hidA (amount_any B q d w)
  have HA : ∀ w : World, Hid (Calls Try.prog 15 #[.slice B q d] w fun e w' => e = .returned (.int .i64 (amtE q)) ∧ w = w') := HA
  have hne : (amtE q != 0) = true := by simpa using hq
  generalize amtE q = E at *
  clear hn hV hb hC hm hE hq
  go_enter Try.func7, Try.ntmps7
  go_upto_region 1 with fail
  obtain ⟨w0, hw0⟩ : ∃ w0, w0 = (w.alloc (.cells #[.int .i64 X, .int .i64 Y, .int .i64 W, .int .i64 H, .slice A n c] 26)).alloc (.cells #[.float .f32 gr, .float .f32 wt, .float .f32 br, .float .f32 de, .int .i64 sp, .slice C m cc] 30) := ⟨_, rfl⟩
  have kF : Bk w0 w.heap.size 26 #[.int .i64 X, .int .i64 Y, .int .i64 W, .int .i64 H, .slice A n c] := by rw [hw0]; exact (Bk.new' rfl).alloc _
  have kR : Bk w0 (w.heap.size + 1) 30 #[.float .f32 gr, .float .f32 wt, .float .f32 br, .float .f32 de, .int .i64 sp, .slice C m cc] := by rw [hw0]; exact Bk.new' (by simp)
  have hx0 : Ext w w0 := by rw [hw0]; exact ((Ext.refl w).alloc _).alloc _
  rw [← hw0]
  clear hw0
  generalize w.heap.size + 1 = hr' at *
  generalize hfe : w.heap.size = hf at *
  clear hfe
  have f0 := kF.cell 0
  have f1 := kF.cell 1
  have f2 := kF.cell 2
  have f3 := kF.cell 3
  have f4 := kF.cell 4
  have r0 := kR.cell 0
  have r1 := kR.cell 1
  have r2 := kR.cell 2
  have r3 := kR.cell 3
  have r4 := kR.cell 4
  have r5 := kR.cell 5
  clear kF kR
  go_wp2_with (first | (go_at_call 10; refine ((HC _ hx0).out).mono ?_; rintro e w1 ⟨rfl, hx1⟩) | (go_at_call 15; refine ((HA _).out).mono ?_; rintro e w2 ⟨rfl, hw2⟩; subst hw2))
  go_ret2
  exact ⟨rfl, hx0.trans hx1⟩
set_option maxRecDepth 100000 in
set_option maxHeartbeats 6400000 in
theorem Price_bad3 (X Y W H : Int) (A : Option Addr) (n c : Nat) (lf : List Nat) (gr wt br de : Nat) (sp : Int) (C : Option Addr) (m cc : Nat) (X' Y' W' H' : Int) (l : List Nat) (B : Option Addr) (q d : Nat) (w : World) (hn : lf.length = n) (hV : Rd w A (flt lf)) (hb : n ≤ 140737488351232) (hC : CoP w C m X' Y' W' H' l) (hm : m ≤ 140737488351232) (ps : List (Int × Int)) (hr : RegOk X Y W H) (hl : ps.length = q) (hP : Rd w B (ptv ps)) (hq8 : q ≤ 140737488351232) (hE : grndE X Y W H lf gr wt br de sp m X' Y' W' H' l = 0) (hq : amtE q = 0) (hi : insE X Y W H ps ≠ 0) :
    Calls Try.prog 7 #[.agg #[.int .i64 X, .int .i64 Y, .int .i64 W, .int .i64 H, .slice A n c], .agg #[.float .f32 gr, .float .f32 wt, .float .f32 br, .float .f32 de, .int .i64 sp, .slice C m cc], .slice B q d] w fun e w' => e = .returned (.tuple #[.float .f32 0, .int .i64 (insE X Y W H ps)]) ∧ Ext w w' := by
  have HC := fun (w' : World) (h : Ext w w') => hidA (chk_any X Y W H A n c lf gr wt br de sp C m cc X' Y' W' H' l w' hn (hV.ext h) hb (hC.ext h) hm)
  rw [hE] at HC
  have HA := fun (w : World) => hidA (amount_any B q d w)
  have HA : ∀ w : World, Hid (Calls Try.prog 15 #[.slice B q d] w fun e w' => e = .returned (.int .i64 (amtE q)) ∧ w = w') := HA
  rw [hq] at HA
  have HI := fun (w' : World) (h : Ext w w') => hidA (inside_any X Y W H A B n c q d ps w' hr hl (hP.ext h) hq8)
  have hne : (insE X Y W H ps != 0) = true := by simpa using hi
  generalize insE X Y W H ps = E at *
  clear hn hV hb hC hm hE hq hi hr hl hP hq8
  go_enter Try.func7, Try.ntmps7
  go_upto_region 1 with fail
  obtain ⟨w0, hw0⟩ : ∃ w0, w0 = (w.alloc (.cells #[.int .i64 X, .int .i64 Y, .int .i64 W, .int .i64 H, .slice A n c] 26)).alloc (.cells #[.float .f32 gr, .float .f32 wt, .float .f32 br, .float .f32 de, .int .i64 sp, .slice C m cc] 30) := ⟨_, rfl⟩
  have kF : Bk w0 w.heap.size 26 #[.int .i64 X, .int .i64 Y, .int .i64 W, .int .i64 H, .slice A n c] := by rw [hw0]; exact (Bk.new' rfl).alloc _
  have kR : Bk w0 (w.heap.size + 1) 30 #[.float .f32 gr, .float .f32 wt, .float .f32 br, .float .f32 de, .int .i64 sp, .slice C m cc] := by rw [hw0]; exact Bk.new' (by simp)
  have hx0 : Ext w w0 := by rw [hw0]; exact ((Ext.refl w).alloc _).alloc _
  rw [← hw0]
  clear hw0
  generalize w.heap.size + 1 = hr' at *
  generalize hfe : w.heap.size = hf at *
  clear hfe
  have f0 := kF.cell 0
  have f1 := kF.cell 1
  have f2 := kF.cell 2
  have f3 := kF.cell 3
  have f4 := kF.cell 4
  have r0 := kR.cell 0
  have r1 := kR.cell 1
  have r2 := kR.cell 2
  have r3 := kR.cell 3
  have r4 := kR.cell 4
  have r5 := kR.cell 5
  go_wp2_with (first | (go_at_call 10; refine ((HC _ hx0).out).mono ?_; rintro e w1 ⟨rfl, hx1⟩; have g0 := (kF.ext hx1).cell 0; have g1 := (kF.ext hx1).cell 1; have g2 := (kF.ext hx1).cell 2; have g3 := (kF.ext hx1).cell 3; have g4 := (kF.ext hx1).cell 4) | (go_at_call 15; refine ((HA _).out).mono ?_; rintro e w2 ⟨rfl, hw2⟩; subst hw2) | (go_at_call 11; refine ((HI _ (hx0.trans hx1)).out).mono ?_; rintro e w3 ⟨rfl, hx3⟩))
  go_ret2
  exact ⟨rfl, hx0.trans (hx1.trans hx3)⟩
theorem nxt_m {i q : Nat} (h : q ≤ 65536) (h1 : i < q - 1) : q - (intOf (.int .i64 ((i : Int) + 1))).toNat < q - (intOf (.int .i64 (i : Int))).toNat := by
  simp [intOf]
  omega
/-- what Price returns where the arguments are right -/
def PriPost (o : Option Nat) (w : World) (e : Ending) (w' : World) : Prop := e = .returned (.tuple #[.float .f32 (o.getD 0), .int .i64 (if o.isSome then 0 else 11)]) ∧ Ext w w'
set_option maxRecDepth 100000 in
set_option maxHeartbeats 6400000 in
theorem Price_ok (X Y : Int) (Wn Hn : Nat) (A : Option Addr) (N c : Nat) (R : RlR) (C : Option Addr) (m cc : Nat) (lf : List Nat) (X' Y' W' H' : Int) (l : List Nat) (B : Option Addr) (q d : Nat) (ps : List (Int × Int)) (w : World)
    (hr : Reg X Y Wn Hn) (hN : N = Wn * Hn) (hR : RlOk R N) (hn : lf.length = N) (hh : ∀ j, j < N → Bd 20 (lf.getD j 0)) (hV : Rd w A (flt lf)) (hCo : CoR w C m R.co) (hC : CoP w C m X' Y' W' H' l) (hm : m ≤ 140737488351232) (hg : grndE X Y Wn Hn lf R.gr R.wt R.br R.de R.sp m X' Y' W' H' l = 0)
    (hl : ps.length = q) (hP : Rd w B (ptv ps)) (hqd : q ≤ d) (hq : amtE q = 0) (hin : ∀ p, p ∈ ps → InR X Y Wn Hn p.1 p.2) :
    Calls Try.prog 7 #[.agg #[.int .i64 X, .int .i64 Y, .int .i64 (Wn : Int), .int .i64 (Hn : Int), .slice A N c], .agg #[.float .f32 R.gr, .float .f32 R.wt, .float .f32 R.br, .float .f32 R.de, .int .i64 (R.sp : Int), .slice C m cc], .slice B q d] w fun e w' => PriPost (prA R (fun j => lf.getD j 0) X Y Wn Hn ps (q - 1)) w e w' := by
  have hb : N ≤ 140737488351232 := by have := hr.n; omega
  have hq6 : 1 ≤ q ∧ q ≤ 65536 := by
    unfold amtE at hq
    split at hq
    · cases hq
    · split at hq
      · cases hq
      · omega
  have HC := fun (w' : World) (h : Ext w w') => hidA (chk_any X Y Wn Hn A N c lf R.gr R.wt R.br R.de R.sp C m cc X' Y' W' H' l w' hn (hV.ext h) hb (hC.ext h) hm)
  rw [hg] at HC
  have HA := fun (w : World) => hidA (amount_any B q d w)
  have HA : ∀ w : World, Hid (Calls Try.prog 15 #[.slice B q d] w fun e w' => e = .returned (.int .i64 (amtE q)) ∧ w = w') := HA
  rw [hq] at HA
  have HI := fun (w' : World) (h : Ext w w') => hidA (inside_any X Y Wn Hn A B N c q d ps w' hr.ok hl (hP.ext h) (by omega))
  have hi0 : insE X Y Wn Hn ps = 0 := by
    unfold insE
    rw [if_pos]
    exact List.all_eq_true.2 fun p hp => decide_eq_true (hin p hp)
  rw [hi0] at HI
  have hin2 : ∀ j, j < ps.length → InR X Y Wn Hn (ps.getD j (0, 0)).1 (ps.getD j (0, 0)).2 := fun j hj => by
    rw [show ps.getD j (0, 0) = ps[j] by simp [List.getD_eq_getElem?_getD, hj]]
    exact hin _ (List.getElem_mem hj)
  have hkin : ∀ j, j < ps.length → kOf X Y Wn (ps.getD j (0, 0)) < N := fun j hj => by rw [hN]; exact (kOf_in (hin2 j hj)).1
  have HSt := hidA (fun (i : Nat) (h1 : i + 1 < q) (w' : World) (h : Ext w w') => by
    have a1 := kOf_in (hin2 i (by omega))
    have a2 := kOf_in (hin2 (i + 1) (by omega))
    have h9 := gstep_any X Y Wn Hn A N c R C m cc (kOf X Y Wn (ps.getD i (0, 0))) (kOf X Y Wn (ps.getD (i + 1) (0, 0))) lf w' hr hN hR hn hh (hkin i (by omega)) (hkin (i + 1) (by omega)) (hV.ext h) (hCo.ext h)
    rw [← a1.2.1, ← a1.2.2, ← a2.2.1, ← a2.2.2] at h9
    unfold gcells stV at h9
    exact h9)
  have HBd := hidA (fun i s (h1 : i < q) => prA_bd (X := X) (Y := Y) hR hN hr.w1 hh hkin i s (by omega))
  have HSb := hidA (fun i c (h1 : i + 1 < q) (h : stepF R (fun j => lf.getD j 0) Wn Hn (kOf X Y Wn (ps.getD i (0, 0))) (kOf X Y Wn (ps.getD (i + 1) (0, 0))) = some c) => stepF_bd hR hN hr.w1 hh (hkin i (by omega)) (hkin (i + 1) (by omega)) h)
  have HPn := hidA (fun i (h : prA R (fun j => lf.getD j 0) X Y Wn Hn ps i = none) => prA_none h (q - 1))
  have HPs := hidA (fun i => (rfl : prA R (fun j => lf.getD j 0) X Y Wn Hn ps (i + 1) = match prA R (fun j => lf.getD j 0) X Y Wn Hn ps i with
    | none => none
    | some s => match stepF R (fun j => lf.getD j 0) Wn Hn (kOf X Y Wn (ps.getD i (0, 0))) (kOf X Y Wn (ps.getD (i + 1) (0, 0))) with
      | none => none
      | some c => some (fadd s c)))
  obtain ⟨Pf, hPf⟩ : ∃ Pf : Nat → Option Nat, Pf = fun i => prA R (fun j => lf.getD j 0) X Y Wn Hn ps i := ⟨_, rfl⟩
  obtain ⟨Sf, hSf⟩ : ∃ Sf : Nat → Option Nat, Sf = fun i => stepF R (fun j => lf.getD j 0) Wn Hn (kOf X Y Wn (ps.getD i (0, 0))) (kOf X Y Wn (ps.getD (i + 1) (0, 0))) := ⟨_, rfl⟩
  have HPf := hidA (fun i => congrFun hPf i)
  have HSf := hidA (fun i => congrFun hSf i)
  have hP0 : Pf 0 = some 0 := by rw [hPf]; rfl
  rw [show prA R (fun j => lf.getD j 0) X Y Wn Hn ps (q - 1) = Pf (q - 1) by rw [hPf]]
  have HSz := hidA (fun (i : Nat) (h1 : i + 1 < q) (w' : World) (h : Ext w w') => by
    have h9 := HSt.out i h1 w' h
    rw [show stepF R (fun j => lf.getD j 0) Wn Hn (kOf X Y Wn (ps.getD i (0, 0))) (kOf X Y Wn (ps.getD (i + 1) (0, 0))) = Sf i by rw [hSf]] at h9
    exact h9)
  have HPz := hidA (fun i => show Pf (i + 1) = match Pf i with
    | none => none
    | some s => match Sf i with
      | none => none
      | some c => some (fadd s c) from by rw [hPf, hSf]; exact HPs.out i)
  have HBe : Hid (∀ i s, i < q → Pf i = some s → Bd 84 s ∧ 0 ≤ valI s) := hidA (fun i s h1 h => HBd.out i s h1 (by rw [hPf] at h; exact h))
  have HSe : Hid (∀ i c, i + 1 < q → Sf i = some c → Bd 56 c ∧ 2 ^ 149 ≤ valI c) := hidA (fun i c h1 h => HSb.out i c h1 (by rw [hSf] at h; exact h))
  have HNz := hidA (fun i (h : Pf i = none) (h2 : i ≤ q - 1) => show Pf (q - 1) = none from by rw [hPf] at h ⊢; exact HPn.out i h h2)
  have Hl := hidA hl
  have Hq6 := hidA hq6
  clear hn hV hb hC hm hg hr hN hR hh hCo hin hin2 hkin hi0 hPf hSf hq HPf HSf HBd HSb HSt HPs HPn
  go_enter Try.func7, Try.ntmps7
  go_upto_region 1 with fail
  obtain ⟨w0, hw0⟩ : ∃ w0, w0 = (w.alloc (.cells #[.int .i64 X, .int .i64 Y, .int .i64 (Wn : Int), .int .i64 (Hn : Int), .slice A N c] 26)).alloc (.cells #[.float .f32 R.gr, .float .f32 R.wt, .float .f32 R.br, .float .f32 R.de, .int .i64 (R.sp : Int), .slice C m cc] 30) := ⟨_, rfl⟩
  have kF : Bk w0 w.heap.size 26 #[.int .i64 X, .int .i64 Y, .int .i64 (Wn : Int), .int .i64 (Hn : Int), .slice A N c] := by rw [hw0]; exact (Bk.new' rfl).alloc _
  have kR : Bk w0 (w.heap.size + 1) 30 #[.float .f32 R.gr, .float .f32 R.wt, .float .f32 R.br, .float .f32 R.de, .int .i64 (R.sp : Int), .slice C m cc] := by rw [hw0]; exact Bk.new' (by simp)
  have hx0 : Ext w w0 := by rw [hw0]; exact ((Ext.refl w).alloc _).alloc _
  rw [← hw0]
  clear hw0
  generalize w.heap.size + 1 = hr' at *
  generalize hfe : w.heap.size = hf at *
  clear hfe
  have f0 := kF.cell 0
  have f1 := kF.cell 1
  have f2 := kF.cell 2
  have f3 := kF.cell 3
  have f4 := kF.cell 4
  have r0 := kR.cell 0
  have r1 := kR.cell 1
  have r2 := kR.cell 2
  have r3 := kR.cell 3
  have r4 := kR.cell 4
  have r5 := kR.cell 5
  have hq0 : 1 ≤ q := hq6.1
  have hqi : (1 : Int) ≤ q := by omega
  have hqdi : (q : Int) ≤ d := by omega
  obtain ⟨adB, rfl, hbB, hcB⟩ := hP (by rintro e; have := ptv_length ps; rw [e] at this; simp at this; omega)
  by_cases hd1 : d = 1
  · subst hd1
    obtain rfl : q = 1 := by omega
    go_upto_region 12 with (first | (go_at_call 10; refine ((HC _ hx0).out).mono ?_; rintro e w1 ⟨rfl, hx1⟩; have g0 := (kF.ext hx1).cell 0; have g1 := (kF.ext hx1).cell 1; have g2 := (kF.ext hx1).cell 2; have g3 := (kF.ext hx1).cell 3; have g4 := (kF.ext hx1).cell 4) | (go_at_call 15; refine ((HA _).out).mono ?_; rintro e w2 ⟨rfl, hw2⟩; subst hw2) | (go_at_call 11; refine ((HI _ (hx0.trans hx1)).out).mono ?_; rintro e w3 ⟨rfl, hx3⟩))
    go_loopw [11, 36] (fun s11 s36 wr => s11 = .float .f32 0 ∧ s36 = .int .i64 0 ∧ Ext w3 wr) (fun _ _ _ => 0)
    case atStart => exact ⟨rfl, rfl, Ext.refl _⟩
    case round =>
      obtain ⟨rfl, rfl, hx⟩ := hrel
      go_wp2
      go_ret2
      exact ⟨by rw [hP0]; rfl, hx0.trans (hx1.trans (hx3.trans hx))⟩
  · have hd2 : ¬ (d : Int) = 1 := by omega
    obtain ⟨p0, r, rfl⟩ : ∃ p0 r, ps = p0 :: r := by
      cases ps with
      | nil => have := Hl.out; simp at this; omega
      | cons p0 r => exact ⟨p0, r, rfl⟩
    have HPt : Rd w (some (adB.add 2)) (ptv r) := Rd.ptail (fun _ => ⟨adB, rfl, hbB, hcB⟩)
    have HPl : Rd w (some adB) (ptv (p0 :: r)) := fun _ => ⟨adB, rfl, hbB, hcB⟩
    have hadd : adB.add 2 = ⟨adB.block, adB.off + 2, none⟩ := add_pos _ (by omega)
    go_upto_region 12 with (first | (go_at_call 10; refine ((HC _ hx0).out).mono ?_; rintro e w1 ⟨rfl, hx1⟩; have g0 := (kF.ext hx1).cell 0; have g1 := (kF.ext hx1).cell 1; have g2 := (kF.ext hx1).cell 2; have g3 := (kF.ext hx1).cell 3; have g4 := (kF.ext hx1).cell 4) | (go_at_call 15; refine ((HA _).out).mono ?_; rintro e w2 ⟨rfl, hw2⟩; subst hw2) | (go_at_call 11; refine ((HI _ (hx0.trans hx1)).out).mono ?_; rintro e w3 ⟨rfl, hx3⟩))
    rw [hadd] at HPt
    obtain ⟨adT, hadT⟩ : ∃ adT : Addr, adT = ⟨adB.block, adB.off + 2, none⟩ := ⟨_, rfl⟩
    rw [← hadT] at HPt ⊢
    have hx03 := hx0.trans (hx1.trans hx3)
    have kF3 := kF.ext (hx1.trans hx3)
    have kR3 := kR.ext (hx1.trans hx3)
    have Hl2 := hidA (show r.length + 1 = q from Hl.out)
    clear f0 f1 f2 f3 f4 r0 r1 r2 r3 r4 r5 g0 g1 g2 g3 g4 kF kR hx0 hx1 hx3 HC HA HI hadd hadT hcB
    go_loopw [11, 36] (fun s11 s36 wr => ∃ i s : Nat, i ≤ q - 1 ∧ s36 = .int .i64 i ∧ s11 = .float .f32 s ∧ Pf i = some s ∧ Ext w3 wr) (fun _ s36 _ => q - (intOf s36).toNat)
    case atStart => exact ⟨0, 0, Nat.zero_le _, rfl, rfl, hP0, Ext.refl _⟩
    case round =>
      obtain ⟨i, s, hi, rfl, rfl, hpf, hx⟩ := hrel
      have hxw := hx03.trans hx
      by_cases hiq : i < q - 1
      · obtain ⟨ad1, e1, hb1, c0, c1⟩ := pt_at (HPl.ext hxw) (k := i) (by have := Hl.out; omega)
        injection e1 with e1
        subst e1
        obtain ⟨ad2, e2, hb2, d0, d1⟩ := pt_at (HPt.ext hxw) (k := i) (by have := Hl2.out; omega)
        injection e2 with e2
        subst e2
        have hSt := HSz.out i (by omega)
        rw [show (p0 :: r).getD (i + 1) (0, 0) = r.getD i (0, 0) by simp] at hSt
        have HSq := fun (w' : World) (h : Ext w w') => hidA (hSt w' h)
        clear hSt
        obtain ⟨px, py, hp1⟩ : ∃ px py, (p0 :: r).getD i (0, 0) = (px, py) := ⟨_, _, rfl⟩
        obtain ⟨qx, qy, hp2⟩ : ∃ qx qy, r.getD i (0, 0) = (qx, qy) := ⟨_, _, rfl⟩
        rw [hp1] at c0 c1 HSq
        rw [hp2] at d0 d1 HSq
        dsimp only at c0 c1 d0 d1 HSq
        have i0 : (0 : Int) ≤ i := by omega
        have i1 : (i : Int) < ((q - 1 : Nat) : Int) := by omega
        have i2 : (i : Int) < q := by omega
        have HPi := hidA (HPz.out i)
        have HBi := hidA (HBe.out i s (by omega) hpf)
        have HSi := hidA (fun c => HSe.out i c (by omega))
        have HNi := hidA (fun h => HNz.out (i + 1) h (by omega))
        have Hiq := hidA hiq
        have Hpf := hidA hpf
        clear hp1 hp2 hi hiq hpf
        go_upto_region 14 with fail
        have kP : Bk (wr.alloc (.cells #[.int .i64 qx, .int .i64 qy] 32)) wr.heap.size 32 #[.int .i64 qx, .int .i64 qy] := Bk.new' rfl
        have hxa := (Ext.refl wr).alloc (.cells #[.int .i64 qx, .int .i64 qy] 32)
        have c0' := ((hxa.cell _ (by rw [add_block]; exact hb1)).trans c0)
        have c1' := ((hxa.cell ⟨(adB.add (i * 2)).block, (adB.add (i * 2)).off + 1, none⟩ (by rw [add_block]; exact hb1)).trans c1)
        have hx5 := hx.trans hxa
        have hxw5 := hxw.trans hxa
        have kF5 := kF3.ext hx5
        have kR5 := kR3.ext hx5
        have hsz := hxa.size
        clear c0 c1 d0 d1 hxa hxw hx
        generalize wr.alloc (.cells #[.int .i64 qx, .int .i64 qy] 32) = w5 at *
        generalize wr.heap.size = hp at *
        have c0 : ∀ w', Ext w5 w' → w'.cell? (adB.add (i * 2)) = some (.int .i64 px) := fun w' h => (h.cell _ (by rw [add_block]; omega)).trans c0'
        have c1 : ∀ w', Ext w5 w' → w'.cell? ⟨(adB.add (i * 2)).block, (adB.add (i * 2)).off + 1, none⟩ = some (.int .i64 py) := fun w' h => (h.cell ⟨(adB.add (i * 2)).block, (adB.add (i * 2)).off + 1, none⟩ (by show (adB.add (i * 2)).block < _; rw [add_block]; omega)).trans c1'
        have d0 : ∀ w', Ext w5 w' → w'.cell? ⟨hp, 0, none⟩ = some (.int .i64 qx) := fun w' h => (kP.ext h).cell 0
        have d1 : ∀ w', Ext w5 w' → w'.cell? ⟨hp, 1, none⟩ = some (.int .i64 qy) := fun w' h => (kP.ext h).cell 1
        have f0 : ∀ w', Ext w5 w' → w'.cell? ⟨hf, 0, none⟩ = some (.int .i64 X) := fun w' h => (kF5.ext h).cell 0
        have f1 : ∀ w', Ext w5 w' → w'.cell? ⟨hf, 1, none⟩ = some (.int .i64 Y) := fun w' h => (kF5.ext h).cell 1
        have f2 : ∀ w', Ext w5 w' → w'.cell? ⟨hf, 2, none⟩ = some (.int .i64 (Wn : Int)) := fun w' h => (kF5.ext h).cell 2
        have f3 : ∀ w', Ext w5 w' → w'.cell? ⟨hf, 3, none⟩ = some (.int .i64 (Hn : Int)) := fun w' h => (kF5.ext h).cell 3
        have f4 : ∀ w', Ext w5 w' → w'.cell? ⟨hf, 4, none⟩ = some (.slice A N c) := fun w' h => (kF5.ext h).cell 4
        have r0 : ∀ w', Ext w5 w' → w'.cell? ⟨hr', 0, none⟩ = some (.float .f32 R.gr) := fun w' h => (kR5.ext h).cell 0
        have r1 : ∀ w', Ext w5 w' → w'.cell? ⟨hr', 1, none⟩ = some (.float .f32 R.wt) := fun w' h => (kR5.ext h).cell 1
        have r2 : ∀ w', Ext w5 w' → w'.cell? ⟨hr', 2, none⟩ = some (.float .f32 R.br) := fun w' h => (kR5.ext h).cell 2
        have r3 : ∀ w', Ext w5 w' → w'.cell? ⟨hr', 3, none⟩ = some (.float .f32 R.de) := fun w' h => (kR5.ext h).cell 3
        have r4 : ∀ w', Ext w5 w' → w'.cell? ⟨hr', 4, none⟩ = some (.int .i64 (R.sp : Int)) := fun w' h => (kR5.ext h).cell 4
        have r5 : ∀ w', Ext w5 w' → w'.cell? ⟨hr', 5, none⟩ = some (.slice C m cc) := fun w' h => (kR5.ext h).cell 5
        clear c0' c1' hsz hb1 hb2
        refine wp_region_noPanic ?_
        refine wp_region_held_drew (S := fun w' => Ext w5 w') (by kernel_rfl) ?_ (fun hHeld => ?_)
        · (repeat (first | exact Ext.refl _ | assumption | refine Ext.setCell ?_ (by first | (simp; done) | (simp; omega)) _ | refine Ext.drewN ?_ _ | refine Ext.alloc ?_ _ | refine Ext.drew ?_ | refine Ext.trans ?_ (by assumption)))
        refine wpAnyH_take (i := 0) (oi := ?o1x0) (v := ?v1x0) ?hi1x0 (by kernel_rfl) ?hf1x0 ?hr1x0 (fun _ _ _ h => h) ?hy1x0 (by assumption) ?rest1x0
        case hi1x0 => (simp only [List.getElem?_toArray, List.getElem?_cons_zero]; exact rfl)
        case hf1x0 => kernel_rfl
        case hr1x0 => kernel_rfl
        case hy1x0 => (refine Or.inl ⟨by rfl, ?_⟩; intro w hSw; (try dsimp only at hSw); go_simp; try with_reducible rfl)
        simp only [put_mk, List.set_cons_succ, List.set_cons_zero]
        refine wpAnyH_take (i := 1) (oi := ?o1x1) (v := ?v1x1) ?hi1x1 (by kernel_rfl) ?hf1x1 ?hr1x1 (fun _ _ _ h => h) ?hy1x1 (by assumption) ?rest1x1
        case hi1x1 => (simp only [List.getElem?_toArray, List.getElem?_cons_succ, List.getElem?_cons_zero]; exact rfl)
        case hf1x1 => kernel_rfl
        case hr1x1 => kernel_rfl
        case hy1x1 => (refine Or.inl ⟨by rfl, ?_⟩; intro w hSw; (try dsimp only at hSw); go_simp; try with_reducible rfl)
        simp only [put_mk, List.set_cons_succ, List.set_cons_zero]
        refine wpAnyH_take (i := 2) (oi := ?o1x2) (v := ?v1x2) ?hi1x2 (by kernel_rfl) ?hf1x2 ?hr1x2 (fun _ _ _ h => h) ?hy1x2 (by assumption) ?rest1x2
        case hi1x2 => (simp only [List.getElem?_toArray, List.getElem?_cons_succ, List.getElem?_cons_zero]; exact rfl)
        case hf1x2 => kernel_rfl
        case hr1x2 => kernel_rfl
        case hy1x2 => (refine Or.inl ⟨by rfl, ?_⟩; intro w hSw; (try dsimp only at hSw); go_simp; try with_reducible rfl)
        simp only [put_mk, List.set_cons_succ, List.set_cons_zero]
        refine wpAnyH_take (i := 3) (oi := ?o1x3) (v := ?v1x3) ?hi1x3 (by kernel_rfl) ?hf1x3 ?hr1x3 (fun _ _ _ h => h) ?hy1x3 (by assumption) ?rest1x3
        case hi1x3 => (simp only [List.getElem?_toArray, List.getElem?_cons_succ, List.getElem?_cons_zero]; exact rfl)
        case hf1x3 => kernel_rfl
        case hr1x3 => kernel_rfl
        case hy1x3 => (refine Or.inl ⟨by rfl, ?_⟩; intro w hSw; (try dsimp only at hSw); go_simp; try with_reducible rfl)
        simp only [put_mk, List.set_cons_succ, List.set_cons_zero]
        refine wpAnyH_take (i := 4) (oi := ?o1x4) (v := ?v1x4) ?hi1x4 (by kernel_rfl) ?hf1x4 ?hr1x4 (fun _ _ _ h => h) ?hy1x4 (by assumption) ?rest1x4
        case hi1x4 => (simp only [List.getElem?_toArray, List.getElem?_cons_succ, List.getElem?_cons_zero]; exact rfl)
        case hf1x4 => kernel_rfl
        case hr1x4 => kernel_rfl
        case hy1x4 => (refine Or.inl ⟨by rfl, ?_⟩; intro w hSw; (try dsimp only at hSw); go_simp; try with_reducible rfl)
        simp only [put_mk, List.set_cons_succ, List.set_cons_zero]
        refine wpAnyH_take (i := 5) (oi := ?o1x5) (v := ?v1x5) ?hi1x5 (by kernel_rfl) ?hf1x5 ?hr1x5 (fun _ _ _ h => h) ?hy1x5 (by assumption) ?rest1x5
        case hi1x5 => (simp only [List.getElem?_toArray, List.getElem?_cons_succ, List.getElem?_cons_zero]; exact rfl)
        case hf1x5 => kernel_rfl
        case hr1x5 => kernel_rfl
        case hy1x5 => (refine Or.inl ⟨by rfl, ?_⟩; intro w hSw; (try dsimp only at hSw); go_simp; try with_reducible rfl)
        simp only [put_mk, List.set_cons_succ, List.set_cons_zero]
        refine wpAnyH_take (i := 6) (oi := ?o1x6) (v := ?v1x6) ?hi1x6 (by kernel_rfl) ?hf1x6 ?hr1x6 (fun _ _ _ h => h) ?hy1x6 (by assumption) ?rest1x6
        case hi1x6 => (simp only [List.getElem?_toArray, List.getElem?_cons_succ, List.getElem?_cons_zero]; exact rfl)
        case hf1x6 => kernel_rfl
        case hr1x6 => kernel_rfl
        case hy1x6 => (refine Or.inl ⟨by rfl, ?_⟩; intro w hSw; (try dsimp only at hSw); go_simp; try with_reducible rfl)
        simp only [put_mk, List.set_cons_succ, List.set_cons_zero]
        refine wpAnyH_take (i := 7) (oi := ?o1x7) (v := ?v1x7) ?hi1x7 (by kernel_rfl) ?hf1x7 ?hr1x7 (fun _ _ _ h => h) ?hy1x7 (by assumption) ?rest1x7
        case hi1x7 => (simp only [List.getElem?_toArray, List.getElem?_cons_succ, List.getElem?_cons_zero]; exact rfl)
        case hf1x7 => kernel_rfl
        case hr1x7 => kernel_rfl
        case hy1x7 => (refine Or.inl ⟨by rfl, ?_⟩; intro w hSw; (try dsimp only at hSw); go_simp; try with_reducible rfl)
        simp only [put_mk, List.set_cons_succ, List.set_cons_zero]
        refine wpAnyH_ready (rs := [8]) (by kernel_rfl) (by simp) ?_
        refine AllReadyH.cons (o := ?o1x8) ?hi1x8 (fun K hK => ?_) AllReadyH.nil
        case hi1x8 => (simp only [List.getElem?_toArray, List.getElem?_cons_succ, List.getElem?_cons_zero]; exact rfl)
        go_simp
        refine ((HSq _ (hxw5.trans hHeld)).out).mono ?_
        rintro e w9 ⟨rfl, hx9⟩
        refine hK.out _ _ ?_ (fun hHeld => ?_)
        · (repeat (first | exact Ext.refl _ | assumption | refine Ext.setCell ?_ (by first | (simp; done) | (simp; omega)) _ | refine Ext.drewN ?_ _ | refine Ext.alloc ?_ _ | refine Ext.drew ?_ | refine Ext.trans ?_ (by assumption)))
        clear hK K
        refine wpAnyH_take (i := 9) (oi := ?o1x9) (v := ?v1x9) ?hi1x9 (by kernel_rfl) ?hf1x9 ?hr1x9 (fun _ _ _ h => h) ?hy1x9 (by assumption) ?rest1x9
        case hi1x9 => (simp only [List.getElem?_toArray, List.getElem?_cons_succ, List.getElem?_cons_zero]; exact rfl)
        case hf1x9 => kernel_rfl
        case hr1x9 => kernel_rfl
        case hy1x9 => (refine Or.inl ⟨by rfl, ?_⟩; intro w hSw; (try dsimp only at hSw); go_simp; try with_reducible rfl)
        simp only [put_mk, List.set_cons_succ, List.set_cons_zero]
        refine wpAnyH_take (i := 10) (oi := ?o1x10) (v := ?v1x10) ?hi1x10 (by kernel_rfl) ?hf1x10 ?hr1x10 (fun _ _ _ h => h) ?hy1x10 (by assumption) ?rest1x10
        case hi1x10 => (simp only [List.getElem?_toArray, List.getElem?_cons_succ, List.getElem?_cons_zero]; exact rfl)
        case hf1x10 => kernel_rfl
        case hr1x10 => kernel_rfl
        case hy1x10 => (refine Or.inl ⟨by rfl, ?_⟩; intro w hSw; (try dsimp only at hSw); go_simp; try with_reducible rfl)
        simp only [put_mk, List.set_cons_succ, List.set_cons_zero]
        refine wpAnyH_take (i := 11) (oi := ?o1x11) (v := ?v1x11) ?hi1x11 (by kernel_rfl) ?hf1x11 ?hr1x11 (fun _ _ _ h => h) ?hy1x11 (by assumption) ?rest1x11
        case hi1x11 => (simp only [List.getElem?_toArray, List.getElem?_cons_succ, List.getElem?_cons_zero]; exact rfl)
        case hf1x11 => kernel_rfl
        case hr1x11 => kernel_rfl
        case hy1x11 => (refine Or.inl ⟨by rfl, ?_⟩; intro w hSw; (try dsimp only at hSw); go_simp; try with_reducible rfl)
        simp only [put_mk, List.set_cons_succ, List.set_cons_zero]
        refine wpAnyH_take (i := 12) (oi := ?o1x12) (v := ?v1x12) ?hi1x12 (by kernel_rfl) ?hf1x12 ?hr1x12 (fun _ _ _ h => h) ?hy1x12 (by assumption) ?rest1x12
        case hi1x12 => (simp only [List.getElem?_toArray, List.getElem?_cons_succ, List.getElem?_cons_zero]; exact rfl)
        case hf1x12 => kernel_rfl
        case hr1x12 => kernel_rfl
        case hy1x12 => (refine Or.inl ⟨by rfl, ?_⟩; intro w hSw; (try dsimp only at hSw); go_simp; try with_reducible rfl)
        simp only [put_mk, List.set_cons_succ, List.set_cons_zero]
        refine wpAnyH_take (i := 13) (oi := ?o1x13) (v := ?v1x13) ?hi1x13 (by kernel_rfl) ?hf1x13 ?hr1x13 (fun _ _ _ h => h) ?hy1x13 (by assumption) ?rest1x13
        case hi1x13 => (simp only [List.getElem?_toArray, List.getElem?_cons_succ, List.getElem?_cons_zero]; exact rfl)
        case hf1x13 => kernel_rfl
        case hr1x13 => kernel_rfl
        case hy1x13 => (refine Or.inl ⟨by rfl, ?_⟩; intro w hSw; (try dsimp only at hSw); go_simp; try with_reducible rfl)
        simp only [put_mk, List.set_cons_succ, List.set_cons_zero]
        refine wpAnyH_done (by kernel_rfl) ?_ _
        refine NoPanic.normal ?_
        have hx9w := hxw5.trans hHeld
        have hx93 := hx5.trans hHeld
        clear c0 c1 d0 d1 f0 f1 f2 f3 f4 r0 r1 r2 r3 r4 r5
        cases hS : Sf i with
        | none =>
          have Hf := hidA (HNi.out (by rw [HPi.out, Hpf.out, hS]))
          simp only [Option.getD_none, Option.isSome_none]
          go_wp2
          go_ret2
          exact ⟨by rw [Hf.out]; rfl, hx9w⟩
        | some cst =>
          have Hf := hidA (show Pf (i + 1) = some (fadd s cst) from by rw [HPi.out, Hpf.out, hS])
          obtain ⟨s1, s2⟩ := HBi.out
          obtain ⟨t1, t2⟩ := HSi.out cst hS
          have q1 := fun (w : World) => run_float_arith (P := Try.prog) w .add 27 .f32 _ _ _ (fadd_ok s1 (t1.mono (by omega)) (by omega)).1
          have hiw := hidA (And.intro Hq6.out.2 Hiq.out)
          clear s1 s2 t1 t2
          simp only [Option.getD_some, Option.isSome_some]
          generalize fadd s cst = sn at *
          go_wp2
          go_roundw
          case rel => exact ⟨i + 1, sn, Nat.succ_le_of_lt Hiq.out, (by first | rfl | go_num), rfl, Hf.out, hx93⟩
          case measure => exact nxt_m hiw.out.1 hiw.out.2
      · obtain rfl : i = q - 1 := by omega
        go_wp2
        go_ret2
        exact ⟨by rw [hpf]; rfl, hxw⟩
end Go.Proofs.Ytbjomkidjccdoaa

namespace Go.Proofs.Ytbjomkidjccdoaa
open Go.RowKit

section
variable {N : Nat} {E : Nat → List (Nat × Nat)} {src : Nat} {T : Nat → Nat → Nat → Bool} {H : Nat → Int}
theorem HopOk.at (h : HopOk N E src T H) : ∀ (v : Nat) (m : Nat), m < N → H m = v → ∀ u, u ≤ v → ∃ k, k < N ∧ H k = u
  | 0, m, hm, hv, u, hu => ⟨m, hm, by rw [hv]; omega⟩
  | v + 1, m, hm, hv, u, hu => by
    by_cases e : u = v + 1
    · exact ⟨m, hm, by rw [hv, e]⟩
    · obtain ⟨a, b, ha, _, _, h5⟩ := h.h3 m hm (by omega)
      exact h.at v a ha (by omega) u (by omega)
theorem HopOk.lt (h : HopOk N E src T H) {m : Nat} (hm : m < N) : H m < N := by
  rcases h.h1 m hm with h1 | h1
  · omega
  · obtain ⟨v, hv⟩ : ∃ v : Nat, H m = v := ⟨(H m).toNat, by omega⟩
    rcases Nat.lt_or_ge v N with h2 | h2
    · omega
    · exfalso
      have hc : ∀ u, ∃ k, u ≤ v → k < N ∧ H k = u := fun u => by
        by_cases hu : u ≤ v
        · obtain ⟨k, hk⟩ := h.at v m hm hv u hu
          exact ⟨k, fun _ => hk⟩
        · exact ⟨0, fun h => absurd h hu⟩
      obtain ⟨f, hf⟩ := Classical.axiomOfChoice hc
      have hnd : ((List.range (v + 1)).map f).Nodup := by
        refine List.Pairwise.map f (fun i j (hij : i ≠ j ∧ i ≤ v ∧ j ≤ v) e => ?_) ((List.nodup_range (n := v + 1)).imp_of_mem fun {i j} hi hj h => ⟨h, by simp at hi; omega, by simp at hj; omega⟩)
        have h1 := (hf i hij.2.1).2
        have h2 := (hf j hij.2.2).2
        rw [e] at h1
        have := hij.1
        omega
      have := nodup_le hnd (fun k hk => by
        simp at hk
        obtain ⟨u, hu, rfl⟩ := hk
        exact (hf u (by omega)).1)
      simp at this
      omega
/-- where tight steps lead, ways lead -/
theorem HopOk.seen {P : Nat → Nat} {sn : Nat → Bool} (h : HopOk N E src T H) (hP : PrOk N E src sn P) : ∀ (v : Nat) (k : Nat), k < N → H k = v → sn k = true
  | 0, k, hk, hv => by
    rw [h.h4 k hk (by omega)]
    exact hP.sk
  | v + 1, k, hk, hv => by
    obtain ⟨a, b, ha, hm, _, h5⟩ := h.h3 k hk (by omega)
    have ih := h.seen hP v a ha (by omega)
    exact (hP.least.low k _ (.step (hP.least.way a ha ih) ha hm)).1
end
/-- prices of ways are singles -/
theorem RWay.flo {N : Nat} {E : Nat → List (Nat × Nat)} {src : Nat} (hE : EdOk N E) {k : Nat} {z : Int} (h : RWay N E src k z) : ∃ b, Bd 84 b ∧ 0 ≤ valI b ∧ valI b = z := by
  induction h with
  | start => exact ⟨0, bd_0 84, by rw [valI_0]; exact Int.le_refl _, valI_0⟩
  | @step n m c z _ _ hm ih =>
    obtain ⟨b, h1, h2, h3⟩ := ih
    obtain ⟨_, s1, s2, _⟩ := sum_ok h1 h2 (hE.bd n m c hm) (hE.nn n m c hm)
    exact ⟨fadd b c, s1, s2, by rw [fadd_up h1 (hE.bd n m c hm), h3]⟩
/-- all cells that are reached are reached by tight steps -/
theorem hop_all {N : Nat} {E : Nat → List (Nat × Nat)} {src : Nat} {H : Nat → Int} {P : Nat → Nat} {sn : Nat → Bool} (hE : EdOk N E) (hP : PrOk N E src sn P) (hH : HopOk N E src (tgt P) H) {k : Nat} (hk : k < N) (hs : sn k = true) : 0 ≤ H k := by
  rcases hH.h1 k hk with h1 | h1
  · exfalso
    obtain ⟨v, ⟨a, ha, hsa, hHa, hva⟩, hmin⟩ := exists_least (p := fun v : Nat => ∃ k, k < N ∧ sn k = true ∧ H k = -1 ∧ (valI (P k)).toNat = v) ⟨_, k, hk, hs, h1, rfl⟩
    have hge : ∀ j, j < N → sn j = true → H j = -1 → (v : Int) ≤ valI (P j) := fun j hj h2 h3 => by
      have h4 := hmin _ ⟨j, hj, h2, h3, rfl⟩
      have := (hP.ob j hj).2.1
      omega
    have key : ∀ j z, RWay N E src j z → z = v → j < N → H j ≠ -1 := fun j z hw => by
      induction hw with
      | start =>
        intro _ _
        rw [hH.h0]
        decide
      | @step n m c z hw hn hm ih =>
        intro hz hmN hHm
        have low := hP.least.low n z hw
        have lowm := hP.least.low m _ (.step hw hn hm)
        have lowt := hP.least.low m _ (.step (hP.least.way n hn low.1) hn hm)
        have h2 := hge m hmN lowm.1 hHm
        have hmono := upV_mono c _ _ low.2
        have hc := hE.bd n m c hm
        have c0 := hE.nn n m c hm
        obtain ⟨_, s1, s2, s3⟩ := sum_ok (hP.ob n hn).1 (hP.ob n hn).2.1 hc c0
        have e1 : valI (fadd (P n) c) = valI (P m) := by
          rw [fadd_up (hP.ob n hn).1 hc]
          omega
        have ht : tgt P n m c = true := by
          have h3 := (eq_val (bd_Fin s1 (by omega)) (bd_Fin (hP.ob m hmN).1 (by omega))).2 e1
          show (ord (fadd (P n) c) (P m) == some .eq) = true
          rw [h3]
          rfl
        have hHn : H n = -1 := by
          rcases hH.h1 n hn with h3 | h3
          · exact h3
          · have := (hH.h2 n m c hn h3 hm ht).1
            omega
        have h4 := hge n hn low.1 hHn
        obtain ⟨b, b1, b2, b3⟩ := hw.flo hE
        have h5 := infl_val b1 hc (by omega)
        rw [b3] at h5
        exact ih (by omega) hn hHn
    exact key a _ (hP.least.way a ha hsa) (by have := (hP.ob a ha).2.1; omega) ha hHa
  · exact h1
section
variable {R : RlR} {V : Nat → Nat} {Wn Hn N src : Nat} {H H' : Nat → Int} {P P' : Nat → Nat}
theorem IsB.congr (hH : ∀ k, k < N → H k = H' k) (hP : ∀ k, k < N → P k = P' k) {k p : Nat} (hk : k < N) (h : IsB R V Wn Hn N H P k p) : IsB R V Wn Hn N H' P' k p := by
  have key : ∀ q, q < N → (good R V Wn Hn H P k q ↔ good R V Wn Hn H' P' k q) := fun q hq => by
    unfold good
    rw [hH q hq, hH k hk, hP q hq, hP k hk]
  exact ⟨h.1, (key p h.1).1 h.2.1, fun q hq hg => h.2.2 q hq ((key q hq).2 hg)⟩
theorem Chain.congr (hH : ∀ k, k < N → H k = H' k) (hP : ∀ k, k < N → P k = P' k) {k : Nat} {xs : List Nat} (h : Chain R V Wn Hn N H P k xs) : k < N → Chain R V Wn Hn N H' P' k xs := by
  induction h with
  | last h0 => exact fun hk => .last (by rw [← hH _ hk]; exact h0)
  | next h0 hb _ ih => exact fun hk => .next (by rw [← hH _ hk]; exact h0) (hb.congr hH hP hk) (ih hb.1)
theorem Chain.head {k : Nat} {xs : List Nat} (h : Chain R V Wn Hn N H P k xs) : ∃ ys, xs = k :: ys := by
  cases h with
  | last _ => exact ⟨[], rfl⟩
  | next _ _ _ => exact ⟨_, rfl⟩
theorem Chain.mem {k : Nat} {xs : List Nat} (h : Chain R V Wn Hn N H P k xs) : k < N → ∀ x ∈ xs, x < N := by
  induction h with
  | last _ =>
    intro hk x hx
    rw [List.mem_singleton.1 hx]
    exact hk
  | next _ hb _ ih =>
    intro hk x hx
    rcases List.mem_cons.1 hx with h1 | h1
    · rw [h1]; exact hk
    · exact ih hb.1 x h1
theorem prA_append {X Y : Int} {ps qs : List (Int × Int)} : ∀ i, i < ps.length → prA R V X Y Wn Hn (ps ++ qs) i = prA R V X Y Wn Hn ps i
  | 0, _ => rfl
  | i + 1, h => by
    have g : ∀ j, j < ps.length → (ps ++ qs).getD j (0, 0) = ps.getD j (0, 0) := fun j hj => by simp [List.getD_eq_getElem?_getD, List.getElem?_append_left hj]
    rw [prA, prA, prA_append i (by omega), g i (by omega), g (i + 1) h]
theorem kOf_cpt {X Y : Int} {k : Nat} : kOf X Y Wn (cpt X Y Wn k) = k := by
  unfold kOf cpt
  dsimp only
  rw [show Y + ((k / Wn : Nat) : Int) - Y = ((k / Wn : Nat) : Int) by omega, show X + ((k % Wn : Nat) : Int) - X = ((k % Wn : Nat) : Int) by omega, Int.toNat_natCast, Int.toNat_natCast, Nat.mul_comm]
  exact Nat.div_add_mod k Wn
/-- a way costs what its end costs -/
theorem Chain.price {X Y : Int} {E : Nat → List (Nat × Nat)} {sn : Nat → Bool} (hEe : E = edA R V Wn Hn N) (hE : EdOk N E) (hW : 1 ≤ Wn) (hN : N = Wn * Hn) (hP : PrOk N E src sn P) (hH : HopOk N E src (tgt P) H) {k : Nat} {xs : List Nat} (h : Chain R V Wn Hn N H P k xs) :
    k < N → 0 ≤ H k → prA R V X Y Wn Hn (xs.reverse.map (cpt X Y Wn)) (xs.length - 1) = some (P k) := by
  induction h with
  | @last k h0 =>
    intro hk h1
    have e : k = src := hH.h4 k hk (by omega)
    show some 0 = some (P k)
    rw [e, hP.os]
  | @next k p ys h0 hb hc ih =>
    intro hk h1
    obtain ⟨g1, d, g2, g3⟩ := hb.2.1
    have hp := hb.1
    have ih := ih hp (by omega)
    obtain ⟨zs, rfl⟩ := hc.head
    have hsp : sn p = true := hH.seen hP (H p).toNat p hp (by omega)
    have hm : (k, d) ∈ E p := by
      rw [hEe, edA_at hp]
      exact (edK_iff hW (by rw [← hN]; exact hp) (by rw [← hN]; exact hk)).2 g2
    have hc := hE.bd p k d hm
    have c0 := hE.nn p k d hm
    obtain ⟨s1, s2, s3⟩ := sum_ok (hP.ob p hp).1 (hP.ob p hp).2.1 hc c0
    have hval : valI (fadd (P p) d) = valI (P k) := by
      have h2 : FloatKind.f32.format.order (fadd (P p) d) (P k) = some .eq := by
        unfold feqB at g3
        exact eq_of_beq g3
      have h3 := eq_val (bd_Fin s2 (by omega)) (bd_Fin (hP.ob k hk).1 (by omega))
      exact h3.1 (by rw [← h2]; rfl)
    have hw : RWay N E src k (valI (fadd (P p) d)) := by
      rw [fadd_up (hP.ob p hp).1 hc]
      exact .step (hP.least.way p hp hsp) hp hm
    have hks : k ≠ src := fun e => by have := hH.h0; rw [e] at h0; omega
    have hpos : 0 < valI (fadd (P p) d) := by
      rcases (hw.pos hE).2 with h4 | h4
      · exact absurd h4 hks
      · exact h4
    have hbits : fadd (P p) d = P k := bits_pos s3.2 (hP.ob k hk).2.2 hval hpos
    have hl : ((p :: zs).reverse.map (cpt X Y Wn)).length = zs.length + 1 := by simp
    have e1 : (k :: p :: zs).reverse.map (cpt X Y Wn) = (p :: zs).reverse.map (cpt X Y Wn) ++ [cpt X Y Wn k] := by simp
    have e2 : (k :: p :: zs).length - 1 = zs.length + 1 := by simp
    rw [e1, e2, prA, prA_append zs.length (by rw [hl]; omega)]
    have e3 : (p :: zs).length - 1 = zs.length := by simp
    rw [e3] at ih
    rw [ih]
    have e4 : ((p :: zs).reverse.map (cpt X Y Wn) ++ [cpt X Y Wn k]).getD zs.length (0, 0) = cpt X Y Wn p := by
      simp [List.getD_eq_getElem?_getD]
    have e5 : ((p :: zs).reverse.map (cpt X Y Wn) ++ [cpt X Y Wn k]).getD (zs.length + 1) (0, 0) = cpt X Y Wn k := by
      simp [List.getD_eq_getElem?_getD]
    rw [e4, e5, kOf_cpt, kOf_cpt, g2]
    dsimp only
    rw [hbits]
end
end Go.Proofs.Ytbjomkidjccdoaa

namespace Go.Proofs.Ytbjomkidjccdoaa
open Go.RowKit

section
variable {R : RlR} {V : Nat → Nat} {X Y : Int} {Wn Hn N src : Nat} {ps : List (Int × Int)}
/-- the cell of place i -/
def kAt (X Y : Int) (Wn : Nat) (ps : List (Int × Int)) (i : Nat) : Nat := kOf X Y Wn (ps.getD i (0, 0))
theorem prA_step {i : Nat} : prA R V X Y Wn Hn ps (i + 1) = match prA R V X Y Wn Hn ps i with
    | none => none
    | some s => match stepF R V Wn Hn (kAt X Y Wn ps i) (kAt X Y Wn ps (i + 1)) with
      | none => none
      | some c => some (fadd s c) := rfl
theorem prA_steps : ∀ i s, prA R V X Y Wn Hn ps i = some s → ∀ j, j < i → (stepF R V Wn Hn (kAt X Y Wn ps j) (kAt X Y Wn ps (j + 1))).isSome = true
  | 0, _, _, j, hj => by omega
  | i + 1, s, h, j, hj => by
    rw [prA_step] at h
    cases hp : prA R V X Y Wn Hn ps i with
    | none => rw [hp] at h; cases h
    | some t =>
      rw [hp] at h
      dsimp only at h
      by_cases e : j = i
      · subst e
        cases hs : stepF R V Wn Hn (kAt X Y Wn ps j) (kAt X Y Wn ps (j + 1)) with
        | none => rw [hs] at h; cases h
        | some c => rfl
      · exact prA_steps i t hp j (by omega)
theorem prA_of : ∀ i, (∀ j, j < i → (stepF R V Wn Hn (kAt X Y Wn ps j) (kAt X Y Wn ps (j + 1))).isSome = true) → ∃ s, prA R V X Y Wn Hn ps i = some s
  | 0, _ => ⟨0, rfl⟩
  | i + 1, h => by
    obtain ⟨s, hs⟩ := prA_of i (fun j hj => h j (by omega))
    have h1 := h i (by omega)
    cases h2 : stepF R V Wn Hn (kAt X Y Wn ps i) (kAt X Y Wn ps (i + 1)) with
    | none => rw [h2] at h1; cases h1
    | some c =>
      refine ⟨fadd s c, ?_⟩
      rw [prA_step, hs]
      dsimp only
      rw [h2]
/-- a way's price is that of a way -/
theorem prA_way (hE : EdOk N (edA R V Wn Hn N)) (hW : 1 ≤ Wn) (hN : N = Wn * Hn) : ∀ i s, (∀ j, j ≤ i → kAt X Y Wn ps j < N) → prA R V X Y Wn Hn ps i = some s → RWay N (edA R V Wn Hn N) (kAt X Y Wn ps 0) (kAt X Y Wn ps i) (valI s) ∧ Bd 84 s ∧ 0 ≤ valI s
  | 0, s, hk, h => by
    have e : (0 : Nat) = s := by injection h
    subst e
    rw [valI_0]
    exact ⟨.start, bd_0 84, Int.le_refl _⟩
  | i + 1, s, hk, h => by
    rw [prA_step] at h
    cases hp : prA R V X Y Wn Hn ps i with
    | none => rw [hp] at h; cases h
    | some t =>
      rw [hp] at h
      dsimp only at h
      obtain ⟨w1, b1, n1⟩ := prA_way hE hW hN i t (fun j hj => hk j (by omega)) hp
      cases hs : stepF R V Wn Hn (kAt X Y Wn ps i) (kAt X Y Wn ps (i + 1)) with
      | none => rw [hs] at h; cases h
      | some c =>
        rw [hs] at h
        dsimp only at h
        injection h with h
        subst h
        have hki := hk i (by omega)
        have hm : (kAt X Y Wn ps (i + 1), c) ∈ edA R V Wn Hn N (kAt X Y Wn ps i) := by
          rw [edA_at hki]
          exact (edK_iff hW (by rw [← hN]; exact hki) (by rw [← hN]; exact hk (i + 1) (Nat.le_refl _))).2 hs
        obtain ⟨_, s1, s2, _⟩ := sum_ok b1 n1 (hE.bd _ _ _ hm) (hE.nn _ _ _ hm)
        refine ⟨?_, s1, s2⟩
        rw [fadd_up b1 (hE.bd _ _ _ hm)]
        exact .step w1 hki hm
/-- no step makes a way cheaper -/
theorem prA_mono (hE : EdOk N (edA R V Wn Hn N)) (hW : 1 ≤ Wn) (hN : N = Wn * Hn) {i : Nat} : ∀ j s t, i ≤ j → (∀ q, q ≤ j → kAt X Y Wn ps q < N) → prA R V X Y Wn Hn ps i = some s → prA R V X Y Wn Hn ps j = some t → valI s ≤ valI t
  | 0, s, t, h, _, h1, h2 => by
    obtain rfl : i = 0 := by omega
    rw [h1] at h2
    injection h2 with h2
    subst h2
    exact Int.le_refl _
  | j + 1, s, t, h, hk, h1, h2 => by
    by_cases e : i = j + 1
    · subst e
      rw [h1] at h2
      injection h2 with h2
      subst h2
      exact Int.le_refl _
    · rw [prA_step] at h2
      cases hp : prA R V X Y Wn Hn ps j with
      | none => rw [hp] at h2; cases h2
      | some u =>
        rw [hp] at h2
        dsimp only at h2
        have ih := prA_mono hE hW hN j s u (by omega) (fun q hq => hk q (by omega)) h1 hp
        obtain ⟨_, b1, n1⟩ := prA_way hE hW hN j u (fun q hq => hk q (by omega)) hp
        cases hs : stepF R V Wn Hn (kAt X Y Wn ps j) (kAt X Y Wn ps (j + 1)) with
        | none => rw [hs] at h2; cases h2
        | some c =>
          rw [hs] at h2
          dsimp only at h2
          injection h2 with h2
          subst h2
          have hki := hk j (by omega)
          have hm : (kAt X Y Wn ps (j + 1), c) ∈ edA R V Wn Hn N (kAt X Y Wn ps j) := by
            rw [edA_at hki]
            exact (edK_iff hW (by rw [← hN]; exact hki) (by rw [← hN]; exact hk (j + 1) (Nat.le_refl _))).2 hs
          have hinf := infl_val b1 (hE.bd _ _ _ hm) (by have := hE.nn _ _ _ hm; omega)
          rw [fadd_up b1 (hE.bd _ _ _ hm)]
          omega
theorem getD_take {n i : Nat} (h : i < n) : (ps.take n).getD i (0, 0) = ps.getD i (0, 0) := by simp [List.getD_eq_getElem?_getD, h]
theorem prA_take {n : Nat} : ∀ i, i < n → prA R V X Y Wn Hn (ps.take n) i = prA R V X Y Wn Hn ps i
  | 0, _ => rfl
  | i + 1, h => by
    rw [prA_step, prA_step, prA_take i (by omega)]
    unfold kAt
    rw [getD_take h, getD_take (show i < n by omega)]
/-- ways that are joined -/
theorem prA_join {qs : List (Int × Int)} {s t : Nat} (ha : 1 ≤ ps.length) (hb : 1 ≤ qs.length) (hab : ps.getD (ps.length - 1) (0, 0) = qs.getD 0 (0, 0)) (h1 : prA R V X Y Wn Hn ps (ps.length - 1) = some s) (h2 : prA R V X Y Wn Hn qs (qs.length - 1) = some t) : ∃ u, prA R V X Y Wn Hn (ps ++ qs.drop 1) ((ps ++ qs.drop 1).length - 1) = some u := by
  have hl : (ps ++ qs.drop 1).length = ps.length + qs.length - 1 := by rw [List.length_append, List.length_drop]; omega
  have g1 : ∀ j, j < ps.length → (ps ++ qs.drop 1).getD j (0, 0) = ps.getD j (0, 0) := fun j hj => by simp [List.getD_eq_getElem?_getD, List.getElem?_append_left hj]
  have g2 : ∀ j, ps.length ≤ j + 1 → (ps ++ qs.drop 1).getD j (0, 0) = qs.getD (j + 1 - ps.length) (0, 0) := fun j hj => by
    by_cases e : j + 1 = ps.length
    · rw [g1 j (by omega), show j = ps.length - 1 by omega, hab, show ps.length - 1 + 1 - ps.length = 0 by omega]
    · simp only [List.getD_eq_getElem?_getD]
      rw [List.getElem?_append_right (by omega), List.getElem?_drop, show 1 + (j - ps.length) = j + 1 - ps.length by omega]
  rw [hl]
  refine prA_of _ fun j hj => ?_
  unfold kAt
  by_cases e : j + 1 < ps.length
  · rw [g1 j (by omega), g1 (j + 1) e]
    exact prA_steps _ _ h1 j (by omega)
  · rw [g2 j (by omega), g2 (j + 1) (by omega), show j + 1 + 1 - ps.length = (j + 1 - ps.length) + 1 by omega]
    exact prA_steps _ _ h2 (j + 1 - ps.length) (by omega)
end
section
variable {R : RlR} {V : Nat → Nat} {Wn Hn N src : Nat} {H : Nat → Int} {P : Nat → Nat}
/-- a way begins where prices begin -/
theorem Chain.first {E : Nat → List (Nat × Nat)} (hH : HopOk N E src (tgt P) H) {k : Nat} {xs : List Nat} (h : Chain R V Wn Hn N H P k xs) : k < N → 0 ≤ H k → xs.reverse.getD 0 0 = src := by
  induction h with
  | @last k h0 =>
    intro hk h1
    exact hH.h4 k hk (by omega)
  | @next k p ys h0 hb hc ih =>
    intro hk h1
    have h2 := ih hb.1 (by have := hb.2.1.1; omega)
    obtain ⟨zs, rfl⟩ := hc.head
    have hl : 0 < (p :: zs).reverse.length := by simp
    rw [List.reverse_cons]
    rw [← h2]
    generalize (p :: zs).reverse = ws at *
    rw [List.getD_eq_getElem?_getD, List.getD_eq_getElem?_getD, List.getElem?_append_left hl]
theorem map_getD {f : Nat → Int × Int} {xs : List Nat} {i : Nat} (h : i < xs.length) : (xs.map f).getD i (0, 0) = f (xs.getD i 0) := by simp [List.getD_eq_getElem?_getD, h]
end
/-- what is known of a way that was found -/
structure WayG (R : RlR) (V : Nat → Nat) (X Y : Int) (Wn Hn N src tq : Nat) (v : Value) (pv : Nat) (w : World) (sn : Nat → Bool) (P : Nat → Nat) (ps : List (Int × Int)) (B : Option Addr) (cap : Nat) : Prop where
  pr : PrOk N (edA R V Wn Hn N) src sn P
  st : sn tq = true
  vv : v = .slice B ps.length cap
  pv : pv = P tq
  rd : Rd w B (ptv ps)
  l1 : 1 ≤ ps.length
  lN : ps.length ≤ N
  lc : ps.length ≤ cap
  mem : ∀ p, p ∈ ps → ∃ k, k < N ∧ p = cpt X Y Wn k
  price : prA R V X Y Wn Hn ps (ps.length - 1) = some (P tq)
  first : ps.getD 0 (0, 0) = cpt X Y Wn src
  last : ps.getD (ps.length - 1) (0, 0) = cpt X Y Wn tq
theorem WayG.of {R : RlR} {V : Nat → Nat} {X Y : Int} {Wn Hn N src tq : Nat} {w : World} {sn : Nat → Bool} {P : Nat → Nat} {H : Nat → Int} {xs : List Nat} {B : Option Addr} {cap : Nat} (hE : EdOk N (edA R V Wn Hn N)) (hW : 1 ≤ Wn) (hN : N = Wn * Hn) (ht : tq < N)
    (hP : PrOk N (edA R V Wn Hn N) src sn P) (hs : sn tq = true) (hH : HopOk N (edA R V Wn Hn N) src (tgt P) H) (hc : Chain R V Wn Hn N H P tq xs) (h1 : xs.length ≤ N) (h2 : xs.length ≤ cap) (hr : Rd w B (ptv (xs.reverse.map (cpt X Y Wn)))) :
    WayG R V X Y Wn Hn N src tq (.slice B xs.length cap) (P tq) w sn P (xs.reverse.map (cpt X Y Wn)) B cap := by
  obtain ⟨ys, hys⟩ := hc.head
  have h0 := hop_all hE hP hH ht hs
  have hl : (xs.reverse.map (cpt X Y Wn)).length = xs.length := by simp
  have hpos : 1 ≤ xs.length := by rw [hys]; simp
  refine ⟨hP, hs, by rw [hl], rfl, hr, by rw [hl]; exact hpos, by rw [hl]; exact h1, by rw [hl]; exact h2, fun p hp => ?_, ?_, ?_, ?_⟩
  · obtain ⟨k, hk, rfl⟩ := List.mem_map.1 hp
    exact ⟨k, hc.mem ht k (List.mem_reverse.1 hk), rfl⟩
  · rw [hl]
    exact hc.price rfl hE hW hN hP hH ht h0
  · rw [map_getD (by rw [List.length_reverse]; omega), hc.first hH ht h0]
  · rw [hl, map_getD (by rw [List.length_reverse]; omega)]
    congr 1
    rw [hys]
    simp [List.getD_eq_getElem?_getD]
section
variable {R : RlR} {V : Nat → Nat} {X Y : Int} {Wn Hn N src tq : Nat} {v : Value} {pv : Nat} {w : World} {sn : Nat → Bool} {P : Nat → Nat} {ps : List (Int × Int)} {B : Option Addr} {cap : Nat}
theorem WayG.cell (h : WayG R V X Y Wn Hn N src tq v pv w sn P ps B cap) {i : Nat} (hi : i < ps.length) : kAt X Y Wn ps i < N := by
  unfold kAt
  rw [show ps.getD i (0, 0) = ps[i] by simp [List.getD_eq_getElem?_getD, hi]]
  obtain ⟨k, hk, e⟩ := h.mem _ (List.getElem_mem hi)
  rw [e, kOf_cpt]
  exact hk
theorem WayG.k0 (h : WayG R V X Y Wn Hn N src tq v pv w sn P ps B cap) : kAt X Y Wn ps 0 = src := by
  unfold kAt
  rw [h.first, kOf_cpt]
theorem WayG.kl (h : WayG R V X Y Wn Hn N src tq v pv w sn P ps B cap) : kAt X Y Wn ps (ps.length - 1) = tq := by
  unfold kAt
  rw [h.last, kOf_cpt]
/-- a way by a third place is no cheaper -/
theorem WayG.by_third {by_ : Nat} {v2 v3 : Value} {pv2 pv3 : Nat} {w2 w3 : World} {sn2 sn3 : Nat → Bool} {P2 P3 : Nat → Nat} {ps2 ps3 : List (Int × Int)} {B2 B3 : Option Addr} {cap2 cap3 : Nat} (hE : EdOk N (edA R V Wn Hn N)) (hW : 1 ≤ Wn) (hN : N = Wn * Hn)
    (h : WayG R V X Y Wn Hn N src tq v pv w sn P ps B cap) (h2 : WayG R V X Y Wn Hn N src by_ v2 pv2 w2 sn2 P2 ps2 B2 cap2) (h3 : WayG R V X Y Wn Hn N by_ tq v3 pv3 w3 sn3 P3 ps3 B3 cap3) :
    ∃ u, prA R V X Y Wn Hn (ps2 ++ ps3.drop 1) ((ps2 ++ ps3.drop 1).length - 1) = some u ∧ Bd 84 u ∧ valI (P tq) ≤ valI u := by
  obtain ⟨u, hu⟩ := prA_join h2.l1 h3.l1 (by rw [h2.last, h3.first]) h2.price h3.price
  have hl : (ps2 ++ ps3.drop 1).length = ps2.length + ps3.length - 1 := by rw [List.length_append, List.length_drop]; have := h3.l1; omega
  have hmem : ∀ j, j < (ps2 ++ ps3.drop 1).length → kAt X Y Wn (ps2 ++ ps3.drop 1) j < N := fun j hj => by
    unfold kAt
    rw [show (ps2 ++ ps3.drop 1).getD j (0, 0) = (ps2 ++ ps3.drop 1)[j] by simp only [List.getD_eq_getElem?_getD, List.getElem?_eq_getElem hj, Option.getD_some]]
    rcases List.mem_append.1 (List.getElem_mem hj) with h4 | h4
    · obtain ⟨k, hk, e⟩ := h2.mem _ h4
      rw [e, kOf_cpt]; exact hk
    · obtain ⟨k, hk, e⟩ := h3.mem _ (List.mem_of_mem_drop h4)
      rw [e, kOf_cpt]; exact hk
  obtain ⟨w1, b1, n1⟩ := prA_way hE hW hN _ _ (fun j hj => hmem j (by have := h2.l1; have := h3.l1; omega)) hu
  have e0 : kAt X Y Wn (ps2 ++ ps3.drop 1) 0 = src := by
    rw [← h2.k0]
    unfold kAt
    have := h2.l1
    congr 1
    simp [List.getD_eq_getElem?_getD, List.getElem?_append_left (show 0 < ps2.length by omega)]
  have el : kAt X Y Wn (ps2 ++ ps3.drop 1) ((ps2 ++ ps3.drop 1).length - 1) = tq := by
    rw [← h3.kl]
    unfold kAt
    congr 1
    have l2 := h2.l1
    have l3 := h3.l1
    rw [hl]
    simp only [List.getD_eq_getElem?_getD]
    by_cases e : ps3.length = 1
    · have h5 := h2.last
      have h6 := h3.last
      have h7 := h3.first
      rw [e] at h6 ⊢
      rw [List.getElem?_append_left (by omega)]
      simp only [List.getD_eq_getElem?_getD] at h5 h6 h7
      rw [show ps2.length + 1 - 1 - 1 = ps2.length - 1 by omega, h5]
      rw [show (1 : Nat) - 1 = 0 from rfl] at h6 ⊢
      rw [h7]
    · rw [List.getElem?_append_right (by omega), List.getElem?_drop, show 1 + (ps2.length + ps3.length - 1 - 1 - ps2.length) = ps3.length - 1 by omega]
  rw [e0, el] at w1
  exact ⟨u, hu, b1, (h.pr.least.low tq _ w1).2⟩
end
end Go.Proofs.Ytbjomkidjccdoaa
