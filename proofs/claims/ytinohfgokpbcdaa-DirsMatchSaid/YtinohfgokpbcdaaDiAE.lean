/- Contracts: tarnlaw2.nextMatches of what water.Next returns. -/
import Derived.Test.YtinohfgokpbcdaaDiAD
import Derived.Test.YtinohfgokpbcdaaShowA
import Derived.Test.YtinohfgokpbcdaaPlaces
import Derived.Test.YtinohfgokpbcdaaWetA
import Derived.Test.YtinohfgokpbcdaaGridB
namespace Go.Proofs.Ytinohfgokpbcdaa
open Go.RowKit
attribute [local go_sem ↓] Go.wp_at_zero Go.wp_at_succ
attribute [local go_sem] run_store_float

theorem cell_spot {X Y : Int} {Wn Hn k : Nat} (hr : Reg X Y Wn Hn) (hk : k < Wn * Hn) : InR X Y Wn Hn (colK X Wn k) (rowK Y Wn k) ∧ cellN X Y Wn (colK X Wn k) (rowK Y Wn k) = k := by
  obtain ⟨f1, f2⟩ := grid_facts hr.w1 hk
  have h3 := Nat.div_add_mod k Wn
  unfold InR cellN colK rowK
  generalize k % Wn = a at *
  generalize k / Wn = b at *
  have h4 : (b : Int) * (Wn : Int) = ((Wn * b : Nat) : Int) := by rw [Int.natCast_mul, Int.mul_comm]
  have e1 : Y + (b : Int) - Y = b := by omega
  rw [e1, h4]
  refine ⟨⟨?_, ?_, ?_, ?_⟩, ?_⟩ <;> omega
/-- where Next leads from a cell -/
def nxtP (X Y : Int) (Wn : Nat) (o : Option Nat) : Value := match o with
  | none => .tuple #[.agg #[.int .i64 0, .int .i64 0], .bool false, .int .i64 0]
  | some n => .tuple #[.agg #[.int .i64 (colK X Wn n), .int .i64 (rowK Y Wn n)], .bool true, .int .i64 0]
set_option maxRecDepth 100000 in
set_option maxHeartbeats 6400000 in
theorem Next_ok (X Y : Int) (Wn Hn N c k : Nat) (A : Option Addr) (D : Nat → Int) (m : Nat → Nat) (w : World) (hr : Reg X Y Wn Hn) (hr0 : regE X Y Wn Hn = 0) (hN : N = Wn * Hn) (hD : DirsAt w A N D) (hL : Lead Wn Hn N D m) (hk : k < N) :
    Calls Try.prog 47 #[rgv X Y Wn Hn, .slice A N c, .agg #[.int .i64 (colK X Wn k), .int .i64 (rowK Y Wn k)]] w fun e w' => e = .returned (nxtP X Y Wn (nxtD D Wn Hn k)) ∧ Ext w w' := by
  have hkW : k < Wn * Hn := by rw [← hN]; exact hk
  obtain ⟨hin, hce⟩ := cell_spot hr hkW
  have HC := hidA (fun (w' : World) (h : Ext w w') => CheckDirs_ok X Y Wn Hn N c A D m w' hr hr0 hN (hD.ext h) hL)
  have HP := fun (w : World) => hidA (place_in X Y Wn Hn _ _ w hr.ok hin)
  rw [hce] at HP
  have HNx := hidA (fun (w' : World) (h : Ext w w') => next_any X Y Wn Hn N k c A D w' hr hN (hD.ext h) hk (hL.rng k hk).1 (hL.rng k hk).2 (hL.valid.into k hk))
  have HPt := hidA (fun (n : Nat) (w : World) (hn : n < Wn * Hn) => point_any X Y Wn Hn n w hr hn)
  unfold rgv at HC HNx HPt ⊢
  have Hlt := hidA (fun (n : Nat) (h : nxtD D Wn Hn k = some n) => nxt_lt h)
  clear hr hr0 hN hD hL hk hkW hin hce
  generalize nxtD D Wn Hn k = o at *
  generalize colK X Wn k = px at *
  generalize rowK Y Wn k = py at *
  have kR : Bk (((w.alloc (.cells #[.int .i64 X, .int .i64 Y, .int .i64 (Wn : Int), .int .i64 (Hn : Int)] 23)).alloc (.cells #[.int .i64 px, .int .i64 py] 76)).alloc (.cells #[.int .i64 0, .int .i64 0] 76)) w.heap.size 23 #[.int .i64 X, .int .i64 Y, .int .i64 (Wn : Int), .int .i64 (Hn : Int)] := ((Bk.new' rfl).alloc _).alloc _
  have kP : Bk (((w.alloc (.cells #[.int .i64 X, .int .i64 Y, .int .i64 (Wn : Int), .int .i64 (Hn : Int)] 23)).alloc (.cells #[.int .i64 px, .int .i64 py] 76)).alloc (.cells #[.int .i64 0, .int .i64 0] 76)) (w.heap.size + 1) 76 #[.int .i64 px, .int .i64 py] := (Bk.new' (by simp)).alloc _
  have kZ : Bk (((w.alloc (.cells #[.int .i64 X, .int .i64 Y, .int .i64 (Wn : Int), .int .i64 (Hn : Int)] 23)).alloc (.cells #[.int .i64 px, .int .i64 py] 76)).alloc (.cells #[.int .i64 0, .int .i64 0] 76)) (w.heap.size + 1 + 1) 76 #[.int .i64 0, .int .i64 0] := Bk.new' (by simp)
  have hx0 : Ext w (((w.alloc (.cells #[.int .i64 X, .int .i64 Y, .int .i64 (Wn : Int), .int .i64 (Hn : Int)] 23)).alloc (.cells #[.int .i64 px, .int .i64 py] 76)).alloc (.cells #[.int .i64 0, .int .i64 0] 76)) := (((Ext.refl w).alloc _).alloc _).alloc _
  go_enter Try.func47, Try.ntmps47
  go_upto_region 1 with fail
  generalize ((w.alloc (.cells #[.int .i64 X, .int .i64 Y, .int .i64 (Wn : Int), .int .i64 (Hn : Int)] 23)).alloc (.cells #[.int .i64 px, .int .i64 py] 76)).alloc (.cells #[.int .i64 0, .int .i64 0] 76) = w1 at *
  have Hz := hidA (show w.heap.size ≤ w.heap.size + 1 + 1 by omega)
  generalize w.heap.size + 1 + 1 = hz at *
  generalize w.heap.size + 1 = hp at *
  generalize w.heap.size = h0 at kR
  have c0 := kR.cell 0
  have c1 := kR.cell 1
  have c2 := kR.cell 2
  have c3 := kR.cell 3
  go_upto_region 4 with (go_at_call 45; refine (HC.out _ (hx0.trans (by repeat (first | exact Ext.refl _ | assumption | refine Ext.setCell ?_ (by first | (simp; done) | (simp; omega)) _ | refine Ext.drewN ?_ _ | refine Ext.alloc ?_ _ | refine Ext.drew ?_ | refine Ext.trans ?_ (by assumption))))).mono ?_; rintro e w2 ⟨rfl, hx2⟩)
  have kR2 := kR.ext hx2
  have kP2 := kP.ext hx2
  have kZ2 := kZ.ext hx2
  have hxw := hx0.trans hx2
  clear c0 c1 c2 c3 kR kP kZ hx0 hx2 HC
  have c0 := kR2.cell 0
  have c1 := kR2.cell 1
  have c2 := kR2.cell 2
  have c3 := kR2.cell 3
  have p0 := kP2.cell 0
  have p1 := kP2.cell 1
  go_upto_region 7 with (go_at_call 106; refine ((HP _).out).mono ?_; rintro e w3 ⟨rfl, hx3⟩)
  have kR3 := kR2.ext hx3
  have kZ3 := kZ2.ext hx3
  have hxw3 := hxw.trans hx3
  clear c0 c1 c2 c3 p0 p1 kR2 kP2 kZ2 hxw hx3 HP
  have c0 := kR3.cell 0
  have c1 := kR3.cell 1
  have c2 := kR3.cell 2
  have c3 := kR3.cell 3
  go_upto_region 8 with (go_at_call 107; refine (HNx.out _ (hxw3.trans (by repeat (first | exact Ext.refl _ | assumption | refine Ext.setCell ?_ (by first | (simp; done) | (simp; omega)) _ | refine Ext.drewN ?_ _ | refine Ext.alloc ?_ _ | refine Ext.drew ?_ | refine Ext.trans ?_ (by assumption))))).mono ?_; rintro e w4 ⟨rfl, hx4⟩)
  have kR4 := kR3.ext hx4
  have kZ4 := kZ3.ext hx4
  have hxw4 := hxw3.trans hx4
  clear c0 c1 c2 c3 kR3 kZ3 hxw3 hx4 HNx
  have c0 := kR4.cell 0
  have c1 := kR4.cell 1
  have c2 := kR4.cell 2
  have c3 := kR4.cell 3
  have z0 := kZ4.cell 0
  have z1 := kZ4.cell 1
  have y0 := kZ4.frozen 0
  have y1 := kZ4.frozen 1
  cases o with
  | none =>
    rw [show nbI none = -1 from rfl]
    go_wp2_with fail
    refine bodyPost_ret (v := .tuple #[.agg #[.int .i64 0, .int .i64 0], .bool false, .int .i64 0]) (by simp [results, Try.results47, go_sem, z0, z1]) rfl ⟨rfl, ?_⟩
    repeat (first | (with_reducible exact hxw4) | (with_reducible refine Ext.setCell ?_ Hz.out _))
  | some n =>
    have hn := Hlt.out n rfl
    have HPn := fun (w : World) => HPt.out n w hn
    rw [show nbI (some n) = (n : Int) from rfl]
    have hne : (((n : Nat) : Int) == -1) = false := by simp
    have hne2 : ¬ ((n : Nat) : Int) = -1 := by omega
    clear HPt Hlt hn
    generalize hcol : colK X Wn n = qx at *
    generalize hrow : rowK Y Wn n = qy at *
    have Hcr := hidA (And.intro hcol hrow)
    clear hcol hrow
    go_wp2_with (go_at_call 86; refine (HPn _).mono ?_; rintro e w5 ⟨rfl, hx5⟩; have kZ5 := kZ4.ext hx5; have z0 := kZ5.cell 0; have z1 := kZ5.cell 1; have y0 := kZ5.frozen 0; have y1 := kZ5.frozen 1)
    refine bodyPost_ret (v := .tuple #[.agg #[.int .i64 qx, .int .i64 qy], .bool true, .int .i64 0]) (by simp [results, Try.results47, go_sem, z0, z1]) rfl ⟨?_, ?_⟩
    · show Ending.returned _ = Ending.returned (.tuple #[.agg #[.int .i64 (colK X Wn n), .int .i64 (rowK Y Wn n)], .bool true, .int .i64 0])
      rw [Hcr.out.1, Hcr.out.2]
    · have h5 := hxw4.trans hx5
      repeat (first | (with_reducible exact h5) | (with_reducible refine Ext.setCell ?_ Hz.out _))
end Go.Proofs.Ytinohfgokpbcdaa

namespace Go.Proofs.Ytinohfgokpbcdaa
open Go.RowKit
attribute [local go_sem ↓] Go.wp_at_zero Go.wp_at_succ
attribute [local go_sem] run_store_float

set_option maxRecDepth 100000 in
set_option maxHeartbeats 3200000 in
theorem Gather_bad (x y ww hh : Int) (A : Option Addr) (n c : Nat) (q : List Int) (R : Option Addr) (nR cR : Nat) (w : World) (hq : q.length = n) (hR : Rd w A (intL q)) (hb : n ≤ 140737488351232) (hE : dirsE x y ww hh q ≠ 0) :
    Calls Try.prog 48 #[.agg #[.int .i64 x, .int .i64 y, .int .i64 ww, .int .i64 hh], .slice A n c, .slice R nR cR] w fun e w' => e = .returned (.tuple #[.slice none 0 0, .int .i64 (dirsE x y ww hh q)]) ∧ Ext w w' := by
  have HC := hidA (fun (w' : World) (h : Ext w w') => CheckDirs_any x y ww hh A n c q w' hq (hR.ext h) hb)
  have hne : (dirsE x y ww hh q != 0) = true := by simpa using hE
  generalize dirsE x y ww hh q = E at *
  clear hq hR hb
  have kR : Bk (w.alloc (.cells #[.int .i64 x, .int .i64 y, .int .i64 ww, .int .i64 hh] 23)) w.heap.size 23 #[.int .i64 x, .int .i64 y, .int .i64 ww, .int .i64 hh] := Bk.new' rfl
  have hx0 : Ext w (w.alloc (.cells #[.int .i64 x, .int .i64 y, .int .i64 ww, .int .i64 hh] 23)) := (Ext.refl w).alloc _
  go_enter Try.func48, Try.ntmps48
  go_upto_region 1 with fail
  generalize w.alloc (.cells #[.int .i64 x, .int .i64 y, .int .i64 ww, .int .i64 hh] 23) = w1 at *
  generalize w.heap.size = h0 at kR ⊢
  have c0 := kR.cell 0
  have c1 := kR.cell 1
  have c2 := kR.cell 2
  have c3 := kR.cell 3
  go_wp2_with (go_at_call 45; refine (HC.out _ (hx0.trans (by repeat (first | exact Ext.refl _ | assumption | refine Ext.setCell ?_ (by first | (simp; done) | (simp; omega)) _ | refine Ext.drewN ?_ _ | refine Ext.alloc ?_ _ | refine Ext.drew ?_ | refine Ext.trans ?_ (by assumption))))).mono ?_; rintro e w2 ⟨rfl, hx2⟩)
  refine bodyPost_ret (v := .tuple #[.slice none 0 0, .int .i64 E]) (by simp [results, Try.results48, go_sem]) rfl ⟨rfl, hx0.trans hx2⟩
set_option maxRecDepth 100000 in
set_option maxHeartbeats 3200000 in
theorem Basins_bad (x y ww hh : Int) (A : Option Addr) (n c : Nat) (q : List Int) (w : World) (hq : q.length = n) (hR : Rd w A (intL q)) (hb : n ≤ 140737488351232) (hE : dirsE x y ww hh q ≠ 0) :
    Calls Try.prog 49 #[.agg #[.int .i64 x, .int .i64 y, .int .i64 ww, .int .i64 hh], .slice A n c] w fun e w' => e = .returned (.tuple #[.slice none 0 0, .slice none 0 0, .int .i64 (dirsE x y ww hh q)]) ∧ Ext w w' := by
  have HC := hidA (fun (w' : World) (h : Ext w w') => CheckDirs_any x y ww hh A n c q w' hq (hR.ext h) hb)
  have hne : (dirsE x y ww hh q != 0) = true := by simpa using hE
  generalize dirsE x y ww hh q = E at *
  clear hq hR hb
  have kR : Bk (w.alloc (.cells #[.int .i64 x, .int .i64 y, .int .i64 ww, .int .i64 hh] 23)) w.heap.size 23 #[.int .i64 x, .int .i64 y, .int .i64 ww, .int .i64 hh] := Bk.new' rfl
  have hx0 : Ext w (w.alloc (.cells #[.int .i64 x, .int .i64 y, .int .i64 ww, .int .i64 hh] 23)) := (Ext.refl w).alloc _
  go_enter Try.func49, Try.ntmps49
  go_upto_region 1 with fail
  generalize w.alloc (.cells #[.int .i64 x, .int .i64 y, .int .i64 ww, .int .i64 hh] 23) = w1 at *
  generalize w.heap.size = h0 at kR ⊢
  have c0 := kR.cell 0
  have c1 := kR.cell 1
  have c2 := kR.cell 2
  have c3 := kR.cell 3
  go_wp2_with (go_at_call 45; refine (HC.out _ (hx0.trans (by repeat (first | exact Ext.refl _ | assumption | refine Ext.setCell ?_ (by first | (simp; done) | (simp; omega)) _ | refine Ext.drewN ?_ _ | refine Ext.alloc ?_ _ | refine Ext.drew ?_ | refine Ext.trans ?_ (by assumption))))).mono ?_; rintro e w2 ⟨rfl, hx2⟩)
  refine bodyPost_ret (v := .tuple #[.slice none 0 0, .slice none 0 0, .int .i64 E]) (by simp [results, Try.results49, go_sem]) rfl ⟨rfl, hx0.trans hx2⟩
set_option maxRecDepth 100000 in
set_option maxHeartbeats 3200000 in
theorem Far_bad (x y ww hh : Int) (A : Option Addr) (n c : Nat) (q : List Int) (w : World) (hq : q.length = n) (hR : Rd w A (intL q)) (hb : n ≤ 140737488351232) (hE : dirsE x y ww hh q ≠ 0) :
    Calls Try.prog 50 #[.agg #[.int .i64 x, .int .i64 y, .int .i64 ww, .int .i64 hh], .slice A n c] w fun e w' => e = .returned (.tuple #[.slice none 0 0, .int .i64 (dirsE x y ww hh q)]) ∧ Ext w w' := by
  have HC := hidA (fun (w' : World) (h : Ext w w') => CheckDirs_any x y ww hh A n c q w' hq (hR.ext h) hb)
  have hne : (dirsE x y ww hh q != 0) = true := by simpa using hE
  generalize dirsE x y ww hh q = E at *
  clear hq hR hb
  have kR : Bk (w.alloc (.cells #[.int .i64 x, .int .i64 y, .int .i64 ww, .int .i64 hh] 23)) w.heap.size 23 #[.int .i64 x, .int .i64 y, .int .i64 ww, .int .i64 hh] := Bk.new' rfl
  have hx0 : Ext w (w.alloc (.cells #[.int .i64 x, .int .i64 y, .int .i64 ww, .int .i64 hh] 23)) := (Ext.refl w).alloc _
  go_enter Try.func50, Try.ntmps50
  go_upto_region 1 with fail
  generalize w.alloc (.cells #[.int .i64 x, .int .i64 y, .int .i64 ww, .int .i64 hh] 23) = w1 at *
  generalize w.heap.size = h0 at kR ⊢
  have c0 := kR.cell 0
  have c1 := kR.cell 1
  have c2 := kR.cell 2
  have c3 := kR.cell 3
  go_wp2_with (go_at_call 45; refine (HC.out _ (hx0.trans (by repeat (first | exact Ext.refl _ | assumption | refine Ext.setCell ?_ (by first | (simp; done) | (simp; omega)) _ | refine Ext.drewN ?_ _ | refine Ext.alloc ?_ _ | refine Ext.drew ?_ | refine Ext.trans ?_ (by assumption))))).mono ?_; rintro e w2 ⟨rfl, hx2⟩)
  refine bodyPost_ret (v := .tuple #[.slice none 0 0, .int .i64 E]) (by simp [results, Try.results50, go_sem]) rfl ⟨rfl, hx0.trans hx2⟩
set_option maxRecDepth 100000 in
set_option maxHeartbeats 3200000 in
theorem Next_bad (x y ww hh px py : Int) (A : Option Addr) (n c : Nat) (q : List Int) (w : World) (hq : q.length = n) (hR : Rd w A (intL q)) (hb : n ≤ 140737488351232) (hE : dirsE x y ww hh q ≠ 0) :
    Calls Try.prog 47 #[.agg #[.int .i64 x, .int .i64 y, .int .i64 ww, .int .i64 hh], .slice A n c, .agg #[.int .i64 px, .int .i64 py]] w fun e w' => e = .returned (.tuple #[.agg #[.int .i64 0, .int .i64 0], .bool false, .int .i64 (dirsE x y ww hh q)]) ∧ Ext w w' := by
  have HC := hidA (fun (w' : World) (h : Ext w w') => CheckDirs_any x y ww hh A n c q w' hq (hR.ext h) hb)
  have hne : (dirsE x y ww hh q != 0) = true := by simpa using hE
  generalize dirsE x y ww hh q = E at *
  clear hq hR hb
  have kR : Bk (((w.alloc (.cells #[.int .i64 x, .int .i64 y, .int .i64 ww, .int .i64 hh] 23)).alloc (.cells #[.int .i64 px, .int .i64 py] 76)).alloc (.cells #[.int .i64 0, .int .i64 0] 76)) w.heap.size 23 #[.int .i64 x, .int .i64 y, .int .i64 ww, .int .i64 hh] := ((Bk.new' rfl).alloc _).alloc _
  have kZ : Bk (((w.alloc (.cells #[.int .i64 x, .int .i64 y, .int .i64 ww, .int .i64 hh] 23)).alloc (.cells #[.int .i64 px, .int .i64 py] 76)).alloc (.cells #[.int .i64 0, .int .i64 0] 76)) (w.heap.size + 1 + 1) 76 #[.int .i64 0, .int .i64 0] := Bk.new' (by simp)
  have hx0 : Ext w (((w.alloc (.cells #[.int .i64 x, .int .i64 y, .int .i64 ww, .int .i64 hh] 23)).alloc (.cells #[.int .i64 px, .int .i64 py] 76)).alloc (.cells #[.int .i64 0, .int .i64 0] 76)) := (((Ext.refl w).alloc _).alloc _).alloc _
  go_enter Try.func47, Try.ntmps47
  go_upto_region 1 with fail
  generalize ((w.alloc (.cells #[.int .i64 x, .int .i64 y, .int .i64 ww, .int .i64 hh] 23)).alloc (.cells #[.int .i64 px, .int .i64 py] 76)).alloc (.cells #[.int .i64 0, .int .i64 0] 76) = w1 at *
  have Hz := hidA (show w.heap.size ≤ w.heap.size + 1 + 1 by omega)
  generalize w.heap.size + 1 + 1 = hz at *
  generalize w.heap.size = h0 at kR
  have c0 := kR.cell 0
  have c1 := kR.cell 1
  have c2 := kR.cell 2
  have c3 := kR.cell 3
  go_wp2_with (go_at_call 45; refine (HC.out _ (hx0.trans (by repeat (first | exact Ext.refl _ | assumption | refine Ext.setCell ?_ (by first | (simp; done) | (simp; omega)) _ | refine Ext.drewN ?_ _ | refine Ext.alloc ?_ _ | refine Ext.drew ?_ | refine Ext.trans ?_ (by assumption))))).mono ?_; rintro e w2 ⟨rfl, hx2⟩; have kZ2 := kZ.ext hx2; have z0 := kZ2.cell 0; have z1 := kZ2.cell 1; have y0 := kZ2.frozen 0; have y1 := kZ2.frozen 1)
  refine bodyPost_ret (v := .tuple #[.agg #[.int .i64 0, .int .i64 0], .bool false, .int .i64 E]) (by simp [results, Try.results47, go_sem, z0, z1]) rfl ⟨rfl, ?_⟩
  have h5 := hx0.trans hx2
  repeat (first | (with_reducible exact h5) | (with_reducible refine Ext.setCell ?_ Hz.out _))
set_option maxRecDepth 100000 in
set_option maxHeartbeats 3200000 in
theorem Next_out (X Y px py : Int) (Wn Hn N c : Nat) (A : Option Addr) (D : Nat → Int) (m : Nat → Nat) (w : World) (hr : Reg X Y Wn Hn) (hr0 : regE X Y Wn Hn = 0) (hN : N = Wn * Hn) (hD : DirsAt w A N D) (hL : Lead Wn Hn N D m) (ho : ¬ InR X Y Wn Hn px py) :
    Calls Try.prog 47 #[.agg #[.int .i64 X, .int .i64 Y, .int .i64 (Wn : Int), .int .i64 (Hn : Int)], .slice A N c, .agg #[.int .i64 px, .int .i64 py]] w fun e w' => e = .returned (.tuple #[.agg #[.int .i64 0, .int .i64 0], .bool false, .int .i64 5]) ∧ Ext w w' := by
  have HC := hidA (fun (w' : World) (h : Ext w w') => CheckDirs_ok X Y Wn Hn N c A D m w' hr hr0 hN (hD.ext h) hL)
  have HP := fun (w : World) => hidA (place_out X Y Wn Hn px py w hr.ok ho)
  unfold rgv at HC
  clear hr hr0 hN hD hL ho
  have kR : Bk (((w.alloc (.cells #[.int .i64 X, .int .i64 Y, .int .i64 (Wn : Int), .int .i64 (Hn : Int)] 23)).alloc (.cells #[.int .i64 px, .int .i64 py] 76)).alloc (.cells #[.int .i64 0, .int .i64 0] 76)) w.heap.size 23 #[.int .i64 X, .int .i64 Y, .int .i64 (Wn : Int), .int .i64 (Hn : Int)] := ((Bk.new' rfl).alloc _).alloc _
  have kP : Bk (((w.alloc (.cells #[.int .i64 X, .int .i64 Y, .int .i64 (Wn : Int), .int .i64 (Hn : Int)] 23)).alloc (.cells #[.int .i64 px, .int .i64 py] 76)).alloc (.cells #[.int .i64 0, .int .i64 0] 76)) (w.heap.size + 1) 76 #[.int .i64 px, .int .i64 py] := (Bk.new' (by simp)).alloc _
  have kZ : Bk (((w.alloc (.cells #[.int .i64 X, .int .i64 Y, .int .i64 (Wn : Int), .int .i64 (Hn : Int)] 23)).alloc (.cells #[.int .i64 px, .int .i64 py] 76)).alloc (.cells #[.int .i64 0, .int .i64 0] 76)) (w.heap.size + 1 + 1) 76 #[.int .i64 0, .int .i64 0] := Bk.new' (by simp)
  have hx0 : Ext w (((w.alloc (.cells #[.int .i64 X, .int .i64 Y, .int .i64 (Wn : Int), .int .i64 (Hn : Int)] 23)).alloc (.cells #[.int .i64 px, .int .i64 py] 76)).alloc (.cells #[.int .i64 0, .int .i64 0] 76)) := (((Ext.refl w).alloc _).alloc _).alloc _
  go_enter Try.func47, Try.ntmps47
  go_upto_region 1 with fail
  generalize ((w.alloc (.cells #[.int .i64 X, .int .i64 Y, .int .i64 (Wn : Int), .int .i64 (Hn : Int)] 23)).alloc (.cells #[.int .i64 px, .int .i64 py] 76)).alloc (.cells #[.int .i64 0, .int .i64 0] 76) = w1 at *
  have Hz := hidA (show w.heap.size ≤ w.heap.size + 1 + 1 by omega)
  generalize w.heap.size + 1 + 1 = hz at *
  generalize w.heap.size + 1 = hp at *
  generalize w.heap.size = h0 at kR
  have c0 := kR.cell 0
  have c1 := kR.cell 1
  have c2 := kR.cell 2
  have c3 := kR.cell 3
  go_upto_region 4 with (go_at_call 45; refine (HC.out _ (hx0.trans (by repeat (first | exact Ext.refl _ | assumption | refine Ext.setCell ?_ (by first | (simp; done) | (simp; omega)) _ | refine Ext.drewN ?_ _ | refine Ext.alloc ?_ _ | refine Ext.drew ?_ | refine Ext.trans ?_ (by assumption))))).mono ?_; rintro e w2 ⟨rfl, hx2⟩)
  have kR2 := kR.ext hx2
  have kP2 := kP.ext hx2
  have kZ2 := kZ.ext hx2
  have hxw := hx0.trans hx2
  clear c0 c1 c2 c3 kR kP kZ hx0 hx2 HC
  have c0 := kR2.cell 0
  have c1 := kR2.cell 1
  have c2 := kR2.cell 2
  have c3 := kR2.cell 3
  have p0 := kP2.cell 0
  have p1 := kP2.cell 1
  go_wp2_with (go_at_call 106; refine ((HP _).out).mono ?_; rintro e w3 ⟨rfl, hx3⟩; have kZ3 := kZ2.ext hx3; have z0 := kZ3.cell 0; have z1 := kZ3.cell 1; have y0 := kZ3.frozen 0; have y1 := kZ3.frozen 1)
  refine bodyPost_ret (v := .tuple #[.agg #[.int .i64 0, .int .i64 0], .bool false, .int .i64 5]) (by simp [results, Try.results47, go_sem, z0, z1]) rfl ⟨rfl, ?_⟩
  have h5 := hxw.trans hx3
  repeat (first | (with_reducible exact h5) | (with_reducible refine Ext.setCell ?_ Hz.out _))
set_option maxRecDepth 100000 in
set_option maxHeartbeats 3200000 in
theorem Gather_rain (X Y : Int) (Wn Hn N c nR cR : Nat) (A R : Option Addr) (D : Nat → Int) (m : Nat → Nat) (q : List Int) (w : World) (hr : Reg X Y Wn Hn) (hr0 : regE X Y Wn Hn = 0) (hN : N = Wn * Hn) (hD : DirsAt w A N D) (hL : Lead Wn Hn N D m) (hq : q.length = nR) (hR : Rd w R (intL q)) (hb : nR ≤ 140737488351232) (hE : numsE q N 1073741824 ≠ 0) :
    Calls Try.prog 48 #[.agg #[.int .i64 X, .int .i64 Y, .int .i64 (Wn : Int), .int .i64 (Hn : Int)], .slice A N c, .slice R nR cR] w fun e w' => e = .returned (.tuple #[.slice none 0 0, .int .i64 (numsE q N 1073741824)]) ∧ Ext w w' := by
  have HC := hidA (fun (w' : World) (h : Ext w w') => CheckDirs_ok X Y Wn Hn N c A D m w' hr hr0 hN (hD.ext h) hL)
  have HK := hidA (fun (w' : World) (h : Ext w w') => checkNumbers_any X Y Wn Hn N nR R cR q 1073741824 w' hr hN hq (Rd.ext hR h) hb)
  have hne : (numsE q N 1073741824 != 0) = true := by simpa using hE
  generalize numsE q N 1073741824 = E at *
  unfold rgv at HC HK
  clear hr hr0 hN hD hL hq hR hb
  have kR : Bk (w.alloc (.cells #[.int .i64 X, .int .i64 Y, .int .i64 (Wn : Int), .int .i64 (Hn : Int)] 23)) w.heap.size 23 #[.int .i64 X, .int .i64 Y, .int .i64 (Wn : Int), .int .i64 (Hn : Int)] := Bk.new' rfl
  have hx0 : Ext w (w.alloc (.cells #[.int .i64 X, .int .i64 Y, .int .i64 (Wn : Int), .int .i64 (Hn : Int)] 23)) := (Ext.refl w).alloc _
  go_enter Try.func48, Try.ntmps48
  go_upto_region 1 with fail
  generalize w.alloc (.cells #[.int .i64 X, .int .i64 Y, .int .i64 (Wn : Int), .int .i64 (Hn : Int)] 23) = w1 at *
  generalize w.heap.size = h0 at kR ⊢
  have c0 := kR.cell 0
  have c1 := kR.cell 1
  have c2 := kR.cell 2
  have c3 := kR.cell 3
  go_upto_region 4 with (go_at_call 45; refine (HC.out _ (hx0.trans (by repeat (first | exact Ext.refl _ | assumption | refine Ext.setCell ?_ (by first | (simp; done) | (simp; omega)) _ | refine Ext.drewN ?_ _ | refine Ext.alloc ?_ _ | refine Ext.drew ?_ | refine Ext.trans ?_ (by assumption))))).mono ?_; rintro e w2 ⟨rfl, hx2⟩)
  have kR2 := kR.ext hx2
  have hxw := hx0.trans hx2
  clear c0 c1 c2 c3 kR hx0 hx2 HC
  have c0 := kR2.cell 0
  have c1 := kR2.cell 1
  have c2 := kR2.cell 2
  have c3 := kR2.cell 3
  go_wp2_with (go_at_call 89; refine (HK.out _ (hxw.trans (by repeat (first | exact Ext.refl _ | assumption | refine Ext.setCell ?_ (by first | (simp; done) | (simp; omega)) _ | refine Ext.drewN ?_ _ | refine Ext.alloc ?_ _ | refine Ext.drew ?_ | refine Ext.trans ?_ (by assumption))))).mono ?_; rintro e w3 ⟨rfl, hx3⟩)
  refine bodyPost_ret (v := .tuple #[.slice none 0 0, .int .i64 E]) (by simp [results, Try.results48, go_sem]) rfl ⟨rfl, hxw.trans hx3⟩
end Go.Proofs.Ytinohfgokpbcdaa

namespace Go.Proofs.Ytinohfgokpbcdaa
open Go.RowKit
attribute [local go_sem ↓] Go.wp_at_zero Go.wp_at_succ

/-- a place in a region is that of its cell -/
theorem place_cell {X Y px py : Int} {Wn Hn : Nat} (_hr : Reg X Y Wn Hn) (h : InR X Y Wn Hn px py) : ∃ k, k < Wn * Hn ∧ colK X Wn k = px ∧ rowK Y Wn k = py := by
  unfold InR at h
  obtain ⟨a, ha⟩ : ∃ a : Nat, px - X = a := ⟨(px - X).toNat, by omega⟩
  obtain ⟨b, hb⟩ : ∃ b : Nat, py - Y = b := ⟨(py - Y).toNat, by omega⟩
  have haW : a < Wn := by omega
  refine ⟨b * Wn + a, mul_lt haW (by omega), ?_, ?_⟩
  · unfold colK
    have e1 : (b * Wn + a) % Wn = a := by rw [Nat.mul_comm, Nat.mul_add_mod, Nat.mod_eq_of_lt haW]
    rw [e1]
    omega
  · unfold rowK
    have e2 : (b * Wn + a) / Wn = b := by rw [Nat.mul_comm, Nat.mul_add_div (by omega), Nat.div_eq_of_lt haW, Nat.add_zero]
    rw [e2]
    omega
set_option maxRecDepth 100000 in
set_option maxHeartbeats 3200000 in
theorem nextM_out (X Y px py : Int) (Wn Hn N c : Nat) (A : Option Addr) (w : World) (hr : Reg X Y Wn Hn) (ho : ¬ InR X Y Wn Hn px py) :
    Calls Try.prog 51 #[.agg #[.int .i64 X, .int .i64 Y, .int .i64 (Wn : Int), .int .i64 (Hn : Int)], .slice A N c, .agg #[.int .i64 px, .int .i64 py], .agg #[.int .i64 0, .int .i64 0], .bool false, .int .i64 5] w fun e w' => e = .returned (.bool true) ∧ Ext w w' := by
  have HH := fun (w : World) => hidA (has_any X Y Wn Hn px py w)
  rw [hasB_ok hr.ok, decide_eq_false ho] at HH
  clear ho hr
  have kR : Bk (((w.alloc (.cells #[.int .i64 X, .int .i64 Y, .int .i64 (Wn : Int), .int .i64 (Hn : Int)] 23)).alloc (.cells #[.int .i64 px, .int .i64 py] 76)).alloc (.cells #[.int .i64 0, .int .i64 0] 76)) w.heap.size 23 #[.int .i64 X, .int .i64 Y, .int .i64 (Wn : Int), .int .i64 (Hn : Int)] := ((Bk.new' rfl).alloc _).alloc _
  have kP : Bk (((w.alloc (.cells #[.int .i64 X, .int .i64 Y, .int .i64 (Wn : Int), .int .i64 (Hn : Int)] 23)).alloc (.cells #[.int .i64 px, .int .i64 py] 76)).alloc (.cells #[.int .i64 0, .int .i64 0] 76)) (w.heap.size + 1) 76 #[.int .i64 px, .int .i64 py] := (Bk.new' (by simp)).alloc _
  have kT : Bk (((w.alloc (.cells #[.int .i64 X, .int .i64 Y, .int .i64 (Wn : Int), .int .i64 (Hn : Int)] 23)).alloc (.cells #[.int .i64 px, .int .i64 py] 76)).alloc (.cells #[.int .i64 0, .int .i64 0] 76)) (w.heap.size + 1 + 1) 76 #[.int .i64 0, .int .i64 0] := Bk.new' (by simp)
  have hx0 : Ext w (((w.alloc (.cells #[.int .i64 X, .int .i64 Y, .int .i64 (Wn : Int), .int .i64 (Hn : Int)] 23)).alloc (.cells #[.int .i64 px, .int .i64 py] 76)).alloc (.cells #[.int .i64 0, .int .i64 0] 76)) := (((Ext.refl w).alloc _).alloc _).alloc _
  go_enter Try.func51, Try.ntmps51
  go_upto_region 1 with fail
  generalize ((w.alloc (.cells #[.int .i64 X, .int .i64 Y, .int .i64 (Wn : Int), .int .i64 (Hn : Int)] 23)).alloc (.cells #[.int .i64 px, .int .i64 py] 76)).alloc (.cells #[.int .i64 0, .int .i64 0] 76) = w1 at *
  generalize w.heap.size + 1 + 1 = ht at *
  generalize w.heap.size + 1 = hp at *
  generalize w.heap.size = h0 at kR
  have c0 := kR.cell 0
  have c1 := kR.cell 1
  have c2 := kR.cell 2
  have c3 := kR.cell 3
  have p0 := kP.cell 0
  have p1 := kP.cell 1
  go_upto_region 2 with (go_at_call 59; refine ((HH _).out).mono ?_; rintro e w2 ⟨rfl, hx2⟩)
  have kT2 := kT.ext hx2
  have t0 := kT2.cell 0
  have t1 := kT2.cell 1
  go_wp2_with fail
  go_ret
  exact ⟨by first | rfl | simp, hx0.trans hx2⟩
set_option maxRecDepth 100000 in
set_option maxHeartbeats 3200000 in
theorem nextM_none (X Y : Int) (Wn Hn N c k : Nat) (A : Option Addr) (D : Nat → Int) (w : World) (hr : Reg X Y Wn Hn) (hN : N = Wn * Hn) (hD : DirsAt w A N D) (hk : k < N) (h0 : D k < 0) :
    Calls Try.prog 51 #[.agg #[.int .i64 X, .int .i64 Y, .int .i64 (Wn : Int), .int .i64 (Hn : Int)], .slice A N c, .agg #[.int .i64 (colK X Wn k), .int .i64 (rowK Y Wn k)], .agg #[.int .i64 0, .int .i64 0], .bool false, .int .i64 0] w fun e w' => e = .returned (.bool true) ∧ Ext w w' := by
  obtain ⟨hin, hce⟩ := cell_spot hr (show k < Wn * Hn by rw [← hN]; exact hk)
  have HH := fun (w : World) => hidA (has_any X Y Wn Hn (colK X Wn k) (rowK Y Wn k) w)
  rw [hasB_ok hr.ok, decide_eq_true hin] at HH
  have HCe := fun (w : World) => hidA (cell_any X Y Wn Hn (colK X Wn k) (rowK Y Wn k) w hr.ok hin)
  rw [hce] at HCe
  have HD := hidA hD
  have hN6 : N ≤ 65536 := by rw [hN]; exact hr.n
  obtain ⟨ad, rfl, _, _⟩ := hD.cell hk
  clear hin hce hr hN hD
  generalize colK X Wn k = px at *
  generalize rowK Y Wn k = py at *
  have kR : Bk (((w.alloc (.cells #[.int .i64 X, .int .i64 Y, .int .i64 (Wn : Int), .int .i64 (Hn : Int)] 23)).alloc (.cells #[.int .i64 px, .int .i64 py] 76)).alloc (.cells #[.int .i64 0, .int .i64 0] 76)) w.heap.size 23 #[.int .i64 X, .int .i64 Y, .int .i64 (Wn : Int), .int .i64 (Hn : Int)] := ((Bk.new' rfl).alloc _).alloc _
  have kP : Bk (((w.alloc (.cells #[.int .i64 X, .int .i64 Y, .int .i64 (Wn : Int), .int .i64 (Hn : Int)] 23)).alloc (.cells #[.int .i64 px, .int .i64 py] 76)).alloc (.cells #[.int .i64 0, .int .i64 0] 76)) (w.heap.size + 1) 76 #[.int .i64 px, .int .i64 py] := (Bk.new' (by simp)).alloc _
  have kT : Bk (((w.alloc (.cells #[.int .i64 X, .int .i64 Y, .int .i64 (Wn : Int), .int .i64 (Hn : Int)] 23)).alloc (.cells #[.int .i64 px, .int .i64 py] 76)).alloc (.cells #[.int .i64 0, .int .i64 0] 76)) (w.heap.size + 1 + 1) 76 #[.int .i64 0, .int .i64 0] := Bk.new' (by simp)
  have hx0 : Ext w (((w.alloc (.cells #[.int .i64 X, .int .i64 Y, .int .i64 (Wn : Int), .int .i64 (Hn : Int)] 23)).alloc (.cells #[.int .i64 px, .int .i64 py] 76)).alloc (.cells #[.int .i64 0, .int .i64 0] 76)) := (((Ext.refl w).alloc _).alloc _).alloc _
  go_enter Try.func51, Try.ntmps51
  go_upto_region 1 with fail
  generalize ((w.alloc (.cells #[.int .i64 X, .int .i64 Y, .int .i64 (Wn : Int), .int .i64 (Hn : Int)] 23)).alloc (.cells #[.int .i64 px, .int .i64 py] 76)).alloc (.cells #[.int .i64 0, .int .i64 0] 76) = w1 at *
  generalize w.heap.size + 1 + 1 = ht at *
  generalize w.heap.size + 1 = hp at *
  generalize w.heap.size = h0 at kR
  have c0 := kR.cell 0
  have c1 := kR.cell 1
  have c2 := kR.cell 2
  have c3 := kR.cell 3
  have p0 := kP.cell 0
  have p1 := kP.cell 1
  go_upto_region 3 with (go_at_call 59; refine ((HH _).out).mono ?_; rintro e w2 ⟨rfl, hx2⟩)
  have kR2 := kR.ext hx2
  have kP2 := kP.ext hx2
  have kT2 := kT.ext hx2
  have hxw := hx0.trans hx2
  clear c0 c1 c2 c3 p0 p1 kR kP kT hx0 hx2
  have c0 := kR2.cell 0
  have c1 := kR2.cell 1
  have c2 := kR2.cell 2
  have c3 := kR2.cell 3
  have p0 := kP2.cell 0
  have p1 := kP2.cell 1
  go_upto_region 4 with (go_at_call 60; refine ((HCe _).out).mono ?_; rintro e w3 ⟨rfl, hx3⟩)
  have kT3 := kT2.ext hx3
  have t0 := kT3.cell 0
  have t1 := kT3.cell 1
  have i1 : (0 : Int) ≤ k := by omega
  have i2 : (k : Int) < N := by omega
  obtain ⟨ad', e, _, q0⟩ := (HD.out.ext (hxw.trans hx3)).cell hk
  injection e with e
  subst e
  generalize D k = z at *
  go_wp2_with fail
  go_ret
  exact ⟨by first | rfl | simp, hxw.trans hx3⟩
set_option maxRecDepth 100000 in
set_option maxHeartbeats 6400000 in
theorem nextM_some (X Y : Int) (Wn Hn N c k n : Nat) (A : Option Addr) (D : Nat → Int) (m : Nat → Nat) (w : World) (hr : Reg X Y Wn Hn) (hN : N = Wn * Hn) (hD : DirsAt w A N D) (hL : Lead Wn Hn N D m) (hk : k < N) (hn : nxtD D Wn Hn k = some n) :
    Calls Try.prog 51 #[.agg #[.int .i64 X, .int .i64 Y, .int .i64 (Wn : Int), .int .i64 (Hn : Int)], .slice A N c, .agg #[.int .i64 (colK X Wn k), .int .i64 (rowK Y Wn k)], .agg #[.int .i64 (colK X Wn n), .int .i64 (rowK Y Wn n)], .bool true, .int .i64 0] w fun e w' => e = .returned (.bool true) ∧ Ext w w' := by
  obtain ⟨hin, hce⟩ := cell_spot hr (show k < Wn * Hn by rw [← hN]; exact hk)
  have HH := fun (w : World) => hidA (has_any X Y Wn Hn (colK X Wn k) (rowK Y Wn k) w)
  rw [hasB_ok hr.ok, decide_eq_true hin] at HH
  have HCe := fun (w : World) => hidA (cell_any X Y Wn Hn (colK X Wn k) (rowK Y Wn k) w hr.ok hin)
  rw [hce] at HCe
  have hN6 : N ≤ 65536 := by rw [hN]; exact hr.n
  have hnN : n < Wn * Hn := nxt_lt hn
  have h0 : 0 ≤ D k ∧ nbr Wn Hn k (D k).toNat = some n := by
    unfold nxtD at hn
    split at hn
    · cases hn
    · exact ⟨by omega, hn⟩
  have h8 := (hL.rng k hk).2
  have HNb := fun (w : World) => hidA (nb_any X Y Wn Hn k (D k).toNat w hr (by rw [← hN]; exact hk) (by omega))
  rw [h0.2, show nbI (some n) = (n : Int) from rfl, Int.toNat_of_nonneg h0.1] at HNb
  have HPl := fun (w : World) => hidA (Place_any X Y Wn Hn n w hr.ok (by rw [← hN] at hnN; omega))
  rw [show placeK X Y Wn n = (colK X Wn n, rowK Y Wn n) from rfl] at HPl
  unfold rgv at HNb
  have HD := hidA hD
  have hd0 := h0.1
  obtain ⟨ad, rfl, _, _⟩ := hD.cell hk
  clear hin hce hr hN hD hn h0 hL hnN
  generalize colK X Wn k = px at *
  generalize rowK Y Wn k = py at *
  generalize colK X Wn n = tx at *
  generalize rowK Y Wn n = ty at *
  have kR : Bk (((w.alloc (.cells #[.int .i64 X, .int .i64 Y, .int .i64 (Wn : Int), .int .i64 (Hn : Int)] 23)).alloc (.cells #[.int .i64 px, .int .i64 py] 76)).alloc (.cells #[.int .i64 tx, .int .i64 ty] 76)) w.heap.size 23 #[.int .i64 X, .int .i64 Y, .int .i64 (Wn : Int), .int .i64 (Hn : Int)] := ((Bk.new' rfl).alloc _).alloc _
  have kP : Bk (((w.alloc (.cells #[.int .i64 X, .int .i64 Y, .int .i64 (Wn : Int), .int .i64 (Hn : Int)] 23)).alloc (.cells #[.int .i64 px, .int .i64 py] 76)).alloc (.cells #[.int .i64 tx, .int .i64 ty] 76)) (w.heap.size + 1) 76 #[.int .i64 px, .int .i64 py] := (Bk.new' (by simp)).alloc _
  have kT : Bk (((w.alloc (.cells #[.int .i64 X, .int .i64 Y, .int .i64 (Wn : Int), .int .i64 (Hn : Int)] 23)).alloc (.cells #[.int .i64 px, .int .i64 py] 76)).alloc (.cells #[.int .i64 tx, .int .i64 ty] 76)) (w.heap.size + 1 + 1) 76 #[.int .i64 tx, .int .i64 ty] := Bk.new' (by simp)
  have hx0 : Ext w (((w.alloc (.cells #[.int .i64 X, .int .i64 Y, .int .i64 (Wn : Int), .int .i64 (Hn : Int)] 23)).alloc (.cells #[.int .i64 px, .int .i64 py] 76)).alloc (.cells #[.int .i64 tx, .int .i64 ty] 76)) := (((Ext.refl w).alloc _).alloc _).alloc _
  go_enter Try.func51, Try.ntmps51
  go_upto_region 1 with fail
  generalize ((w.alloc (.cells #[.int .i64 X, .int .i64 Y, .int .i64 (Wn : Int), .int .i64 (Hn : Int)] 23)).alloc (.cells #[.int .i64 px, .int .i64 py] 76)).alloc (.cells #[.int .i64 tx, .int .i64 ty] 76) = w1 at *
  generalize w.heap.size + 1 + 1 = ht at *
  generalize w.heap.size + 1 = hp at *
  generalize w.heap.size = h0 at kR
  have c0 := kR.cell 0
  have c1 := kR.cell 1
  have c2 := kR.cell 2
  have c3 := kR.cell 3
  have p0 := kP.cell 0
  have p1 := kP.cell 1
  go_upto_region 3 with (go_at_call 59; refine ((HH _).out).mono ?_; rintro e w2 ⟨rfl, hx2⟩)
  have kR2 := kR.ext hx2
  have kP2 := kP.ext hx2
  have kT2 := kT.ext hx2
  have hxw := hx0.trans hx2
  clear c0 c1 c2 c3 p0 p1 kR kP kT hx0 hx2
  have c0 := kR2.cell 0
  have c1 := kR2.cell 1
  have c2 := kR2.cell 2
  have c3 := kR2.cell 3
  have p0 := kP2.cell 0
  have p1 := kP2.cell 1
  go_upto_region 4 with (go_at_call 60; refine ((HCe _).out).mono ?_; rintro e w3 ⟨rfl, hx3⟩)
  have kR3 := kR2.ext hx3
  have kT3 := kT2.ext hx3
  have hxw3 := hxw.trans hx3
  clear c0 c1 c2 c3 p0 p1 kR2 kP2 kT2 hxw hx3
  have i1 : (0 : Int) ≤ k := by omega
  have i2 : (k : Int) < N := by omega
  have hq := hidA (fun (w' : World) (h : Ext w w') => show w'.cell? (ad.add k) = some (.int .i64 (D k)) from by
    obtain ⟨ad', e, _, q0⟩ := (HD.out.ext h).cell hk
    injection e with e
    subst e
    exact q0)
  have q0 := hq.out w3 hxw3
  generalize D k = z at *
  have hz : ¬ (z < 0) := by omega
  go_upto_region 6 with fail
  clear q0
  have e0 : ∀ w', Ext w3 w' → w'.cell? ⟨h0, 0, none⟩ = some (.int .i64 X) := fun w' h => (kR3.ext h).cell 0
  have e1 : ∀ w', Ext w3 w' → w'.cell? ⟨h0, 1, none⟩ = some (.int .i64 Y) := fun w' h => (kR3.ext h).cell 1
  have e2 : ∀ w', Ext w3 w' → w'.cell? ⟨h0, 2, none⟩ = some (.int .i64 (Wn : Int)) := fun w' h => (kR3.ext h).cell 2
  have e3 : ∀ w', Ext w3 w' → w'.cell? ⟨h0, 3, none⟩ = some (.int .i64 (Hn : Int)) := fun w' h => (kR3.ext h).cell 3
  have q2 : ∀ w', Ext w3 w' → w'.cell? (ad.add k) = some (.int .i64 z) := fun w' h => hq.out w' (hxw3.trans h)
  refine wp_region_noPanic ?_
  refine wp_region_held_drew (S := fun w' => Ext w3 w') (by kernel_rfl) ?_ (fun hHeld => ?_)
  · (repeat (first | exact Ext.refl _ | assumption | refine Ext.setCell ?_ (by first | (simp; done) | (simp; omega)) _ | refine Ext.drewN ?_ _ | refine Ext.alloc ?_ _ | refine Ext.drew ?_ | refine Ext.trans ?_ (by assumption)))
  refine wpAnyH_take (i := 0) (oi := ?o1x0) (v := ?v1x0) ?hi1x0 (by kernel_rfl) ?hf1x0 ?hr1x0 (fun _ _ _ h => h) ?hy1x0 (by assumption) ?rest1x0
  case hi1x0 => (simp only [List.getElem?_toArray, List.getElem?_cons_zero]; exact rfl)
  case hf1x0 => kernel_rfl
  case hr1x0 => kernel_rfl
  case hy1x0 => (refine Or.inl ⟨by rfl, ?_⟩; intro w hSw; (try dsimp only at hSw); go_simp; try with_reducible rfl)
  simp only [put_mk, List.set_cons_succ, List.set_cons_zero]
  refine wpAnyH_take (i := 1) (oi := ?o1x1) (v := ?v1x1) ?hi1x1 (by kernel_rfl) ?hf1x1 ?hr1x1 (fun _ _ _ h => h) ?hy1x1 (by assumption) ?rest1x1
  case hi1x1 => (simp only [List.getElem?_toArray, List.getElem?_cons_succ, List.getElem?_cons_zero]; exact rfl)
  case hf1x1 => kernel_rfl
  case hr1x1 => kernel_rfl
  case hy1x1 => (refine Or.inl ⟨by rfl, ?_⟩; intro w hSw; (try dsimp only at hSw); go_simp; try with_reducible rfl)
  simp only [put_mk, List.set_cons_succ, List.set_cons_zero]
  refine wpAnyH_take (i := 2) (oi := ?o1x2) (v := ?v1x2) ?hi1x2 (by kernel_rfl) ?hf1x2 ?hr1x2 (fun _ _ _ h => h) ?hy1x2 (by assumption) ?rest1x2
  case hi1x2 => (simp only [List.getElem?_toArray, List.getElem?_cons_succ, List.getElem?_cons_zero]; exact rfl)
  case hf1x2 => kernel_rfl
  case hr1x2 => kernel_rfl
  case hy1x2 => (refine Or.inl ⟨by rfl, ?_⟩; intro w hSw; (try dsimp only at hSw); go_simp; try with_reducible rfl)
  simp only [put_mk, List.set_cons_succ, List.set_cons_zero]
  refine wpAnyH_take (i := 3) (oi := ?o1x3) (v := ?v1x3) ?hi1x3 (by kernel_rfl) ?hf1x3 ?hr1x3 (fun _ _ _ h => h) ?hy1x3 (by assumption) ?rest1x3
  case hi1x3 => (simp only [List.getElem?_toArray, List.getElem?_cons_succ, List.getElem?_cons_zero]; exact rfl)
  case hf1x3 => kernel_rfl
  case hr1x3 => kernel_rfl
  case hy1x3 => (refine Or.inl ⟨by rfl, ?_⟩; intro w hSw; (try dsimp only at hSw); go_simp; try with_reducible rfl)
  simp only [put_mk, List.set_cons_succ, List.set_cons_zero]
  refine wpAnyH_take (i := 4) (oi := ?o1x4) (v := ?v1x4) ?hi1x4 (by kernel_rfl) ?hf1x4 ?hr1x4 (fun _ _ _ h => h) ?hy1x4 (by assumption) ?rest1x4
  case hi1x4 => (simp only [List.getElem?_toArray, List.getElem?_cons_succ, List.getElem?_cons_zero]; exact rfl)
  case hf1x4 => kernel_rfl
  case hr1x4 => kernel_rfl
  case hy1x4 => (refine Or.inl ⟨by rfl, ?_⟩; intro w hSw; (try dsimp only at hSw); go_simp; try with_reducible rfl)
  simp only [put_mk, List.set_cons_succ, List.set_cons_zero]
  refine wpAnyH_take (i := 5) (oi := ?o1x5) (v := ?v1x5) ?hi1x5 (by kernel_rfl) ?hf1x5 ?hr1x5 (fun _ _ _ h => h) ?hy1x5 (by assumption) ?rest1x5
  case hi1x5 => (simp only [List.getElem?_toArray, List.getElem?_cons_succ, List.getElem?_cons_zero]; exact rfl)
  case hf1x5 => kernel_rfl
  case hr1x5 => kernel_rfl
  case hy1x5 => (refine Or.inl ⟨by rfl, ?_⟩; intro w hSw; (try dsimp only at hSw); go_simp; try with_reducible rfl)
  simp only [put_mk, List.set_cons_succ, List.set_cons_zero]
  refine wpAnyH_take (i := 6) (oi := ?o1x6) (v := ?v1x6) ?hi1x6 (by kernel_rfl) ?hf1x6 ?hr1x6 (fun _ _ _ h => h) ?hy1x6 (by assumption) ?rest1x6
  case hi1x6 => (simp only [List.getElem?_toArray, List.getElem?_cons_succ, List.getElem?_cons_zero]; exact rfl)
  case hf1x6 => kernel_rfl
  case hr1x6 => kernel_rfl
  case hy1x6 => (refine Or.inl ⟨by rfl, ?_⟩; intro w hSw; (try dsimp only at hSw); go_simp; try with_reducible rfl)
  simp only [put_mk, List.set_cons_succ, List.set_cons_zero]
  refine wpAnyH_ready (rs := [7]) (by kernel_rfl) (by simp) ?_
  refine AllReadyH.cons (o := ?o1x7) ?hi1x7 (fun K hK => ?_) AllReadyH.nil
  case hi1x7 => (simp only [List.getElem?_toArray, List.getElem?_cons_succ, List.getElem?_cons_zero]; exact rfl)
  go_simp
  refine ((HNb _).out).mono ?_
  rintro e w4 ⟨rfl, hx4⟩
  refine hK.out _ _ ?_ (fun hHeld => ?_)
  · (repeat (first | exact Ext.refl _ | assumption | refine Ext.setCell ?_ (by first | (simp; done) | (simp; omega)) _ | refine Ext.drewN ?_ _ | refine Ext.alloc ?_ _ | refine Ext.drew ?_ | refine Ext.trans ?_ (by assumption)))
  clear hK K
  refine wpAnyH_ready (rs := [8]) (by kernel_rfl) (by simp) ?_
  refine AllReadyH.cons (o := ?o1x8) ?hi1x8 (fun K hK => ?_) AllReadyH.nil
  case hi1x8 => (simp only [List.getElem?_toArray, List.getElem?_cons_succ, List.getElem?_cons_zero]; exact rfl)
  go_simp
  refine ((HPl _).out).mono ?_
  rintro e w5 ⟨rfl, hx5⟩
  refine hK.out _ _ ?_ (fun hHeld => ?_)
  · (repeat (first | exact Ext.refl _ | assumption | refine Ext.setCell ?_ (by first | (simp; done) | (simp; omega)) _ | refine Ext.drewN ?_ _ | refine Ext.alloc ?_ _ | refine Ext.drew ?_ | refine Ext.trans ?_ (by assumption)))
  clear hK K
  refine wpAnyH_take (i := 9) (oi := ?o1x9) (v := ?v1x9) ?hi1x9 (by kernel_rfl) ?hf1x9 ?hr1x9 (fun _ _ _ h => h) ?hy1x9 (by assumption) ?rest1x9
  case hi1x9 => (simp only [List.getElem?_toArray, List.getElem?_cons_succ, List.getElem?_cons_zero]; exact rfl)
  case hf1x9 => kernel_rfl
  case hr1x9 => kernel_rfl
  case hy1x9 => (refine Or.inl ⟨by rfl, ?_⟩; intro w hSw; (try dsimp only at hSw); go_simp; try with_reducible rfl)
  simp only [put_mk, List.set_cons_succ, List.set_cons_zero]
  refine wpAnyH_take (i := 10) (oi := ?o1x10) (v := ?v1x10) ?hi1x10 (by kernel_rfl) ?hf1x10 ?hr1x10 (fun _ _ _ h => h) ?hy1x10 (by assumption) ?rest1x10
  case hi1x10 => (simp only [List.getElem?_toArray, List.getElem?_cons_succ, List.getElem?_cons_zero]; exact rfl)
  case hf1x10 => kernel_rfl
  case hr1x10 => kernel_rfl
  case hy1x10 => (refine Or.inl ⟨by rfl, ?_⟩; intro w hSw; (try dsimp only at hSw); go_simp; try with_reducible rfl)
  simp only [put_mk, List.set_cons_succ, List.set_cons_zero]
  refine wpAnyH_take (i := 11) (oi := ?o1x11) (v := ?v1x11) ?hi1x11 (by kernel_rfl) ?hf1x11 ?hr1x11 (fun _ _ _ h => h) ?hy1x11 (by assumption) ?rest1x11
  case hi1x11 => (simp only [List.getElem?_toArray, List.getElem?_cons_succ, List.getElem?_cons_zero]; exact rfl)
  case hf1x11 => kernel_rfl
  case hr1x11 => kernel_rfl
  case hy1x11 => (refine Or.inl ⟨by rfl, ?_⟩; intro w hSw; (try dsimp only at hSw); go_simp; try with_reducible rfl)
  simp only [put_mk, List.set_cons_succ, List.set_cons_zero]
  refine wpAnyH_take (i := 12) (oi := ?o1x12) (v := ?v1x12) ?hi1x12 (by kernel_rfl) ?hf1x12 ?hr1x12 (fun _ _ _ h => h) ?hy1x12 (by assumption) ?rest1x12
  case hi1x12 => (simp only [List.getElem?_toArray, List.getElem?_cons_succ, List.getElem?_cons_zero]; exact rfl)
  case hf1x12 => kernel_rfl
  case hr1x12 => kernel_rfl
  case hy1x12 => (refine Or.inl ⟨by rfl, ?_⟩; intro w hSw; (try dsimp only at hSw); go_simp; try with_reducible rfl)
  simp only [put_mk, List.set_cons_succ, List.set_cons_zero]
  refine wpAnyH_take (i := 13) (oi := ?o1x13) (v := ?v1x13) ?hi1x13 (by kernel_rfl) ?hf1x13 ?hr1x13 (fun _ _ _ h => h) ?hy1x13 (by assumption) ?rest1x13
  case hi1x13 => (simp only [List.getElem?_toArray, List.getElem?_cons_succ, List.getElem?_cons_zero]; exact rfl)
  case hf1x13 => kernel_rfl
  case hr1x13 => kernel_rfl
  case hy1x13 => (refine Or.inl ⟨by rfl, ?_⟩; intro w hSw; (try dsimp only at hSw); go_simp; try with_reducible rfl)
  simp only [put_mk, List.set_cons_succ, List.set_cons_zero]
  refine wpAnyH_done (by kernel_rfl) ?_ _
  refine NoPanic.normal ?_
  have hx45 : Ext w3 w5 := Ext.trans (by repeat (first | exact Ext.refl _ | assumption | refine Ext.setCell ?_ (by first | (simp; done) | (simp; omega)) _ | refine Ext.drewN ?_ _ | refine Ext.alloc ?_ _ | refine Ext.drew ?_ | refine Ext.trans ?_ (by assumption))) hx5
  have kT5 := kT3.ext hx45
  have t0 := kT5.cell 0
  have t1 := kT5.cell 1
  clear e0 e1 e2 e3 q2
  go_wp2_with fail
  go_ret
  exact ⟨by first | rfl | simp, hxw3.trans hx45⟩
end Go.Proofs.Ytinohfgokpbcdaa
