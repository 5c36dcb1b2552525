/- The law WaysMatch: it returns true for every field, rules and places. -/
import Derived.Test.YtpgdinpckolfpaaRwAA
import Derived.Test.YtpgdinpckolfpaaRdT
import Derived.Test.YtpgdinpckolfpaaRwAE
import Derived.Test.YtpgdinpckolfpaaRwAB
namespace Go.Proofs.Ytpgdinpckolfpaa
open Go.RowKit
attribute [local go_sem ↓] Go.wp_at_zero Go.wp_at_succ
attribute [local go_sem] run_store_float

set_option maxRecDepth 100000 in
set_option maxHeartbeats 6400000 in
theorem Way_bad (X Y W H : Int) (A : Option Addr) (n c : Nat) (lf : List Nat) (gr wt br de : Nat) (sp : Int) (C : Option Addr) (m cc : Nat) (X' Y' W' H' : Int) (l : List Nat) (ax ay bx by' : Int) (w : World) (hn : lf.length = n) (hV : Rd w A (flt lf)) (hb : n ≤ 140737488351232) (hC : CoP w C m X' Y' W' H' l) (hm : m ≤ 140737488351232) (hE : grndE X Y W H lf gr wt br de sp m X' Y' W' H' l ≠ 0) :
    Calls Try.prog 24 #[.agg #[.int .i64 X, .int .i64 Y, .int .i64 W, .int .i64 H, .slice A n c], .agg #[.float .f32 gr, .float .f32 wt, .float .f32 br, .float .f32 de, .int .i64 sp, .slice C m cc], .agg #[.int .i64 ax, .int .i64 ay], .agg #[.int .i64 bx, .int .i64 by']] w fun e w' => e = .returned (.tuple #[.slice none 0 0, .float .f32 0, .int .i64 (grndE X Y W H lf gr wt br de sp m X' Y' W' H' l)]) ∧ Ext w w' := by
  have HC := fun (w' : World) (h : Ext w w') => hidA (chk_any X Y W H A n c lf gr wt br de sp C m cc X' Y' W' H' l w' hn (hV.ext h) hb (hC.ext h) hm)
  have hne : (grndE X Y W H lf gr wt br de sp m X' Y' W' H' l != 0) = true := by simpa using hE
  generalize grndE X Y W H lf gr wt br de sp m X' Y' W' H' l = E at *
  clear hn hV hb hC hm hE
  go_enter Try.func24, Try.ntmps24
  go_upto_region 1 with fail
  obtain ⟨w0, hw0⟩ : ∃ w0, w0 = (((w.alloc (.cells #[.int .i64 X, .int .i64 Y, .int .i64 W, .int .i64 H, .slice A n c] 26)).alloc (.cells #[.float .f32 gr, .float .f32 wt, .float .f32 br, .float .f32 de, .int .i64 sp, .slice C m cc] 30)).alloc (.cells #[.int .i64 ax, .int .i64 ay] 32)).alloc (.cells #[.int .i64 bx, .int .i64 by'] 32) := ⟨_, rfl⟩
  have kF : Bk w0 w.heap.size 26 #[.int .i64 X, .int .i64 Y, .int .i64 W, .int .i64 H, .slice A n c] := by rw [hw0]; exact (((Bk.new' rfl).alloc _).alloc _).alloc _
  have kR : Bk w0 (w.heap.size + 1) 30 #[.float .f32 gr, .float .f32 wt, .float .f32 br, .float .f32 de, .int .i64 sp, .slice C m cc] := by rw [hw0]; exact ((Bk.new' (by simp)).alloc _).alloc _
  have kA : Bk w0 (w.heap.size + 1 + 1) 32 #[.int .i64 ax, .int .i64 ay] := by rw [hw0]; exact (Bk.new' (by simp)).alloc _
  have kB : Bk w0 (w.heap.size + 1 + 1 + 1) 32 #[.int .i64 bx, .int .i64 by'] := by rw [hw0]; exact Bk.new' (by simp)
  have hx0 : Ext w w0 := by rw [hw0]; exact ((((Ext.refl w).alloc _).alloc _).alloc _).alloc _
  rw [← hw0]
  clear hw0
  generalize w.heap.size + 1 + 1 + 1 = hb at *
  generalize w.heap.size + 1 + 1 = ha at *
  generalize w.heap.size + 1 = hr at *
  generalize hfe : w.heap.size = hf at *
  clear hfe
  have f0 := kF.cell 0
  have f1 := kF.cell 1
  have f2 := kF.cell 2
  have f3 := kF.cell 3
  have f4 := kF.cell 4
  have r0 := kR.cell 0
  have r1 := kR.cell 1
  have r2 := kR.cell 2
  have r3 := kR.cell 3
  have r4 := kR.cell 4
  have r5 := kR.cell 5
  clear kF kR kA kB
  go_wp2_with (go_at_call 63; refine ((HC _ hx0).out).mono ?_; rintro e w1 ⟨rfl, hx1⟩)
  go_ret3
  exact ⟨rfl, hx0.trans hx1⟩
set_option maxRecDepth 100000 in
set_option maxHeartbeats 6400000 in
theorem Way_out (X Y : Int) (Wn Hn : Nat) (A : Option Addr) (N c : Nat) (lf : List Nat) (gr wt br de : Nat) (sp : Int) (C : Option Addr) (m cc : Nat) (X' Y' W' H' : Int) (l : List Nat) (ax ay bx by' : Int) (w : World) (hr : Reg X Y Wn Hn) (hn : lf.length = N) (hV : Rd w A (flt lf)) (hb : N ≤ 140737488351232) (hC : CoP w C m X' Y' W' H' l) (hm : m ≤ 140737488351232) (hE : grndE X Y Wn Hn lf gr wt br de sp m X' Y' W' H' l = 0) (hi : insE X Y Wn Hn [(ax, ay), (bx, by')] ≠ 0) :
    Calls Try.prog 24 #[.agg #[.int .i64 X, .int .i64 Y, .int .i64 (Wn : Int), .int .i64 (Hn : Int), .slice A N c], .agg #[.float .f32 gr, .float .f32 wt, .float .f32 br, .float .f32 de, .int .i64 sp, .slice C m cc], .agg #[.int .i64 ax, .int .i64 ay], .agg #[.int .i64 bx, .int .i64 by']] w fun e w' => e = .returned (.tuple #[.slice none 0 0, .float .f32 0, .int .i64 (insE X Y Wn Hn [(ax, ay), (bx, by')])]) ∧ Ext w w' := by
  have HC := fun (w' : World) (h : Ext w w') => hidA (chk_any X Y Wn Hn A N c lf gr wt br de sp C m cc X' Y' W' H' l w' hn (hV.ext h) hb (hC.ext h) hm)
  rw [hE] at HC
  have HI := fun (w' : World) (B : Option Addr) (h : Rd w' B (ptv [(ax, ay), (bx, by')])) => hidA (inside_any X Y Wn Hn A B N c 2 2 [(ax, ay), (bx, by')] w' hr.ok rfl h (by omega))
  have hne : (insE X Y Wn Hn [(ax, ay), (bx, by')] != 0) = true := by simpa using hi
  generalize insE X Y Wn Hn [(ax, ay), (bx, by')] = E at *
  clear hn hV hb hC hm hE hi hr
  go_enter Try.func24, Try.ntmps24
  go_upto_region 1 with fail
  obtain ⟨w0, hw0⟩ : ∃ w0, w0 = (((w.alloc (.cells #[.int .i64 X, .int .i64 Y, .int .i64 (Wn : Int), .int .i64 (Hn : Int), .slice A N c] 26)).alloc (.cells #[.float .f32 gr, .float .f32 wt, .float .f32 br, .float .f32 de, .int .i64 sp, .slice C m cc] 30)).alloc (.cells #[.int .i64 ax, .int .i64 ay] 32)).alloc (.cells #[.int .i64 bx, .int .i64 by'] 32) := ⟨_, rfl⟩
  have kF : Bk w0 w.heap.size 26 #[.int .i64 X, .int .i64 Y, .int .i64 (Wn : Int), .int .i64 (Hn : Int), .slice A N c] := by rw [hw0]; exact (((Bk.new' rfl).alloc _).alloc _).alloc _
  have kR : Bk w0 (w.heap.size + 1) 30 #[.float .f32 gr, .float .f32 wt, .float .f32 br, .float .f32 de, .int .i64 sp, .slice C m cc] := by rw [hw0]; exact ((Bk.new' (by simp)).alloc _).alloc _
  have kA : Bk w0 (w.heap.size + 1 + 1) 32 #[.int .i64 ax, .int .i64 ay] := by rw [hw0]; exact (Bk.new' (by simp)).alloc _
  have kB : Bk w0 (w.heap.size + 1 + 1 + 1) 32 #[.int .i64 bx, .int .i64 by'] := by rw [hw0]; exact Bk.new' (by simp)
  have hx0 : Ext w w0 := by rw [hw0]; exact ((((Ext.refl w).alloc _).alloc _).alloc _).alloc _
  rw [← hw0]
  clear hw0
  generalize w.heap.size + 1 + 1 + 1 = hb at *
  generalize w.heap.size + 1 + 1 = ha at *
  generalize w.heap.size + 1 = hr at *
  generalize hfe : w.heap.size = hf at *
  clear hfe
  have f0 := kF.cell 0
  have f1 := kF.cell 1
  have f2 := kF.cell 2
  have f3 := kF.cell 3
  have f4 := kF.cell 4
  have r0 := kR.cell 0
  have r1 := kR.cell 1
  have r2 := kR.cell 2
  have r3 := kR.cell 3
  have r4 := kR.cell 4
  have r5 := kR.cell 5
  go_upto_region 4 with (go_at_call 63; refine ((HC _ hx0).out).mono ?_; rintro e w1 ⟨rfl, hx1⟩)
  have kF1 := kF.ext hx1
  have kA1 := kA.ext hx1
  have kB1 := kB.ext hx1
  have hxa := hx0.trans hx1
  clear f0 f1 f2 f3 f4 r0 r1 r2 r3 r4 r5 kF kR kA kB hx0 hx1 HC
  have f0 := kF1.cell 0
  have f1 := kF1.cell 1
  have f2 := kF1.cell 2
  have f3 := kF1.cell 3
  have f4 := kF1.cell 4
  have a0 := kA1.cell 0
  have a1 := kA1.cell 1
  have b0 := kB1.cell 0
  have b1 := kB1.cell 1
  go_wp2_with (go_at_call 64; refine ((HI _ _ (Rd.new rfl rfl)).out).mono ?_; rintro e w2 ⟨rfl, hx2⟩)
  go_ret3
  exact ⟨rfl, hxa.trans (by repeat (first | exact Ext.refl _ | assumption | refine Ext.setCell ?_ (by first | (simp; done) | (simp; omega)) _ | refine Ext.drewN ?_ _ | refine Ext.alloc ?_ _ | refine Ext.drew ?_ | refine Ext.trans ?_ (by assumption)))⟩
end Go.Proofs.Ytpgdinpckolfpaa

namespace Go.Proofs.Ytpgdinpckolfpaa
open Go.RowKit
attribute [local go_sem ↓] Go.wp_at_zero Go.wp_at_succ
attribute [local go_sem] run_store_float

def WayRes2 (R : RlR) (l : List Nat) (X Y : Int) (Wn Hn N src tq : Nat) (w : World) (e : Ending) (w' : World) : Prop := ∃ (seen : Nat → Bool) (P : Nat → Nat), PrOk N (edA R (fun j => l.getD j 0) Wn Hn N) src seen P ∧ Ext w w' ∧
  (seen tq = false ∧ e = .returned (.tuple #[.slice none 0 0, .float .f32 0, .int .i64 11]) ∨
   seen tq = true ∧ ∃ (H : Nat → Int) (xs : List Nat) (g cap : Nat), HopOk N (edA R (fun j => l.getD j 0) Wn Hn N) src (tgt P) H ∧ Chain R (fun j => l.getD j 0) Wn Hn N H P tq xs ∧ xs.length ≤ N ∧ 1 ≤ xs.length ∧ xs.length ≤ cap ∧
     e = .returned (.tuple #[.slice (some ⟨g, 0, none⟩) xs.length cap, .float .f32 (P tq), .int .i64 0]) ∧ Rd w' (some ⟨g, 0, none⟩) (ptv (xs.reverse.map (cpt X Y Wn))))
set_option maxRecDepth 100000 in
set_option maxHeartbeats 6400000 in
theorem Way_ok2 (X Y : Int) (Wn Hn : Nat) (A : Option Addr) (N c : Nat) (R : RlR) (C : Option Addr) (m cc src tq : Nat) (l : List Nat) (X' Y' W' H' : Int) (lc : List Nat) (w : World)
    (hr : Reg X Y Wn Hn) (hN : N = Wn * Hn) (hR : RlOk R N) (hl : l.length = N) (hh : ∀ j, j < N → Bd 20 (l.getD j 0)) (hs : src < N) (hV : Rd w A (flt l)) (hC : CoR w C m R.co) (hP : CoP w C m X' Y' W' H' lc) (hg : grndE X Y Wn Hn l R.gr R.wt R.br R.de R.sp m X' Y' W' H' lc = 0) (ht : tq < N) :
    Calls Try.prog 24 #[.agg #[.int .i64 X, .int .i64 Y, .int .i64 (Wn : Int), .int .i64 (Hn : Int), .slice A N c], .agg #[.float .f32 R.gr, .float .f32 R.wt, .float .f32 R.br, .float .f32 R.de, .int .i64 (R.sp : Int), .slice C m cc], .agg #[.int .i64 (X + ((src % Wn : Nat) : Int)), .int .i64 (Y + ((src / Wn : Nat) : Int))], .agg #[.int .i64 (X + ((tq % Wn : Nat) : Int)), .int .i64 (Y + ((tq / Wn : Nat) : Int))]] w fun e w' => WayRes2 R l X Y Wn Hn N src tq w e w' := by
  have hm := grnd_m hg
  have hN6 : N ≤ 65536 := by rw [hN]; exact hr.n
  have HC := fun (w' : World) (h : Ext w w') => hidA (chk_any X Y Wn Hn A N c l R.gr R.wt R.br R.de R.sp C m cc X' Y' W' H' lc w' hl (hV.ext h) (by omega) (hP.ext h) (by omega))
  rw [hg] at HC
  have hin := cpt_in hr hN hs
  have hin2 := cpt_in hr hN ht
  have hcl := cpt_cell hr (k := tq)
  have HI := fun (w' : World) (B : Option Addr) (h : Rd w' B (ptv [(X + ((src % Wn : Nat) : Int), Y + ((src / Wn : Nat) : Int)), (X + ((tq % Wn : Nat) : Int), Y + ((tq / Wn : Nat) : Int))])) => hidA (inside_any X Y Wn Hn A B N c 2 2 [(X + ((src % Wn : Nat) : Int), Y + ((src / Wn : Nat) : Int)), (X + ((tq % Wn : Nat) : Int), Y + ((tq / Wn : Nat) : Int))] w' hr.ok rfl h (by omega))
  have hi0 : insE X Y Wn Hn [(X + ((src % Wn : Nat) : Int), Y + ((src / Wn : Nat) : Int)), (X + ((tq % Wn : Nat) : Int), Y + ((tq / Wn : Nat) : Int))] = 0 := by
    unfold insE
    rw [if_pos]
    simpa using And.intro hin hin2
  rw [hi0] at HI
  have HPl := fun (w' : World) => hidA (place_in X Y Wn Hn _ _ w' hr.ok hin2)
  rw [hcl] at HPl
  have HPr := fun (w' : World) (h : Ext w w') => hidA (pricesFrom_ok X Y Wn Hn A N c R C m cc src l X' Y' W' H' lc w' hr hN hR hl hh hs (hV.ext h) (hC.ext h) (hP.ext h) hg)
  have HWy := fun (go gs : Nat) (P : Nat → Nat) (seen : Nat → Bool) (w' : World) (h : Ext w w') (h1 : PrOk N (edA R (fun j => l.getD j 0) Wn Hn N) src seen P) (h2 : Bk w' go 27 (flo N P)) => hidA (way_any X Y Wn Hn A N c R C m cc src go gs tq l P seen w' hr hN hR hl hh hs ht (hV.ext h) (hC.ext h) h1 h2)
  unfold gcells at HWy
  clear hm hin hin2 hcl hi0 hr hN hR hl hh hV hC hP hg
  generalize X + ((src % Wn : Nat) : Int) = px at *
  generalize Y + ((src / Wn : Nat) : Int) = py at *
  generalize X + ((tq % Wn : Nat) : Int) = qx at *
  generalize Y + ((tq / Wn : Nat) : Int) = qy at *
  go_enter Try.func24, Try.ntmps24
  go_upto_region 1 with fail
  obtain ⟨w0, hw0⟩ : ∃ w0, w0 = (((w.alloc (.cells #[.int .i64 X, .int .i64 Y, .int .i64 (Wn : Int), .int .i64 (Hn : Int), .slice A N c] 26)).alloc (.cells #[.float .f32 R.gr, .float .f32 R.wt, .float .f32 R.br, .float .f32 R.de, .int .i64 (R.sp : Int), .slice C m cc] 30)).alloc (.cells #[.int .i64 px, .int .i64 py] 32)).alloc (.cells #[.int .i64 qx, .int .i64 qy] 32) := ⟨_, rfl⟩
  have kF : Bk w0 w.heap.size 26 #[.int .i64 X, .int .i64 Y, .int .i64 (Wn : Int), .int .i64 (Hn : Int), .slice A N c] := by rw [hw0]; exact (((Bk.new' rfl).alloc _).alloc _).alloc _
  have kR : Bk w0 (w.heap.size + 1) 30 #[.float .f32 R.gr, .float .f32 R.wt, .float .f32 R.br, .float .f32 R.de, .int .i64 (R.sp : Int), .slice C m cc] := by rw [hw0]; exact ((Bk.new' (by simp)).alloc _).alloc _
  have kA : Bk w0 (w.heap.size + 1 + 1) 32 #[.int .i64 px, .int .i64 py] := by rw [hw0]; exact (Bk.new' (by simp)).alloc _
  have kB : Bk w0 (w.heap.size + 1 + 1 + 1) 32 #[.int .i64 qx, .int .i64 qy] := by rw [hw0]; exact Bk.new' (by simp)
  have hx0 : Ext w w0 := by rw [hw0]; exact ((((Ext.refl w).alloc _).alloc _).alloc _).alloc _
  rw [← hw0]
  clear hw0
  generalize w.heap.size + 1 + 1 + 1 = hb at *
  generalize w.heap.size + 1 + 1 = ha at *
  generalize w.heap.size + 1 = hr at *
  generalize hfe : w.heap.size = hf at kF ⊢
  have f0 := kF.cell 0
  have f1 := kF.cell 1
  have f2 := kF.cell 2
  have f3 := kF.cell 3
  have f4 := kF.cell 4
  have r0 := kR.cell 0
  have r1 := kR.cell 1
  have r2 := kR.cell 2
  have r3 := kR.cell 3
  have r4 := kR.cell 4
  have r5 := kR.cell 5
  go_upto_region 4 with (go_at_call 63; refine ((HC _ hx0).out).mono ?_; rintro e w1 ⟨rfl, hx1⟩)
  have kF1 := kF.ext hx1
  have kR1 := kR.ext hx1
  have kA1 := kA.ext hx1
  have kB1 := kB.ext hx1
  have hxa := hx0.trans hx1
  clear f0 f1 f2 f3 f4 r0 r1 r2 r3 r4 r5 kF kR kA kB hx0 hx1 HC
  have f0 := kF1.cell 0
  have f1 := kF1.cell 1
  have f2 := kF1.cell 2
  have f3 := kF1.cell 3
  have f4 := kF1.cell 4
  have a0 := kA1.cell 0
  have a1 := kA1.cell 1
  have b0 := kB1.cell 0
  have b1 := kB1.cell 1
  go_upto_region 7 with (go_at_call 64; refine ((HI _ _ (Rd.new rfl rfl)).out).mono ?_; rintro e w2 ⟨rfl, hx2⟩)
  have kF2 := (kF1.alloc (.cells #[.int .i64 px, .int .i64 py, .int .i64 qx, .int .i64 qy] 32)).ext hx2
  have kR2 := (kR1.alloc (.cells #[.int .i64 px, .int .i64 py, .int .i64 qx, .int .i64 qy] 32)).ext hx2
  have kA2 := (kA1.alloc (.cells #[.int .i64 px, .int .i64 py, .int .i64 qx, .int .i64 qy] 32)).ext hx2
  have kB2 := (kB1.alloc (.cells #[.int .i64 px, .int .i64 py, .int .i64 qx, .int .i64 qy] 32)).ext hx2
  have hxb := (hxa.alloc (.cells #[.int .i64 px, .int .i64 py, .int .i64 qx, .int .i64 qy] 32)).trans hx2
  clear f0 f1 f2 f3 f4 a0 a1 b0 b1 kF1 kR1 kA1 kB1 hxa hx2 HI
  have f0 := kF2.cell 0
  have f1 := kF2.cell 1
  have f2 := kF2.cell 2
  have f3 := kF2.cell 3
  have f4 := kF2.cell 4
  have r0 := kR2.cell 0
  have r1 := kR2.cell 1
  have r2 := kR2.cell 2
  have r3 := kR2.cell 3
  have r4 := kR2.cell 4
  have r5 := kR2.cell 5
  have a0 := kA2.cell 0
  have a1 := kA2.cell 1
  have HPr3 := HPr w2 hxb
  clear HPr
  go_upto_region 8 with (go_at_call 70; refine HPr3.out.mono ?_; rintro e w3 ⟨go, gs, out, seen, rfl, b1, b2, kO, kS, hOk, hx3⟩)
  have kF3 := (kF2.ext hx3).alloc (.cells #[.int .i64 src, .slice (some ⟨go, 0, none⟩) N N, .slice (some ⟨gs, 0, none⟩) N N] 124)
  have kR3 := (kR2.ext hx3).alloc (.cells #[.int .i64 src, .slice (some ⟨go, 0, none⟩) N N, .slice (some ⟨gs, 0, none⟩) N N] 124)
  have kB3 := (kB2.ext hx3).alloc (.cells #[.int .i64 src, .slice (some ⟨go, 0, none⟩) N N, .slice (some ⟨gs, 0, none⟩) N N] 124)
  have kP3 : Bk (w3.alloc (.cells #[.int .i64 src, .slice (some ⟨go, 0, none⟩) N N, .slice (some ⟨gs, 0, none⟩) N N] 124)) w3.heap.size 124 #[.int .i64 src, .slice (some ⟨go, 0, none⟩) N N, .slice (some ⟨gs, 0, none⟩) N N] := Bk.new' rfl
  have kO3 := kO.alloc (.cells #[.int .i64 src, .slice (some ⟨go, 0, none⟩) N N, .slice (some ⟨gs, 0, none⟩) N N] 124)
  have kS3 := kS.alloc (.cells #[.int .i64 src, .slice (some ⟨go, 0, none⟩) N N, .slice (some ⟨gs, 0, none⟩) N N] 124)
  have hxc := (hxb.trans hx3).alloc (.cells #[.int .i64 src, .slice (some ⟨go, 0, none⟩) N N, .slice (some ⟨gs, 0, none⟩) N N] 124)
  clear f0 f1 f2 f3 f4 r0 r1 r2 r3 r4 r5 a0 a1 kF2 kR2 kA2 kB2 hxb hx3 kO kS HPr3 b1 b2
  generalize w3.alloc (.cells #[.int .i64 src, .slice (some ⟨go, 0, none⟩) N N, .slice (some ⟨gs, 0, none⟩) N N] 124) = w4 at *
  generalize w3.heap.size = hp at *
  have f0 := kF3.cell 0
  have f1 := kF3.cell 1
  have f2 := kF3.cell 2
  have f3 := kF3.cell 3
  have f4 := kF3.cell 4
  have b0 := kB3.cell 0
  have b1 := kB3.cell 1
  go_upto_region 9 with (go_at_call 71; refine ((HPl _).out).mono ?_; rintro e w5 ⟨rfl, hx5⟩)
  have kF5 := kF3.ext hx5
  have kR5 := kR3.ext hx5
  have kP5 := kP3.ext hx5
  have kO5 := kO3.ext hx5
  have kS5 := kS3.ext hx5
  have hxd := hxc.trans hx5
  clear f0 f1 f2 f3 f4 b0 b1 kF3 kR3 kB3 kP3 kO3 kS3 hxc hx5 HPl
  have p2 := kP5.cell 2
  have s1 : w5.cell? ⟨gs, tq, none⟩ = some (.bool (seen tq)) := by rw [kS5.cell]; exact bools_get _ ht
  have t0 : (0 : Int) ≤ tq := by omega
  have t1 : (tq : Int) < N := by omega
  cases hse : seen tq
  · rw [hse] at s1
    go_wp2
    go_ret3
    exact ⟨seen, out, hOk, hxd, .inl ⟨hse, rfl⟩⟩
  · rw [hse] at s1
    have HW1 := HWy go gs out seen
    clear HWy
    go_upto_region 11 with fail
    clear s1 p2
    have HSe := hidA hse
    have HOk := hidA hOk
    clear hse hOk
    have f0 : ∀ w', Ext w5 w' → w'.cell? ⟨hf, 0, none⟩ = some (.int .i64 X) := fun w' h => (kF5.ext h).cell 0
    have f1 : ∀ w', Ext w5 w' → w'.cell? ⟨hf, 1, none⟩ = some (.int .i64 Y) := fun w' h => (kF5.ext h).cell 1
    have f2 : ∀ w', Ext w5 w' → w'.cell? ⟨hf, 2, none⟩ = some (.int .i64 (Wn : Int)) := fun w' h => (kF5.ext h).cell 2
    have f3 : ∀ w', Ext w5 w' → w'.cell? ⟨hf, 3, none⟩ = some (.int .i64 (Hn : Int)) := fun w' h => (kF5.ext h).cell 3
    have f4 : ∀ w', Ext w5 w' → w'.cell? ⟨hf, 4, none⟩ = some (.slice A N c) := fun w' h => (kF5.ext h).cell 4
    have r0 : ∀ w', Ext w5 w' → w'.cell? ⟨hr, 0, none⟩ = some (.float .f32 R.gr) := fun w' h => (kR5.ext h).cell 0
    have r1 : ∀ w', Ext w5 w' → w'.cell? ⟨hr, 1, none⟩ = some (.float .f32 R.wt) := fun w' h => (kR5.ext h).cell 1
    have r2 : ∀ w', Ext w5 w' → w'.cell? ⟨hr, 2, none⟩ = some (.float .f32 R.br) := fun w' h => (kR5.ext h).cell 2
    have r3 : ∀ w', Ext w5 w' → w'.cell? ⟨hr, 3, none⟩ = some (.float .f32 R.de) := fun w' h => (kR5.ext h).cell 3
    have r4 : ∀ w', Ext w5 w' → w'.cell? ⟨hr, 4, none⟩ = some (.int .i64 (R.sp : Int)) := fun w' h => (kR5.ext h).cell 4
    have r5 : ∀ w', Ext w5 w' → w'.cell? ⟨hr, 5, none⟩ = some (.slice C m cc) := fun w' h => (kR5.ext h).cell 5
    have p0 : ∀ w', Ext w5 w' → w'.cell? ⟨hp, 0, none⟩ = some (.int .i64 src) := fun w' h => (kP5.ext h).cell 0
    have p1 : ∀ w', Ext w5 w' → w'.cell? ⟨hp, 1, none⟩ = some (.slice (some ⟨go, 0, none⟩) N N) := fun w' h => (kP5.ext h).cell 1
    have p2 : ∀ w', Ext w5 w' → w'.cell? ⟨hp, 2, none⟩ = some (.slice (some ⟨gs, 0, none⟩) N N) := fun w' h => (kP5.ext h).cell 2
    have o1 : ∀ w', Ext w5 w' → w'.cell? ⟨go, tq, none⟩ = some (.float .f32 (out tq)) := fun w' h => by rw [(kO5.ext h).cell]; exact flo_get _ ht
    have HW2 := fun (w' : World) (h : Ext w5 w') => HW1 w' (hxd.trans h) HOk.out (kO5.ext h)
    refine wp_region_noPanic ?_
    refine wp_region_held_drew (S := fun w' => Ext w5 w') (by kernel_rfl) ?_ (fun hHeld => ?_)
    · (repeat (first | exact Ext.refl _ | assumption | refine Ext.setCell ?_ (by first | (simp; done) | (simp; omega)) _ | refine Ext.drewN ?_ _ | refine Ext.alloc ?_ _ | refine Ext.drew ?_ | refine Ext.trans ?_ (by assumption)))
    refine wpAnyH_take (i := 0) (oi := ?o1x0) (v := ?v1x0) ?hi1x0 (by kernel_rfl) ?hf1x0 ?hr1x0 (fun _ _ _ h => h) ?hy1x0 (by assumption) ?rest1x0
    case hi1x0 => (simp only [List.getElem?_toArray, List.getElem?_cons_zero]; exact rfl)
    case hf1x0 => kernel_rfl
    case hr1x0 => kernel_rfl
    case hy1x0 => (refine Or.inl ⟨by rfl, ?_⟩; intro w hSw; (try dsimp only at hSw); go_simp; try with_reducible rfl)
    simp only [put_mk, List.set_cons_succ, List.set_cons_zero]
    refine wpAnyH_take (i := 1) (oi := ?o1x1) (v := ?v1x1) ?hi1x1 (by kernel_rfl) ?hf1x1 ?hr1x1 (fun _ _ _ h => h) ?hy1x1 (by assumption) ?rest1x1
    case hi1x1 => (simp only [List.getElem?_toArray, List.getElem?_cons_succ, List.getElem?_cons_zero]; exact rfl)
    case hf1x1 => kernel_rfl
    case hr1x1 => kernel_rfl
    case hy1x1 => (refine Or.inl ⟨by rfl, ?_⟩; intro w hSw; (try dsimp only at hSw); go_simp; try with_reducible rfl)
    simp only [put_mk, List.set_cons_succ, List.set_cons_zero]
    refine wpAnyH_take (i := 2) (oi := ?o1x2) (v := ?v1x2) ?hi1x2 (by kernel_rfl) ?hf1x2 ?hr1x2 (fun _ _ _ h => h) ?hy1x2 (by assumption) ?rest1x2
    case hi1x2 => (simp only [List.getElem?_toArray, List.getElem?_cons_succ, List.getElem?_cons_zero]; exact rfl)
    case hf1x2 => kernel_rfl
    case hr1x2 => kernel_rfl
    case hy1x2 => (refine Or.inl ⟨by rfl, ?_⟩; intro w hSw; (try dsimp only at hSw); go_simp; try with_reducible rfl)
    simp only [put_mk, List.set_cons_succ, List.set_cons_zero]
    refine wpAnyH_take (i := 3) (oi := ?o1x3) (v := ?v1x3) ?hi1x3 (by kernel_rfl) ?hf1x3 ?hr1x3 (fun _ _ _ h => h) ?hy1x3 (by assumption) ?rest1x3
    case hi1x3 => (simp only [List.getElem?_toArray, List.getElem?_cons_succ, List.getElem?_cons_zero]; exact rfl)
    case hf1x3 => kernel_rfl
    case hr1x3 => kernel_rfl
    case hy1x3 => (refine Or.inl ⟨by rfl, ?_⟩; intro w hSw; (try dsimp only at hSw); go_simp; try with_reducible rfl)
    simp only [put_mk, List.set_cons_succ, List.set_cons_zero]
    refine wpAnyH_take (i := 4) (oi := ?o1x4) (v := ?v1x4) ?hi1x4 (by kernel_rfl) ?hf1x4 ?hr1x4 (fun _ _ _ h => h) ?hy1x4 (by assumption) ?rest1x4
    case hi1x4 => (simp only [List.getElem?_toArray, List.getElem?_cons_succ, List.getElem?_cons_zero]; exact rfl)
    case hf1x4 => kernel_rfl
    case hr1x4 => kernel_rfl
    case hy1x4 => (refine Or.inl ⟨by rfl, ?_⟩; intro w hSw; (try dsimp only at hSw); go_simp; try with_reducible rfl)
    simp only [put_mk, List.set_cons_succ, List.set_cons_zero]
    refine wpAnyH_take (i := 6) (oi := ?o1x6) (v := ?v1x6) ?hi1x6 (by kernel_rfl) ?hf1x6 ?hr1x6 (fun _ _ _ h => h) ?hy1x6 (by assumption) ?rest1x6
    case hi1x6 => (simp only [List.getElem?_toArray, List.getElem?_cons_succ, List.getElem?_cons_zero]; exact rfl)
    case hf1x6 => kernel_rfl
    case hr1x6 => kernel_rfl
    case hy1x6 => (refine Or.inl ⟨by rfl, ?_⟩; intro w hSw; (try dsimp only at hSw); go_simp; try with_reducible rfl)
    simp only [put_mk, List.set_cons_succ, List.set_cons_zero]
    refine wpAnyH_take (i := 7) (oi := ?o1x7) (v := ?v1x7) ?hi1x7 (by kernel_rfl) ?hf1x7 ?hr1x7 (fun _ _ _ h => h) ?hy1x7 (by assumption) ?rest1x7
    case hi1x7 => (simp only [List.getElem?_toArray, List.getElem?_cons_succ, List.getElem?_cons_zero]; exact rfl)
    case hf1x7 => kernel_rfl
    case hr1x7 => kernel_rfl
    case hy1x7 => (refine Or.inl ⟨by rfl, ?_⟩; intro w hSw; (try dsimp only at hSw); go_simp; try with_reducible rfl)
    simp only [put_mk, List.set_cons_succ, List.set_cons_zero]
    refine wpAnyH_take (i := 8) (oi := ?o1x8) (v := ?v1x8) ?hi1x8 (by kernel_rfl) ?hf1x8 ?hr1x8 (fun _ _ _ h => h) ?hy1x8 (by assumption) ?rest1x8
    case hi1x8 => (simp only [List.getElem?_toArray, List.getElem?_cons_succ, List.getElem?_cons_zero]; exact rfl)
    case hf1x8 => kernel_rfl
    case hr1x8 => kernel_rfl
    case hy1x8 => (refine Or.inl ⟨by rfl, ?_⟩; intro w hSw; (try dsimp only at hSw); go_simp; try with_reducible rfl)
    simp only [put_mk, List.set_cons_succ, List.set_cons_zero]
    refine wpAnyH_take (i := 9) (oi := ?o1x9) (v := ?v1x9) ?hi1x9 (by kernel_rfl) ?hf1x9 ?hr1x9 (fun _ _ _ h => h) ?hy1x9 (by assumption) ?rest1x9
    case hi1x9 => (simp only [List.getElem?_toArray, List.getElem?_cons_succ, List.getElem?_cons_zero]; exact rfl)
    case hf1x9 => kernel_rfl
    case hr1x9 => kernel_rfl
    case hy1x9 => (refine Or.inl ⟨by rfl, ?_⟩; intro w hSw; (try dsimp only at hSw); go_simp; try with_reducible rfl)
    simp only [put_mk, List.set_cons_succ, List.set_cons_zero]
    refine wpAnyH_take (i := 10) (oi := ?o1x10) (v := ?v1x10) ?hi1x10 (by kernel_rfl) ?hf1x10 ?hr1x10 (fun _ _ _ h => h) ?hy1x10 (by assumption) ?rest1x10
    case hi1x10 => (simp only [List.getElem?_toArray, List.getElem?_cons_succ, List.getElem?_cons_zero]; exact rfl)
    case hf1x10 => kernel_rfl
    case hr1x10 => kernel_rfl
    case hy1x10 => (refine Or.inl ⟨by rfl, ?_⟩; intro w hSw; (try dsimp only at hSw); go_simp; try with_reducible rfl)
    simp only [put_mk, List.set_cons_succ, List.set_cons_zero]
    refine wpAnyH_ready (rs := [5]) (by kernel_rfl) (by simp) ?_
    refine AllReadyH.cons (o := ?o1x5) ?hi1x5 (fun K hK => ?_) AllReadyH.nil
    case hi1x5 => (simp only [List.getElem?_toArray, List.getElem?_cons_succ, List.getElem?_cons_zero]; exact rfl)
    go_simp
    go_at_call 72; refine ((HW2 _ (by repeat (first | exact Ext.refl _ | assumption | refine Ext.setCell ?_ (by first | (simp; done) | (simp; omega)) _ | refine Ext.drewN ?_ _ | refine Ext.alloc ?_ _ | refine Ext.drew ?_ | refine Ext.trans ?_ (by assumption)))).out).mono ?_; rintro e w7 ⟨H, hHop, xs, g, cap, hch, hle, rfl, hg7, hrd, hx7, hcap, h17⟩
    refine hK.out _ _ ?_ (fun hHeld => ?_)
    · (repeat (first | exact Ext.refl _ | assumption | refine Ext.setCell ?_ (by first | (simp; done) | (simp; omega)) _ | refine Ext.drewN ?_ _ | refine Ext.alloc ?_ _ | refine Ext.drew ?_ | refine Ext.trans ?_ (by assumption)))
    clear hK K
    refine wpAnyH_take (i := 11) (oi := ?o1x11) (v := ?v1x11) ?hi1x11 (by kernel_rfl) ?hf1x11 ?hr1x11 (fun _ _ _ h => h) ?hy1x11 (by assumption) ?rest1x11
    case hi1x11 => (simp only [List.getElem?_toArray, List.getElem?_cons_succ, List.getElem?_cons_zero]; exact rfl)
    case hf1x11 => kernel_rfl
    case hr1x11 => kernel_rfl
    case hy1x11 => (refine Or.inl ⟨by rfl, ?_⟩; intro w hSw; (try dsimp only at hSw); go_simp; try with_reducible rfl)
    simp only [put_mk, List.set_cons_succ, List.set_cons_zero]
    refine wpAnyH_take (i := 12) (oi := ?o1x12) (v := ?v1x12) ?hi1x12 (by kernel_rfl) ?hf1x12 ?hr1x12 (fun _ _ _ h => h) ?hy1x12 (by assumption) ?rest1x12
    case hi1x12 => (simp only [List.getElem?_toArray, List.getElem?_cons_succ, List.getElem?_cons_zero]; exact rfl)
    case hf1x12 => kernel_rfl
    case hr1x12 => kernel_rfl
    case hy1x12 => (refine Or.inl ⟨by rfl, ?_⟩; intro w hSw; (try dsimp only at hSw); go_simp; try with_reducible rfl)
    simp only [put_mk, List.set_cons_succ, List.set_cons_zero]
    refine wpAnyH_take (i := 13) (oi := ?o1x13) (v := ?v1x13) ?hi1x13 (by kernel_rfl) ?hf1x13 ?hr1x13 (fun _ _ _ h => h) ?hy1x13 (by assumption) ?rest1x13
    case hi1x13 => (simp only [List.getElem?_toArray, List.getElem?_cons_succ, List.getElem?_cons_zero]; exact rfl)
    case hf1x13 => kernel_rfl
    case hr1x13 => kernel_rfl
    case hy1x13 => (refine Or.inl ⟨by rfl, ?_⟩; intro w hSw; (try dsimp only at hSw); go_simp; try with_reducible rfl)
    simp only [put_mk, List.set_cons_succ, List.set_cons_zero]
    refine wpAnyH_done (by kernel_rfl) ?_ _
    refine NoPanic.normal ?_
    go_wp2_with fail
    go_ret3
    exact ⟨seen, out, HOk.out, hxd.trans hHeld, .inr ⟨HSe.out, H, xs, g, cap, hHop, hch, hle, h17, hcap, rfl, hrd⟩⟩
end Go.Proofs.Ytpgdinpckolfpaa

namespace Go.Proofs.Ytpgdinpckolfpaa
open Go.RowKit
attribute [local go_sem ↓] Go.wp_at_zero Go.wp_at_succ
attribute [local go_sem] run_store_float

set_option maxRecDepth 100000 in
set_option maxHeartbeats 6400000 in
theorem WayErrorN_any (A : Option Addr) (n c : Nat) (l : List (Int × Int)) (w : World) (hn : l.length = n) (hV : Rd w A (ptv l)) (hb7 : n ≤ 140737488351232) :
    Calls Try.prog 39 #[.pointer none, .slice A n c] w fun e w' => e = .returned (.int .i64 (wayE farP l)) ∧ Ext w w' := by
  have Hn := hidA hn
  have hE : Hid (wayE farP l = if n = 0 then 10 else if 65536 < n then 4 else wayI farP l 0 n) := by show _ = _; unfold wayE; rw [hn]
  generalize wayE farP l = E at *
  clear hn
  go_enter Try.func39, Try.ntmps39
  by_cases h0 : n = 0
  · have HE2 := hidA (hE.out.trans (if_pos h0))
    clear hE
    subst h0
    go_wp2
    go_ret
    exact ⟨ret_i HE2.out.symm, Ext.refl _⟩
  have h0' : ¬ (n : Int) = 0 := by omega
  by_cases h6 : 65536 < n
  · have HE2 := hidA ((hE.out.trans (if_neg h0)).trans (if_pos h6))
    have h6' : (65536 : Int) < n := by omega
    clear hE
    go_wp2
    go_ret
    exact ⟨ret_i HE2.out.symm, Ext.refl _⟩
  have HE2 := hidA ((hE.out.trans (if_neg h0)).trans (if_neg h6))
  have h6' : ¬ (65536 : Int) < n := by omega
  clear hE
  have h65 : n ≤ 65536 := by omega
  go_upto_region 6 with fail
  go_loopw [17] (fun s17 wr => ∃ k : Nat, k ≤ n ∧ s17 = .int .i64 k ∧ E = wayI farP l k (n - k) ∧ (0 < k → farP (l.getD (k - 1) (0, 0)) = false) ∧ Ext w wr) (fun s17 _ => n - (intOf s17).toNat)
  case atStart => exact ⟨0, Nat.zero_le _, rfl, by rw [HE2.out]; rfl, fun h => by omega, Ext.refl _⟩
  case round =>
    obtain ⟨k, hk, rfl, hEk, hprev, hx⟩ := hrel
    have HEk := hidA hEk
    have Hprev := hidA hprev
    clear hEk hprev
    by_cases hkn : k < n
    · have hkl : k < l.length := by have := Hn.out; omega
      obtain ⟨ad, rfl, hbk, d0, d1⟩ := pt_at (hV.ext hx) hkl
      have HE3 := hidA (HEk.out.trans (wayI_step hkn))
      have i0 : (0 : Int) ≤ k := by omega
      have i1 : (k : Int) < n := by omega
      obtain ⟨px, py, hpp⟩ : ∃ px py, l.getD k (0, 0) = (px, py) := ⟨_, _, rfl⟩
      have hpp2 := hidA hpp
      rw [hpp] at d0 d1
      have HE4 := hidA (show E = if farP (px, py) = true then 5 else if 0 < k ∧ stepBad (l.getD (k - 1) (0, 0)) (px, py) = true then 2 else wayI farP l (k + 1) (n - (k + 1)) from by rw [HE3.out, hpp])
      clear hpp HE3 HEk
      dsimp only at d0 d1
      go_upto_region 8 with fail
      have kP : Bk (wr.alloc (.cells #[.int .i64 px, .int .i64 py] 32)) wr.heap.size 32 #[.int .i64 px, .int .i64 py] := Bk.new' rfl
      have hx1 := hx.alloc (.cells #[.int .i64 px, .int .i64 py] 32)
      clear d0 d1
      generalize wr.alloc (.cells #[.int .i64 px, .int .i64 py] 32) = w1 at *
      generalize wr.heap.size = ha at *
      have p0 := kP.cell 0
      have p1 := kP.cell 1
      rcases (by omega : px < -4194304 ∨ (¬ px < -4194304 ∧ 4194304 < px) ∨ (¬ px < -4194304 ∧ ¬ 4194304 < px ∧ py < -4194304) ∨ (¬ px < -4194304 ∧ ¬ 4194304 < px ∧ ¬ py < -4194304 ∧ 4194304 < py) ∨ (¬ px < -4194304 ∧ ¬ 4194304 < px ∧ ¬ py < -4194304 ∧ ¬ 4194304 < py)) with c1 | ⟨c1, c2⟩ | ⟨c1, c2, c3⟩ | ⟨c1, c2, c3, c4⟩ | ⟨c1, c2, c3, c4⟩
      case inr.inr.inr.inr =>
        have hb : farP (px, py) = false := by unfold farP; simp; omega
        have HE5 := hidA (HE4.out.trans (if_neg (by rw [hb]; decide)))
        have Hb := hidA hb
        have hpb := farP_false hb
        clear hb HE4
        go_quiet (fail)
        have kP2 : Bk (w1.drewN nq) ha 32 #[.int .i64 px, .int .i64 py] := kP.ext (by repeat (first | exact Ext.refl _ | assumption | refine Ext.setCell ?_ (by first | (simp; done) | (simp; omega)) _ | refine Ext.drewN ?_ _ | refine Ext.alloc ?_ _ | refine Ext.drew ?_ | refine Ext.trans ?_ (by assumption)))
        have hx3 : Ext w (w1.drewN nq) := hx1.trans (by repeat (first | exact Ext.refl _ | assumption | refine Ext.setCell ?_ (by first | (simp; done) | (simp; omega)) _ | refine Ext.drewN ?_ _ | refine Ext.alloc ?_ _ | refine Ext.drew ?_ | refine Ext.trans ?_ (by assumption)))
        clear p0 p1 kP hx1 c1 c2 c3 c4
        generalize w1.drewN nq = w2 at *
        by_cases hk0 : k = 0
        · subst hk0
          have HE6 := hidA (HE5.out.trans (if_neg (by omega)))
          clear HE5
          go_wp2
          go_roundw
          case rel => exact ⟨1, by omega, rfl, HE6.out, fun _ => by show farP (l.getD 0 (0, 0)) = false; rw [hpp2.out]; exact Hb.out, hx3⟩
          case measure => simp [intOf]; omega
        · have hkl1 : k - 1 < l.length := by omega
          have hpq := farP_false (Hprev.out (by omega))
          obtain ⟨qx, qy, hqq⟩ : ∃ qx qy, l.getD (k - 1) (0, 0) = (qx, qy) := ⟨_, _, rfl⟩
          rw [hqq] at hpq
          dsimp only at hpq hpb
          have HBt := fun (w : World) => hidA (Leap_any qx qy px py w (by omega) (by omega) (by omega) (by omega))
          have HE6 := hidA (show E = if stepBad (qx, qy) (px, py) = true then 2 else wayI farP l (k + 1) (n - (k + 1)) from by rw [HE5.out, hqq]; simp [show 0 < k by omega])
          have e0 : ∀ w', Ext w2 w' → w'.cell? (ad.add ((k - 1) * 2)) = some (.int .i64 qx) := fun w' h => by
            obtain ⟨ad', e, _, d0, d1⟩ := pt_at (hV.ext (hx3.trans h)) hkl1
            injection e with e
            subst e
            rw [hqq] at d0
            exact d0
          have e1 : ∀ w', Ext w2 w' → w'.cell? ⟨(ad.add ((k - 1) * 2)).block, (ad.add ((k - 1) * 2)).off + 1, none⟩ = some (.int .i64 qy) := fun w' h => by
            obtain ⟨ad', e, _, d0, d1⟩ := pt_at (hV.ext (hx3.trans h)) hkl1
            injection e with e
            subst e
            rw [hqq] at d1
            exact d1
          have f0 : ∀ w', Ext w2 w' → w'.cell? ⟨ha, 0, none⟩ = some (.int .i64 px) := fun w' h => (kP2.ext h).cell 0
          have f1 : ∀ w', Ext w2 w' → w'.cell? ⟨ha, 1, none⟩ = some (.int .i64 py) := fun w' h => (kP2.ext h).cell 1
          have j0 : (0 : Int) ≤ ((k - 1 : Nat) : Int) := by omega
          have j1 : ((k - 1 : Nat) : Int) < n := by omega
          have hk0' : (0 : Int) < k := by omega
          have Hwk := hidA (show wrap64 ((k : Int) - 1) = ((k - 1 : Nat) : Int) by rw [IntWalk.wrap64_in _ ⟨by omega, by omega⟩]; omega)
          have Hwk2 := hidA (show IntKind.i64.wrap ((k : Int) - 1) = ((k - 1 : Nat) : Int) by rw [IntWalk.i64_in _ ⟨by omega, by omega⟩]; omega)
          have Hhx := hidA hx3
          clear hpq hpb HE5 hqq kP2
          unfold lpV at HBt
          cases hlp : leapO (px - qx) (py - qy) with
          | none =>
            have HE7 := hidA (HE6.out.trans (if_pos (by unfold stepBad; rw [hlp])))
            rw [hlp] at HBt
            clear hlp
            have wk := Hwk.out
            have wk2 := Hwk2.out
            go_upto_region 11 with fail
            refine wp_region_noPanic ?_
            refine wp_region_held_drew (S := fun w' => Ext w2 w') (by kernel_rfl) ?_ (fun hHeld => ?_)
            · (repeat (first | exact Ext.refl _ | assumption | refine Ext.setCell ?_ (by first | (simp; done) | (simp; omega)) _ | refine Ext.drewN ?_ _ | refine Ext.alloc ?_ _ | refine Ext.drew ?_ | refine Ext.trans ?_ (by assumption)))
            refine wpAnyH_take (i := 0) (oi := ?o1x0) (v := ?v1x0) ?hi1x0 (by kernel_rfl) ?hf1x0 ?hr1x0 (fun _ _ _ h => h) ?hy1x0 (by assumption) ?rest1x0
            case hi1x0 => (simp only [List.getElem?_toArray, List.getElem?_cons_zero]; exact rfl)
            case hf1x0 => kernel_rfl
            case hr1x0 => kernel_rfl
            case hy1x0 => (refine Or.inl ⟨by rfl, ?_⟩; intro w hSw; (try dsimp only at hSw); go_simp; try with_reducible rfl)
            simp only [put_mk, List.set_cons_succ, List.set_cons_zero]
            refine wpAnyH_take (i := 1) (oi := ?o1x1) (v := ?v1x1) ?hi1x1 (by kernel_rfl) ?hf1x1 ?hr1x1 (fun _ _ _ h => h) ?hy1x1 (by assumption) ?rest1x1
            case hi1x1 => (simp only [List.getElem?_toArray, List.getElem?_cons_succ, List.getElem?_cons_zero]; exact rfl)
            case hf1x1 => kernel_rfl
            case hr1x1 => kernel_rfl
            case hy1x1 => (refine Or.inl ⟨by rfl, ?_⟩; intro w hSw; (try dsimp only at hSw); go_simp; try with_reducible rfl)
            simp only [put_mk, List.set_cons_succ, List.set_cons_zero]
            refine wpAnyH_take (i := 2) (oi := ?o1x2) (v := ?v1x2) ?hi1x2 (by kernel_rfl) ?hf1x2 ?hr1x2 (fun _ _ _ h => h) ?hy1x2 (by assumption) ?rest1x2
            case hi1x2 => (simp only [List.getElem?_toArray, List.getElem?_cons_succ, List.getElem?_cons_zero]; exact rfl)
            case hf1x2 => kernel_rfl
            case hr1x2 => kernel_rfl
            case hy1x2 => (refine Or.inl ⟨by rfl, ?_⟩; intro w hSw; (try dsimp only at hSw); go_simp; try with_reducible rfl)
            simp only [put_mk, List.set_cons_succ, List.set_cons_zero]
            refine wpAnyH_take (i := 3) (oi := ?o1x3) (v := ?v1x3) ?hi1x3 (by kernel_rfl) ?hf1x3 ?hr1x3 (fun _ _ _ h => h) ?hy1x3 (by assumption) ?rest1x3
            case hi1x3 => (simp only [List.getElem?_toArray, List.getElem?_cons_succ, List.getElem?_cons_zero]; exact rfl)
            case hf1x3 => kernel_rfl
            case hr1x3 => kernel_rfl
            case hy1x3 => (refine Or.inl ⟨by rfl, ?_⟩; intro w hSw; (try dsimp only at hSw); go_simp; try with_reducible rfl)
            simp only [put_mk, List.set_cons_succ, List.set_cons_zero]
            refine wpAnyH_take (i := 4) (oi := ?o1x4) (v := ?v1x4) ?hi1x4 (by kernel_rfl) ?hf1x4 ?hr1x4 (fun _ _ _ h => h) ?hy1x4 (by assumption) ?rest1x4
            case hi1x4 => (simp only [List.getElem?_toArray, List.getElem?_cons_succ, List.getElem?_cons_zero]; exact rfl)
            case hf1x4 => kernel_rfl
            case hr1x4 => kernel_rfl
            case hy1x4 => (refine Or.inl ⟨by rfl, ?_⟩; intro w hSw; (try dsimp only at hSw); go_simp; try with_reducible rfl)
            simp only [put_mk, List.set_cons_succ, List.set_cons_zero]
            refine wpAnyH_take (i := 5) (oi := ?o1x5) (v := ?v1x5) ?hi1x5 (by kernel_rfl) ?hf1x5 ?hr1x5 (fun _ _ _ h => h) ?hy1x5 (by assumption) ?rest1x5
            case hi1x5 => (simp only [List.getElem?_toArray, List.getElem?_cons_succ, List.getElem?_cons_zero]; exact rfl)
            case hf1x5 => kernel_rfl
            case hr1x5 => kernel_rfl
            case hy1x5 => (refine Or.inl ⟨by rfl, ?_⟩; intro w hSw; (try dsimp only at hSw); go_simp; try with_reducible rfl)
            simp only [put_mk, List.set_cons_succ, List.set_cons_zero]
            refine wpAnyH_ready (rs := [6]) (by kernel_rfl) (by simp) ?_
            refine AllReadyH.cons (o := ?o1x6) ?hi1x6 (fun K hK => ?_) AllReadyH.nil
            case hi1x6 => (simp only [List.getElem?_toArray, List.getElem?_cons_succ, List.getElem?_cons_zero]; exact rfl)
            go_simp
            go_at_call 36; refine ((HBt _).out).mono ?_; rintro e w5 ⟨rfl, hx5⟩
            refine hK.out _ _ ?_ (fun hHeld => ?_)
            · (repeat (first | exact Ext.refl _ | assumption | refine Ext.setCell ?_ (by first | (simp; done) | (simp; omega)) _ | refine Ext.drewN ?_ _ | refine Ext.alloc ?_ _ | refine Ext.drew ?_ | refine Ext.trans ?_ (by assumption)))
            clear hK K
            refine wpAnyH_take (i := 7) (oi := ?o1x7) (v := ?v1x7) ?hi1x7 (by kernel_rfl) ?hf1x7 ?hr1x7 (fun _ _ _ h => h) ?hy1x7 (by assumption) ?rest1x7
            case hi1x7 => (simp only [List.getElem?_toArray, List.getElem?_cons_succ, List.getElem?_cons_zero]; exact rfl)
            case hf1x7 => kernel_rfl
            case hr1x7 => kernel_rfl
            case hy1x7 => (refine Or.inl ⟨by rfl, ?_⟩; intro w hSw; (try dsimp only at hSw); go_simp; try with_reducible rfl)
            simp only [put_mk, List.set_cons_succ, List.set_cons_zero]
            refine wpAnyH_take (i := 8) (oi := ?o1x8) (v := ?v1x8) ?hi1x8 (by kernel_rfl) ?hf1x8 ?hr1x8 (fun _ _ _ h => h) ?hy1x8 (by assumption) ?rest1x8
            case hi1x8 => (simp only [List.getElem?_toArray, List.getElem?_cons_succ, List.getElem?_cons_zero]; exact rfl)
            case hf1x8 => kernel_rfl
            case hr1x8 => kernel_rfl
            case hy1x8 => (refine Or.inl ⟨by rfl, ?_⟩; intro w hSw; (try dsimp only at hSw); go_simp; try with_reducible rfl)
            simp only [put_mk, List.set_cons_succ, List.set_cons_zero]
            refine wpAnyH_take (i := 9) (oi := ?o1x9) (v := ?v1x9) ?hi1x9 (by kernel_rfl) ?hf1x9 ?hr1x9 (fun _ _ _ h => h) ?hy1x9 (by assumption) ?rest1x9
            case hi1x9 => (simp only [List.getElem?_toArray, List.getElem?_cons_succ, List.getElem?_cons_zero]; exact rfl)
            case hf1x9 => kernel_rfl
            case hr1x9 => kernel_rfl
            case hy1x9 => (refine Or.inl ⟨by rfl, ?_⟩; intro w hSw; (try dsimp only at hSw); go_simp; try with_reducible rfl)
            simp only [put_mk, List.set_cons_succ, List.set_cons_zero]
            refine wpAnyH_take (i := 10) (oi := ?o1x10) (v := ?v1x10) ?hi1x10 (by kernel_rfl) ?hf1x10 ?hr1x10 (fun _ _ _ h => h) ?hy1x10 (by assumption) ?rest1x10
            case hi1x10 => (simp only [List.getElem?_toArray, List.getElem?_cons_succ, List.getElem?_cons_zero]; exact rfl)
            case hf1x10 => kernel_rfl
            case hr1x10 => kernel_rfl
            case hy1x10 => (refine Or.inl ⟨by rfl, ?_⟩; intro w hSw; (try dsimp only at hSw); go_simp; try with_reducible rfl)
            simp only [put_mk, List.set_cons_succ, List.set_cons_zero]
            refine wpAnyH_take (i := 11) (oi := ?o1x11) (v := ?v1x11) ?hi1x11 (by kernel_rfl) ?hf1x11 ?hr1x11 (fun _ _ _ h => h) ?hy1x11 (by assumption) ?rest1x11
            case hi1x11 => (simp only [List.getElem?_toArray, List.getElem?_cons_succ, List.getElem?_cons_zero]; exact rfl)
            case hf1x11 => kernel_rfl
            case hr1x11 => kernel_rfl
            case hy1x11 => (refine Or.inl ⟨by rfl, ?_⟩; intro w hSw; (try dsimp only at hSw); go_simp; try with_reducible rfl)
            simp only [put_mk, List.set_cons_succ, List.set_cons_zero]
            refine wpAnyH_done (by kernel_rfl) ?_ _
            refine NoPanic.normal ?_
            clear e0 e1 f0 f1 wk wk2
            go_wp2
            go_ret
            exact ⟨ret_i HE7.out.symm, Hhx.out.trans hHeld⟩
          | some z =>
            obtain ⟨d, n'⟩ := z
            have hd8 := (leapO_spec hlp).1
            rw [hlp] at HBt
            have hn1 : ¬ n' = 0 := by have := (leapO_spec hlp).2.1; omega
            have hn2 : ¬ (n' : Int) = 0 := by omega
            have hdn : ((n' : Int) == 0) = false := by simp; omega
            by_cases h12 : 12 < n'
            · have HE7 := hidA (HE6.out.trans (if_pos (by unfold stepBad; rw [hlp]; simpa using h12)))
              have h13 : (12 : Int) < n' := by omega
              clear hlp
              have wk := Hwk.out
              have wk2 := Hwk2.out
              go_upto_region 11 with fail
              refine wp_region_noPanic ?_
              refine wp_region_held_drew (S := fun w' => Ext w2 w') (by kernel_rfl) ?_ (fun hHeld => ?_)
              · (repeat (first | exact Ext.refl _ | assumption | refine Ext.setCell ?_ (by first | (simp; done) | (simp; omega)) _ | refine Ext.drewN ?_ _ | refine Ext.alloc ?_ _ | refine Ext.drew ?_ | refine Ext.trans ?_ (by assumption)))
              refine wpAnyH_take (i := 0) (oi := ?o2x0) (v := ?v2x0) ?hi2x0 (by kernel_rfl) ?hf2x0 ?hr2x0 (fun _ _ _ h => h) ?hy2x0 (by assumption) ?rest2x0
              case hi2x0 => (simp only [List.getElem?_toArray, List.getElem?_cons_zero]; exact rfl)
              case hf2x0 => kernel_rfl
              case hr2x0 => kernel_rfl
              case hy2x0 => (refine Or.inl ⟨by rfl, ?_⟩; intro w hSw; (try dsimp only at hSw); go_simp; try with_reducible rfl)
              simp only [put_mk, List.set_cons_succ, List.set_cons_zero]
              refine wpAnyH_take (i := 1) (oi := ?o2x1) (v := ?v2x1) ?hi2x1 (by kernel_rfl) ?hf2x1 ?hr2x1 (fun _ _ _ h => h) ?hy2x1 (by assumption) ?rest2x1
              case hi2x1 => (simp only [List.getElem?_toArray, List.getElem?_cons_succ, List.getElem?_cons_zero]; exact rfl)
              case hf2x1 => kernel_rfl
              case hr2x1 => kernel_rfl
              case hy2x1 => (refine Or.inl ⟨by rfl, ?_⟩; intro w hSw; (try dsimp only at hSw); go_simp; try with_reducible rfl)
              simp only [put_mk, List.set_cons_succ, List.set_cons_zero]
              refine wpAnyH_take (i := 2) (oi := ?o2x2) (v := ?v2x2) ?hi2x2 (by kernel_rfl) ?hf2x2 ?hr2x2 (fun _ _ _ h => h) ?hy2x2 (by assumption) ?rest2x2
              case hi2x2 => (simp only [List.getElem?_toArray, List.getElem?_cons_succ, List.getElem?_cons_zero]; exact rfl)
              case hf2x2 => kernel_rfl
              case hr2x2 => kernel_rfl
              case hy2x2 => (refine Or.inl ⟨by rfl, ?_⟩; intro w hSw; (try dsimp only at hSw); go_simp; try with_reducible rfl)
              simp only [put_mk, List.set_cons_succ, List.set_cons_zero]
              refine wpAnyH_take (i := 3) (oi := ?o2x3) (v := ?v2x3) ?hi2x3 (by kernel_rfl) ?hf2x3 ?hr2x3 (fun _ _ _ h => h) ?hy2x3 (by assumption) ?rest2x3
              case hi2x3 => (simp only [List.getElem?_toArray, List.getElem?_cons_succ, List.getElem?_cons_zero]; exact rfl)
              case hf2x3 => kernel_rfl
              case hr2x3 => kernel_rfl
              case hy2x3 => (refine Or.inl ⟨by rfl, ?_⟩; intro w hSw; (try dsimp only at hSw); go_simp; try with_reducible rfl)
              simp only [put_mk, List.set_cons_succ, List.set_cons_zero]
              refine wpAnyH_take (i := 4) (oi := ?o2x4) (v := ?v2x4) ?hi2x4 (by kernel_rfl) ?hf2x4 ?hr2x4 (fun _ _ _ h => h) ?hy2x4 (by assumption) ?rest2x4
              case hi2x4 => (simp only [List.getElem?_toArray, List.getElem?_cons_succ, List.getElem?_cons_zero]; exact rfl)
              case hf2x4 => kernel_rfl
              case hr2x4 => kernel_rfl
              case hy2x4 => (refine Or.inl ⟨by rfl, ?_⟩; intro w hSw; (try dsimp only at hSw); go_simp; try with_reducible rfl)
              simp only [put_mk, List.set_cons_succ, List.set_cons_zero]
              refine wpAnyH_take (i := 5) (oi := ?o2x5) (v := ?v2x5) ?hi2x5 (by kernel_rfl) ?hf2x5 ?hr2x5 (fun _ _ _ h => h) ?hy2x5 (by assumption) ?rest2x5
              case hi2x5 => (simp only [List.getElem?_toArray, List.getElem?_cons_succ, List.getElem?_cons_zero]; exact rfl)
              case hf2x5 => kernel_rfl
              case hr2x5 => kernel_rfl
              case hy2x5 => (refine Or.inl ⟨by rfl, ?_⟩; intro w hSw; (try dsimp only at hSw); go_simp; try with_reducible rfl)
              simp only [put_mk, List.set_cons_succ, List.set_cons_zero]
              refine wpAnyH_ready (rs := [6]) (by kernel_rfl) (by simp) ?_
              refine AllReadyH.cons (o := ?o2x6) ?hi2x6 (fun K hK => ?_) AllReadyH.nil
              case hi2x6 => (simp only [List.getElem?_toArray, List.getElem?_cons_succ, List.getElem?_cons_zero]; exact rfl)
              go_simp
              go_at_call 36; refine ((HBt _).out).mono ?_; rintro e w5 ⟨rfl, hx5⟩
              refine hK.out _ _ ?_ (fun hHeld => ?_)
              · (repeat (first | exact Ext.refl _ | assumption | refine Ext.setCell ?_ (by first | (simp; done) | (simp; omega)) _ | refine Ext.drewN ?_ _ | refine Ext.alloc ?_ _ | refine Ext.drew ?_ | refine Ext.trans ?_ (by assumption)))
              clear hK K
              refine wpAnyH_take (i := 7) (oi := ?o2x7) (v := ?v2x7) ?hi2x7 (by kernel_rfl) ?hf2x7 ?hr2x7 (fun _ _ _ h => h) ?hy2x7 (by assumption) ?rest2x7
              case hi2x7 => (simp only [List.getElem?_toArray, List.getElem?_cons_succ, List.getElem?_cons_zero]; exact rfl)
              case hf2x7 => kernel_rfl
              case hr2x7 => kernel_rfl
              case hy2x7 => (refine Or.inl ⟨by rfl, ?_⟩; intro w hSw; (try dsimp only at hSw); go_simp; try with_reducible rfl)
              simp only [put_mk, List.set_cons_succ, List.set_cons_zero]
              refine wpAnyH_take (i := 8) (oi := ?o2x8) (v := ?v2x8) ?hi2x8 (by kernel_rfl) ?hf2x8 ?hr2x8 (fun _ _ _ h => h) ?hy2x8 (by assumption) ?rest2x8
              case hi2x8 => (simp only [List.getElem?_toArray, List.getElem?_cons_succ, List.getElem?_cons_zero]; exact rfl)
              case hf2x8 => kernel_rfl
              case hr2x8 => kernel_rfl
              case hy2x8 => (refine Or.inl ⟨by rfl, ?_⟩; intro w hSw; (try dsimp only at hSw); go_simp; try with_reducible rfl)
              simp only [put_mk, List.set_cons_succ, List.set_cons_zero]
              refine wpAnyH_take (i := 9) (oi := ?o2x9) (v := ?v2x9) ?hi2x9 (by kernel_rfl) ?hf2x9 ?hr2x9 (fun _ _ _ h => h) ?hy2x9 (by assumption) ?rest2x9
              case hi2x9 => (simp only [List.getElem?_toArray, List.getElem?_cons_succ, List.getElem?_cons_zero]; exact rfl)
              case hf2x9 => kernel_rfl
              case hr2x9 => kernel_rfl
              case hy2x9 => (refine Or.inl ⟨by rfl, ?_⟩; intro w hSw; (try dsimp only at hSw); go_simp; try with_reducible rfl)
              simp only [put_mk, List.set_cons_succ, List.set_cons_zero]
              refine wpAnyH_take (i := 10) (oi := ?o2x10) (v := ?v2x10) ?hi2x10 (by kernel_rfl) ?hf2x10 ?hr2x10 (fun _ _ _ h => h) ?hy2x10 (by assumption) ?rest2x10
              case hi2x10 => (simp only [List.getElem?_toArray, List.getElem?_cons_succ, List.getElem?_cons_zero]; exact rfl)
              case hf2x10 => kernel_rfl
              case hr2x10 => kernel_rfl
              case hy2x10 => (refine Or.inl ⟨by rfl, ?_⟩; intro w hSw; (try dsimp only at hSw); go_simp; try with_reducible rfl)
              simp only [put_mk, List.set_cons_succ, List.set_cons_zero]
              refine wpAnyH_take (i := 11) (oi := ?o2x11) (v := ?v2x11) ?hi2x11 (by kernel_rfl) ?hf2x11 ?hr2x11 (fun _ _ _ h => h) ?hy2x11 (by assumption) ?rest2x11
              case hi2x11 => (simp only [List.getElem?_toArray, List.getElem?_cons_succ, List.getElem?_cons_zero]; exact rfl)
              case hf2x11 => kernel_rfl
              case hr2x11 => kernel_rfl
              case hy2x11 => (refine Or.inl ⟨by rfl, ?_⟩; intro w hSw; (try dsimp only at hSw); go_simp; try with_reducible rfl)
              simp only [put_mk, List.set_cons_succ, List.set_cons_zero]
              refine wpAnyH_done (by kernel_rfl) ?_ _
              refine NoPanic.normal ?_
              clear e0 e1 f0 f1 wk wk2
              go_wp2
              go_ret
              exact ⟨ret_i HE7.out.symm, Hhx.out.trans hHeld⟩
            · have HE7 := hidA (HE6.out.trans (if_neg (by unfold stepBad; rw [hlp]; simpa using h12)))
              have h13 : ¬ (12 : Int) < n' := by omega
              clear hlp
              have wk := Hwk.out
              have wk2 := Hwk2.out
              go_upto_region 11 with fail
              refine wp_region_noPanic ?_
              refine wp_region_held_drew (S := fun w' => Ext w2 w') (by kernel_rfl) ?_ (fun hHeld => ?_)
              · (repeat (first | exact Ext.refl _ | assumption | refine Ext.setCell ?_ (by first | (simp; done) | (simp; omega)) _ | refine Ext.drewN ?_ _ | refine Ext.alloc ?_ _ | refine Ext.drew ?_ | refine Ext.trans ?_ (by assumption)))
              refine wpAnyH_take (i := 0) (oi := ?o3x0) (v := ?v3x0) ?hi3x0 (by kernel_rfl) ?hf3x0 ?hr3x0 (fun _ _ _ h => h) ?hy3x0 (by assumption) ?rest3x0
              case hi3x0 => (simp only [List.getElem?_toArray, List.getElem?_cons_zero]; exact rfl)
              case hf3x0 => kernel_rfl
              case hr3x0 => kernel_rfl
              case hy3x0 => (refine Or.inl ⟨by rfl, ?_⟩; intro w hSw; (try dsimp only at hSw); go_simp; try with_reducible rfl)
              simp only [put_mk, List.set_cons_succ, List.set_cons_zero]
              refine wpAnyH_take (i := 1) (oi := ?o3x1) (v := ?v3x1) ?hi3x1 (by kernel_rfl) ?hf3x1 ?hr3x1 (fun _ _ _ h => h) ?hy3x1 (by assumption) ?rest3x1
              case hi3x1 => (simp only [List.getElem?_toArray, List.getElem?_cons_succ, List.getElem?_cons_zero]; exact rfl)
              case hf3x1 => kernel_rfl
              case hr3x1 => kernel_rfl
              case hy3x1 => (refine Or.inl ⟨by rfl, ?_⟩; intro w hSw; (try dsimp only at hSw); go_simp; try with_reducible rfl)
              simp only [put_mk, List.set_cons_succ, List.set_cons_zero]
              refine wpAnyH_take (i := 2) (oi := ?o3x2) (v := ?v3x2) ?hi3x2 (by kernel_rfl) ?hf3x2 ?hr3x2 (fun _ _ _ h => h) ?hy3x2 (by assumption) ?rest3x2
              case hi3x2 => (simp only [List.getElem?_toArray, List.getElem?_cons_succ, List.getElem?_cons_zero]; exact rfl)
              case hf3x2 => kernel_rfl
              case hr3x2 => kernel_rfl
              case hy3x2 => (refine Or.inl ⟨by rfl, ?_⟩; intro w hSw; (try dsimp only at hSw); go_simp; try with_reducible rfl)
              simp only [put_mk, List.set_cons_succ, List.set_cons_zero]
              refine wpAnyH_take (i := 3) (oi := ?o3x3) (v := ?v3x3) ?hi3x3 (by kernel_rfl) ?hf3x3 ?hr3x3 (fun _ _ _ h => h) ?hy3x3 (by assumption) ?rest3x3
              case hi3x3 => (simp only [List.getElem?_toArray, List.getElem?_cons_succ, List.getElem?_cons_zero]; exact rfl)
              case hf3x3 => kernel_rfl
              case hr3x3 => kernel_rfl
              case hy3x3 => (refine Or.inl ⟨by rfl, ?_⟩; intro w hSw; (try dsimp only at hSw); go_simp; try with_reducible rfl)
              simp only [put_mk, List.set_cons_succ, List.set_cons_zero]
              refine wpAnyH_take (i := 4) (oi := ?o3x4) (v := ?v3x4) ?hi3x4 (by kernel_rfl) ?hf3x4 ?hr3x4 (fun _ _ _ h => h) ?hy3x4 (by assumption) ?rest3x4
              case hi3x4 => (simp only [List.getElem?_toArray, List.getElem?_cons_succ, List.getElem?_cons_zero]; exact rfl)
              case hf3x4 => kernel_rfl
              case hr3x4 => kernel_rfl
              case hy3x4 => (refine Or.inl ⟨by rfl, ?_⟩; intro w hSw; (try dsimp only at hSw); go_simp; try with_reducible rfl)
              simp only [put_mk, List.set_cons_succ, List.set_cons_zero]
              refine wpAnyH_take (i := 5) (oi := ?o3x5) (v := ?v3x5) ?hi3x5 (by kernel_rfl) ?hf3x5 ?hr3x5 (fun _ _ _ h => h) ?hy3x5 (by assumption) ?rest3x5
              case hi3x5 => (simp only [List.getElem?_toArray, List.getElem?_cons_succ, List.getElem?_cons_zero]; exact rfl)
              case hf3x5 => kernel_rfl
              case hr3x5 => kernel_rfl
              case hy3x5 => (refine Or.inl ⟨by rfl, ?_⟩; intro w hSw; (try dsimp only at hSw); go_simp; try with_reducible rfl)
              simp only [put_mk, List.set_cons_succ, List.set_cons_zero]
              refine wpAnyH_ready (rs := [6]) (by kernel_rfl) (by simp) ?_
              refine AllReadyH.cons (o := ?o3x6) ?hi3x6 (fun K hK => ?_) AllReadyH.nil
              case hi3x6 => (simp only [List.getElem?_toArray, List.getElem?_cons_succ, List.getElem?_cons_zero]; exact rfl)
              go_simp
              go_at_call 36; refine ((HBt _).out).mono ?_; rintro e w5 ⟨rfl, hx5⟩
              refine hK.out _ _ ?_ (fun hHeld => ?_)
              · (repeat (first | exact Ext.refl _ | assumption | refine Ext.setCell ?_ (by first | (simp; done) | (simp; omega)) _ | refine Ext.drewN ?_ _ | refine Ext.alloc ?_ _ | refine Ext.drew ?_ | refine Ext.trans ?_ (by assumption)))
              clear hK K
              refine wpAnyH_take (i := 7) (oi := ?o3x7) (v := ?v3x7) ?hi3x7 (by kernel_rfl) ?hf3x7 ?hr3x7 (fun _ _ _ h => h) ?hy3x7 (by assumption) ?rest3x7
              case hi3x7 => (simp only [List.getElem?_toArray, List.getElem?_cons_succ, List.getElem?_cons_zero]; exact rfl)
              case hf3x7 => kernel_rfl
              case hr3x7 => kernel_rfl
              case hy3x7 => (refine Or.inl ⟨by rfl, ?_⟩; intro w hSw; (try dsimp only at hSw); go_simp; try with_reducible rfl)
              simp only [put_mk, List.set_cons_succ, List.set_cons_zero]
              refine wpAnyH_take (i := 8) (oi := ?o3x8) (v := ?v3x8) ?hi3x8 (by kernel_rfl) ?hf3x8 ?hr3x8 (fun _ _ _ h => h) ?hy3x8 (by assumption) ?rest3x8
              case hi3x8 => (simp only [List.getElem?_toArray, List.getElem?_cons_succ, List.getElem?_cons_zero]; exact rfl)
              case hf3x8 => kernel_rfl
              case hr3x8 => kernel_rfl
              case hy3x8 => (refine Or.inl ⟨by rfl, ?_⟩; intro w hSw; (try dsimp only at hSw); go_simp; try with_reducible rfl)
              simp only [put_mk, List.set_cons_succ, List.set_cons_zero]
              refine wpAnyH_take (i := 9) (oi := ?o3x9) (v := ?v3x9) ?hi3x9 (by kernel_rfl) ?hf3x9 ?hr3x9 (fun _ _ _ h => h) ?hy3x9 (by assumption) ?rest3x9
              case hi3x9 => (simp only [List.getElem?_toArray, List.getElem?_cons_succ, List.getElem?_cons_zero]; exact rfl)
              case hf3x9 => kernel_rfl
              case hr3x9 => kernel_rfl
              case hy3x9 => (refine Or.inl ⟨by rfl, ?_⟩; intro w hSw; (try dsimp only at hSw); go_simp; try with_reducible rfl)
              simp only [put_mk, List.set_cons_succ, List.set_cons_zero]
              refine wpAnyH_take (i := 10) (oi := ?o3x10) (v := ?v3x10) ?hi3x10 (by kernel_rfl) ?hf3x10 ?hr3x10 (fun _ _ _ h => h) ?hy3x10 (by assumption) ?rest3x10
              case hi3x10 => (simp only [List.getElem?_toArray, List.getElem?_cons_succ, List.getElem?_cons_zero]; exact rfl)
              case hf3x10 => kernel_rfl
              case hr3x10 => kernel_rfl
              case hy3x10 => (refine Or.inl ⟨by rfl, ?_⟩; intro w hSw; (try dsimp only at hSw); go_simp; try with_reducible rfl)
              simp only [put_mk, List.set_cons_succ, List.set_cons_zero]
              refine wpAnyH_take (i := 11) (oi := ?o3x11) (v := ?v3x11) ?hi3x11 (by kernel_rfl) ?hf3x11 ?hr3x11 (fun _ _ _ h => h) ?hy3x11 (by assumption) ?rest3x11
              case hi3x11 => (simp only [List.getElem?_toArray, List.getElem?_cons_succ, List.getElem?_cons_zero]; exact rfl)
              case hf3x11 => kernel_rfl
              case hr3x11 => kernel_rfl
              case hy3x11 => (refine Or.inl ⟨by rfl, ?_⟩; intro w hSw; (try dsimp only at hSw); go_simp; try with_reducible rfl)
              simp only [put_mk, List.set_cons_succ, List.set_cons_zero]
              refine wpAnyH_done (by kernel_rfl) ?_ _
              refine NoPanic.normal ?_
              clear e0 e1 f0 f1 wk wk2
              go_wp2
              go_roundw
              case rel => exact ⟨k + 1, by omega, by go_num, HE7.out, fun _ => by rw [Nat.add_sub_cancel, hpp2.out]; exact Hb.out, Hhx.out.trans hHeld⟩
              case measure => simp [intOf]; omega
      all_goals
        have hb : farP (px, py) = true := by unfold farP; simp; omega
        have HE5 := hidA (HE4.out.trans (if_pos hb))
        clear hb HE4
        go_quiet (fail)
        clear p0 p1
        go_wp2
        go_ret
        exact ⟨ret_i HE5.out.symm, hx1.trans (by repeat (first | exact Ext.refl _ | assumption | refine Ext.setCell ?_ (by first | (simp; done) | (simp; omega)) _ | refine Ext.drewN ?_ _ | refine Ext.alloc ?_ _ | refine Ext.drew ?_ | refine Ext.trans ?_ (by assumption)))⟩
    · have hkn2 : n = k := by omega
      subst hkn2
      have HE5 := hidA (show E = 0 from by rw [HEk.out, Nat.sub_self]; rfl)
      go_wp2
      go_ret
      exact ⟨ret_i HE5.out.symm, hx⟩
end Go.Proofs.Ytpgdinpckolfpaa

namespace Go.Proofs.Ytpgdinpckolfpaa
open Go.RowKit
attribute [local go_sem ↓] Go.wp_at_zero Go.wp_at_succ
attribute [local go_sem] run_store_float

set_option maxRecDepth 100000 in
set_option maxHeartbeats 1600000 in
theorem eqPts_same (A B : Option Addr) (n c d : Nat) (M : List (Int × Int)) (w : World) (hn : M.length = n) (ha : Rd w A (ptv M)) (hb : Rd w B (ptv M)) (hnb : n ≤ 4000000000) :
    Calls Try.prog 26 #[.slice A n c, .slice B n d] w fun e w' => e = .returned (.bool true) ∧ Ext w w' := by
  have Hn := hidA hn
  clear hn
  go_enter Try.func26, Try.ntmps26
  go_wp2
  go_loopw [13] (fun i wr => ∃ k m : Nat, k ≤ n ∧ i = .int .i64 k ∧ wr = w.drewN m) (fun i _ => n - (intOf i).toNat)
  case atStart => exact ⟨0, 0, Nat.zero_le _, rfl, rfl⟩
  case round =>
    obtain ⟨k, m, hk, rfl, rfl⟩ := hrel
    by_cases hlt : k < n
    · have hkl : k < M.length := by have := Hn.out; omega
      obtain ⟨ad, rfl, hbk, e0, e1⟩ := pt_at ha hkl
      obtain ⟨ad2, rfl, hbk2, e2, e3⟩ := pt_at hb hkl
      have k0 : (0 : Int) ≤ k := by omega
      have k1 : (k : Int) < n := by omega
      generalize (M.getD k (0, 0)).1 = qx at *
      generalize (M.getD k (0, 0)).2 = qy at *
      clear ha hb
      go_wp2
      go_quiet (fail)
      go_wp2
      go_roundw
      case rel => exact ⟨k + 1, _, by omega, by go_num, rfl⟩
      case measure => simp [intOf]; omega
    · obtain rfl : k = n := by omega
      go_wp2
      go_ret
      exact ⟨rfl, (by repeat (first | exact Ext.refl _ | assumption | refine Ext.setCell ?_ (by first | (simp; done) | (simp; omega)) _ | refine Ext.drewN ?_ _ | refine Ext.alloc ?_ _ | refine Ext.drew ?_ | refine Ext.trans ?_ (by assumption)))⟩
theorem wayI_ok {bad : Int × Int → Bool} {l : List (Int × Int)} : ∀ m k, wayI bad l k m = 0 → ∀ i, k ≤ i → i < k + m → bad (l.getD i (0, 0)) = false ∧ (0 < i → stepBad (l.getD (i - 1) (0, 0)) (l.getD i (0, 0)) = false)
  | 0, k, _, i, h1, h2 => by omega
  | m + 1, k, h, i, h1, h2 => by
    unfold wayI at h
    split at h
    · cases h
    · rename_i hb
      split at h
      · cases h
      · rename_i hs
        by_cases e : i = k
        · subst e
          refine ⟨by simpa using hb, fun h0 => ?_⟩
          cases hq : stepBad (l.getD (i - 1) (0, 0)) (l.getD i (0, 0))
          · rfl
          · exact absurd ⟨h0, hq⟩ hs
        · exact wayI_ok m (k + 1) h i (by omega) (by omega)
/-- the step to place i -/
def lpo (l : List (Int × Int)) (i : Nat) : Nat × Nat := (leapO ((l.getD i (0, 0)).1 - (l.getD (i - 1) (0, 0)).1) ((l.getD i (0, 0)).2 - (l.getD (i - 1) (0, 0)).2)).getD (0, 0)
/-- a way that may be -/
structure WayOk (bad : Int × Int → Bool) (l : List (Int × Int)) : Prop where
  pos : 1 ≤ l.length
  le : l.length ≤ 65536
  ok : ∀ i, i < l.length → bad (l.getD i (0, 0)) = false
  st : ∀ i, 0 < i → i < l.length → leapO ((l.getD i (0, 0)).1 - (l.getD (i - 1) (0, 0)).1) ((l.getD i (0, 0)).2 - (l.getD (i - 1) (0, 0)).2) = some (lpo l i) ∧ (lpo l i).1 < 8 ∧ 1 ≤ (lpo l i).2 ∧ (lpo l i).2 ≤ 12
theorem wayOk {bad : Int × Int → Bool} {l : List (Int × Int)} (h : wayE bad l = 0) : WayOk bad l := by
  unfold wayE at h
  split at h
  · cases h
  · split at h
    · cases h
    · have hk := wayI_ok _ _ h
      refine ⟨by omega, by omega, fun i hi => (hk i (by omega) (by omega)).1, fun i h0 hi => ?_⟩
      have hs := (hk i (by omega) (by omega)).2 h0
      unfold stepBad at hs
      cases hl : leapO ((l.getD i (0, 0)).1 - (l.getD (i - 1) (0, 0)).1) ((l.getD i (0, 0)).2 - (l.getD (i - 1) (0, 0)).2) with
      | none => rw [hl] at hs; cases hs
      | some p =>
        obtain ⟨d, n⟩ := p
        have e : lpo l i = (d, n) := by unfold lpo; rw [hl]; rfl
        rw [hl] at hs
        have hsp := leapO_spec hl
        rw [e]
        exact ⟨rfl, hsp.1, hsp.2.1, by simpa using hs⟩
/-- whether a place is kept -/
def cornB (l : List (Int × Int)) (i : Nat) : Bool := i == 0 || i + 1 == l.length || !((lpo l i).1 == (lpo l (i + 1)).1 && (lpo l i).2 == 1 && (lpo l (i + 1)).2 == 1)
def cornL (l : List (Int × Int)) (k : Nat) : List (Int × Int) := ((List.range k).filter (cornB l)).map fun i => l.getD i (0, 0)
theorem cornL_succ (l : List (Int × Int)) (k : Nat) : cornL l (k + 1) = cornL l k ++ (if cornB l k = true then [l.getD k (0, 0)] else []) := by
  unfold cornL
  rw [List.range_succ, List.filter_append, List.map_append]
  cases h : cornB l k <;> simp [h]
theorem cornL_le (l : List (Int × Int)) (k : Nat) : (cornL l k).length ≤ k := by
  unfold cornL
  rw [List.length_map]
  have := List.length_filter_le (cornB l) (List.range k)
  simpa using this
set_option maxRecDepth 100000 in
set_option maxHeartbeats 6400000 in
theorem Corners_ok (A : Option Addr) (n c : Nat) (l : List (Int × Int)) (w : World) (hn : l.length = n) (hV : Rd w A (ptv l)) (hok : WayOk farP l) (hE : wayE farP l = 0) :
    Calls Try.prog 38 #[.slice A n c] w fun e w' => ∃ v, e = .returned (.tuple #[v, .int .i64 0]) ∧ OwnP w' w.heap.size v (cornL l n) ∧ Ext w w' := by
  have HCk := fun (w' : World) (h : Ext w w') => hidA (checkWay_any 77 #[] enters_place farP A n c l w' (fun p hp => farP_false hp) (fun x y w2 _ => place_any x y w2) hn (hV.ext h))
  rw [hE] at HCk
  have HBt := fun (qx qy px py : Int) (w : World) (h1 : farP (qx, qy) = false) (h2 : farP (px, py) = false) => hidA (between_any qx qy px py w (by have := farP_false h1; dsimp only at this; omega) (by have := farP_false h1; dsimp only at this; omega) (by have := farP_false h2; dsimp only at this; omega) (by have := farP_false h2; dsimp only at this; omega))
  have Hn := hidA hn
  have Hok := hidA hok
  have hn6 : n ≤ 65536 := by rw [← hn]; exact hok.le
  obtain ⟨ti, hi0, hz0, hz1, hz2⟩ := info_parts infoPt
  clear hok hE hn
  go_enter Try.func38, Try.ntmps38
  go_upto_region 6 with (go_at_call 80; refine ((HCk _ (Ext.refl _)).out).mono ?_; rintro e w1 ⟨rfl, hx1⟩)
  clear HCk
  go_loopw [5, 19] (fun s5 s19 wr => ∃ k : Nat, k ≤ n ∧ s19 = .int .i64 k ∧ OwnP wr w.heap.size s5 (cornL l k) ∧ Ext w wr) (fun _ s19 _ => n - (intOf s19).toNat)
  case atStart => exact ⟨0, Nat.zero_le _, rfl, World.ownsRow_nil w1 _ _ 2, hx1⟩
  case round =>
    clear hx1
    obtain ⟨k, hk, rfl, hO, hx⟩ := hrel
    by_cases hkn : k < n
    · have hkl : k < l.length := by have := Hn.out; omega
      obtain ⟨ad, rfl, hbk, d0, d1⟩ := pt_at (hV.ext hx) hkl
      have i0 : (0 : Int) ≤ k := by omega
      have i1 : (k : Int) < n := by omega
      have hfp := Hok.out.ok k hkl
      obtain ⟨px, py, hpp⟩ : ∃ px py, l.getD k (0, 0) = (px, py) := ⟨_, _, rfl⟩
      rw [hpp] at d0 d1 hfp
      dsimp only at d0 d1
      have Hpp := hidA hpp
      have hcl := cornL_le l k
      go_upto_region 8 with fail
      have kP : Bk (wr.alloc (.cells #[.int .i64 px, .int .i64 py] 32)) wr.heap.size 32 #[.int .i64 px, .int .i64 py] := Bk.new' rfl
      have hx2 := hx.alloc (.cells #[.int .i64 px, .int .i64 py] 32)
      have hO2 := hO.ext ((Ext.refl wr).alloc (.cells #[.int .i64 px, .int .i64 py] 32))
      clear d0 d1 hpp hO
      generalize wr.alloc (.cells #[.int .i64 px, .int .i64 py] 32) = w2 at *
      generalize wr.heap.size = ha at *
      by_cases hedge : k = 0 ∨ k + 1 = n
      · have Hcb := hidA (show cornB l k = true from by unfold cornB; have := Hn.out; rcases hedge with h | h <;> simp [h]; omega)
        have hg : ¬ (0 : Int) < k ∨ (0 : Int) < k ∧ ¬ (k : Int) < n - 1 := by omega
        have Hx2 := hidA hx2
        have p0 := kP.cell 0
        have p1 := kP.cell 1
        clear hedge hx2 kP hfp
        have wn := IntWalk.wrap64_in ((n : Int) - 1) ⟨by omega, by omega⟩
        have Wn := hidA wn
        clear wn
        rcases hg with hg1 | ⟨hg1, hg2⟩
        · go_upto_region 12 with fail
          have hown2 := hidA (hO2.ext ((Ext.refl w2).alloc (.cells #[.int .i64 px, .int .i64 py] 32)))
          have hnews : Hid (∀ j u, ([Value.int .i64 px, .int .i64 py] : List Value)[j]? = some u → (w2.alloc (.cells #[.int .i64 px, .int .i64 py] 32)).cell? ((⟨w2.heap.size, 0, none⟩ : Addr).add j) = some u) := World.news_of_block (cs := #[.int .i64 px, .int .i64 py]) (t := 32) (fr := (0, 0)) (heap_alloc_new w2 _)
          have hone : Hid (∀ u ∈ ([Value.int .i64 px, .int .i64 py] : List Value), u.oneCell' = true) := by intro u hu; simp at hu; rcases hu with rfl | rfl <;> rfl
          have hs9 := hidA (show w.heap.size ≤ (w2.alloc (.cells #[.int .i64 px, .int .i64 py] 32)).heap.size from by have := Hx2.out.size; rw [World.size_alloc]; omega)
          clear hO2
          go_wp2_with (at_builtin; (refine wpList_append_lies _ (by rfl) _ _ 46 (by rfl) w.heap.size 32 ti (.agg #[.int .i64 0, .int .i64 0]) 2 16 Try.underlying46 hi0 hz0 hz1 hz2 (by rfl) (by decide) _ _ _ (by rfl) hown2.out ⟨w2.heap.size, 0, none⟩ 1 1 [.int .i64 px, .int .i64 py] (by rfl) (by rfl) hnews.out hone.out (by omega) (by unfold maxLen; omega) (by omega) hs9.out (w2.heap.size + 1) (by simp) ?_; intro gg cap w9 hown9 hgrow9 hat hlt))
          have hx9 := (Hx2.out.alloc (.cells #[.int .i64 px, .int .i64 py] 32)).grown hgrow9 (fun b hb => (World.ownsRow.lt hown2.out b hb).1)
          have HO9 := hidA hown9
          have Hx9 := hidA hx9
          clear hown9 hgrow9 hat hlt hx9
          go_roundw
          case rel => exact ⟨k + 1, by omega, by go_num, by have h8 := HO9.out; rw [cornL_succ, Hcb.out, Hpp.out]; unfold OwnP; simp only [if_true, ptv_append, List.length_append, List.length_cons, List.length_nil]; exact h8, Hx9.out⟩
          case measure => simp [intOf]; omega
        · have wn := Wn.out
          go_upto_region 12 with fail
          clear wn
          have hown2 := hidA (hO2.ext ((Ext.refl w2).alloc (.cells #[.int .i64 px, .int .i64 py] 32)))
          have hnews : Hid (∀ j u, ([Value.int .i64 px, .int .i64 py] : List Value)[j]? = some u → (w2.alloc (.cells #[.int .i64 px, .int .i64 py] 32)).cell? ((⟨w2.heap.size, 0, none⟩ : Addr).add j) = some u) := World.news_of_block (cs := #[.int .i64 px, .int .i64 py]) (t := 32) (fr := (0, 0)) (heap_alloc_new w2 _)
          have hone : Hid (∀ u ∈ ([Value.int .i64 px, .int .i64 py] : List Value), u.oneCell' = true) := by intro u hu; simp at hu; rcases hu with rfl | rfl <;> rfl
          have hs9 := hidA (show w.heap.size ≤ (w2.alloc (.cells #[.int .i64 px, .int .i64 py] 32)).heap.size from by have := Hx2.out.size; rw [World.size_alloc]; omega)
          clear hO2
          go_wp2_with (at_builtin; (refine wpList_append_lies _ (by rfl) _ _ 46 (by rfl) w.heap.size 32 ti (.agg #[.int .i64 0, .int .i64 0]) 2 16 Try.underlying46 hi0 hz0 hz1 hz2 (by rfl) (by decide) _ _ _ (by rfl) hown2.out ⟨w2.heap.size, 0, none⟩ 1 1 [.int .i64 px, .int .i64 py] (by rfl) (by rfl) hnews.out hone.out (by omega) (by unfold maxLen; omega) (by omega) hs9.out (w2.heap.size + 1) (by simp) ?_; intro gg cap w9 hown9 hgrow9 hat hlt))
          have hx9 := (Hx2.out.alloc (.cells #[.int .i64 px, .int .i64 py] 32)).grown hgrow9 (fun b hb => (World.ownsRow.lt hown2.out b hb).1)
          have HO9 := hidA hown9
          have Hx9 := hidA hx9
          clear hown9 hgrow9 hat hlt hx9
          go_roundw
          case rel => exact ⟨k + 1, by omega, by go_num, by have h8 := HO9.out; rw [cornL_succ, Hcb.out, Hpp.out]; unfold OwnP; simp only [if_true, ptv_append, List.length_append, List.length_cons, List.length_nil]; exact h8, Hx9.out⟩
          case measure => simp [intOf]; omega
      · have hkp : 0 < k := by omega
        have hk1 : k + 1 < n := by omega
        have hg1 : (0 : Int) < k := by omega
        have hg2 : (k : Int) < n - 1 := by omega
        have s1 := Hok.out.st k hkp hkl
        have s2 := Hok.out.st (k + 1) (by omega) (by have := Hn.out; omega)
        rw [Nat.add_sub_cancel] at s2
        obtain ⟨qx, qy, hqq⟩ : ∃ qx qy, l.getD (k - 1) (0, 0) = (qx, qy) := ⟨_, _, rfl⟩
        obtain ⟨rx, ry, hrr⟩ : ∃ rx ry, l.getD (k + 1) (0, 0) = (rx, ry) := ⟨_, _, rfl⟩
        have hfq := Hok.out.ok (k - 1) (by omega)
        have hfr := Hok.out.ok (k + 1) (by have := Hn.out; omega)
        rw [Hpp.out, hqq] at s1
        rw [Hpp.out, hrr] at s2
        rw [hqq] at hfq
        rw [hrr] at hfr
        dsimp only at s1 s2
        have Hcb : Hid (cornB l k = !((lpo l k).1 == (lpo l (k + 1)).1 && (lpo l k).2 == 1 && (lpo l (k + 1)).2 == 1)) := by
          show _ = _
          unfold cornB
          have e1 : (k == 0) = false := by simp; omega
          have e2 : (k + 1 == l.length) = false := by simp; have := Hn.out; omega
          rw [e1, e2]
          simp
        have HB1 := fun (w : World) => HBt qx qy px py w hfq hfp
        have HB2 := fun (w : World) => HBt px py rx ry w hfp hfr
        unfold btV at HB1 HB2
        rw [s1.1] at HB1
        rw [s2.1] at HB2
        obtain ⟨d1, n1, hl1⟩ : ∃ d1 n1, lpo l k = (d1, n1) := ⟨_, _, rfl⟩
        obtain ⟨d2, n2, hl2⟩ : ∃ d2 n2, lpo l (k + 1) = (d2, n2) := ⟨_, _, rfl⟩
        rw [hl1] at HB1 Hcb
        rw [hl2] at HB2 Hcb
        simp only at HB1 HB2
        have e0 : ∀ w', Ext w2 w' → w'.cell? (ad.add ((k - 1) * 2)) = some (.int .i64 qx) := fun w' h => by
          obtain ⟨ad', e, _, d0, _⟩ := pt_at (hV.ext (hx2.trans h)) (show k - 1 < l.length by omega)
          injection e with e
          subst e
          rw [hqq] at d0
          exact d0
        have e1 : ∀ w', Ext w2 w' → w'.cell? ⟨(ad.add ((k - 1) * 2)).block, (ad.add ((k - 1) * 2)).off + 1, none⟩ = some (.int .i64 qy) := fun w' h => by
          obtain ⟨ad', e, _, _, d1⟩ := pt_at (hV.ext (hx2.trans h)) (show k - 1 < l.length by omega)
          injection e with e
          subst e
          rw [hqq] at d1
          exact d1
        have e2 : ∀ w', Ext w2 w' → w'.cell? (ad.add ((k + 1) * 2)) = some (.int .i64 rx) := fun w' h => by
          obtain ⟨ad', e, _, d0, _⟩ := pt_at (hV.ext (hx2.trans h)) (show k + 1 < l.length by have := Hn.out; omega)
          injection e with e
          subst e
          rw [hrr] at d0
          exact d0
        have e3 : ∀ w', Ext w2 w' → w'.cell? ⟨(ad.add ((k + 1) * 2)).block, (ad.add ((k + 1) * 2)).off + 1, none⟩ = some (.int .i64 ry) := fun w' h => by
          obtain ⟨ad', e, _, _, d1⟩ := pt_at (hV.ext (hx2.trans h)) (show k + 1 < l.length by have := Hn.out; omega)
          injection e with e
          subst e
          rw [hrr] at d1
          exact d1
        have f0 : ∀ w', Ext w2 w' → w'.cell? ⟨ha, 0, none⟩ = some (.int .i64 px) := fun w' h => (kP.ext h).cell 0
        have f1 : ∀ w', Ext w2 w' → w'.cell? ⟨ha, 1, none⟩ = some (.int .i64 py) := fun w' h => (kP.ext h).cell 1
        have j0 : (0 : Int) ≤ ((k - 1 : Nat) : Int) := by omega
        have j1 : ((k - 1 : Nat) : Int) < n := by omega
        have j2 : (0 : Int) ≤ ((k + 1 : Nat) : Int) := by omega
        have j3 : ((k + 1 : Nat) : Int) < n := by omega
        have j4 : (k : Int) + 1 < n := by omega
        have Hwk := hidA (show wrap64 ((k : Int) - 1) = ((k - 1 : Nat) : Int) by rw [IntWalk.wrap64_in _ ⟨by omega, by omega⟩]; omega)
        have Hwk2 := hidA (show IntKind.i64.wrap ((k : Int) - 1) = ((k - 1 : Nat) : Int) by rw [IntWalk.i64_in _ ⟨by omega, by omega⟩]; omega)
        have Hwk3 := hidA (show wrap64 ((k : Int) + 1) = (k : Int) + 1 from IntWalk.wrap64_in _ ⟨by omega, by omega⟩)
        have Hwk4 := hidA (show IntKind.i64.wrap ((k : Int) + 1) = (k : Int) + 1 from IntWalk.i64_in _ ⟨by omega, by omega⟩)
        have j5 : (0 : Int) ≤ (k : Int) + 1 := by omega
        have Hwn := hidA (IntWalk.wrap64_in ((n : Int) - 1) ⟨by omega, by omega⟩)
        have hcs : ¬ d1 = d2 ∨ (d1 = d2 ∧ ¬ n1 = 1) ∨ (d1 = d2 ∧ n1 = 1 ∧ ¬ n2 = 1) ∨ (d1 = d2 ∧ n1 = 1 ∧ n2 = 1) := by omega
        have Hx2 := hidA hx2
        have KP := hidA kP
        clear hedge s1 s2 hl1 hl2 hqq hrr hfq hfr hfp HBt hx2 kP
        have wn := Hwn.out
        go_upto_region 9 with fail
        clear wn
        have wk := Hwk.out
        have wk2 := Hwk2.out
        refine wp_region_noPanic ?_
        refine wp_region_held_drew (S := fun w' => Ext w2 w') (by kernel_rfl) ?_ (fun hHeld => ?_)
        · (repeat (first | exact Ext.refl _ | assumption | refine Ext.setCell ?_ (by first | (simp; done) | (simp; omega)) _ | refine Ext.drewN ?_ _ | refine Ext.alloc ?_ _ | refine Ext.drew ?_ | refine Ext.trans ?_ (by assumption)))
        refine wpAnyH_take (i := 0) (oi := ?o1x0) (v := ?v1x0) ?hi1x0 (by kernel_rfl) ?hf1x0 ?hr1x0 (fun _ _ _ h => h) ?hy1x0 (by assumption) ?rest1x0
        case hi1x0 => (simp only [List.getElem?_toArray, List.getElem?_cons_zero]; exact rfl)
        case hf1x0 => kernel_rfl
        case hr1x0 => kernel_rfl
        case hy1x0 => (refine Or.inl ⟨by rfl, ?_⟩; intro w hSw; (try dsimp only at hSw); go_simp; try with_reducible rfl)
        simp only [put_mk, List.set_cons_succ, List.set_cons_zero]
        refine wpAnyH_take (i := 1) (oi := ?o1x1) (v := ?v1x1) ?hi1x1 (by kernel_rfl) ?hf1x1 ?hr1x1 (fun _ _ _ h => h) ?hy1x1 (by assumption) ?rest1x1
        case hi1x1 => (simp only [List.getElem?_toArray, List.getElem?_cons_succ, List.getElem?_cons_zero]; exact rfl)
        case hf1x1 => kernel_rfl
        case hr1x1 => kernel_rfl
        case hy1x1 => (refine Or.inl ⟨by rfl, ?_⟩; intro w hSw; (try dsimp only at hSw); go_simp; try with_reducible rfl)
        simp only [put_mk, List.set_cons_succ, List.set_cons_zero]
        refine wpAnyH_take (i := 2) (oi := ?o1x2) (v := ?v1x2) ?hi1x2 (by kernel_rfl) ?hf1x2 ?hr1x2 (fun _ _ _ h => h) ?hy1x2 (by assumption) ?rest1x2
        case hi1x2 => (simp only [List.getElem?_toArray, List.getElem?_cons_succ, List.getElem?_cons_zero]; exact rfl)
        case hf1x2 => kernel_rfl
        case hr1x2 => kernel_rfl
        case hy1x2 => (refine Or.inl ⟨by rfl, ?_⟩; intro w hSw; (try dsimp only at hSw); go_simp; try with_reducible rfl)
        simp only [put_mk, List.set_cons_succ, List.set_cons_zero]
        refine wpAnyH_take (i := 3) (oi := ?o1x3) (v := ?v1x3) ?hi1x3 (by kernel_rfl) ?hf1x3 ?hr1x3 (fun _ _ _ h => h) ?hy1x3 (by assumption) ?rest1x3
        case hi1x3 => (simp only [List.getElem?_toArray, List.getElem?_cons_succ, List.getElem?_cons_zero]; exact rfl)
        case hf1x3 => kernel_rfl
        case hr1x3 => kernel_rfl
        case hy1x3 => (refine Or.inl ⟨by rfl, ?_⟩; intro w hSw; (try dsimp only at hSw); go_simp; try with_reducible rfl)
        simp only [put_mk, List.set_cons_succ, List.set_cons_zero]
        refine wpAnyH_take (i := 4) (oi := ?o1x4) (v := ?v1x4) ?hi1x4 (by kernel_rfl) ?hf1x4 ?hr1x4 (fun _ _ _ h => h) ?hy1x4 (by assumption) ?rest1x4
        case hi1x4 => (simp only [List.getElem?_toArray, List.getElem?_cons_succ, List.getElem?_cons_zero]; exact rfl)
        case hf1x4 => kernel_rfl
        case hr1x4 => kernel_rfl
        case hy1x4 => (refine Or.inl ⟨by rfl, ?_⟩; intro w hSw; (try dsimp only at hSw); go_simp; try with_reducible rfl)
        simp only [put_mk, List.set_cons_succ, List.set_cons_zero]
        refine wpAnyH_take (i := 5) (oi := ?o1x5) (v := ?v1x5) ?hi1x5 (by kernel_rfl) ?hf1x5 ?hr1x5 (fun _ _ _ h => h) ?hy1x5 (by assumption) ?rest1x5
        case hi1x5 => (simp only [List.getElem?_toArray, List.getElem?_cons_succ, List.getElem?_cons_zero]; exact rfl)
        case hf1x5 => kernel_rfl
        case hr1x5 => kernel_rfl
        case hy1x5 => (refine Or.inl ⟨by rfl, ?_⟩; intro w hSw; (try dsimp only at hSw); go_simp; try with_reducible rfl)
        simp only [put_mk, List.set_cons_succ, List.set_cons_zero]
        refine wpAnyH_ready (rs := [6]) (by kernel_rfl) (by simp) ?_
        refine AllReadyH.cons (o := ?o1x6) ?hi1x6 (fun K hK => ?_) AllReadyH.nil
        case hi1x6 => (simp only [List.getElem?_toArray, List.getElem?_cons_succ, List.getElem?_cons_zero]; exact rfl)
        go_simp
        go_at_call 78; refine ((HB1 _).out).mono ?_; rintro e w5 ⟨rfl, hx5⟩
        refine hK.out _ _ ?_ (fun hHeld => ?_)
        · (repeat (first | exact Ext.refl _ | assumption | refine Ext.setCell ?_ (by first | (simp; done) | (simp; omega)) _ | refine Ext.drewN ?_ _ | refine Ext.alloc ?_ _ | refine Ext.drew ?_ | refine Ext.trans ?_ (by assumption)))
        clear hK K
        refine wpAnyH_take (i := 7) (oi := ?o1x7) (v := ?v1x7) ?hi1x7 (by kernel_rfl) ?hf1x7 ?hr1x7 (fun _ _ _ h => h) ?hy1x7 (by assumption) ?rest1x7
        case hi1x7 => (simp only [List.getElem?_toArray, List.getElem?_cons_succ, List.getElem?_cons_zero]; exact rfl)
        case hf1x7 => kernel_rfl
        case hr1x7 => kernel_rfl
        case hy1x7 => (refine Or.inl ⟨by rfl, ?_⟩; intro w hSw; (try dsimp only at hSw); go_simp; try with_reducible rfl)
        simp only [put_mk, List.set_cons_succ, List.set_cons_zero]
        refine wpAnyH_take (i := 8) (oi := ?o1x8) (v := ?v1x8) ?hi1x8 (by kernel_rfl) ?hf1x8 ?hr1x8 (fun _ _ _ h => h) ?hy1x8 (by assumption) ?rest1x8
        case hi1x8 => (simp only [List.getElem?_toArray, List.getElem?_cons_succ, List.getElem?_cons_zero]; exact rfl)
        case hf1x8 => kernel_rfl
        case hr1x8 => kernel_rfl
        case hy1x8 => (refine Or.inl ⟨by rfl, ?_⟩; intro w hSw; (try dsimp only at hSw); go_simp; try with_reducible rfl)
        simp only [put_mk, List.set_cons_succ, List.set_cons_zero]
        refine wpAnyH_take (i := 9) (oi := ?o1x9) (v := ?v1x9) ?hi1x9 (by kernel_rfl) ?hf1x9 ?hr1x9 (fun _ _ _ h => h) ?hy1x9 (by assumption) ?rest1x9
        case hi1x9 => (simp only [List.getElem?_toArray, List.getElem?_cons_succ, List.getElem?_cons_zero]; exact rfl)
        case hf1x9 => kernel_rfl
        case hr1x9 => kernel_rfl
        case hy1x9 => (refine Or.inl ⟨by rfl, ?_⟩; intro w hSw; (try dsimp only at hSw); go_simp; try with_reducible rfl)
        simp only [put_mk, List.set_cons_succ, List.set_cons_zero]
        refine wpAnyH_take (i := 10) (oi := ?o1x10) (v := ?v1x10) ?hi1x10 (by kernel_rfl) ?hf1x10 ?hr1x10 (fun _ _ _ h => h) ?hy1x10 (by assumption) ?rest1x10
        case hi1x10 => (simp only [List.getElem?_toArray, List.getElem?_cons_succ, List.getElem?_cons_zero]; exact rfl)
        case hf1x10 => kernel_rfl
        case hr1x10 => kernel_rfl
        case hy1x10 => (refine Or.inl ⟨by rfl, ?_⟩; intro w hSw; (try dsimp only at hSw); go_simp; try with_reducible rfl)
        simp only [put_mk, List.set_cons_succ, List.set_cons_zero]
        refine wpAnyH_take (i := 11) (oi := ?o1x11) (v := ?v1x11) ?hi1x11 (by kernel_rfl) ?hf1x11 ?hr1x11 (fun _ _ _ h => h) ?hy1x11 (by assumption) ?rest1x11
        case hi1x11 => (simp only [List.getElem?_toArray, List.getElem?_cons_succ, List.getElem?_cons_zero]; exact rfl)
        case hf1x11 => kernel_rfl
        case hr1x11 => kernel_rfl
        case hy1x11 => (refine Or.inl ⟨by rfl, ?_⟩; intro w hSw; (try dsimp only at hSw); go_simp; try with_reducible rfl)
        simp only [put_mk, List.set_cons_succ, List.set_cons_zero]
        refine wpAnyH_done (by kernel_rfl) ?_ _
        refine NoPanic.normal ?_
        clear wk wk2 e0 e1
        have hx5 : Ext w2 w5 := hHeld
        have E2 := fun (w' : World) (h : Ext w5 w') => e2 w' (hx5.trans h)
        have E3 := fun (w' : World) (h : Ext w5 w') => e3 w' (hx5.trans h)
        have F0 := fun (w' : World) (h : Ext w5 w') => f0 w' (hx5.trans h)
        have F1 := fun (w' : World) (h : Ext w5 w') => f1 w' (hx5.trans h)
        clear e2 e3 f0 f1
        go_upto_region 10 with fail
        have wk := Hwk3.out
        have wk2 := Hwk4.out
        refine wp_region_noPanic ?_
        refine wp_region_held_drew (S := fun w' => Ext w5 w') (by kernel_rfl) ?_ (fun hHeld => ?_)
        · (repeat (first | exact Ext.refl _ | assumption | refine Ext.setCell ?_ (by first | (simp; done) | (simp; omega)) _ | refine Ext.drewN ?_ _ | refine Ext.alloc ?_ _ | refine Ext.drew ?_ | refine Ext.trans ?_ (by assumption)))
        refine wpAnyH_take (i := 0) (oi := ?o2x0) (v := ?v2x0) ?hi2x0 (by kernel_rfl) ?hf2x0 ?hr2x0 (fun _ _ _ h => h) ?hy2x0 (by assumption) ?rest2x0
        case hi2x0 => (simp only [List.getElem?_toArray, List.getElem?_cons_zero]; exact rfl)
        case hf2x0 => kernel_rfl
        case hr2x0 => kernel_rfl
        case hy2x0 => (refine Or.inl ⟨by rfl, ?_⟩; intro w hSw; (try dsimp only at hSw); go_simp; try with_reducible rfl)
        simp only [put_mk, List.set_cons_succ, List.set_cons_zero]
        refine wpAnyH_take (i := 1) (oi := ?o2x1) (v := ?v2x1) ?hi2x1 (by kernel_rfl) ?hf2x1 ?hr2x1 (fun _ _ _ h => h) ?hy2x1 (by assumption) ?rest2x1
        case hi2x1 => (simp only [List.getElem?_toArray, List.getElem?_cons_succ, List.getElem?_cons_zero]; exact rfl)
        case hf2x1 => kernel_rfl
        case hr2x1 => kernel_rfl
        case hy2x1 => (refine Or.inl ⟨by rfl, ?_⟩; intro w hSw; (try dsimp only at hSw); go_simp; try with_reducible rfl)
        simp only [put_mk, List.set_cons_succ, List.set_cons_zero]
        refine wpAnyH_take (i := 2) (oi := ?o2x2) (v := ?v2x2) ?hi2x2 (by kernel_rfl) ?hf2x2 ?hr2x2 (fun _ _ _ h => h) ?hy2x2 (by assumption) ?rest2x2
        case hi2x2 => (simp only [List.getElem?_toArray, List.getElem?_cons_succ, List.getElem?_cons_zero]; exact rfl)
        case hf2x2 => kernel_rfl
        case hr2x2 => kernel_rfl
        case hy2x2 => (refine Or.inl ⟨by rfl, ?_⟩; intro w hSw; (try dsimp only at hSw); go_simp; try with_reducible rfl)
        simp only [put_mk, List.set_cons_succ, List.set_cons_zero]
        refine wpAnyH_take (i := 3) (oi := ?o2x3) (v := ?v2x3) ?hi2x3 (by kernel_rfl) ?hf2x3 ?hr2x3 (fun _ _ _ h => h) ?hy2x3 (by assumption) ?rest2x3
        case hi2x3 => (simp only [List.getElem?_toArray, List.getElem?_cons_succ, List.getElem?_cons_zero]; exact rfl)
        case hf2x3 => kernel_rfl
        case hr2x3 => kernel_rfl
        case hy2x3 => (refine Or.inl ⟨by rfl, ?_⟩; intro w hSw; (try dsimp only at hSw); go_simp; try with_reducible rfl)
        simp only [put_mk, List.set_cons_succ, List.set_cons_zero]
        refine wpAnyH_take (i := 4) (oi := ?o2x4) (v := ?v2x4) ?hi2x4 (by kernel_rfl) ?hf2x4 ?hr2x4 (fun _ _ _ h => h) ?hy2x4 (by assumption) ?rest2x4
        case hi2x4 => (simp only [List.getElem?_toArray, List.getElem?_cons_succ, List.getElem?_cons_zero]; exact rfl)
        case hf2x4 => kernel_rfl
        case hr2x4 => kernel_rfl
        case hy2x4 => (refine Or.inl ⟨by rfl, ?_⟩; intro w hSw; (try dsimp only at hSw); go_simp; try with_reducible rfl)
        simp only [put_mk, List.set_cons_succ, List.set_cons_zero]
        refine wpAnyH_take (i := 5) (oi := ?o2x5) (v := ?v2x5) ?hi2x5 (by kernel_rfl) ?hf2x5 ?hr2x5 (fun _ _ _ h => h) ?hy2x5 (by assumption) ?rest2x5
        case hi2x5 => (simp only [List.getElem?_toArray, List.getElem?_cons_succ, List.getElem?_cons_zero]; exact rfl)
        case hf2x5 => kernel_rfl
        case hr2x5 => kernel_rfl
        case hy2x5 => (refine Or.inl ⟨by rfl, ?_⟩; intro w hSw; (try dsimp only at hSw); go_simp; try with_reducible rfl)
        simp only [put_mk, List.set_cons_succ, List.set_cons_zero]
        refine wpAnyH_ready (rs := [6]) (by kernel_rfl) (by simp) ?_
        refine AllReadyH.cons (o := ?o2x6) ?hi2x6 (fun K hK => ?_) AllReadyH.nil
        case hi2x6 => (simp only [List.getElem?_toArray, List.getElem?_cons_succ, List.getElem?_cons_zero]; exact rfl)
        go_simp
        go_at_call 78; refine ((HB2 _).out).mono ?_; rintro e w6 ⟨rfl, hx6⟩
        refine hK.out _ _ ?_ (fun hHeld => ?_)
        · (repeat (first | exact Ext.refl _ | assumption | refine Ext.setCell ?_ (by first | (simp; done) | (simp; omega)) _ | refine Ext.drewN ?_ _ | refine Ext.alloc ?_ _ | refine Ext.drew ?_ | refine Ext.trans ?_ (by assumption)))
        clear hK K
        refine wpAnyH_take (i := 7) (oi := ?o2x7) (v := ?v2x7) ?hi2x7 (by kernel_rfl) ?hf2x7 ?hr2x7 (fun _ _ _ h => h) ?hy2x7 (by assumption) ?rest2x7
        case hi2x7 => (simp only [List.getElem?_toArray, List.getElem?_cons_succ, List.getElem?_cons_zero]; exact rfl)
        case hf2x7 => kernel_rfl
        case hr2x7 => kernel_rfl
        case hy2x7 => (refine Or.inl ⟨by rfl, ?_⟩; intro w hSw; (try dsimp only at hSw); go_simp; try with_reducible rfl)
        simp only [put_mk, List.set_cons_succ, List.set_cons_zero]
        refine wpAnyH_take (i := 8) (oi := ?o2x8) (v := ?v2x8) ?hi2x8 (by kernel_rfl) ?hf2x8 ?hr2x8 (fun _ _ _ h => h) ?hy2x8 (by assumption) ?rest2x8
        case hi2x8 => (simp only [List.getElem?_toArray, List.getElem?_cons_succ, List.getElem?_cons_zero]; exact rfl)
        case hf2x8 => kernel_rfl
        case hr2x8 => kernel_rfl
        case hy2x8 => (refine Or.inl ⟨by rfl, ?_⟩; intro w hSw; (try dsimp only at hSw); go_simp; try with_reducible rfl)
        simp only [put_mk, List.set_cons_succ, List.set_cons_zero]
        refine wpAnyH_take (i := 9) (oi := ?o2x9) (v := ?v2x9) ?hi2x9 (by kernel_rfl) ?hf2x9 ?hr2x9 (fun _ _ _ h => h) ?hy2x9 (by assumption) ?rest2x9
        case hi2x9 => (simp only [List.getElem?_toArray, List.getElem?_cons_succ, List.getElem?_cons_zero]; exact rfl)
        case hf2x9 => kernel_rfl
        case hr2x9 => kernel_rfl
        case hy2x9 => (refine Or.inl ⟨by rfl, ?_⟩; intro w hSw; (try dsimp only at hSw); go_simp; try with_reducible rfl)
        simp only [put_mk, List.set_cons_succ, List.set_cons_zero]
        refine wpAnyH_take (i := 10) (oi := ?o2x10) (v := ?v2x10) ?hi2x10 (by kernel_rfl) ?hf2x10 ?hr2x10 (fun _ _ _ h => h) ?hy2x10 (by assumption) ?rest2x10
        case hi2x10 => (simp only [List.getElem?_toArray, List.getElem?_cons_succ, List.getElem?_cons_zero]; exact rfl)
        case hf2x10 => kernel_rfl
        case hr2x10 => kernel_rfl
        case hy2x10 => (refine Or.inl ⟨by rfl, ?_⟩; intro w hSw; (try dsimp only at hSw); go_simp; try with_reducible rfl)
        simp only [put_mk, List.set_cons_succ, List.set_cons_zero]
        refine wpAnyH_take (i := 11) (oi := ?o2x11) (v := ?v2x11) ?hi2x11 (by kernel_rfl) ?hf2x11 ?hr2x11 (fun _ _ _ h => h) ?hy2x11 (by assumption) ?rest2x11
        case hi2x11 => (simp only [List.getElem?_toArray, List.getElem?_cons_succ, List.getElem?_cons_zero]; exact rfl)
        case hf2x11 => kernel_rfl
        case hr2x11 => kernel_rfl
        case hy2x11 => (refine Or.inl ⟨by rfl, ?_⟩; intro w hSw; (try dsimp only at hSw); go_simp; try with_reducible rfl)
        simp only [put_mk, List.set_cons_succ, List.set_cons_zero]
        refine wpAnyH_done (by kernel_rfl) ?_ _
        refine NoPanic.normal ?_
        clear wk wk2
        have hx6 : Ext w2 w6 := hx5.trans hHeld
        have hO6 := hO2.ext hx6
        have kP6 := KP.out.ext hx6
        have hx66 := Hx2.out.trans hx6
        clear E2 E3 F0 F1 hO2 hx5 hx6 hHeld KP Hx2
        have p0 := kP6.cell 0
        have p1 := kP6.cell 1
        have Hx2 := hidA hx66
        have hO2 := hO6
        clear hO6 hx66 kP6
        rcases hcs with q1 | ⟨q1, q2⟩ | ⟨q1, q2, q3⟩ | ⟨q1, q2, q3⟩
        · have Hcb := hidA (show cornB l k = true from by rw [Hcb.out]; simp [q1])
          have q1' : ((d1 : Int) == d2) = false := by simp; omega
          go_upto_region 12 with fail
          have hown2 := hidA (hO2.ext ((Ext.refl w6).alloc (.cells #[.int .i64 px, .int .i64 py] 32)))
          have hnews : Hid (∀ j u, ([Value.int .i64 px, .int .i64 py] : List Value)[j]? = some u → (w6.alloc (.cells #[.int .i64 px, .int .i64 py] 32)).cell? ((⟨w6.heap.size, 0, none⟩ : Addr).add j) = some u) := World.news_of_block (cs := #[.int .i64 px, .int .i64 py]) (t := 32) (fr := (0, 0)) (heap_alloc_new w6 _)
          have hone : Hid (∀ u ∈ ([Value.int .i64 px, .int .i64 py] : List Value), u.oneCell' = true) := by intro u hu; simp at hu; rcases hu with rfl | rfl <;> rfl
          have hs9 := hidA (show w.heap.size ≤ (w6.alloc (.cells #[.int .i64 px, .int .i64 py] 32)).heap.size from by have := Hx2.out.size; rw [World.size_alloc]; omega)
          clear hO2
          go_wp2_with (at_builtin; (refine wpList_append_lies _ (by rfl) _ _ 46 (by rfl) w.heap.size 32 ti (.agg #[.int .i64 0, .int .i64 0]) 2 16 Try.underlying46 hi0 hz0 hz1 hz2 (by rfl) (by decide) _ _ _ (by rfl) hown2.out ⟨w6.heap.size, 0, none⟩ 1 1 [.int .i64 px, .int .i64 py] (by rfl) (by rfl) hnews.out hone.out (by omega) (by unfold maxLen; omega) (by omega) hs9.out (w6.heap.size + 1) (by simp) ?_; intro gg cap w9 hown9 hgrow9 hat hlt))
          have hx9 := (Hx2.out.alloc (.cells #[.int .i64 px, .int .i64 py] 32)).grown hgrow9 (fun b hb => (World.ownsRow.lt hown2.out b hb).1)
          have HO9 := hidA hown9
          have Hx9 := hidA hx9
          clear hown9 hgrow9 hat hlt hx9
          go_roundw
          case rel => exact ⟨k + 1, by omega, by go_num, by have h8 := HO9.out; rw [cornL_succ, Hcb.out, Hpp.out]; unfold OwnP; simp only [if_true, ptv_append, List.length_append, List.length_cons, List.length_nil]; exact h8, Hx9.out⟩
          case measure => simp [intOf]; omega
        · have Hcb := hidA (show cornB l k = true from by rw [Hcb.out]; simp [q2])
          have q1' : ((d1 : Int) == d2) = true := by simp; omega
          have q2' : ((n1 : Int) == 1) = false := by simp; omega
          go_upto_region 12 with fail
          have hown2 := hidA (hO2.ext ((Ext.refl w6).alloc (.cells #[.int .i64 px, .int .i64 py] 32)))
          have hnews : Hid (∀ j u, ([Value.int .i64 px, .int .i64 py] : List Value)[j]? = some u → (w6.alloc (.cells #[.int .i64 px, .int .i64 py] 32)).cell? ((⟨w6.heap.size, 0, none⟩ : Addr).add j) = some u) := World.news_of_block (cs := #[.int .i64 px, .int .i64 py]) (t := 32) (fr := (0, 0)) (heap_alloc_new w6 _)
          have hone : Hid (∀ u ∈ ([Value.int .i64 px, .int .i64 py] : List Value), u.oneCell' = true) := by intro u hu; simp at hu; rcases hu with rfl | rfl <;> rfl
          have hs9 := hidA (show w.heap.size ≤ (w6.alloc (.cells #[.int .i64 px, .int .i64 py] 32)).heap.size from by have := Hx2.out.size; rw [World.size_alloc]; omega)
          clear hO2
          go_wp2_with (at_builtin; (refine wpList_append_lies _ (by rfl) _ _ 46 (by rfl) w.heap.size 32 ti (.agg #[.int .i64 0, .int .i64 0]) 2 16 Try.underlying46 hi0 hz0 hz1 hz2 (by rfl) (by decide) _ _ _ (by rfl) hown2.out ⟨w6.heap.size, 0, none⟩ 1 1 [.int .i64 px, .int .i64 py] (by rfl) (by rfl) hnews.out hone.out (by omega) (by unfold maxLen; omega) (by omega) hs9.out (w6.heap.size + 1) (by simp) ?_; intro gg cap w9 hown9 hgrow9 hat hlt))
          have hx9 := (Hx2.out.alloc (.cells #[.int .i64 px, .int .i64 py] 32)).grown hgrow9 (fun b hb => (World.ownsRow.lt hown2.out b hb).1)
          have HO9 := hidA hown9
          have Hx9 := hidA hx9
          clear hown9 hgrow9 hat hlt hx9
          go_roundw
          case rel => exact ⟨k + 1, by omega, by go_num, by have h8 := HO9.out; rw [cornL_succ, Hcb.out, Hpp.out]; unfold OwnP; simp only [if_true, ptv_append, List.length_append, List.length_cons, List.length_nil]; exact h8, Hx9.out⟩
          case measure => simp [intOf]; omega
        · have Hcb := hidA (show cornB l k = true from by rw [Hcb.out]; simp [q3])
          have q1' : ((d1 : Int) == d2) = true := by simp; omega
          have q2' : ((n1 : Int) == 1) = true := by simp; omega
          have q3' : ((n2 : Int) == 1) = false := by simp; omega
          go_upto_region 12 with fail
          have hown2 := hidA (hO2.ext ((Ext.refl w6).alloc (.cells #[.int .i64 px, .int .i64 py] 32)))
          have hnews : Hid (∀ j u, ([Value.int .i64 px, .int .i64 py] : List Value)[j]? = some u → (w6.alloc (.cells #[.int .i64 px, .int .i64 py] 32)).cell? ((⟨w6.heap.size, 0, none⟩ : Addr).add j) = some u) := World.news_of_block (cs := #[.int .i64 px, .int .i64 py]) (t := 32) (fr := (0, 0)) (heap_alloc_new w6 _)
          have hone : Hid (∀ u ∈ ([Value.int .i64 px, .int .i64 py] : List Value), u.oneCell' = true) := by intro u hu; simp at hu; rcases hu with rfl | rfl <;> rfl
          have hs9 := hidA (show w.heap.size ≤ (w6.alloc (.cells #[.int .i64 px, .int .i64 py] 32)).heap.size from by have := Hx2.out.size; rw [World.size_alloc]; omega)
          clear hO2
          go_wp2_with (at_builtin; (refine wpList_append_lies _ (by rfl) _ _ 46 (by rfl) w.heap.size 32 ti (.agg #[.int .i64 0, .int .i64 0]) 2 16 Try.underlying46 hi0 hz0 hz1 hz2 (by rfl) (by decide) _ _ _ (by rfl) hown2.out ⟨w6.heap.size, 0, none⟩ 1 1 [.int .i64 px, .int .i64 py] (by rfl) (by rfl) hnews.out hone.out (by omega) (by unfold maxLen; omega) (by omega) hs9.out (w6.heap.size + 1) (by simp) ?_; intro gg cap w9 hown9 hgrow9 hat hlt))
          have hx9 := (Hx2.out.alloc (.cells #[.int .i64 px, .int .i64 py] 32)).grown hgrow9 (fun b hb => (World.ownsRow.lt hown2.out b hb).1)
          have HO9 := hidA hown9
          have Hx9 := hidA hx9
          clear hown9 hgrow9 hat hlt hx9
          go_roundw
          case rel => exact ⟨k + 1, by omega, by go_num, by have h8 := HO9.out; rw [cornL_succ, Hcb.out, Hpp.out]; unfold OwnP; simp only [if_true, ptv_append, List.length_append, List.length_cons, List.length_nil]; exact h8, Hx9.out⟩
          case measure => simp [intOf]; omega
        · have Hcb := hidA (show cornB l k = false from by rw [Hcb.out]; simp [q1, q2, q3])
          have q1' : ((d1 : Int) == d2) = true := by simp; omega
          have q2' : ((n1 : Int) == 1) = true := by simp; omega
          have q3' : ((n2 : Int) == 1) = true := by simp; omega
          have HO2 := hidA hO2
          clear hO2
          go_wp2
          go_roundw
          case rel => exact ⟨k + 1, by omega, by go_num, by rw [cornL_succ, Hcb.out]; simpa using HO2.out, Hx2.out⟩
          case measure => simp [intOf]; omega
    · have hkn2 : n = k := by omega
      subst hkn2
      have HO := hidA hO
      go_wp2
      go_ret2
      exact ⟨_, rfl, HO.out, hx⟩
end Go.Proofs.Ytpgdinpckolfpaa

namespace Go.Proofs.Ytpgdinpckolfpaa
open Go.RowKit
attribute [local go_sem ↓] Go.wp_at_zero Go.wp_at_succ
attribute [local go_sem] run_store_float

theorem OwnP.any {w : World} {base : Nat} {v : Value} {xs : List (Int × Int)} (h : OwnP w base v xs) : ∃ A cap, v = .slice A xs.length cap ∧ Rd w A (ptv xs) := by
  rcases h.2 with ⟨h1, h2⟩ | ⟨g, cap, cur, hv, _⟩
  · have hx : xs = [] := List.eq_nil_of_length_eq_zero h2
    subst hx
    exact ⟨none, 0, h1, Rd.nil _ _⟩
  · subst hv
    exact ⟨_, cap, rfl, Rd.of_own h⟩
set_option maxRecDepth 100000 in
set_option maxHeartbeats 3200000 in
theorem Corners_bad (A : Option Addr) (n c : Nat) (l : List (Int × Int)) (w : World) (hn : l.length = n) (hV : Rd w A (ptv l)) (hE : wayE farP l ≠ 0) :
    Calls Try.prog 38 #[.slice A n c] w fun e w' => e = .returned (.tuple #[.slice none 0 0, .int .i64 (wayE farP l)]) ∧ Ext w w' := by
  have HCk := fun (w' : World) (h : Ext w w') => hidA (checkWay_any 77 #[] enters_place farP A n c l w' (fun p hp => farP_false hp) (fun x y w2 _ => place_any x y w2) hn (hV.ext h))
  have hne : (wayE farP l != 0) = true := by simpa using hE
  clear hE hn
  generalize wayE farP l = E at *
  go_enter Try.func38, Try.ntmps38
  go_wp2_with (go_at_call 80; refine ((HCk _ (Ext.refl _)).out).mono ?_; rintro e w1 ⟨rfl, hx1⟩)
  go_ret2
  exact ⟨rfl, hx1⟩
set_option maxRecDepth 100000 in
set_option maxHeartbeats 3200000 in
theorem corners_bad (A : Option Addr) (n c : Nat) (l : List (Int × Int)) (w : World) (hn : l.length = n) (hV : Rd w A (ptv l)) (hb : n ≤ 140737488351232) (hE : wayE farP l ≠ 0) :
    Calls Try.prog 8 #[.slice A n c] w fun e w' => e = .returned (.bool true) ∧ Ext w w' := by
  have HC := hidA (Corners_bad A n c l w hn hV hE)
  have HW := fun (w' : World) (h : Ext w w') => hidA (WayErrorN_any A n c l w' hn (hV.ext h) hb)
  have HL := fun (w' : World) => hidA (leads_any w')
  have hne : (wayE farP l != 0) = true := by simpa using hE
  clear hE hn hV hb
  generalize wayE farP l = E at *
  go_enter Try.func8, Try.ntmps8
  go_wp2_with (first | (go_at_call 38; refine HC.out.mono ?_; rintro e w1 ⟨rfl, hx1⟩) | (go_at_call 39; refine ((HW _ (by repeat (first | exact Ext.refl _ | assumption | refine Ext.setCell ?_ (by first | (simp; done) | (simp; omega)) _ | refine Ext.drewN ?_ _ | refine Ext.alloc ?_ _ | refine Ext.drew ?_ | refine Ext.trans ?_ (by assumption)))).out).mono ?_; rintro e w2 ⟨rfl, hx2⟩) | (go_at_call 15; refine ((HL _).out).mono ?_; rintro e w3 ⟨rfl, hx3⟩))
  go_ret
  exact ⟨rfl, (by repeat (first | exact Ext.refl _ | assumption | refine Ext.setCell ?_ (by first | (simp; done) | (simp; omega)) _ | refine Ext.drewN ?_ _ | refine Ext.alloc ?_ _ | refine Ext.drew ?_ | refine Ext.trans ?_ (by assumption)))⟩
set_option maxRecDepth 100000 in
set_option maxHeartbeats 6400000 in
theorem corners_good (A : Option Addr) (n c : Nat) (l : List (Int × Int)) (w : World) (hn : l.length = n) (hV : Rd w A (ptv l)) (hb : n ≤ 140737488351232) (hE : wayE farP l = 0) :
    Calls Try.prog 8 #[.slice A n c] w fun e w' => e = .returned (.bool true) ∧ Ext w w' := by
  have hok := wayOk hE
  have HC := hidA (Corners_ok A n c l w hn hV hok hE)
  have HW := fun (w' : World) (h : Ext w w') => hidA (WayErrorN_any A n c l w' hn (hV.ext h) hb)
  rw [hE] at HW
  have HL := fun (w' : World) => hidA (leads_any w')
  have HBt := fun (qx qy px py : Int) (w : World) (h1 : farP (qx, qy) = false) (h2 : farP (px, py) = false) => hidA (Leap_any qx qy px py w (by have := farP_false h1; dsimp only at this; omega) (by have := farP_false h1; dsimp only at this; omega) (by have := farP_false h2; dsimp only at this; omega) (by have := farP_false h2; dsimp only at this; omega))
  have Hn := hidA hn
  have Hok := hidA hok
  have hn6 : n ≤ 65536 := by rw [← hn]; exact hok.le
  obtain ⟨ti, hi0, hz0, hz1, hz2⟩ := info_parts infoPt
  clear hok hE hn hb
  go_enter Try.func8, Try.ntmps8
  go_upto_region 7 with (first | (go_at_call 38; refine HC.out.mono ?_; rintro e w1 ⟨vC, rfl, hOC, hx1⟩) | (go_at_call 39; refine ((HW _ (by repeat (first | exact Ext.refl _ | assumption | refine Ext.setCell ?_ (by first | (simp; done) | (simp; omega)) _ | refine Ext.drewN ?_ _ | refine Ext.alloc ?_ _ | refine Ext.drew ?_ | refine Ext.trans ?_ (by assumption)))).out).mono ?_; rintro e w2 ⟨rfl, hx2⟩) | (go_at_call 15; refine ((HL _).out).mono ?_; rintro e w3 ⟨rfl, hx3⟩))
  have hxs := hx1.trans (hx2.trans hx3)
  have hOC3 := (hOC.ext hx2).ext hx3
  clear HC HW HL hx1 hx2 hx3 hOC
  have HOC := hidA hOC3
  have Hxs := hidA hxs
  have hsz3 := hxs.size
  clear hOC3 hxs
  go_loopw [6, 40] (fun s6 s40 wr => ∃ k : Nat, k ≤ n ∧ s40 = .int .i64 k ∧ OwnP wr w3.heap.size s6 (cornL l k) ∧ Ext w3 wr) (fun _ s40 _ => n - (intOf s40).toNat)
  case atStart => exact ⟨0, Nat.zero_le _, rfl, World.ownsRow_nil w3 _ _ 2, Ext.refl _⟩
  case round =>
    obtain ⟨k, hk, rfl, hO, hx⟩ := hrel
    by_cases hkn : k < n
    · have hkl : k < l.length := by have := Hn.out; omega
      obtain ⟨ad, rfl, hbk, d0, d1⟩ := pt_at (hV.ext (Hxs.out.trans hx)) hkl
      have i0 : (0 : Int) ≤ k := by omega
      have i1 : (k : Int) < n := by omega
      have hfp := Hok.out.ok k hkl
      obtain ⟨px, py, hpp⟩ : ∃ px py, l.getD k (0, 0) = (px, py) := ⟨_, _, rfl⟩
      rw [hpp] at d0 d1 hfp
      dsimp only at d0 d1
      have Hpp := hidA hpp
      have hcl := cornL_le l k
      go_upto_region 9 with fail
      have kP : Bk (wr.alloc (.cells #[.int .i64 px, .int .i64 py] 32)) wr.heap.size 32 #[.int .i64 px, .int .i64 py] := Bk.new' rfl
      have hx2 := hx.alloc (.cells #[.int .i64 px, .int .i64 py] 32)
      have hO2 := hO.ext ((Ext.refl wr).alloc (.cells #[.int .i64 px, .int .i64 py] 32))
      clear d0 d1 hpp hO
      generalize wr.alloc (.cells #[.int .i64 px, .int .i64 py] 32) = w2 at *
      generalize wr.heap.size = ha at *
      by_cases hedge : k = 0 ∨ k + 1 = n
      · have Hcb := hidA (show cornB l k = true from by unfold cornB; have := Hn.out; rcases hedge with h | h <;> simp [h]; omega)
        have hg : k = 0 ∨ ¬ k = 0 ∧ (k : Int) = n - 1 := by omega
        have Hx2 := hidA hx2
        have p0 := kP.cell 0
        have p1 := kP.cell 1
        clear hedge hx2 kP hfp
        have wn := IntWalk.wrap64_in ((n : Int) - 1) ⟨by omega, by omega⟩
        have Wn := hidA wn
        clear wn
        rcases hg with hg1 | ⟨hg1, hg2⟩
        · have bk : ((k : Int) == 0) = true := by simp; exact hg1
          clear hg1
          go_upto_region 15 with fail
          have hown2 := hidA (hO2.ext ((Ext.refl w2).alloc (.cells #[.int .i64 px, .int .i64 py] 32)))
          have hnews : Hid (∀ j u, ([Value.int .i64 px, .int .i64 py] : List Value)[j]? = some u → (w2.alloc (.cells #[.int .i64 px, .int .i64 py] 32)).cell? ((⟨w2.heap.size, 0, none⟩ : Addr).add j) = some u) := World.news_of_block (cs := #[.int .i64 px, .int .i64 py]) (t := 32) (fr := (0, 0)) (heap_alloc_new w2 _)
          have hone : Hid (∀ u ∈ ([Value.int .i64 px, .int .i64 py] : List Value), u.oneCell' = true) := by intro u hu; simp at hu; rcases hu with rfl | rfl <;> rfl
          have hs9 := hidA (show w3.heap.size ≤ (w2.alloc (.cells #[.int .i64 px, .int .i64 py] 32)).heap.size from by have := Hx2.out.size; rw [World.size_alloc]; omega)
          clear hO2
          go_wp2_with (at_builtin; (refine wpList_append_lies _ (by rfl) _ _ 46 (by rfl) w3.heap.size 32 ti (.agg #[.int .i64 0, .int .i64 0]) 2 16 Try.underlying46 hi0 hz0 hz1 hz2 (by rfl) (by decide) _ _ _ (by rfl) hown2.out ⟨w2.heap.size, 0, none⟩ 1 1 [.int .i64 px, .int .i64 py] (by rfl) (by rfl) hnews.out hone.out (by omega) (by unfold maxLen; omega) (by omega) hs9.out (w2.heap.size + 1) (by simp) ?_; intro gg cap w9 hown9 hgrow9 hat hlt))
          have hx9 := (Hx2.out.alloc (.cells #[.int .i64 px, .int .i64 py] 32)).grown hgrow9 (fun b hb => (World.ownsRow.lt hown2.out b hb).1)
          have HO9 := hidA hown9
          have Hx9 := hidA hx9
          clear hown9 hgrow9 hat hlt hx9
          go_roundw
          case rel => exact ⟨k + 1, by omega, by go_num, by have h8 := HO9.out; rw [cornL_succ, Hcb.out, Hpp.out]; unfold OwnP; simp only [if_true, ptv_append, List.length_append, List.length_cons, List.length_nil]; exact h8, Hx9.out⟩
          case measure => simp [intOf]; omega
        · have bk : ((k : Int) == 0) = false := by simp; exact hg1
          have bn : ((k : Int) == n - 1) = true := by simp; exact hg2
          clear hg1 hg2
          have wn := Wn.out
          go_upto_region 15 with fail
          clear wn
          have hown2 := hidA (hO2.ext ((Ext.refl w2).alloc (.cells #[.int .i64 px, .int .i64 py] 32)))
          have hnews : Hid (∀ j u, ([Value.int .i64 px, .int .i64 py] : List Value)[j]? = some u → (w2.alloc (.cells #[.int .i64 px, .int .i64 py] 32)).cell? ((⟨w2.heap.size, 0, none⟩ : Addr).add j) = some u) := World.news_of_block (cs := #[.int .i64 px, .int .i64 py]) (t := 32) (fr := (0, 0)) (heap_alloc_new w2 _)
          have hone : Hid (∀ u ∈ ([Value.int .i64 px, .int .i64 py] : List Value), u.oneCell' = true) := by intro u hu; simp at hu; rcases hu with rfl | rfl <;> rfl
          have hs9 := hidA (show w3.heap.size ≤ (w2.alloc (.cells #[.int .i64 px, .int .i64 py] 32)).heap.size from by have := Hx2.out.size; rw [World.size_alloc]; omega)
          clear hO2
          go_wp2_with (at_builtin; (refine wpList_append_lies _ (by rfl) _ _ 46 (by rfl) w3.heap.size 32 ti (.agg #[.int .i64 0, .int .i64 0]) 2 16 Try.underlying46 hi0 hz0 hz1 hz2 (by rfl) (by decide) _ _ _ (by rfl) hown2.out ⟨w2.heap.size, 0, none⟩ 1 1 [.int .i64 px, .int .i64 py] (by rfl) (by rfl) hnews.out hone.out (by omega) (by unfold maxLen; omega) (by omega) hs9.out (w2.heap.size + 1) (by simp) ?_; intro gg cap w9 hown9 hgrow9 hat hlt))
          have hx9 := (Hx2.out.alloc (.cells #[.int .i64 px, .int .i64 py] 32)).grown hgrow9 (fun b hb => (World.ownsRow.lt hown2.out b hb).1)
          have HO9 := hidA hown9
          have Hx9 := hidA hx9
          clear hown9 hgrow9 hat hlt hx9
          go_roundw
          case rel => exact ⟨k + 1, by omega, by go_num, by have h8 := HO9.out; rw [cornL_succ, Hcb.out, Hpp.out]; unfold OwnP; simp only [if_true, ptv_append, List.length_append, List.length_cons, List.length_nil]; exact h8, Hx9.out⟩
          case measure => simp [intOf]; omega
      · have hkp : 0 < k := by omega
        have hk1 : k + 1 < n := by omega
        have hg1 : ¬ k = 0 := by omega
        have hg2 : ¬ (k : Int) = n - 1 := by omega
        have hg3 : ((k : Int) == n - 1) = false := by simp; omega
        have hg4 : ((k : Int) == 0) = false := by simp; omega
        have s1 := Hok.out.st k hkp hkl
        have s2 := Hok.out.st (k + 1) (by omega) (by have := Hn.out; omega)
        rw [Nat.add_sub_cancel] at s2
        obtain ⟨qx, qy, hqq⟩ : ∃ qx qy, l.getD (k - 1) (0, 0) = (qx, qy) := ⟨_, _, rfl⟩
        obtain ⟨rx, ry, hrr⟩ : ∃ rx ry, l.getD (k + 1) (0, 0) = (rx, ry) := ⟨_, _, rfl⟩
        have hfq := Hok.out.ok (k - 1) (by omega)
        have hfr := Hok.out.ok (k + 1) (by have := Hn.out; omega)
        rw [Hpp.out, hqq] at s1
        rw [Hpp.out, hrr] at s2
        rw [hqq] at hfq
        rw [hrr] at hfr
        dsimp only at s1 s2
        have Hcb : Hid (cornB l k = !((lpo l k).1 == (lpo l (k + 1)).1 && (lpo l k).2 == 1 && (lpo l (k + 1)).2 == 1)) := by
          show _ = _
          unfold cornB
          have e1 : (k == 0) = false := by simp; omega
          have e2 : (k + 1 == l.length) = false := by simp; have := Hn.out; omega
          rw [e1, e2]
          simp
        have HB1 := fun (w : World) => HBt qx qy px py w hfq hfp
        have HB2 := fun (w : World) => HBt px py rx ry w hfp hfr
        unfold lpV at HB1 HB2
        rw [s1.1] at HB1
        rw [s2.1] at HB2
        obtain ⟨d1, n1, hl1⟩ : ∃ d1 n1, lpo l k = (d1, n1) := ⟨_, _, rfl⟩
        obtain ⟨d2, n2, hl2⟩ : ∃ d2 n2, lpo l (k + 1) = (d2, n2) := ⟨_, _, rfl⟩
        rw [hl1] at HB1 Hcb
        rw [hl2] at HB2 Hcb
        simp only at HB1 HB2
        have e0 : ∀ w', Ext w2 w' → w'.cell? (ad.add ((k - 1) * 2)) = some (.int .i64 qx) := fun w' h => by
          obtain ⟨ad', e, _, d0, _⟩ := pt_at (hV.ext (Hxs.out.trans (hx2.trans h))) (show k - 1 < l.length by omega)
          injection e with e
          subst e
          rw [hqq] at d0
          exact d0
        have e1 : ∀ w', Ext w2 w' → w'.cell? ⟨(ad.add ((k - 1) * 2)).block, (ad.add ((k - 1) * 2)).off + 1, none⟩ = some (.int .i64 qy) := fun w' h => by
          obtain ⟨ad', e, _, _, d1⟩ := pt_at (hV.ext (Hxs.out.trans (hx2.trans h))) (show k - 1 < l.length by omega)
          injection e with e
          subst e
          rw [hqq] at d1
          exact d1
        have e2 : ∀ w', Ext w2 w' → w'.cell? (ad.add ((k + 1) * 2)) = some (.int .i64 rx) := fun w' h => by
          obtain ⟨ad', e, _, d0, _⟩ := pt_at (hV.ext (Hxs.out.trans (hx2.trans h))) (show k + 1 < l.length by have := Hn.out; omega)
          injection e with e
          subst e
          rw [hrr] at d0
          exact d0
        have e3 : ∀ w', Ext w2 w' → w'.cell? ⟨(ad.add ((k + 1) * 2)).block, (ad.add ((k + 1) * 2)).off + 1, none⟩ = some (.int .i64 ry) := fun w' h => by
          obtain ⟨ad', e, _, _, d1⟩ := pt_at (hV.ext (Hxs.out.trans (hx2.trans h))) (show k + 1 < l.length by have := Hn.out; omega)
          injection e with e
          subst e
          rw [hrr] at d1
          exact d1
        have f0 : ∀ w', Ext w2 w' → w'.cell? ⟨ha, 0, none⟩ = some (.int .i64 px) := fun w' h => (kP.ext h).cell 0
        have f1 : ∀ w', Ext w2 w' → w'.cell? ⟨ha, 1, none⟩ = some (.int .i64 py) := fun w' h => (kP.ext h).cell 1
        have j0 : (0 : Int) ≤ ((k - 1 : Nat) : Int) := by omega
        have j1 : ((k - 1 : Nat) : Int) < n := by omega
        have j2 : (0 : Int) ≤ ((k + 1 : Nat) : Int) := by omega
        have j3 : ((k + 1 : Nat) : Int) < n := by omega
        have j4 : (k : Int) + 1 < n := by omega
        have Hwk := hidA (show wrap64 ((k : Int) - 1) = ((k - 1 : Nat) : Int) by rw [IntWalk.wrap64_in _ ⟨by omega, by omega⟩]; omega)
        have Hwk2 := hidA (show IntKind.i64.wrap ((k : Int) - 1) = ((k - 1 : Nat) : Int) by rw [IntWalk.i64_in _ ⟨by omega, by omega⟩]; omega)
        have Hwk3 := hidA (show wrap64 ((k : Int) + 1) = (k : Int) + 1 from IntWalk.wrap64_in _ ⟨by omega, by omega⟩)
        have Hwk4 := hidA (show IntKind.i64.wrap ((k : Int) + 1) = (k : Int) + 1 from IntWalk.i64_in _ ⟨by omega, by omega⟩)
        have j5 : (0 : Int) ≤ (k : Int) + 1 := by omega
        have Hwn := hidA (IntWalk.wrap64_in ((n : Int) - 1) ⟨by omega, by omega⟩)
        have hn11 := s1.2.2.1
        have hn21 := s2.2.2.1
        rw [hl1] at hn11
        rw [hl2] at hn21
        dsimp only at hn11 hn21
        have hcs : ¬ d1 = d2 ∨ (d1 = d2 ∧ 1 < n1) ∨ (d1 = d2 ∧ n1 = 1 ∧ 1 < n2) ∨ (d1 = d2 ∧ n1 = 1 ∧ n2 = 1) := by omega
        clear hn11 hn21
        have Hx2 := hidA hx2
        have KP := hidA kP
        clear hedge s1 s2 hl1 hl2 hqq hrr hfq hfr hfp HBt hx2 kP
        have wn := Hwn.out
        go_upto_region 11 with fail
        clear wn
        have wk := Hwk.out
        have wk2 := Hwk2.out
        refine wp_region_noPanic ?_
        refine wp_region_held_drew (S := fun w' => Ext w2 w') (by kernel_rfl) ?_ (fun hHeld => ?_)
        · (repeat (first | exact Ext.refl _ | assumption | refine Ext.setCell ?_ (by first | (simp; done) | (simp; omega)) _ | refine Ext.drewN ?_ _ | refine Ext.alloc ?_ _ | refine Ext.drew ?_ | refine Ext.trans ?_ (by assumption)))
        refine wpAnyH_take (i := 0) (oi := ?o1x0) (v := ?v1x0) ?hi1x0 (by kernel_rfl) ?hf1x0 ?hr1x0 (fun _ _ _ h => h) ?hy1x0 (by assumption) ?rest1x0
        case hi1x0 => (simp only [List.getElem?_toArray, List.getElem?_cons_zero]; exact rfl)
        case hf1x0 => kernel_rfl
        case hr1x0 => kernel_rfl
        case hy1x0 => (refine Or.inl ⟨by rfl, ?_⟩; intro w hSw; (try dsimp only at hSw); go_simp; try with_reducible rfl)
        simp only [put_mk, List.set_cons_succ, List.set_cons_zero]
        refine wpAnyH_take (i := 1) (oi := ?o1x1) (v := ?v1x1) ?hi1x1 (by kernel_rfl) ?hf1x1 ?hr1x1 (fun _ _ _ h => h) ?hy1x1 (by assumption) ?rest1x1
        case hi1x1 => (simp only [List.getElem?_toArray, List.getElem?_cons_succ, List.getElem?_cons_zero]; exact rfl)
        case hf1x1 => kernel_rfl
        case hr1x1 => kernel_rfl
        case hy1x1 => (refine Or.inl ⟨by rfl, ?_⟩; intro w hSw; (try dsimp only at hSw); go_simp; try with_reducible rfl)
        simp only [put_mk, List.set_cons_succ, List.set_cons_zero]
        refine wpAnyH_take (i := 2) (oi := ?o1x2) (v := ?v1x2) ?hi1x2 (by kernel_rfl) ?hf1x2 ?hr1x2 (fun _ _ _ h => h) ?hy1x2 (by assumption) ?rest1x2
        case hi1x2 => (simp only [List.getElem?_toArray, List.getElem?_cons_succ, List.getElem?_cons_zero]; exact rfl)
        case hf1x2 => kernel_rfl
        case hr1x2 => kernel_rfl
        case hy1x2 => (refine Or.inl ⟨by rfl, ?_⟩; intro w hSw; (try dsimp only at hSw); go_simp; try with_reducible rfl)
        simp only [put_mk, List.set_cons_succ, List.set_cons_zero]
        refine wpAnyH_take (i := 3) (oi := ?o1x3) (v := ?v1x3) ?hi1x3 (by kernel_rfl) ?hf1x3 ?hr1x3 (fun _ _ _ h => h) ?hy1x3 (by assumption) ?rest1x3
        case hi1x3 => (simp only [List.getElem?_toArray, List.getElem?_cons_succ, List.getElem?_cons_zero]; exact rfl)
        case hf1x3 => kernel_rfl
        case hr1x3 => kernel_rfl
        case hy1x3 => (refine Or.inl ⟨by rfl, ?_⟩; intro w hSw; (try dsimp only at hSw); go_simp; try with_reducible rfl)
        simp only [put_mk, List.set_cons_succ, List.set_cons_zero]
        refine wpAnyH_take (i := 4) (oi := ?o1x4) (v := ?v1x4) ?hi1x4 (by kernel_rfl) ?hf1x4 ?hr1x4 (fun _ _ _ h => h) ?hy1x4 (by assumption) ?rest1x4
        case hi1x4 => (simp only [List.getElem?_toArray, List.getElem?_cons_succ, List.getElem?_cons_zero]; exact rfl)
        case hf1x4 => kernel_rfl
        case hr1x4 => kernel_rfl
        case hy1x4 => (refine Or.inl ⟨by rfl, ?_⟩; intro w hSw; (try dsimp only at hSw); go_simp; try with_reducible rfl)
        simp only [put_mk, List.set_cons_succ, List.set_cons_zero]
        refine wpAnyH_take (i := 5) (oi := ?o1x5) (v := ?v1x5) ?hi1x5 (by kernel_rfl) ?hf1x5 ?hr1x5 (fun _ _ _ h => h) ?hy1x5 (by assumption) ?rest1x5
        case hi1x5 => (simp only [List.getElem?_toArray, List.getElem?_cons_succ, List.getElem?_cons_zero]; exact rfl)
        case hf1x5 => kernel_rfl
        case hr1x5 => kernel_rfl
        case hy1x5 => (refine Or.inl ⟨by rfl, ?_⟩; intro w hSw; (try dsimp only at hSw); go_simp; try with_reducible rfl)
        simp only [put_mk, List.set_cons_succ, List.set_cons_zero]
        refine wpAnyH_ready (rs := [6]) (by kernel_rfl) (by simp) ?_
        refine AllReadyH.cons (o := ?o1x6) ?hi1x6 (fun K hK => ?_) AllReadyH.nil
        case hi1x6 => (simp only [List.getElem?_toArray, List.getElem?_cons_succ, List.getElem?_cons_zero]; exact rfl)
        go_simp
        go_at_call 36; refine ((HB1 _).out).mono ?_; rintro e w5 ⟨rfl, hx5⟩
        refine hK.out _ _ ?_ (fun hHeld => ?_)
        · (repeat (first | exact Ext.refl _ | assumption | refine Ext.setCell ?_ (by first | (simp; done) | (simp; omega)) _ | refine Ext.drewN ?_ _ | refine Ext.alloc ?_ _ | refine Ext.drew ?_ | refine Ext.trans ?_ (by assumption)))
        clear hK K
        refine wpAnyH_take (i := 7) (oi := ?o1x7) (v := ?v1x7) ?hi1x7 (by kernel_rfl) ?hf1x7 ?hr1x7 (fun _ _ _ h => h) ?hy1x7 (by assumption) ?rest1x7
        case hi1x7 => (simp only [List.getElem?_toArray, List.getElem?_cons_succ, List.getElem?_cons_zero]; exact rfl)
        case hf1x7 => kernel_rfl
        case hr1x7 => kernel_rfl
        case hy1x7 => (refine Or.inl ⟨by rfl, ?_⟩; intro w hSw; (try dsimp only at hSw); go_simp; try with_reducible rfl)
        simp only [put_mk, List.set_cons_succ, List.set_cons_zero]
        refine wpAnyH_take (i := 8) (oi := ?o1x8) (v := ?v1x8) ?hi1x8 (by kernel_rfl) ?hf1x8 ?hr1x8 (fun _ _ _ h => h) ?hy1x8 (by assumption) ?rest1x8
        case hi1x8 => (simp only [List.getElem?_toArray, List.getElem?_cons_succ, List.getElem?_cons_zero]; exact rfl)
        case hf1x8 => kernel_rfl
        case hr1x8 => kernel_rfl
        case hy1x8 => (refine Or.inl ⟨by rfl, ?_⟩; intro w hSw; (try dsimp only at hSw); go_simp; try with_reducible rfl)
        simp only [put_mk, List.set_cons_succ, List.set_cons_zero]
        refine wpAnyH_take (i := 9) (oi := ?o1x9) (v := ?v1x9) ?hi1x9 (by kernel_rfl) ?hf1x9 ?hr1x9 (fun _ _ _ h => h) ?hy1x9 (by assumption) ?rest1x9
        case hi1x9 => (simp only [List.getElem?_toArray, List.getElem?_cons_succ, List.getElem?_cons_zero]; exact rfl)
        case hf1x9 => kernel_rfl
        case hr1x9 => kernel_rfl
        case hy1x9 => (refine Or.inl ⟨by rfl, ?_⟩; intro w hSw; (try dsimp only at hSw); go_simp; try with_reducible rfl)
        simp only [put_mk, List.set_cons_succ, List.set_cons_zero]
        refine wpAnyH_take (i := 10) (oi := ?o1x10) (v := ?v1x10) ?hi1x10 (by kernel_rfl) ?hf1x10 ?hr1x10 (fun _ _ _ h => h) ?hy1x10 (by assumption) ?rest1x10
        case hi1x10 => (simp only [List.getElem?_toArray, List.getElem?_cons_succ, List.getElem?_cons_zero]; exact rfl)
        case hf1x10 => kernel_rfl
        case hr1x10 => kernel_rfl
        case hy1x10 => (refine Or.inl ⟨by rfl, ?_⟩; intro w hSw; (try dsimp only at hSw); go_simp; try with_reducible rfl)
        simp only [put_mk, List.set_cons_succ, List.set_cons_zero]
        refine wpAnyH_take (i := 11) (oi := ?o1x11) (v := ?v1x11) ?hi1x11 (by kernel_rfl) ?hf1x11 ?hr1x11 (fun _ _ _ h => h) ?hy1x11 (by assumption) ?rest1x11
        case hi1x11 => (simp only [List.getElem?_toArray, List.getElem?_cons_succ, List.getElem?_cons_zero]; exact rfl)
        case hf1x11 => kernel_rfl
        case hr1x11 => kernel_rfl
        case hy1x11 => (refine Or.inl ⟨by rfl, ?_⟩; intro w hSw; (try dsimp only at hSw); go_simp; try with_reducible rfl)
        simp only [put_mk, List.set_cons_succ, List.set_cons_zero]
        refine wpAnyH_done (by kernel_rfl) ?_ _
        refine NoPanic.normal ?_
        clear wk wk2 e0 e1
        have hx5 : Ext w2 w5 := hHeld
        have E2 := fun (w' : World) (h : Ext w5 w') => e2 w' (hx5.trans h)
        have E3 := fun (w' : World) (h : Ext w5 w') => e3 w' (hx5.trans h)
        have F0 := fun (w' : World) (h : Ext w5 w') => f0 w' (hx5.trans h)
        have F1 := fun (w' : World) (h : Ext w5 w') => f1 w' (hx5.trans h)
        clear e2 e3 f0 f1
        go_upto_region 12 with fail
        have wk := Hwk3.out
        have wk2 := Hwk4.out
        refine wp_region_noPanic ?_
        refine wp_region_held_drew (S := fun w' => Ext w5 w') (by kernel_rfl) ?_ (fun hHeld => ?_)
        · (repeat (first | exact Ext.refl _ | assumption | refine Ext.setCell ?_ (by first | (simp; done) | (simp; omega)) _ | refine Ext.drewN ?_ _ | refine Ext.alloc ?_ _ | refine Ext.drew ?_ | refine Ext.trans ?_ (by assumption)))
        refine wpAnyH_take (i := 0) (oi := ?o2x0) (v := ?v2x0) ?hi2x0 (by kernel_rfl) ?hf2x0 ?hr2x0 (fun _ _ _ h => h) ?hy2x0 (by assumption) ?rest2x0
        case hi2x0 => (simp only [List.getElem?_toArray, List.getElem?_cons_zero]; exact rfl)
        case hf2x0 => kernel_rfl
        case hr2x0 => kernel_rfl
        case hy2x0 => (refine Or.inl ⟨by rfl, ?_⟩; intro w hSw; (try dsimp only at hSw); go_simp; try with_reducible rfl)
        simp only [put_mk, List.set_cons_succ, List.set_cons_zero]
        refine wpAnyH_take (i := 1) (oi := ?o2x1) (v := ?v2x1) ?hi2x1 (by kernel_rfl) ?hf2x1 ?hr2x1 (fun _ _ _ h => h) ?hy2x1 (by assumption) ?rest2x1
        case hi2x1 => (simp only [List.getElem?_toArray, List.getElem?_cons_succ, List.getElem?_cons_zero]; exact rfl)
        case hf2x1 => kernel_rfl
        case hr2x1 => kernel_rfl
        case hy2x1 => (refine Or.inl ⟨by rfl, ?_⟩; intro w hSw; (try dsimp only at hSw); go_simp; try with_reducible rfl)
        simp only [put_mk, List.set_cons_succ, List.set_cons_zero]
        refine wpAnyH_take (i := 2) (oi := ?o2x2) (v := ?v2x2) ?hi2x2 (by kernel_rfl) ?hf2x2 ?hr2x2 (fun _ _ _ h => h) ?hy2x2 (by assumption) ?rest2x2
        case hi2x2 => (simp only [List.getElem?_toArray, List.getElem?_cons_succ, List.getElem?_cons_zero]; exact rfl)
        case hf2x2 => kernel_rfl
        case hr2x2 => kernel_rfl
        case hy2x2 => (refine Or.inl ⟨by rfl, ?_⟩; intro w hSw; (try dsimp only at hSw); go_simp; try with_reducible rfl)
        simp only [put_mk, List.set_cons_succ, List.set_cons_zero]
        refine wpAnyH_take (i := 3) (oi := ?o2x3) (v := ?v2x3) ?hi2x3 (by kernel_rfl) ?hf2x3 ?hr2x3 (fun _ _ _ h => h) ?hy2x3 (by assumption) ?rest2x3
        case hi2x3 => (simp only [List.getElem?_toArray, List.getElem?_cons_succ, List.getElem?_cons_zero]; exact rfl)
        case hf2x3 => kernel_rfl
        case hr2x3 => kernel_rfl
        case hy2x3 => (refine Or.inl ⟨by rfl, ?_⟩; intro w hSw; (try dsimp only at hSw); go_simp; try with_reducible rfl)
        simp only [put_mk, List.set_cons_succ, List.set_cons_zero]
        refine wpAnyH_take (i := 4) (oi := ?o2x4) (v := ?v2x4) ?hi2x4 (by kernel_rfl) ?hf2x4 ?hr2x4 (fun _ _ _ h => h) ?hy2x4 (by assumption) ?rest2x4
        case hi2x4 => (simp only [List.getElem?_toArray, List.getElem?_cons_succ, List.getElem?_cons_zero]; exact rfl)
        case hf2x4 => kernel_rfl
        case hr2x4 => kernel_rfl
        case hy2x4 => (refine Or.inl ⟨by rfl, ?_⟩; intro w hSw; (try dsimp only at hSw); go_simp; try with_reducible rfl)
        simp only [put_mk, List.set_cons_succ, List.set_cons_zero]
        refine wpAnyH_take (i := 5) (oi := ?o2x5) (v := ?v2x5) ?hi2x5 (by kernel_rfl) ?hf2x5 ?hr2x5 (fun _ _ _ h => h) ?hy2x5 (by assumption) ?rest2x5
        case hi2x5 => (simp only [List.getElem?_toArray, List.getElem?_cons_succ, List.getElem?_cons_zero]; exact rfl)
        case hf2x5 => kernel_rfl
        case hr2x5 => kernel_rfl
        case hy2x5 => (refine Or.inl ⟨by rfl, ?_⟩; intro w hSw; (try dsimp only at hSw); go_simp; try with_reducible rfl)
        simp only [put_mk, List.set_cons_succ, List.set_cons_zero]
        refine wpAnyH_ready (rs := [6]) (by kernel_rfl) (by simp) ?_
        refine AllReadyH.cons (o := ?o2x6) ?hi2x6 (fun K hK => ?_) AllReadyH.nil
        case hi2x6 => (simp only [List.getElem?_toArray, List.getElem?_cons_succ, List.getElem?_cons_zero]; exact rfl)
        go_simp
        go_at_call 36; refine ((HB2 _).out).mono ?_; rintro e w6 ⟨rfl, hx6⟩
        refine hK.out _ _ ?_ (fun hHeld => ?_)
        · (repeat (first | exact Ext.refl _ | assumption | refine Ext.setCell ?_ (by first | (simp; done) | (simp; omega)) _ | refine Ext.drewN ?_ _ | refine Ext.alloc ?_ _ | refine Ext.drew ?_ | refine Ext.trans ?_ (by assumption)))
        clear hK K
        refine wpAnyH_take (i := 7) (oi := ?o2x7) (v := ?v2x7) ?hi2x7 (by kernel_rfl) ?hf2x7 ?hr2x7 (fun _ _ _ h => h) ?hy2x7 (by assumption) ?rest2x7
        case hi2x7 => (simp only [List.getElem?_toArray, List.getElem?_cons_succ, List.getElem?_cons_zero]; exact rfl)
        case hf2x7 => kernel_rfl
        case hr2x7 => kernel_rfl
        case hy2x7 => (refine Or.inl ⟨by rfl, ?_⟩; intro w hSw; (try dsimp only at hSw); go_simp; try with_reducible rfl)
        simp only [put_mk, List.set_cons_succ, List.set_cons_zero]
        refine wpAnyH_take (i := 8) (oi := ?o2x8) (v := ?v2x8) ?hi2x8 (by kernel_rfl) ?hf2x8 ?hr2x8 (fun _ _ _ h => h) ?hy2x8 (by assumption) ?rest2x8
        case hi2x8 => (simp only [List.getElem?_toArray, List.getElem?_cons_succ, List.getElem?_cons_zero]; exact rfl)
        case hf2x8 => kernel_rfl
        case hr2x8 => kernel_rfl
        case hy2x8 => (refine Or.inl ⟨by rfl, ?_⟩; intro w hSw; (try dsimp only at hSw); go_simp; try with_reducible rfl)
        simp only [put_mk, List.set_cons_succ, List.set_cons_zero]
        refine wpAnyH_take (i := 9) (oi := ?o2x9) (v := ?v2x9) ?hi2x9 (by kernel_rfl) ?hf2x9 ?hr2x9 (fun _ _ _ h => h) ?hy2x9 (by assumption) ?rest2x9
        case hi2x9 => (simp only [List.getElem?_toArray, List.getElem?_cons_succ, List.getElem?_cons_zero]; exact rfl)
        case hf2x9 => kernel_rfl
        case hr2x9 => kernel_rfl
        case hy2x9 => (refine Or.inl ⟨by rfl, ?_⟩; intro w hSw; (try dsimp only at hSw); go_simp; try with_reducible rfl)
        simp only [put_mk, List.set_cons_succ, List.set_cons_zero]
        refine wpAnyH_take (i := 10) (oi := ?o2x10) (v := ?v2x10) ?hi2x10 (by kernel_rfl) ?hf2x10 ?hr2x10 (fun _ _ _ h => h) ?hy2x10 (by assumption) ?rest2x10
        case hi2x10 => (simp only [List.getElem?_toArray, List.getElem?_cons_succ, List.getElem?_cons_zero]; exact rfl)
        case hf2x10 => kernel_rfl
        case hr2x10 => kernel_rfl
        case hy2x10 => (refine Or.inl ⟨by rfl, ?_⟩; intro w hSw; (try dsimp only at hSw); go_simp; try with_reducible rfl)
        simp only [put_mk, List.set_cons_succ, List.set_cons_zero]
        refine wpAnyH_take (i := 11) (oi := ?o2x11) (v := ?v2x11) ?hi2x11 (by kernel_rfl) ?hf2x11 ?hr2x11 (fun _ _ _ h => h) ?hy2x11 (by assumption) ?rest2x11
        case hi2x11 => (simp only [List.getElem?_toArray, List.getElem?_cons_succ, List.getElem?_cons_zero]; exact rfl)
        case hf2x11 => kernel_rfl
        case hr2x11 => kernel_rfl
        case hy2x11 => (refine Or.inl ⟨by rfl, ?_⟩; intro w hSw; (try dsimp only at hSw); go_simp; try with_reducible rfl)
        simp only [put_mk, List.set_cons_succ, List.set_cons_zero]
        refine wpAnyH_done (by kernel_rfl) ?_ _
        refine NoPanic.normal ?_
        clear wk wk2
        have hx6 : Ext w2 w6 := hx5.trans hHeld
        have hO6 := hO2.ext hx6
        have kP6 := KP.out.ext hx6
        have hx66 := Hx2.out.trans hx6
        clear E2 E3 F0 F1 hO2 hx5 hx6 hHeld KP Hx2
        have p0 := kP6.cell 0
        have p1 := kP6.cell 1
        have Hx2 := hidA hx66
        have hO2 := hO6
        clear hO6 hx66 kP6
        rcases hcs with q1 | ⟨q1, q2⟩ | ⟨q1, q2, q3⟩ | ⟨q1, q2, q3⟩
        · have Hcb := hidA (show cornB l k = true from by rw [Hcb.out]; simp [q1])
          have q1' : ((d1 : Int) != d2) = true := by simp; omega
          go_upto_region 15 with fail
          have hown2 := hidA (hO2.ext ((Ext.refl w6).alloc (.cells #[.int .i64 px, .int .i64 py] 32)))
          have hnews : Hid (∀ j u, ([Value.int .i64 px, .int .i64 py] : List Value)[j]? = some u → (w6.alloc (.cells #[.int .i64 px, .int .i64 py] 32)).cell? ((⟨w6.heap.size, 0, none⟩ : Addr).add j) = some u) := World.news_of_block (cs := #[.int .i64 px, .int .i64 py]) (t := 32) (fr := (0, 0)) (heap_alloc_new w6 _)
          have hone : Hid (∀ u ∈ ([Value.int .i64 px, .int .i64 py] : List Value), u.oneCell' = true) := by intro u hu; simp at hu; rcases hu with rfl | rfl <;> rfl
          have hs9 := hidA (show w3.heap.size ≤ (w6.alloc (.cells #[.int .i64 px, .int .i64 py] 32)).heap.size from by have := Hx2.out.size; rw [World.size_alloc]; omega)
          clear hO2
          go_wp2_with (at_builtin; (refine wpList_append_lies _ (by rfl) _ _ 46 (by rfl) w3.heap.size 32 ti (.agg #[.int .i64 0, .int .i64 0]) 2 16 Try.underlying46 hi0 hz0 hz1 hz2 (by rfl) (by decide) _ _ _ (by rfl) hown2.out ⟨w6.heap.size, 0, none⟩ 1 1 [.int .i64 px, .int .i64 py] (by rfl) (by rfl) hnews.out hone.out (by omega) (by unfold maxLen; omega) (by omega) hs9.out (w6.heap.size + 1) (by simp) ?_; intro gg cap w9 hown9 hgrow9 hat hlt))
          have hx9 := (Hx2.out.alloc (.cells #[.int .i64 px, .int .i64 py] 32)).grown hgrow9 (fun b hb => (World.ownsRow.lt hown2.out b hb).1)
          have HO9 := hidA hown9
          have Hx9 := hidA hx9
          clear hown9 hgrow9 hat hlt hx9
          go_roundw
          case rel => exact ⟨k + 1, by omega, by go_num, by have h8 := HO9.out; rw [cornL_succ, Hcb.out, Hpp.out]; unfold OwnP; simp only [if_true, ptv_append, List.length_append, List.length_cons, List.length_nil]; exact h8, Hx9.out⟩
          case measure => simp [intOf]; omega
        · have Hcb := hidA (show cornB l k = true from by rw [Hcb.out]; simp [show (n1 == 1) = false from by simp; omega])
          have q1' : ((d1 : Int) != d2) = false := by simp; omega
          have q2' : decide ((1 : Int) < n1) = true := by simp; omega
          go_upto_region 15 with fail
          have hown2 := hidA (hO2.ext ((Ext.refl w6).alloc (.cells #[.int .i64 px, .int .i64 py] 32)))
          have hnews : Hid (∀ j u, ([Value.int .i64 px, .int .i64 py] : List Value)[j]? = some u → (w6.alloc (.cells #[.int .i64 px, .int .i64 py] 32)).cell? ((⟨w6.heap.size, 0, none⟩ : Addr).add j) = some u) := World.news_of_block (cs := #[.int .i64 px, .int .i64 py]) (t := 32) (fr := (0, 0)) (heap_alloc_new w6 _)
          have hone : Hid (∀ u ∈ ([Value.int .i64 px, .int .i64 py] : List Value), u.oneCell' = true) := by intro u hu; simp at hu; rcases hu with rfl | rfl <;> rfl
          have hs9 := hidA (show w3.heap.size ≤ (w6.alloc (.cells #[.int .i64 px, .int .i64 py] 32)).heap.size from by have := Hx2.out.size; rw [World.size_alloc]; omega)
          clear hO2
          go_wp2_with (at_builtin; (refine wpList_append_lies _ (by rfl) _ _ 46 (by rfl) w3.heap.size 32 ti (.agg #[.int .i64 0, .int .i64 0]) 2 16 Try.underlying46 hi0 hz0 hz1 hz2 (by rfl) (by decide) _ _ _ (by rfl) hown2.out ⟨w6.heap.size, 0, none⟩ 1 1 [.int .i64 px, .int .i64 py] (by rfl) (by rfl) hnews.out hone.out (by omega) (by unfold maxLen; omega) (by omega) hs9.out (w6.heap.size + 1) (by simp) ?_; intro gg cap w9 hown9 hgrow9 hat hlt))
          have hx9 := (Hx2.out.alloc (.cells #[.int .i64 px, .int .i64 py] 32)).grown hgrow9 (fun b hb => (World.ownsRow.lt hown2.out b hb).1)
          have HO9 := hidA hown9
          have Hx9 := hidA hx9
          clear hown9 hgrow9 hat hlt hx9
          go_roundw
          case rel => exact ⟨k + 1, by omega, by go_num, by have h8 := HO9.out; rw [cornL_succ, Hcb.out, Hpp.out]; unfold OwnP; simp only [if_true, ptv_append, List.length_append, List.length_cons, List.length_nil]; exact h8, Hx9.out⟩
          case measure => simp [intOf]; omega
        · have Hcb := hidA (show cornB l k = true from by rw [Hcb.out]; simp [show (n2 == 1) = false from by simp; omega])
          have q1' : ((d1 : Int) != d2) = false := by simp; omega
          have q2' : decide ((1 : Int) < n1) = false := by simp; omega
          have q3' : decide ((1 : Int) < n2) = true := by simp; omega
          go_upto_region 15 with fail
          have hown2 := hidA (hO2.ext ((Ext.refl w6).alloc (.cells #[.int .i64 px, .int .i64 py] 32)))
          have hnews : Hid (∀ j u, ([Value.int .i64 px, .int .i64 py] : List Value)[j]? = some u → (w6.alloc (.cells #[.int .i64 px, .int .i64 py] 32)).cell? ((⟨w6.heap.size, 0, none⟩ : Addr).add j) = some u) := World.news_of_block (cs := #[.int .i64 px, .int .i64 py]) (t := 32) (fr := (0, 0)) (heap_alloc_new w6 _)
          have hone : Hid (∀ u ∈ ([Value.int .i64 px, .int .i64 py] : List Value), u.oneCell' = true) := by intro u hu; simp at hu; rcases hu with rfl | rfl <;> rfl
          have hs9 := hidA (show w3.heap.size ≤ (w6.alloc (.cells #[.int .i64 px, .int .i64 py] 32)).heap.size from by have := Hx2.out.size; rw [World.size_alloc]; omega)
          clear hO2
          go_wp2_with (at_builtin; (refine wpList_append_lies _ (by rfl) _ _ 46 (by rfl) w3.heap.size 32 ti (.agg #[.int .i64 0, .int .i64 0]) 2 16 Try.underlying46 hi0 hz0 hz1 hz2 (by rfl) (by decide) _ _ _ (by rfl) hown2.out ⟨w6.heap.size, 0, none⟩ 1 1 [.int .i64 px, .int .i64 py] (by rfl) (by rfl) hnews.out hone.out (by omega) (by unfold maxLen; omega) (by omega) hs9.out (w6.heap.size + 1) (by simp) ?_; intro gg cap w9 hown9 hgrow9 hat hlt))
          have hx9 := (Hx2.out.alloc (.cells #[.int .i64 px, .int .i64 py] 32)).grown hgrow9 (fun b hb => (World.ownsRow.lt hown2.out b hb).1)
          have HO9 := hidA hown9
          have Hx9 := hidA hx9
          clear hown9 hgrow9 hat hlt hx9
          go_roundw
          case rel => exact ⟨k + 1, by omega, by go_num, by have h8 := HO9.out; rw [cornL_succ, Hcb.out, Hpp.out]; unfold OwnP; simp only [if_true, ptv_append, List.length_append, List.length_cons, List.length_nil]; exact h8, Hx9.out⟩
          case measure => simp [intOf]; omega
        · have Hcb := hidA (show cornB l k = false from by rw [Hcb.out]; simp [q1, q2, q3])
          have q1' : ((d1 : Int) != d2) = false := by simp; omega
          have q2' : decide ((1 : Int) < n1) = false := by simp; omega
          have q3' : decide ((1 : Int) < n2) = false := by simp; omega
          have HO2 := hidA hO2
          clear hO2
          go_wp2
          go_roundw
          case rel => exact ⟨k + 1, by omega, by go_num, by rw [cornL_succ, Hcb.out]; simpa using HO2.out, Hx2.out⟩
          case measure => simp [intOf]; omega
    · have hkn2 : n = k := by omega
      subst hkn2
      obtain ⟨B1, c1, rfl, hr1⟩ := (HOC.out.ext hx).any
      obtain ⟨B2, c2, rfl, hr2⟩ := hO.any
      have hcl := cornL_le l n
      have HEq := hidA (eqPts_same B1 B2 _ c1 c2 (cornL l n) wr rfl hr1 hr2 (by omega))
      have Hend := hidA (Hxs.out.trans hx)
      clear hO hr1 hr2 hx
      go_wp2_with (go_at_call 26; refine HEq.out.mono ?_; rintro e w9 ⟨rfl, hx9⟩)
      go_ret
      exact ⟨rfl, Hend.out.trans hx9⟩
theorem corners_walk (A : Option Addr) (n c : Nat) (l : List (Int × Int)) (w : World) (hn : l.length = n) (hV : Rd w A (ptv l)) (hb : n ≤ 140737488351232) :
    Calls Try.prog 8 #[.slice A n c] w fun e w' => e = .returned (.bool true) ∧ Ext w w' := by
  by_cases hE : wayE farP l = 0
  · exact corners_good A n c l w hn hV hb hE
  · exact corners_bad A n c l w hn hV hb hE
end Go.Proofs.Ytpgdinpckolfpaa

namespace Go.Proofs.Ytpgdinpckolfpaa
open Go.RowKit
attribute [local go_sem ↓] Go.wp_at_zero Go.wp_at_succ
attribute [local go_sem] run_store_float

set_option maxRecDepth 100000 in
set_option maxHeartbeats 6400000 in
theorem ways_bad (X Y W H : Int) (A : Option Addr) (n c : Nat) (lf : List Nat) (gr wt br de : Nat) (sp : Int) (C : Option Addr) (m cc : Nat) (X' Y' W' H' : Int) (l : List Nat) (ax ay bx by' : Int) (w : World) (hn : lf.length = n) (hV : Rd w A (flt lf)) (hb : n ≤ 140737488351232) (hC : CoP w C m X' Y' W' H' l) (hm : m ≤ 140737488351232)
    (E : Int) (hE : E ≠ 0) (hF : firstE [grndE X Y W H lf gr wt br de sp m X' Y' W' H' l, twoE (hasB X Y W H ax ay) (hasB X Y W H bx by')] = E)
    (HWy : ∀ w', Ext w w' → Hid (Calls Try.prog 24 #[.agg #[.int .i64 X, .int .i64 Y, .int .i64 W, .int .i64 H, .slice A n c], .agg #[.float .f32 gr, .float .f32 wt, .float .f32 br, .float .f32 de, .int .i64 sp, .slice C m cc], .agg #[.int .i64 ax, .int .i64 ay], .agg #[.int .i64 bx, .int .i64 by']] w' fun e w'' => e = .returned (.tuple #[.slice none 0 0, .float .f32 0, .int .i64 E]) ∧ Ext w' w'')) :
    Calls Try.prog 5 #[.agg #[.int .i64 X, .int .i64 Y, .int .i64 W, .int .i64 H, .slice A n c], .agg #[.float .f32 gr, .float .f32 wt, .float .f32 br, .float .f32 de, .int .i64 sp, .slice C m cc], .agg #[.int .i64 ax, .int .i64 ay], .agg #[.int .i64 bx, .int .i64 by']] w fun e w' => e = .returned (.bool true) ∧ Ext w w' := by
  have HGE := fun (w' : World) (h : Ext w w') => hidA (GroundError_any X Y W H A n c lf gr wt br de sp C m cc X' Y' W' H' l w' hn (hV.ext h) hb (hC.ext h) hm)
  have HL := fun (w : World) => hidA (leads_any w)
  have HWh := fun (b : Bool) (w : World) => hidA (when_any b 5 w)
  have HHa := fun (w : World) => hidA (has_any X Y W H ax ay w)
  have HHb := fun (w : World) => hidA (has_any X Y W H bx by' w)
  have HS := fun (B : Option Addr) (w : World) (h : Rd w B ([grndE X Y W H lf gr wt br de sp m X' Y' W' H' l, twoE (hasB X Y W H ax ay) (hasB X Y W H bx by')].map (.int .i64))) => hidA (first_any B 2 2 _ w rfl h (by omega))
  rw [hF] at HS
  have hne : (E != 0) = true := by simpa using hE
  have hz := zero_eq
  clear hn hV hb hC hm hE hF
  generalize grndE X Y W H lf gr wt br de sp m X' Y' W' H' l = ge at *
  generalize hasB X Y W H ax ay = ba at *
  generalize hasB X Y W H bx by' = bb at *
  go_enter Try.func5, Try.ntmps5
  go_upto_region 1 with fail
  obtain ⟨w0, hw0⟩ : ∃ w0, w0 = (((w.alloc (.cells #[.int .i64 X, .int .i64 Y, .int .i64 W, .int .i64 H, .slice A n c] 26)).alloc (.cells #[.float .f32 gr, .float .f32 wt, .float .f32 br, .float .f32 de, .int .i64 sp, .slice C m cc] 30)).alloc (.cells #[.int .i64 ax, .int .i64 ay] 32)).alloc (.cells #[.int .i64 bx, .int .i64 by'] 32) := ⟨_, rfl⟩
  have kF : Bk w0 w.heap.size 26 #[.int .i64 X, .int .i64 Y, .int .i64 W, .int .i64 H, .slice A n c] := by rw [hw0]; exact (((Bk.new' rfl).alloc _).alloc _).alloc _
  have kR : Bk w0 (w.heap.size + 1) 30 #[.float .f32 gr, .float .f32 wt, .float .f32 br, .float .f32 de, .int .i64 sp, .slice C m cc] := by rw [hw0]; exact ((Bk.new' (by simp)).alloc _).alloc _
  have kA : Bk w0 (w.heap.size + 1 + 1) 32 #[.int .i64 ax, .int .i64 ay] := by rw [hw0]; exact (Bk.new' (by simp)).alloc _
  have kB : Bk w0 (w.heap.size + 1 + 1 + 1) 32 #[.int .i64 bx, .int .i64 by'] := by rw [hw0]; exact Bk.new' (by simp)
  have hx0 : Ext w w0 := by rw [hw0]; exact ((((Ext.refl w).alloc _).alloc _).alloc _).alloc _
  rw [← hw0]
  clear hw0
  generalize w.heap.size + 1 + 1 + 1 = hb' at *
  generalize w.heap.size + 1 + 1 = ha' at *
  generalize w.heap.size + 1 = hr' at *
  generalize hfe : w.heap.size = hf at *
  clear hfe
  have f0 : ∀ w', Ext w0 w' → w'.cell? ⟨hf, 0, none⟩ = some (.int .i64 X) := fun w' h => (kF.ext h).cell 0
  have f1 : ∀ w', Ext w0 w' → w'.cell? ⟨hf, 1, none⟩ = some (.int .i64 Y) := fun w' h => (kF.ext h).cell 1
  have f2 : ∀ w', Ext w0 w' → w'.cell? ⟨hf, 2, none⟩ = some (.int .i64 W) := fun w' h => (kF.ext h).cell 2
  have f3 : ∀ w', Ext w0 w' → w'.cell? ⟨hf, 3, none⟩ = some (.int .i64 H) := fun w' h => (kF.ext h).cell 3
  have f4 : ∀ w', Ext w0 w' → w'.cell? ⟨hf, 4, none⟩ = some (.slice A n c) := fun w' h => (kF.ext h).cell 4
  have r0 : ∀ w', Ext w0 w' → w'.cell? ⟨hr', 0, none⟩ = some (.float .f32 gr) := fun w' h => (kR.ext h).cell 0
  have r1 : ∀ w', Ext w0 w' → w'.cell? ⟨hr', 1, none⟩ = some (.float .f32 wt) := fun w' h => (kR.ext h).cell 1
  have r2 : ∀ w', Ext w0 w' → w'.cell? ⟨hr', 2, none⟩ = some (.float .f32 br) := fun w' h => (kR.ext h).cell 2
  have r3 : ∀ w', Ext w0 w' → w'.cell? ⟨hr', 3, none⟩ = some (.float .f32 de) := fun w' h => (kR.ext h).cell 3
  have r4 : ∀ w', Ext w0 w' → w'.cell? ⟨hr', 4, none⟩ = some (.int .i64 sp) := fun w' h => (kR.ext h).cell 4
  have r5 : ∀ w', Ext w0 w' → w'.cell? ⟨hr', 5, none⟩ = some (.slice C m cc) := fun w' h => (kR.ext h).cell 5
  have a0 : ∀ w', Ext w0 w' → w'.cell? ⟨ha', 0, none⟩ = some (.int .i64 ax) := fun w' h => (kA.ext h).cell 0
  have a1 : ∀ w', Ext w0 w' → w'.cell? ⟨ha', 1, none⟩ = some (.int .i64 ay) := fun w' h => (kA.ext h).cell 1
  have b0 : ∀ w', Ext w0 w' → w'.cell? ⟨hb', 0, none⟩ = some (.int .i64 bx) := fun w' h => (kB.ext h).cell 0
  have b1 : ∀ w', Ext w0 w' → w'.cell? ⟨hb', 1, none⟩ = some (.int .i64 by') := fun w' h => (kB.ext h).cell 1
  have x0 := kF.cell 0
  have x1 := kF.cell 1
  have x2 := kF.cell 2
  have x3 := kF.cell 3
  have x4 := kF.cell 4
  have y0 := kR.cell 0
  have y1 := kR.cell 1
  have y2 := kR.cell 2
  have y3 := kR.cell 3
  have y4 := kR.cell 4
  have y5 := kR.cell 5
  have u0 := kA.cell 0
  have u1 := kA.cell 1
  have v0 := kB.cell 0
  have v1 := kB.cell 1
  go_upto_region 2 with (go_at_call 24; refine ((HWy _ hx0).out).mono ?_; rintro e w1 ⟨rfl, hx1⟩)
  clear x0 x1 x2 x3 x4 y0 y1 y2 y3 y4 y5 u0 u1 v0 v1 HWy
  cases ba
  · have HS : ∀ (B : Option Addr) (w : World), Rd w B ([ge, 5].map (.int .i64)) → Hid (Calls Try.prog 17 #[.slice B 2 2] w fun e w' => e = .returned (.int .i64 E) ∧ w = w') := HS
    refine wp_region_noPanic ?_
    refine wp_region_held_drew (S := fun w' => Ext w0 w') (by kernel_rfl) ?_ (fun hHeld => ?_)
    · (repeat (first | exact Ext.refl _ | assumption | refine Ext.setCell ?_ (by first | (simp; done) | (simp; omega)) _ | refine Ext.drewN ?_ _ | refine Ext.alloc ?_ _ | refine Ext.drew ?_ | refine Ext.trans ?_ (by assumption)))
    refine wpAnyH_take (i := 0) (oi := ?o1x0) (v := ?v1x0) ?hi1x0 (by kernel_rfl) ?hf1x0 ?hr1x0 (fun _ _ _ h => h) ?hy1x0 (by assumption) ?rest1x0
    case hi1x0 => (simp only [List.getElem?_toArray, List.getElem?_cons_zero]; exact rfl)
    case hf1x0 => kernel_rfl
    case hr1x0 => kernel_rfl
    case hy1x0 => (refine Or.inl ⟨by rfl, ?_⟩; intro w hSw; (try dsimp only at hSw); go_simp; try with_reducible rfl)
    simp only [put_mk, List.set_cons_succ, List.set_cons_zero]
    refine wpAnyH_take (i := 1) (oi := ?o1x1) (v := ?v1x1) ?hi1x1 (by kernel_rfl) ?hf1x1 ?hr1x1 (fun _ _ _ h => h) ?hy1x1 (by assumption) ?rest1x1
    case hi1x1 => (simp only [List.getElem?_toArray, List.getElem?_cons_succ, List.getElem?_cons_zero]; exact rfl)
    case hf1x1 => kernel_rfl
    case hr1x1 => kernel_rfl
    case hy1x1 => (refine Or.inl ⟨by rfl, ?_⟩; intro w hSw; (try dsimp only at hSw); go_simp; try with_reducible rfl)
    simp only [put_mk, List.set_cons_succ, List.set_cons_zero]
    refine wpAnyH_take (i := 3) (oi := ?o1x3) (v := ?v1x3) ?hi1x3 (by kernel_rfl) ?hf1x3 ?hr1x3 (fun _ _ _ h => h) ?hy1x3 (by assumption) ?rest1x3
    case hi1x3 => (simp only [List.getElem?_toArray, List.getElem?_cons_succ, List.getElem?_cons_zero]; exact rfl)
    case hf1x3 => kernel_rfl
    case hr1x3 => kernel_rfl
    case hy1x3 => (refine Or.inl ⟨by rfl, ?_⟩; intro w hSw; (try dsimp only at hSw); go_simp; try with_reducible rfl)
    simp only [put_mk, List.set_cons_succ, List.set_cons_zero]
    refine wpAnyH_take (i := 4) (oi := ?o1x4) (v := ?v1x4) ?hi1x4 (by kernel_rfl) ?hf1x4 ?hr1x4 (fun _ _ _ h => h) ?hy1x4 (by assumption) ?rest1x4
    case hi1x4 => (simp only [List.getElem?_toArray, List.getElem?_cons_succ, List.getElem?_cons_zero]; exact rfl)
    case hf1x4 => kernel_rfl
    case hr1x4 => kernel_rfl
    case hy1x4 => (refine Or.inl ⟨by rfl, ?_⟩; intro w hSw; (try dsimp only at hSw); go_simp; try with_reducible rfl)
    simp only [put_mk, List.set_cons_succ, List.set_cons_zero]
    refine wpAnyH_take (i := 5) (oi := ?o1x5) (v := ?v1x5) ?hi1x5 (by kernel_rfl) ?hf1x5 ?hr1x5 (fun _ _ _ h => h) ?hy1x5 (by assumption) ?rest1x5
    case hi1x5 => (simp only [List.getElem?_toArray, List.getElem?_cons_succ, List.getElem?_cons_zero]; exact rfl)
    case hf1x5 => kernel_rfl
    case hr1x5 => kernel_rfl
    case hy1x5 => (refine Or.inl ⟨by rfl, ?_⟩; intro w hSw; (try dsimp only at hSw); go_simp; try with_reducible rfl)
    simp only [put_mk, List.set_cons_succ, List.set_cons_zero]
    refine wpAnyH_take (i := 6) (oi := ?o1x6) (v := ?v1x6) ?hi1x6 (by kernel_rfl) ?hf1x6 ?hr1x6 (fun _ _ _ h => h) ?hy1x6 (by assumption) ?rest1x6
    case hi1x6 => (simp only [List.getElem?_toArray, List.getElem?_cons_succ, List.getElem?_cons_zero]; exact rfl)
    case hf1x6 => kernel_rfl
    case hr1x6 => kernel_rfl
    case hy1x6 => (refine Or.inl ⟨by rfl, ?_⟩; intro w hSw; (try dsimp only at hSw); go_simp; try with_reducible rfl)
    simp only [put_mk, List.set_cons_succ, List.set_cons_zero]
    refine wpAnyH_take (i := 7) (oi := ?o1x7) (v := ?v1x7) ?hi1x7 (by kernel_rfl) ?hf1x7 ?hr1x7 (fun _ _ _ h => h) ?hy1x7 (by assumption) ?rest1x7
    case hi1x7 => (simp only [List.getElem?_toArray, List.getElem?_cons_succ, List.getElem?_cons_zero]; exact rfl)
    case hf1x7 => kernel_rfl
    case hr1x7 => kernel_rfl
    case hy1x7 => (refine Or.inl ⟨by rfl, ?_⟩; intro w hSw; (try dsimp only at hSw); go_simp; try with_reducible rfl)
    simp only [put_mk, List.set_cons_succ, List.set_cons_zero]
    refine wpAnyH_take (i := 8) (oi := ?o1x8) (v := ?v1x8) ?hi1x8 (by kernel_rfl) ?hf1x8 ?hr1x8 (fun _ _ _ h => h) ?hy1x8 (by assumption) ?rest1x8
    case hi1x8 => (simp only [List.getElem?_toArray, List.getElem?_cons_succ, List.getElem?_cons_zero]; exact rfl)
    case hf1x8 => kernel_rfl
    case hr1x8 => kernel_rfl
    case hy1x8 => (refine Or.inl ⟨by rfl, ?_⟩; intro w hSw; (try dsimp only at hSw); go_simp; try with_reducible rfl)
    simp only [put_mk, List.set_cons_succ, List.set_cons_zero]
    refine wpAnyH_ready (rs := [2]) (by kernel_rfl) (by simp) ?_
    refine AllReadyH.cons (o := ?o1x2) ?hi1x2 (fun K hK => ?_) AllReadyH.nil
    case hi1x2 => (simp only [List.getElem?_toArray, List.getElem?_cons_succ, List.getElem?_cons_zero]; exact rfl)
    go_simp
    refine ((HGE _ (hx0.trans hHeld)).out).mono ?_
    rintro e w7 ⟨rfl, hx7⟩
    refine hK.out _ _ ?_ (fun hHeld => ?_)
    · (repeat (first | exact Ext.refl _ | assumption | refine Ext.setCell ?_ (by first | (simp; done) | (simp; omega)) _ | refine Ext.drewN ?_ _ | refine Ext.alloc ?_ _ | refine Ext.drew ?_ | refine Ext.trans ?_ (by assumption)))
    clear hK K
    refine wpAnyH_ready (rs := [9]) (by kernel_rfl) (by simp) ?_
    refine AllReadyH.cons (o := ?o1x9) ?hi1x9 (fun K hK => ?_) AllReadyH.nil
    case hi1x9 => (simp only [List.getElem?_toArray, List.getElem?_cons_succ, List.getElem?_cons_zero]; exact rfl)
    go_simp
    refine ((HHa _).out).mono ?_
    rintro e w7 ⟨rfl, hx7⟩
    refine hK.out _ _ ?_ (fun hHeld => ?_)
    · (repeat (first | exact Ext.refl _ | assumption | refine Ext.setCell ?_ (by first | (simp; done) | (simp; omega)) _ | refine Ext.drewN ?_ _ | refine Ext.alloc ?_ _ | refine Ext.drew ?_ | refine Ext.trans ?_ (by assumption)))
    clear hK K
    refine wpAnyH_take (i := 10) (oi := ?o1x10) (v := ?v1x10) ?hi1x10 (by kernel_rfl) ?hf1x10 ?hr1x10 (fun _ _ _ h => h) ?hy1x10 (by assumption) ?rest1x10
    case hi1x10 => (simp only [List.getElem?_toArray, List.getElem?_cons_succ, List.getElem?_cons_zero]; exact rfl)
    case hf1x10 => kernel_rfl
    case hr1x10 => kernel_rfl
    case hy1x10 => (refine Or.inl ⟨by rfl, ?_⟩; intro w hSw; (try dsimp only at hSw); go_simp; try with_reducible rfl)
    simp only [put_mk, List.set_cons_succ, List.set_cons_zero]
    refine wpAnyH_take (i := 11) (oi := ?o1x11) (v := ?v1x11) ?hi1x11 (by kernel_rfl) ?hf1x11 ?hr1x11 (fun _ _ _ h => h) ?hy1x11 (by assumption) ?rest1x11
    case hi1x11 => (simp only [List.getElem?_toArray, List.getElem?_cons_succ, List.getElem?_cons_zero]; exact rfl)
    case hf1x11 => kernel_rfl
    case hr1x11 => kernel_rfl
    case hy1x11 => (refine Or.inl ⟨by rfl, ?_⟩; intro w hSw; (try dsimp only at hSw); go_simp; try with_reducible rfl)
    simp only [put_mk, List.set_cons_succ, List.set_cons_zero]
    refine wpAnyH_take (i := 12) (oi := ?o1x12) (v := undef) ?hi1x12 (by kernel_rfl) ?hf1x12 ?hr1x12 (fun _ _ _ h => h) ?hy1x12 (by assumption) ?rest1x12
    case hi1x12 => (simp only [List.getElem?_toArray, List.getElem?_cons_succ, List.getElem?_cons_zero]; exact rfl)
    case hf1x12 => kernel_rfl
    case hr1x12 => kernel_rfl
    case hy1x12 => exact Or.inr ⟨by rfl, rfl⟩
    simp only [put_mk, List.set_cons_succ, List.set_cons_zero]
    refine wpAnyH_take (i := 13) (oi := ?o1x13) (v := undef) ?hi1x13 (by kernel_rfl) ?hf1x13 ?hr1x13 (fun _ _ _ h => h) ?hy1x13 (by assumption) ?rest1x13
    case hi1x13 => (simp only [List.getElem?_toArray, List.getElem?_cons_succ, List.getElem?_cons_zero]; exact rfl)
    case hf1x13 => kernel_rfl
    case hr1x13 => kernel_rfl
    case hy1x13 => exact Or.inr ⟨by rfl, rfl⟩
    simp only [put_mk, List.set_cons_succ, List.set_cons_zero]
    refine wpAnyH_take (i := 14) (oi := ?o1x14) (v := undef) ?hi1x14 (by kernel_rfl) ?hf1x14 ?hr1x14 (fun _ _ _ h => h) ?hy1x14 (by assumption) ?rest1x14
    case hi1x14 => (simp only [List.getElem?_toArray, List.getElem?_cons_succ, List.getElem?_cons_zero]; exact rfl)
    case hf1x14 => kernel_rfl
    case hr1x14 => kernel_rfl
    case hy1x14 => exact Or.inr ⟨by rfl, rfl⟩
    simp only [put_mk, List.set_cons_succ, List.set_cons_zero]
    refine wpAnyH_take (i := 15) (oi := ?o1x15) (v := undef) ?hi1x15 (by kernel_rfl) ?hf1x15 ?hr1x15 (fun _ _ _ h => h) ?hy1x15 (by assumption) ?rest1x15
    case hi1x15 => (simp only [List.getElem?_toArray, List.getElem?_cons_succ, List.getElem?_cons_zero]; exact rfl)
    case hf1x15 => kernel_rfl
    case hr1x15 => kernel_rfl
    case hy1x15 => exact Or.inr ⟨by rfl, rfl⟩
    simp only [put_mk, List.set_cons_succ, List.set_cons_zero]
    refine wpAnyH_take (i := 16) (oi := ?o1x16) (v := undef) ?hi1x16 (by kernel_rfl) ?hf1x16 ?hr1x16 (fun _ _ _ h => h) ?hy1x16 (by assumption) ?rest1x16
    case hi1x16 => (simp only [List.getElem?_toArray, List.getElem?_cons_succ, List.getElem?_cons_zero]; exact rfl)
    case hf1x16 => kernel_rfl
    case hr1x16 => kernel_rfl
    case hy1x16 => exact Or.inr ⟨by rfl, rfl⟩
    simp only [put_mk, List.set_cons_succ, List.set_cons_zero]
    refine wpAnyH_take (i := 17) (oi := ?o1x17) (v := undef) ?hi1x17 (by kernel_rfl) ?hf1x17 ?hr1x17 (fun _ _ _ h => h) ?hy1x17 (by assumption) ?rest1x17
    case hi1x17 => (simp only [List.getElem?_toArray, List.getElem?_cons_succ, List.getElem?_cons_zero]; exact rfl)
    case hf1x17 => kernel_rfl
    case hr1x17 => kernel_rfl
    case hy1x17 => exact Or.inr ⟨by rfl, rfl⟩
    simp only [put_mk, List.set_cons_succ, List.set_cons_zero]
    refine wpAnyH_take (i := 18) (oi := ?o1x18) (v := undef) ?hi1x18 (by kernel_rfl) ?hf1x18 ?hr1x18 (fun _ _ _ h => h) ?hy1x18 (by assumption) ?rest1x18
    case hi1x18 => (simp only [List.getElem?_toArray, List.getElem?_cons_succ, List.getElem?_cons_zero]; exact rfl)
    case hf1x18 => kernel_rfl
    case hr1x18 => kernel_rfl
    case hy1x18 => exact Or.inr ⟨by rfl, rfl⟩
    simp only [put_mk, List.set_cons_succ, List.set_cons_zero]
    refine wpAnyH_take (i := 19) (oi := ?o1x19) (v := undef) ?hi1x19 (by kernel_rfl) ?hf1x19 ?hr1x19 (fun _ _ _ h => h) ?hy1x19 (by assumption) ?rest1x19
    case hi1x19 => (simp only [List.getElem?_toArray, List.getElem?_cons_succ, List.getElem?_cons_zero]; exact rfl)
    case hf1x19 => kernel_rfl
    case hr1x19 => kernel_rfl
    case hy1x19 => exact Or.inr ⟨by rfl, rfl⟩
    simp only [put_mk, List.set_cons_succ, List.set_cons_zero]
    refine wpAnyH_take (i := 20) (oi := ?o1x20) (v := ?v1x20) ?hi1x20 (by kernel_rfl) ?hf1x20 ?hr1x20 (fun _ _ _ h => h) ?hy1x20 (by assumption) ?rest1x20
    case hi1x20 => (simp only [List.getElem?_toArray, List.getElem?_cons_succ, List.getElem?_cons_zero]; exact rfl)
    case hf1x20 => kernel_rfl
    case hr1x20 => kernel_rfl
    case hy1x20 => (refine Or.inl ⟨by rfl, ?_⟩; intro w hSw; (try dsimp only at hSw); go_simp; try with_reducible rfl)
    simp only [put_mk, List.set_cons_succ, List.set_cons_zero]
    refine wpAnyH_ready (rs := [21]) (by kernel_rfl) (by simp) ?_
    refine AllReadyH.cons (o := ?o1x21) ?hi1x21 (fun K hK => ?_) AllReadyH.nil
    case hi1x21 => (simp only [List.getElem?_toArray, List.getElem?_cons_succ, List.getElem?_cons_zero]; exact rfl)
    go_simp
    refine ((HWh _ _).out).mono ?_
    rintro e w7 ⟨rfl, hw7⟩
    subst hw7
    refine hK.out _ _ ?_ (fun hHeld => ?_)
    · (repeat (first | exact Ext.refl _ | assumption | refine Ext.setCell ?_ (by first | (simp; done) | (simp; omega)) _ | refine Ext.drewN ?_ _ | refine Ext.alloc ?_ _ | refine Ext.drew ?_ | refine Ext.trans ?_ (by assumption)))
    clear hK K
    refine wpAnyH_ready (rs := [22]) (by kernel_rfl) (by simp) ?_
    refine AllReadyH.cons (o := ?o1x22) ?hi1x22 (fun K hK => ?_) AllReadyH.nil
    case hi1x22 => (simp only [List.getElem?_toArray, List.getElem?_cons_succ, List.getElem?_cons_zero]; exact rfl)
    go_simp
    refine hK.out _ _ ?_ (fun hHeld => ?_)
    · (repeat (first | exact Ext.refl _ | assumption | refine Ext.setCell ?_ (by first | (simp; done) | (simp; omega)) _ | refine Ext.drewN ?_ _ | refine Ext.alloc ?_ _ | refine Ext.drew ?_ | refine Ext.trans ?_ (by assumption)))
    clear hK K
    refine wpAnyH_ready (rs := [23]) (by kernel_rfl) (by simp) ?_
    refine AllReadyH.cons (o := ?o1x23) ?hi1x23 (fun K hK => ?_) AllReadyH.nil
    case hi1x23 => (simp only [List.getElem?_toArray, List.getElem?_cons_succ, List.getElem?_cons_zero]; exact rfl)
    go_simp
    refine ((HS _ _ (Rd.new (by first | rfl | simp) (by first | rfl | simp))).out).mono ?_
    rintro e w7 ⟨rfl, hw7⟩
    subst hw7
    refine hK.out _ _ ?_ (fun hHeld => ?_)
    · (repeat (first | exact Ext.refl _ | assumption | refine Ext.setCell ?_ (by first | (simp; done) | (simp; omega)) _ | refine Ext.drewN ?_ _ | refine Ext.alloc ?_ _ | refine Ext.drew ?_ | refine Ext.trans ?_ (by assumption)))
    clear hK K
    refine wpAnyH_take (i := 24) (oi := ?o1x24) (v := ?v1x24) ?hi1x24 (by kernel_rfl) ?hf1x24 ?hr1x24 (fun _ _ _ h => h) ?hy1x24 (by assumption) ?rest1x24
    case hi1x24 => (simp only [List.getElem?_toArray, List.getElem?_cons_succ, List.getElem?_cons_zero]; exact rfl)
    case hf1x24 => kernel_rfl
    case hr1x24 => kernel_rfl
    case hy1x24 => (refine Or.inl ⟨by rfl, ?_⟩; intro w hSw; (try dsimp only at hSw); go_simp; try with_reducible rfl)
    simp only [put_mk, List.set_cons_succ, List.set_cons_zero]
    refine wpAnyH_done (by kernel_rfl) ?_ _
    refine NoPanic.normal ?_
    clear f0 f1 f2 f3 f4 r0 r1 r2 r3 r4 r5 a0 a1 b0 b1
    go_wp2_with (go_at_call 15; refine ((HL _).out).mono ?_; rintro e w3 ⟨rfl, hx3⟩)
    go_ret
    exact ⟨by first | rfl | simp, hx0.trans (by repeat (first | exact Ext.refl _ | assumption | refine Ext.setCell ?_ (by first | (simp; done) | (simp; omega)) _ | refine Ext.drewN ?_ _ | refine Ext.alloc ?_ _ | refine Ext.drew ?_ | refine Ext.trans ?_ (by assumption)))⟩
  · cases bb
    · have HS : ∀ (B : Option Addr) (w : World), Rd w B ([ge, 5].map (.int .i64)) → Hid (Calls Try.prog 17 #[.slice B 2 2] w fun e w' => e = .returned (.int .i64 E) ∧ w = w') := HS
      refine wp_region_noPanic ?_
      refine wp_region_held_drew (S := fun w' => Ext w0 w') (by kernel_rfl) ?_ (fun hHeld => ?_)
      · (repeat (first | exact Ext.refl _ | assumption | refine Ext.setCell ?_ (by first | (simp; done) | (simp; omega)) _ | refine Ext.drewN ?_ _ | refine Ext.alloc ?_ _ | refine Ext.drew ?_ | refine Ext.trans ?_ (by assumption)))
      refine wpAnyH_take (i := 0) (oi := ?o2x0) (v := ?v2x0) ?hi2x0 (by kernel_rfl) ?hf2x0 ?hr2x0 (fun _ _ _ h => h) ?hy2x0 (by assumption) ?rest2x0
      case hi2x0 => (simp only [List.getElem?_toArray, List.getElem?_cons_zero]; exact rfl)
      case hf2x0 => kernel_rfl
      case hr2x0 => kernel_rfl
      case hy2x0 => (refine Or.inl ⟨by rfl, ?_⟩; intro w hSw; (try dsimp only at hSw); go_simp; try with_reducible rfl)
      simp only [put_mk, List.set_cons_succ, List.set_cons_zero]
      refine wpAnyH_take (i := 1) (oi := ?o2x1) (v := ?v2x1) ?hi2x1 (by kernel_rfl) ?hf2x1 ?hr2x1 (fun _ _ _ h => h) ?hy2x1 (by assumption) ?rest2x1
      case hi2x1 => (simp only [List.getElem?_toArray, List.getElem?_cons_succ, List.getElem?_cons_zero]; exact rfl)
      case hf2x1 => kernel_rfl
      case hr2x1 => kernel_rfl
      case hy2x1 => (refine Or.inl ⟨by rfl, ?_⟩; intro w hSw; (try dsimp only at hSw); go_simp; try with_reducible rfl)
      simp only [put_mk, List.set_cons_succ, List.set_cons_zero]
      refine wpAnyH_take (i := 3) (oi := ?o2x3) (v := ?v2x3) ?hi2x3 (by kernel_rfl) ?hf2x3 ?hr2x3 (fun _ _ _ h => h) ?hy2x3 (by assumption) ?rest2x3
      case hi2x3 => (simp only [List.getElem?_toArray, List.getElem?_cons_succ, List.getElem?_cons_zero]; exact rfl)
      case hf2x3 => kernel_rfl
      case hr2x3 => kernel_rfl
      case hy2x3 => (refine Or.inl ⟨by rfl, ?_⟩; intro w hSw; (try dsimp only at hSw); go_simp; try with_reducible rfl)
      simp only [put_mk, List.set_cons_succ, List.set_cons_zero]
      refine wpAnyH_take (i := 4) (oi := ?o2x4) (v := ?v2x4) ?hi2x4 (by kernel_rfl) ?hf2x4 ?hr2x4 (fun _ _ _ h => h) ?hy2x4 (by assumption) ?rest2x4
      case hi2x4 => (simp only [List.getElem?_toArray, List.getElem?_cons_succ, List.getElem?_cons_zero]; exact rfl)
      case hf2x4 => kernel_rfl
      case hr2x4 => kernel_rfl
      case hy2x4 => (refine Or.inl ⟨by rfl, ?_⟩; intro w hSw; (try dsimp only at hSw); go_simp; try with_reducible rfl)
      simp only [put_mk, List.set_cons_succ, List.set_cons_zero]
      refine wpAnyH_take (i := 5) (oi := ?o2x5) (v := ?v2x5) ?hi2x5 (by kernel_rfl) ?hf2x5 ?hr2x5 (fun _ _ _ h => h) ?hy2x5 (by assumption) ?rest2x5
      case hi2x5 => (simp only [List.getElem?_toArray, List.getElem?_cons_succ, List.getElem?_cons_zero]; exact rfl)
      case hf2x5 => kernel_rfl
      case hr2x5 => kernel_rfl
      case hy2x5 => (refine Or.inl ⟨by rfl, ?_⟩; intro w hSw; (try dsimp only at hSw); go_simp; try with_reducible rfl)
      simp only [put_mk, List.set_cons_succ, List.set_cons_zero]
      refine wpAnyH_take (i := 6) (oi := ?o2x6) (v := ?v2x6) ?hi2x6 (by kernel_rfl) ?hf2x6 ?hr2x6 (fun _ _ _ h => h) ?hy2x6 (by assumption) ?rest2x6
      case hi2x6 => (simp only [List.getElem?_toArray, List.getElem?_cons_succ, List.getElem?_cons_zero]; exact rfl)
      case hf2x6 => kernel_rfl
      case hr2x6 => kernel_rfl
      case hy2x6 => (refine Or.inl ⟨by rfl, ?_⟩; intro w hSw; (try dsimp only at hSw); go_simp; try with_reducible rfl)
      simp only [put_mk, List.set_cons_succ, List.set_cons_zero]
      refine wpAnyH_take (i := 7) (oi := ?o2x7) (v := ?v2x7) ?hi2x7 (by kernel_rfl) ?hf2x7 ?hr2x7 (fun _ _ _ h => h) ?hy2x7 (by assumption) ?rest2x7
      case hi2x7 => (simp only [List.getElem?_toArray, List.getElem?_cons_succ, List.getElem?_cons_zero]; exact rfl)
      case hf2x7 => kernel_rfl
      case hr2x7 => kernel_rfl
      case hy2x7 => (refine Or.inl ⟨by rfl, ?_⟩; intro w hSw; (try dsimp only at hSw); go_simp; try with_reducible rfl)
      simp only [put_mk, List.set_cons_succ, List.set_cons_zero]
      refine wpAnyH_take (i := 8) (oi := ?o2x8) (v := ?v2x8) ?hi2x8 (by kernel_rfl) ?hf2x8 ?hr2x8 (fun _ _ _ h => h) ?hy2x8 (by assumption) ?rest2x8
      case hi2x8 => (simp only [List.getElem?_toArray, List.getElem?_cons_succ, List.getElem?_cons_zero]; exact rfl)
      case hf2x8 => kernel_rfl
      case hr2x8 => kernel_rfl
      case hy2x8 => (refine Or.inl ⟨by rfl, ?_⟩; intro w hSw; (try dsimp only at hSw); go_simp; try with_reducible rfl)
      simp only [put_mk, List.set_cons_succ, List.set_cons_zero]
      refine wpAnyH_ready (rs := [2]) (by kernel_rfl) (by simp) ?_
      refine AllReadyH.cons (o := ?o2x2) ?hi2x2 (fun K hK => ?_) AllReadyH.nil
      case hi2x2 => (simp only [List.getElem?_toArray, List.getElem?_cons_succ, List.getElem?_cons_zero]; exact rfl)
      go_simp
      refine ((HGE _ (hx0.trans hHeld)).out).mono ?_
      rintro e w7 ⟨rfl, hx7⟩
      refine hK.out _ _ ?_ (fun hHeld => ?_)
      · (repeat (first | exact Ext.refl _ | assumption | refine Ext.setCell ?_ (by first | (simp; done) | (simp; omega)) _ | refine Ext.drewN ?_ _ | refine Ext.alloc ?_ _ | refine Ext.drew ?_ | refine Ext.trans ?_ (by assumption)))
      clear hK K
      refine wpAnyH_ready (rs := [9]) (by kernel_rfl) (by simp) ?_
      refine AllReadyH.cons (o := ?o2x9) ?hi2x9 (fun K hK => ?_) AllReadyH.nil
      case hi2x9 => (simp only [List.getElem?_toArray, List.getElem?_cons_succ, List.getElem?_cons_zero]; exact rfl)
      go_simp
      refine ((HHa _).out).mono ?_
      rintro e w7 ⟨rfl, hx7⟩
      refine hK.out _ _ ?_ (fun hHeld => ?_)
      · (repeat (first | exact Ext.refl _ | assumption | refine Ext.setCell ?_ (by first | (simp; done) | (simp; omega)) _ | refine Ext.drewN ?_ _ | refine Ext.alloc ?_ _ | refine Ext.drew ?_ | refine Ext.trans ?_ (by assumption)))
      clear hK K
      refine wpAnyH_take (i := 10) (oi := ?o2x10) (v := ?v2x10) ?hi2x10 (by kernel_rfl) ?hf2x10 ?hr2x10 (fun _ _ _ h => h) ?hy2x10 (by assumption) ?rest2x10
      case hi2x10 => (simp only [List.getElem?_toArray, List.getElem?_cons_succ, List.getElem?_cons_zero]; exact rfl)
      case hf2x10 => kernel_rfl
      case hr2x10 => kernel_rfl
      case hy2x10 => (refine Or.inl ⟨by rfl, ?_⟩; intro w hSw; (try dsimp only at hSw); go_simp; try with_reducible rfl)
      simp only [put_mk, List.set_cons_succ, List.set_cons_zero]
      refine wpAnyH_take (i := 11) (oi := ?o2x11) (v := ?v2x11) ?hi2x11 (by kernel_rfl) ?hf2x11 ?hr2x11 (fun _ _ _ h => h) ?hy2x11 (by assumption) ?rest2x11
      case hi2x11 => (simp only [List.getElem?_toArray, List.getElem?_cons_succ, List.getElem?_cons_zero]; exact rfl)
      case hf2x11 => kernel_rfl
      case hr2x11 => kernel_rfl
      case hy2x11 => (refine Or.inl ⟨by rfl, ?_⟩; intro w hSw; (try dsimp only at hSw); go_simp; try with_reducible rfl)
      simp only [put_mk, List.set_cons_succ, List.set_cons_zero]
      refine wpAnyH_take (i := 12) (oi := ?o2x12) (v := ?v2x12) ?hi2x12 (by kernel_rfl) ?hf2x12 ?hr2x12 (fun _ _ _ h => h) ?hy2x12 (by assumption) ?rest2x12
      case hi2x12 => (simp only [List.getElem?_toArray, List.getElem?_cons_succ, List.getElem?_cons_zero]; exact rfl)
      case hf2x12 => kernel_rfl
      case hr2x12 => kernel_rfl
      case hy2x12 => (refine Or.inl ⟨by rfl, ?_⟩; intro w hSw; (try dsimp only at hSw); go_simp; try with_reducible rfl)
      simp only [put_mk, List.set_cons_succ, List.set_cons_zero]
      refine wpAnyH_take (i := 13) (oi := ?o2x13) (v := ?v2x13) ?hi2x13 (by kernel_rfl) ?hf2x13 ?hr2x13 (fun _ _ _ h => h) ?hy2x13 (by assumption) ?rest2x13
      case hi2x13 => (simp only [List.getElem?_toArray, List.getElem?_cons_succ, List.getElem?_cons_zero]; exact rfl)
      case hf2x13 => kernel_rfl
      case hr2x13 => kernel_rfl
      case hy2x13 => (refine Or.inl ⟨by rfl, ?_⟩; intro w hSw; (try dsimp only at hSw); go_simp; try with_reducible rfl)
      simp only [put_mk, List.set_cons_succ, List.set_cons_zero]
      refine wpAnyH_take (i := 14) (oi := ?o2x14) (v := ?v2x14) ?hi2x14 (by kernel_rfl) ?hf2x14 ?hr2x14 (fun _ _ _ h => h) ?hy2x14 (by assumption) ?rest2x14
      case hi2x14 => (simp only [List.getElem?_toArray, List.getElem?_cons_succ, List.getElem?_cons_zero]; exact rfl)
      case hf2x14 => kernel_rfl
      case hr2x14 => kernel_rfl
      case hy2x14 => (refine Or.inl ⟨by rfl, ?_⟩; intro w hSw; (try dsimp only at hSw); go_simp; try with_reducible rfl)
      simp only [put_mk, List.set_cons_succ, List.set_cons_zero]
      refine wpAnyH_take (i := 15) (oi := ?o2x15) (v := ?v2x15) ?hi2x15 (by kernel_rfl) ?hf2x15 ?hr2x15 (fun _ _ _ h => h) ?hy2x15 (by assumption) ?rest2x15
      case hi2x15 => (simp only [List.getElem?_toArray, List.getElem?_cons_succ, List.getElem?_cons_zero]; exact rfl)
      case hf2x15 => kernel_rfl
      case hr2x15 => kernel_rfl
      case hy2x15 => (refine Or.inl ⟨by rfl, ?_⟩; intro w hSw; (try dsimp only at hSw); go_simp; try with_reducible rfl)
      simp only [put_mk, List.set_cons_succ, List.set_cons_zero]
      refine wpAnyH_take (i := 16) (oi := ?o2x16) (v := ?v2x16) ?hi2x16 (by kernel_rfl) ?hf2x16 ?hr2x16 (fun _ _ _ h => h) ?hy2x16 (by assumption) ?rest2x16
      case hi2x16 => (simp only [List.getElem?_toArray, List.getElem?_cons_succ, List.getElem?_cons_zero]; exact rfl)
      case hf2x16 => kernel_rfl
      case hr2x16 => kernel_rfl
      case hy2x16 => (refine Or.inl ⟨by rfl, ?_⟩; intro w hSw; (try dsimp only at hSw); go_simp; try with_reducible rfl)
      simp only [put_mk, List.set_cons_succ, List.set_cons_zero]
      refine wpAnyH_take (i := 17) (oi := ?o2x17) (v := ?v2x17) ?hi2x17 (by kernel_rfl) ?hf2x17 ?hr2x17 (fun _ _ _ h => h) ?hy2x17 (by assumption) ?rest2x17
      case hi2x17 => (simp only [List.getElem?_toArray, List.getElem?_cons_succ, List.getElem?_cons_zero]; exact rfl)
      case hf2x17 => kernel_rfl
      case hr2x17 => kernel_rfl
      case hy2x17 => (refine Or.inl ⟨by rfl, ?_⟩; intro w hSw; (try dsimp only at hSw); go_simp; try with_reducible rfl)
      simp only [put_mk, List.set_cons_succ, List.set_cons_zero]
      refine wpAnyH_ready (rs := [18]) (by kernel_rfl) (by simp) ?_
      refine AllReadyH.cons (o := ?o2x18) ?hi2x18 (fun K hK => ?_) AllReadyH.nil
      case hi2x18 => (simp only [List.getElem?_toArray, List.getElem?_cons_succ, List.getElem?_cons_zero]; exact rfl)
      go_simp
      refine ((HHb _).out).mono ?_
      rintro e w7 ⟨rfl, hx7⟩
      refine hK.out _ _ ?_ (fun hHeld => ?_)
      · (repeat (first | exact Ext.refl _ | assumption | refine Ext.setCell ?_ (by first | (simp; done) | (simp; omega)) _ | refine Ext.drewN ?_ _ | refine Ext.alloc ?_ _ | refine Ext.drew ?_ | refine Ext.trans ?_ (by assumption)))
      clear hK K
      refine wpAnyH_take (i := 19) (oi := ?o2x19) (v := ?v2x19) ?hi2x19 (by kernel_rfl) ?hf2x19 ?hr2x19 (fun _ _ _ h => h) ?hy2x19 (by assumption) ?rest2x19
      case hi2x19 => (simp only [List.getElem?_toArray, List.getElem?_cons_succ, List.getElem?_cons_zero]; exact rfl)
      case hf2x19 => kernel_rfl
      case hr2x19 => kernel_rfl
      case hy2x19 => (refine Or.inl ⟨by rfl, ?_⟩; intro w hSw; (try dsimp only at hSw); go_simp; try with_reducible rfl)
      simp only [put_mk, List.set_cons_succ, List.set_cons_zero]
      refine wpAnyH_take (i := 20) (oi := ?o2x20) (v := ?v2x20) ?hi2x20 (by kernel_rfl) ?hf2x20 ?hr2x20 (fun _ _ _ h => h) ?hy2x20 (by assumption) ?rest2x20
      case hi2x20 => (simp only [List.getElem?_toArray, List.getElem?_cons_succ, List.getElem?_cons_zero]; exact rfl)
      case hf2x20 => kernel_rfl
      case hr2x20 => kernel_rfl
      case hy2x20 => (refine Or.inl ⟨by rfl, ?_⟩; intro w hSw; (try dsimp only at hSw); go_simp; try with_reducible rfl)
      simp only [put_mk, List.set_cons_succ, List.set_cons_zero]
      refine wpAnyH_ready (rs := [21]) (by kernel_rfl) (by simp) ?_
      refine AllReadyH.cons (o := ?o2x21) ?hi2x21 (fun K hK => ?_) AllReadyH.nil
      case hi2x21 => (simp only [List.getElem?_toArray, List.getElem?_cons_succ, List.getElem?_cons_zero]; exact rfl)
      go_simp
      refine ((HWh _ _).out).mono ?_
      rintro e w7 ⟨rfl, hw7⟩
      subst hw7
      refine hK.out _ _ ?_ (fun hHeld => ?_)
      · (repeat (first | exact Ext.refl _ | assumption | refine Ext.setCell ?_ (by first | (simp; done) | (simp; omega)) _ | refine Ext.drewN ?_ _ | refine Ext.alloc ?_ _ | refine Ext.drew ?_ | refine Ext.trans ?_ (by assumption)))
      clear hK K
      refine wpAnyH_ready (rs := [22]) (by kernel_rfl) (by simp) ?_
      refine AllReadyH.cons (o := ?o2x22) ?hi2x22 (fun K hK => ?_) AllReadyH.nil
      case hi2x22 => (simp only [List.getElem?_toArray, List.getElem?_cons_succ, List.getElem?_cons_zero]; exact rfl)
      go_simp
      refine hK.out _ _ ?_ (fun hHeld => ?_)
      · (repeat (first | exact Ext.refl _ | assumption | refine Ext.setCell ?_ (by first | (simp; done) | (simp; omega)) _ | refine Ext.drewN ?_ _ | refine Ext.alloc ?_ _ | refine Ext.drew ?_ | refine Ext.trans ?_ (by assumption)))
      clear hK K
      refine wpAnyH_ready (rs := [23]) (by kernel_rfl) (by simp) ?_
      refine AllReadyH.cons (o := ?o2x23) ?hi2x23 (fun K hK => ?_) AllReadyH.nil
      case hi2x23 => (simp only [List.getElem?_toArray, List.getElem?_cons_succ, List.getElem?_cons_zero]; exact rfl)
      go_simp
      refine ((HS _ _ (Rd.new (by first | rfl | simp) (by first | rfl | simp))).out).mono ?_
      rintro e w7 ⟨rfl, hw7⟩
      subst hw7
      refine hK.out _ _ ?_ (fun hHeld => ?_)
      · (repeat (first | exact Ext.refl _ | assumption | refine Ext.setCell ?_ (by first | (simp; done) | (simp; omega)) _ | refine Ext.drewN ?_ _ | refine Ext.alloc ?_ _ | refine Ext.drew ?_ | refine Ext.trans ?_ (by assumption)))
      clear hK K
      refine wpAnyH_take (i := 24) (oi := ?o2x24) (v := ?v2x24) ?hi2x24 (by kernel_rfl) ?hf2x24 ?hr2x24 (fun _ _ _ h => h) ?hy2x24 (by assumption) ?rest2x24
      case hi2x24 => (simp only [List.getElem?_toArray, List.getElem?_cons_succ, List.getElem?_cons_zero]; exact rfl)
      case hf2x24 => kernel_rfl
      case hr2x24 => kernel_rfl
      case hy2x24 => (refine Or.inl ⟨by rfl, ?_⟩; intro w hSw; (try dsimp only at hSw); go_simp; try with_reducible rfl)
      simp only [put_mk, List.set_cons_succ, List.set_cons_zero]
      refine wpAnyH_done (by kernel_rfl) ?_ _
      refine NoPanic.normal ?_
      clear f0 f1 f2 f3 f4 r0 r1 r2 r3 r4 r5 a0 a1 b0 b1
      go_wp2_with (go_at_call 15; refine ((HL _).out).mono ?_; rintro e w3 ⟨rfl, hx3⟩)
      go_ret
      exact ⟨by first | rfl | simp, hx0.trans (by repeat (first | exact Ext.refl _ | assumption | refine Ext.setCell ?_ (by first | (simp; done) | (simp; omega)) _ | refine Ext.drewN ?_ _ | refine Ext.alloc ?_ _ | refine Ext.drew ?_ | refine Ext.trans ?_ (by assumption)))⟩
    · have HS : ∀ (B : Option Addr) (w : World), Rd w B ([ge, 0].map (.int .i64)) → Hid (Calls Try.prog 17 #[.slice B 2 2] w fun e w' => e = .returned (.int .i64 E) ∧ w = w') := HS
      refine wp_region_noPanic ?_
      refine wp_region_held_drew (S := fun w' => Ext w0 w') (by kernel_rfl) ?_ (fun hHeld => ?_)
      · (repeat (first | exact Ext.refl _ | assumption | refine Ext.setCell ?_ (by first | (simp; done) | (simp; omega)) _ | refine Ext.drewN ?_ _ | refine Ext.alloc ?_ _ | refine Ext.drew ?_ | refine Ext.trans ?_ (by assumption)))
      refine wpAnyH_take (i := 0) (oi := ?o3x0) (v := ?v3x0) ?hi3x0 (by kernel_rfl) ?hf3x0 ?hr3x0 (fun _ _ _ h => h) ?hy3x0 (by assumption) ?rest3x0
      case hi3x0 => (simp only [List.getElem?_toArray, List.getElem?_cons_zero]; exact rfl)
      case hf3x0 => kernel_rfl
      case hr3x0 => kernel_rfl
      case hy3x0 => (refine Or.inl ⟨by rfl, ?_⟩; intro w hSw; (try dsimp only at hSw); go_simp; try with_reducible rfl)
      simp only [put_mk, List.set_cons_succ, List.set_cons_zero]
      refine wpAnyH_take (i := 1) (oi := ?o3x1) (v := ?v3x1) ?hi3x1 (by kernel_rfl) ?hf3x1 ?hr3x1 (fun _ _ _ h => h) ?hy3x1 (by assumption) ?rest3x1
      case hi3x1 => (simp only [List.getElem?_toArray, List.getElem?_cons_succ, List.getElem?_cons_zero]; exact rfl)
      case hf3x1 => kernel_rfl
      case hr3x1 => kernel_rfl
      case hy3x1 => (refine Or.inl ⟨by rfl, ?_⟩; intro w hSw; (try dsimp only at hSw); go_simp; try with_reducible rfl)
      simp only [put_mk, List.set_cons_succ, List.set_cons_zero]
      refine wpAnyH_take (i := 3) (oi := ?o3x3) (v := ?v3x3) ?hi3x3 (by kernel_rfl) ?hf3x3 ?hr3x3 (fun _ _ _ h => h) ?hy3x3 (by assumption) ?rest3x3
      case hi3x3 => (simp only [List.getElem?_toArray, List.getElem?_cons_succ, List.getElem?_cons_zero]; exact rfl)
      case hf3x3 => kernel_rfl
      case hr3x3 => kernel_rfl
      case hy3x3 => (refine Or.inl ⟨by rfl, ?_⟩; intro w hSw; (try dsimp only at hSw); go_simp; try with_reducible rfl)
      simp only [put_mk, List.set_cons_succ, List.set_cons_zero]
      refine wpAnyH_take (i := 4) (oi := ?o3x4) (v := ?v3x4) ?hi3x4 (by kernel_rfl) ?hf3x4 ?hr3x4 (fun _ _ _ h => h) ?hy3x4 (by assumption) ?rest3x4
      case hi3x4 => (simp only [List.getElem?_toArray, List.getElem?_cons_succ, List.getElem?_cons_zero]; exact rfl)
      case hf3x4 => kernel_rfl
      case hr3x4 => kernel_rfl
      case hy3x4 => (refine Or.inl ⟨by rfl, ?_⟩; intro w hSw; (try dsimp only at hSw); go_simp; try with_reducible rfl)
      simp only [put_mk, List.set_cons_succ, List.set_cons_zero]
      refine wpAnyH_take (i := 5) (oi := ?o3x5) (v := ?v3x5) ?hi3x5 (by kernel_rfl) ?hf3x5 ?hr3x5 (fun _ _ _ h => h) ?hy3x5 (by assumption) ?rest3x5
      case hi3x5 => (simp only [List.getElem?_toArray, List.getElem?_cons_succ, List.getElem?_cons_zero]; exact rfl)
      case hf3x5 => kernel_rfl
      case hr3x5 => kernel_rfl
      case hy3x5 => (refine Or.inl ⟨by rfl, ?_⟩; intro w hSw; (try dsimp only at hSw); go_simp; try with_reducible rfl)
      simp only [put_mk, List.set_cons_succ, List.set_cons_zero]
      refine wpAnyH_take (i := 6) (oi := ?o3x6) (v := ?v3x6) ?hi3x6 (by kernel_rfl) ?hf3x6 ?hr3x6 (fun _ _ _ h => h) ?hy3x6 (by assumption) ?rest3x6
      case hi3x6 => (simp only [List.getElem?_toArray, List.getElem?_cons_succ, List.getElem?_cons_zero]; exact rfl)
      case hf3x6 => kernel_rfl
      case hr3x6 => kernel_rfl
      case hy3x6 => (refine Or.inl ⟨by rfl, ?_⟩; intro w hSw; (try dsimp only at hSw); go_simp; try with_reducible rfl)
      simp only [put_mk, List.set_cons_succ, List.set_cons_zero]
      refine wpAnyH_take (i := 7) (oi := ?o3x7) (v := ?v3x7) ?hi3x7 (by kernel_rfl) ?hf3x7 ?hr3x7 (fun _ _ _ h => h) ?hy3x7 (by assumption) ?rest3x7
      case hi3x7 => (simp only [List.getElem?_toArray, List.getElem?_cons_succ, List.getElem?_cons_zero]; exact rfl)
      case hf3x7 => kernel_rfl
      case hr3x7 => kernel_rfl
      case hy3x7 => (refine Or.inl ⟨by rfl, ?_⟩; intro w hSw; (try dsimp only at hSw); go_simp; try with_reducible rfl)
      simp only [put_mk, List.set_cons_succ, List.set_cons_zero]
      refine wpAnyH_take (i := 8) (oi := ?o3x8) (v := ?v3x8) ?hi3x8 (by kernel_rfl) ?hf3x8 ?hr3x8 (fun _ _ _ h => h) ?hy3x8 (by assumption) ?rest3x8
      case hi3x8 => (simp only [List.getElem?_toArray, List.getElem?_cons_succ, List.getElem?_cons_zero]; exact rfl)
      case hf3x8 => kernel_rfl
      case hr3x8 => kernel_rfl
      case hy3x8 => (refine Or.inl ⟨by rfl, ?_⟩; intro w hSw; (try dsimp only at hSw); go_simp; try with_reducible rfl)
      simp only [put_mk, List.set_cons_succ, List.set_cons_zero]
      refine wpAnyH_ready (rs := [2]) (by kernel_rfl) (by simp) ?_
      refine AllReadyH.cons (o := ?o3x2) ?hi3x2 (fun K hK => ?_) AllReadyH.nil
      case hi3x2 => (simp only [List.getElem?_toArray, List.getElem?_cons_succ, List.getElem?_cons_zero]; exact rfl)
      go_simp
      refine ((HGE _ (hx0.trans hHeld)).out).mono ?_
      rintro e w7 ⟨rfl, hx7⟩
      refine hK.out _ _ ?_ (fun hHeld => ?_)
      · (repeat (first | exact Ext.refl _ | assumption | refine Ext.setCell ?_ (by first | (simp; done) | (simp; omega)) _ | refine Ext.drewN ?_ _ | refine Ext.alloc ?_ _ | refine Ext.drew ?_ | refine Ext.trans ?_ (by assumption)))
      clear hK K
      refine wpAnyH_ready (rs := [9]) (by kernel_rfl) (by simp) ?_
      refine AllReadyH.cons (o := ?o3x9) ?hi3x9 (fun K hK => ?_) AllReadyH.nil
      case hi3x9 => (simp only [List.getElem?_toArray, List.getElem?_cons_succ, List.getElem?_cons_zero]; exact rfl)
      go_simp
      refine ((HHa _).out).mono ?_
      rintro e w7 ⟨rfl, hx7⟩
      refine hK.out _ _ ?_ (fun hHeld => ?_)
      · (repeat (first | exact Ext.refl _ | assumption | refine Ext.setCell ?_ (by first | (simp; done) | (simp; omega)) _ | refine Ext.drewN ?_ _ | refine Ext.alloc ?_ _ | refine Ext.drew ?_ | refine Ext.trans ?_ (by assumption)))
      clear hK K
      refine wpAnyH_take (i := 10) (oi := ?o3x10) (v := ?v3x10) ?hi3x10 (by kernel_rfl) ?hf3x10 ?hr3x10 (fun _ _ _ h => h) ?hy3x10 (by assumption) ?rest3x10
      case hi3x10 => (simp only [List.getElem?_toArray, List.getElem?_cons_succ, List.getElem?_cons_zero]; exact rfl)
      case hf3x10 => kernel_rfl
      case hr3x10 => kernel_rfl
      case hy3x10 => (refine Or.inl ⟨by rfl, ?_⟩; intro w hSw; (try dsimp only at hSw); go_simp; try with_reducible rfl)
      simp only [put_mk, List.set_cons_succ, List.set_cons_zero]
      refine wpAnyH_take (i := 11) (oi := ?o3x11) (v := ?v3x11) ?hi3x11 (by kernel_rfl) ?hf3x11 ?hr3x11 (fun _ _ _ h => h) ?hy3x11 (by assumption) ?rest3x11
      case hi3x11 => (simp only [List.getElem?_toArray, List.getElem?_cons_succ, List.getElem?_cons_zero]; exact rfl)
      case hf3x11 => kernel_rfl
      case hr3x11 => kernel_rfl
      case hy3x11 => (refine Or.inl ⟨by rfl, ?_⟩; intro w hSw; (try dsimp only at hSw); go_simp; try with_reducible rfl)
      simp only [put_mk, List.set_cons_succ, List.set_cons_zero]
      refine wpAnyH_take (i := 12) (oi := ?o3x12) (v := ?v3x12) ?hi3x12 (by kernel_rfl) ?hf3x12 ?hr3x12 (fun _ _ _ h => h) ?hy3x12 (by assumption) ?rest3x12
      case hi3x12 => (simp only [List.getElem?_toArray, List.getElem?_cons_succ, List.getElem?_cons_zero]; exact rfl)
      case hf3x12 => kernel_rfl
      case hr3x12 => kernel_rfl
      case hy3x12 => (refine Or.inl ⟨by rfl, ?_⟩; intro w hSw; (try dsimp only at hSw); go_simp; try with_reducible rfl)
      simp only [put_mk, List.set_cons_succ, List.set_cons_zero]
      refine wpAnyH_take (i := 13) (oi := ?o3x13) (v := ?v3x13) ?hi3x13 (by kernel_rfl) ?hf3x13 ?hr3x13 (fun _ _ _ h => h) ?hy3x13 (by assumption) ?rest3x13
      case hi3x13 => (simp only [List.getElem?_toArray, List.getElem?_cons_succ, List.getElem?_cons_zero]; exact rfl)
      case hf3x13 => kernel_rfl
      case hr3x13 => kernel_rfl
      case hy3x13 => (refine Or.inl ⟨by rfl, ?_⟩; intro w hSw; (try dsimp only at hSw); go_simp; try with_reducible rfl)
      simp only [put_mk, List.set_cons_succ, List.set_cons_zero]
      refine wpAnyH_take (i := 14) (oi := ?o3x14) (v := ?v3x14) ?hi3x14 (by kernel_rfl) ?hf3x14 ?hr3x14 (fun _ _ _ h => h) ?hy3x14 (by assumption) ?rest3x14
      case hi3x14 => (simp only [List.getElem?_toArray, List.getElem?_cons_succ, List.getElem?_cons_zero]; exact rfl)
      case hf3x14 => kernel_rfl
      case hr3x14 => kernel_rfl
      case hy3x14 => (refine Or.inl ⟨by rfl, ?_⟩; intro w hSw; (try dsimp only at hSw); go_simp; try with_reducible rfl)
      simp only [put_mk, List.set_cons_succ, List.set_cons_zero]
      refine wpAnyH_take (i := 15) (oi := ?o3x15) (v := ?v3x15) ?hi3x15 (by kernel_rfl) ?hf3x15 ?hr3x15 (fun _ _ _ h => h) ?hy3x15 (by assumption) ?rest3x15
      case hi3x15 => (simp only [List.getElem?_toArray, List.getElem?_cons_succ, List.getElem?_cons_zero]; exact rfl)
      case hf3x15 => kernel_rfl
      case hr3x15 => kernel_rfl
      case hy3x15 => (refine Or.inl ⟨by rfl, ?_⟩; intro w hSw; (try dsimp only at hSw); go_simp; try with_reducible rfl)
      simp only [put_mk, List.set_cons_succ, List.set_cons_zero]
      refine wpAnyH_take (i := 16) (oi := ?o3x16) (v := ?v3x16) ?hi3x16 (by kernel_rfl) ?hf3x16 ?hr3x16 (fun _ _ _ h => h) ?hy3x16 (by assumption) ?rest3x16
      case hi3x16 => (simp only [List.getElem?_toArray, List.getElem?_cons_succ, List.getElem?_cons_zero]; exact rfl)
      case hf3x16 => kernel_rfl
      case hr3x16 => kernel_rfl
      case hy3x16 => (refine Or.inl ⟨by rfl, ?_⟩; intro w hSw; (try dsimp only at hSw); go_simp; try with_reducible rfl)
      simp only [put_mk, List.set_cons_succ, List.set_cons_zero]
      refine wpAnyH_take (i := 17) (oi := ?o3x17) (v := ?v3x17) ?hi3x17 (by kernel_rfl) ?hf3x17 ?hr3x17 (fun _ _ _ h => h) ?hy3x17 (by assumption) ?rest3x17
      case hi3x17 => (simp only [List.getElem?_toArray, List.getElem?_cons_succ, List.getElem?_cons_zero]; exact rfl)
      case hf3x17 => kernel_rfl
      case hr3x17 => kernel_rfl
      case hy3x17 => (refine Or.inl ⟨by rfl, ?_⟩; intro w hSw; (try dsimp only at hSw); go_simp; try with_reducible rfl)
      simp only [put_mk, List.set_cons_succ, List.set_cons_zero]
      refine wpAnyH_ready (rs := [18]) (by kernel_rfl) (by simp) ?_
      refine AllReadyH.cons (o := ?o3x18) ?hi3x18 (fun K hK => ?_) AllReadyH.nil
      case hi3x18 => (simp only [List.getElem?_toArray, List.getElem?_cons_succ, List.getElem?_cons_zero]; exact rfl)
      go_simp
      refine ((HHb _).out).mono ?_
      rintro e w7 ⟨rfl, hx7⟩
      refine hK.out _ _ ?_ (fun hHeld => ?_)
      · (repeat (first | exact Ext.refl _ | assumption | refine Ext.setCell ?_ (by first | (simp; done) | (simp; omega)) _ | refine Ext.drewN ?_ _ | refine Ext.alloc ?_ _ | refine Ext.drew ?_ | refine Ext.trans ?_ (by assumption)))
      clear hK K
      refine wpAnyH_take (i := 19) (oi := ?o3x19) (v := ?v3x19) ?hi3x19 (by kernel_rfl) ?hf3x19 ?hr3x19 (fun _ _ _ h => h) ?hy3x19 (by assumption) ?rest3x19
      case hi3x19 => (simp only [List.getElem?_toArray, List.getElem?_cons_succ, List.getElem?_cons_zero]; exact rfl)
      case hf3x19 => kernel_rfl
      case hr3x19 => kernel_rfl
      case hy3x19 => (refine Or.inl ⟨by rfl, ?_⟩; intro w hSw; (try dsimp only at hSw); go_simp; try with_reducible rfl)
      simp only [put_mk, List.set_cons_succ, List.set_cons_zero]
      refine wpAnyH_take (i := 20) (oi := ?o3x20) (v := ?v3x20) ?hi3x20 (by kernel_rfl) ?hf3x20 ?hr3x20 (fun _ _ _ h => h) ?hy3x20 (by assumption) ?rest3x20
      case hi3x20 => (simp only [List.getElem?_toArray, List.getElem?_cons_succ, List.getElem?_cons_zero]; exact rfl)
      case hf3x20 => kernel_rfl
      case hr3x20 => kernel_rfl
      case hy3x20 => (refine Or.inl ⟨by rfl, ?_⟩; intro w hSw; (try dsimp only at hSw); go_simp; try with_reducible rfl)
      simp only [put_mk, List.set_cons_succ, List.set_cons_zero]
      refine wpAnyH_ready (rs := [21]) (by kernel_rfl) (by simp) ?_
      refine AllReadyH.cons (o := ?o3x21) ?hi3x21 (fun K hK => ?_) AllReadyH.nil
      case hi3x21 => (simp only [List.getElem?_toArray, List.getElem?_cons_succ, List.getElem?_cons_zero]; exact rfl)
      go_simp
      refine ((HWh _ _).out).mono ?_
      rintro e w7 ⟨rfl, hw7⟩
      subst hw7
      refine hK.out _ _ ?_ (fun hHeld => ?_)
      · (repeat (first | exact Ext.refl _ | assumption | refine Ext.setCell ?_ (by first | (simp; done) | (simp; omega)) _ | refine Ext.drewN ?_ _ | refine Ext.alloc ?_ _ | refine Ext.drew ?_ | refine Ext.trans ?_ (by assumption)))
      clear hK K
      refine wpAnyH_ready (rs := [22]) (by kernel_rfl) (by simp) ?_
      refine AllReadyH.cons (o := ?o3x22) ?hi3x22 (fun K hK => ?_) AllReadyH.nil
      case hi3x22 => (simp only [List.getElem?_toArray, List.getElem?_cons_succ, List.getElem?_cons_zero]; exact rfl)
      go_simp
      refine hK.out _ _ ?_ (fun hHeld => ?_)
      · (repeat (first | exact Ext.refl _ | assumption | refine Ext.setCell ?_ (by first | (simp; done) | (simp; omega)) _ | refine Ext.drewN ?_ _ | refine Ext.alloc ?_ _ | refine Ext.drew ?_ | refine Ext.trans ?_ (by assumption)))
      clear hK K
      refine wpAnyH_ready (rs := [23]) (by kernel_rfl) (by simp) ?_
      refine AllReadyH.cons (o := ?o3x23) ?hi3x23 (fun K hK => ?_) AllReadyH.nil
      case hi3x23 => (simp only [List.getElem?_toArray, List.getElem?_cons_succ, List.getElem?_cons_zero]; exact rfl)
      go_simp
      refine ((HS _ _ (Rd.new (by first | rfl | simp) (by first | rfl | simp))).out).mono ?_
      rintro e w7 ⟨rfl, hw7⟩
      subst hw7
      refine hK.out _ _ ?_ (fun hHeld => ?_)
      · (repeat (first | exact Ext.refl _ | assumption | refine Ext.setCell ?_ (by first | (simp; done) | (simp; omega)) _ | refine Ext.drewN ?_ _ | refine Ext.alloc ?_ _ | refine Ext.drew ?_ | refine Ext.trans ?_ (by assumption)))
      clear hK K
      refine wpAnyH_take (i := 24) (oi := ?o3x24) (v := ?v3x24) ?hi3x24 (by kernel_rfl) ?hf3x24 ?hr3x24 (fun _ _ _ h => h) ?hy3x24 (by assumption) ?rest3x24
      case hi3x24 => (simp only [List.getElem?_toArray, List.getElem?_cons_succ, List.getElem?_cons_zero]; exact rfl)
      case hf3x24 => kernel_rfl
      case hr3x24 => kernel_rfl
      case hy3x24 => (refine Or.inl ⟨by rfl, ?_⟩; intro w hSw; (try dsimp only at hSw); go_simp; try with_reducible rfl)
      simp only [put_mk, List.set_cons_succ, List.set_cons_zero]
      refine wpAnyH_done (by kernel_rfl) ?_ _
      refine NoPanic.normal ?_
      clear f0 f1 f2 f3 f4 r0 r1 r2 r3 r4 r5 a0 a1 b0 b1
      go_wp2_with (go_at_call 15; refine ((HL _).out).mono ?_; rintro e w3 ⟨rfl, hx3⟩)
      go_ret
      exact ⟨by first | rfl | simp, hx0.trans (by repeat (first | exact Ext.refl _ | assumption | refine Ext.setCell ?_ (by first | (simp; done) | (simp; omega)) _ | refine Ext.drewN ?_ _ | refine Ext.alloc ?_ _ | refine Ext.drew ?_ | refine Ext.trans ?_ (by assumption)))⟩
/-- what is known of a way that Way returns -/
def WayF (R : RlR) (V : Nat → Nat) (X Y : Int) (Wn Hn N src tq : Nat) (none_ : Int) (one_ : Int) (v : Value) (pv : Nat) (ev : Int) (w : World) : Prop := ∃ (seen : Nat → Bool) (P : Nat → Nat), PrOk N (edA R V Wn Hn N) src seen P ∧
  (seen tq = false ∧ v = .slice none 0 0 ∧ pv = 0 ∧ ev = none_ ∨ seen tq = true ∧ ∃ (H : Nat → Int) (xs : List Nat) (B : Option Addr) (cap : Nat), HopOk N (edA R V Wn Hn N) src (tgt P) H ∧ Chain R V Wn Hn N H P tq xs ∧ v = .slice B xs.length cap ∧ pv = P tq ∧ ev = one_ ∧ Rd w B (ptv (xs.reverse.map (cpt X Y Wn))) ∧ (none_ = 11 → xs.length ≤ cap ∧ xs.length ≤ N))
theorem hop_T {N : Nat} {E : Nat → List (Nat × Nat)} {src : Nat} {P P2 : Nat → Nat} {H : Nat → Int} (hP : ∀ k, k < N → P k = P2 k) (hE : EdOk N E) (h : HopOk N E src (tgt P2) H) : HopOk N E src (tgt P) H := by
  have key : ∀ n m b, n < N → (m, b) ∈ E n → tgt P n m b = tgt P2 n m b := fun n m b hn hm => by
    unfold tgt
    rw [hP n hn, hP m (hE.to n m b hm)]
  refine ⟨h.h0, h.h1, fun n m b hn h0 hm ht => h.h2 n m b hn h0 hm (by rw [← key n m b hn hm]; exact ht), fun m hm h0 => ?_, h.h4⟩
  obtain ⟨n, b, h1, h2, h3, h4⟩ := h.h3 m hm h0
  exact ⟨n, b, h1, h2, by rw [key n m b h1 h2]; exact h3, h4⟩
/-- two such ways are one -/
theorem WayF.same {R : RlR} {V : Nat → Nat} {X Y : Int} {Wn Hn N src tq : Nat} {v v2 : Value} {pv pv2 : Nat} {ev ev2 : Int} {w w2 : World} (hE : EdOk N (edA R V Wn Hn N)) (ht : tq < N) (hW : 1 ≤ Wn) (hN : N = Wn * Hn)
    (h : WayF R V X Y Wn Hn N src tq 11 0 v pv ev w) (h2 : WayF R V X Y Wn Hn N src tq 0 1 v2 pv2 ev2 w2) :
    (v = .slice none 0 0 ∧ pv = 0 ∧ ev = 11 ∧ v2 = .slice none 0 0 ∧ pv2 = 0 ∧ ev2 = 0) ∨
    (ev = 0 ∧ ev2 = 1 ∧ pv2 = pv ∧ ∃ (ps : List (Int × Int)) (B B2 : Option Addr) (cap cap2 : Nat), v = .slice B ps.length cap ∧ v2 = .slice B2 ps.length cap2 ∧ Rd w B (ptv ps) ∧ Rd w2 B2 (ptv ps) ∧ 1 ≤ ps.length ∧ ps.length ≤ N ∧ ps.length ≤ cap ∧ (∀ p, p ∈ ps → ∃ k, k < N ∧ p = cpt X Y Wn k) ∧ prA R V X Y Wn Hn ps (ps.length - 1) = some pv) := by
  obtain ⟨sn, P, hP, hc⟩ := h
  obtain ⟨sn2, P2, hP2, hc2⟩ := h2
  have hu := fun k (hk : k < N) => hP.unique hE hP2 hk
  rcases hc with ⟨h1, h3, h4, h5⟩ | ⟨h1, H, xs, B, cap, hH, hch, h3, h4, h5, h6, h7⟩
  · rcases hc2 with ⟨g1, g3, g4, g5⟩ | ⟨g1, _⟩
    · exact .inl ⟨h3, h4, h5, g3, g4, g5⟩
    · rw [(hu tq ht).1, g1] at h1
      cases h1
  · rcases hc2 with ⟨g1, _⟩ | ⟨g1, H2, xs2, B2, cap2, gH, gch, g3, g4, g5, g6, _⟩
    · rw [(hu tq ht).1, g1] at h1
      cases h1
    · right
      have gH2 : HopOk N (edA R V Wn Hn N) src (tgt P) H2 := hop_T (fun k hk => (hu k hk).2) hE gH
      have hHe : ∀ k, k < N → H k = H2 k := fun k hk => hH.unique gH2 hk
      have hxe := (hch.congr hHe (fun k hk => (hu k hk).2) ht).unique gch
      subst hxe
      obtain ⟨ys, hys⟩ := hch.head
      have hpr := hch.price (X := X) (Y := Y) rfl hE hW hN hP hH ht (hop_all hE hP hH ht h1)
      have hlen : (xs.reverse.map (cpt X Y Wn)).length = xs.length := by simp
      refine ⟨h5, g5, by rw [g4, h4, (hu tq ht).2], xs.reverse.map (cpt X Y Wn), B, B2, cap, cap2, by rw [hlen]; exact h3, by rw [hlen]; exact g3, h6, g6, by rw [hlen, hys]; simp, by rw [hlen]; exact (h7 rfl).2, by rw [hlen]; exact (h7 rfl).1, fun p hp => ?_, by rw [hlen, h4]; exact hpr⟩
      obtain ⟨k, hk, rfl⟩ := List.mem_map.1 hp
      exact ⟨k, hch.mem ht k (List.mem_reverse.1 hk), rfl⟩
set_option maxRecDepth 100000 in
set_option maxHeartbeats 6400000 in
theorem ways_good (X Y : Int) (Wn Hn : Nat) (A : Option Addr) (N c : Nat) (R : RlR) (C : Option Addr) (m cc k t : Nat) (lf : List Nat) (X' Y' W' H' : Int) (l : List Nat) (w : World)
    (hr : Reg X Y Wn Hn) (hN : N = Wn * Hn) (hR : RlOk R N) (hn : lf.length = N) (hh : ∀ j, j < N → Bd 20 (lf.getD j 0)) (hk : k < N) (ht : t < N) (hV : Rd w A (flt lf)) (hCo : CoR w C m R.co) (hC : CoP w C m X' Y' W' H' l) (hm : m ≤ 140737488351232) (hg : grndE X Y Wn Hn lf R.gr R.wt R.br R.de R.sp m X' Y' W' H' l = 0) :
    Calls Try.prog 5 #[.agg #[.int .i64 X, .int .i64 Y, .int .i64 (Wn : Int), .int .i64 (Hn : Int), .slice A N c], .agg #[.float .f32 R.gr, .float .f32 R.wt, .float .f32 R.br, .float .f32 R.de, .int .i64 (R.sp : Int), .slice C m cc], .agg #[.int .i64 (X + ((k % Wn : Nat) : Int)), .int .i64 (Y + ((k / Wn : Nat) : Int))], .agg #[.int .i64 (X + ((t % Wn : Nat) : Int)), .int .i64 (Y + ((t / Wn : Nat) : Int))]] w fun e w' => e = .returned (.bool true) ∧ Ext w w' := by
  have hb : N ≤ 140737488351232 := by have := hr.n; omega
  have hN6 : N ≤ 65536 := by rw [hN]; exact hr.n
  have HWy := fun (w' : World) (h : Ext w w') => hidA (show Calls Try.prog 24 #[.agg #[.int .i64 X, .int .i64 Y, .int .i64 (Wn : Int), .int .i64 (Hn : Int), .slice A N c], .agg #[.float .f32 R.gr, .float .f32 R.wt, .float .f32 R.br, .float .f32 R.de, .int .i64 (R.sp : Int), .slice C m cc], .agg #[.int .i64 (X + ((k % Wn : Nat) : Int)), .int .i64 (Y + ((k / Wn : Nat) : Int))], .agg #[.int .i64 (X + ((t % Wn : Nat) : Int)), .int .i64 (Y + ((t / Wn : Nat) : Int))]] w' fun e w'' => ∃ (v : Value) (pv : Nat) (ev : Int), e = .returned (.tuple #[v, .float .f32 pv, .int .i64 ev]) ∧ Ext w' w'' ∧ WayF R (fun j => lf.getD j 0) X Y Wn Hn N k t 11 0 v pv ev w'' from
    (Way_ok2 X Y Wn Hn A N c R C m cc k t lf X' Y' W' H' l w' hr hN hR hn hh hk (hV.ext h) (hCo.ext h) (hC.ext h) hg ht).mono (by
      rintro e w'' ⟨sn, P, h1, h2, ⟨h3, rfl⟩ | ⟨h3, H, xs, g, cap, h4, h5, h6, h7, h9, rfl, h8⟩⟩
      · exact ⟨_, _, _, rfl, h2, sn, P, h1, .inl ⟨h3, rfl, rfl, rfl⟩⟩
      · exact ⟨_, _, _, rfl, h2, sn, P, h1, .inr ⟨h3, H, xs, some ⟨g, 0, none⟩, cap, h4, h5, rfl, rfl, rfl, h8, fun _ => ⟨h9, h6⟩⟩⟩))
  have HWo := fun (w' : World) (h : Ext w w') (h60 : N ≤ 60) => hidA (show Calls Try.prog 25 #[.agg #[.int .i64 X, .int .i64 Y, .int .i64 (Wn : Int), .int .i64 (Hn : Int), .slice A N c], .agg #[.float .f32 R.gr, .float .f32 R.wt, .float .f32 R.br, .float .f32 R.de, .int .i64 (R.sp : Int), .slice C m cc], .agg #[.int .i64 (X + ((k % Wn : Nat) : Int)), .int .i64 (Y + ((k / Wn : Nat) : Int))], .agg #[.int .i64 (X + ((t % Wn : Nat) : Int)), .int .i64 (Y + ((t / Wn : Nat) : Int))]] w' fun e w'' => ∃ (v : Value) (pv : Nat) (bv : Bool) (ev : Int), e = .returned (.tuple #[v, .float .f32 pv, .bool bv]) ∧ Ext w' w'' ∧ (bv = true → ev = 1) ∧ (bv = false → ev = 0) ∧ WayF R (fun j => lf.getD j 0) X Y Wn Hn N k t 0 1 v pv ev w'' from
    (WayOf_any X Y Wn Hn A N c R C m cc k t lf w' hr hN hR hn hh hk ht h60 (hV.ext h) (hCo.ext h)).mono (by
      rintro e w'' ⟨sn, P, h1, h2, ⟨h3, rfl⟩ | ⟨h3, H, xs, B, cap, h4, h5, rfl, h8⟩⟩
      · exact ⟨_, _, _, 0, rfl, h2, fun h => (by cases h), fun _ => rfl, sn, P, h1, .inl ⟨h3, rfl, rfl, rfl⟩⟩
      · exact ⟨_, _, _, 1, rfl, h2, fun _ => rfl, fun h => (by cases h), sn, P, h1, .inr ⟨h3, H, xs, B, cap, h4, h5, rfl, rfl, rfl, h8, fun h => (by cases h)⟩⟩))
  have HPr := fun (w' : World) (h : Ext w w') (B : Option Addr) (q d : Nat) (ps : List (Int × Int)) (h1 : ps.length = q) (h2 : Rd w' B (ptv ps)) (h3 : q ≤ d) (h4 : 1 ≤ q) (h5 : q ≤ N) (h6 : ∀ p, p ∈ ps → ∃ k, k < N ∧ p = cpt X Y Wn k) => hidA (Price_ok X Y Wn Hn A N c R C m cc lf X' Y' W' H' l B q d ps w' hr hN hR hn hh (hV.ext h) (hCo.ext h) (hC.ext h) hm hg h1 h2 h3 (by unfold amtE; rw [if_neg (by omega), if_neg (by omega)]) (fun p hp => by
    obtain ⟨j, hj, rfl⟩ := h6 p hp
    exact cpt_in hr hN hj))
  unfold PriPost at HPr
  have HSame := hidA (fun (v v2 : Value) (pv pv2 : Nat) (ev ev2 : Int) (wa wb : World) h1 h2 => WayF.same (R := R) (V := fun j => lf.getD j 0) (X := X) (Y := Y) (src := k) (v := v) (v2 := v2) (pv := pv) (pv2 := pv2) (ev := ev) (ev2 := ev2) (w := wa) (w2 := wb) (edA_ok hR hN hh) ht hr.w1 hN h1 h2)
  have HGE := fun (w' : World) (h : Ext w w') => hidA (GroundError_any X Y Wn Hn A N c lf R.gr R.wt R.br R.de R.sp C m cc X' Y' W' H' l w' hn (hV.ext h) hb (hC.ext h) hm)
  have HL := fun (w : World) => hidA (leads_any w)
  have HWh := fun (b : Bool) (w : World) => hidA (when_any b 5 w)
  rw [hg] at HGE
  have hi1 := cpt_in hr hN hk
  have hi2 := cpt_in hr hN ht
  have hb1 : hasB X Y Wn Hn (X + ((k % Wn : Nat) : Int)) (Y + ((k / Wn : Nat) : Int)) = true := by rw [hasB_ok hr.ok]; exact decide_eq_true hi1
  have hb2 : hasB X Y Wn Hn (X + ((t % Wn : Nat) : Int)) (Y + ((t / Wn : Nat) : Int)) = true := by rw [hasB_ok hr.ok]; exact decide_eq_true hi2
  have HHa := fun (w : World) => hidA (has_any X Y Wn Hn (X + ((k % Wn : Nat) : Int)) (Y + ((k / Wn : Nat) : Int)) w)
  have HHb := fun (w : World) => hidA (has_any X Y Wn Hn (X + ((t % Wn : Nat) : Int)) (Y + ((t / Wn : Nat) : Int)) w)
  rw [hb1] at HHa
  rw [hb2] at HHb
  have HS : ∀ (B : Option Addr) (w : World), Rd w B ([0, 0].map (.int .i64)) → Hid (Calls Try.prog 17 #[.slice B 2 2] w fun e w' => e = .returned (.int .i64 0) ∧ w = w') := fun B w h => hidA (first_any B 2 2 [0, 0] w rfl h (by omega))
  have HBt := fun (a : Nat) (w : World) => hidA (bit_same a w)
  have hz := zero_eq
  clear hn hV hb hC hm hg hr hN hR hh hk ht hCo hi1 hi2 hb1 hb2
  generalize X + ((k % Wn : Nat) : Int) = ax at *
  generalize Y + ((k / Wn : Nat) : Int) = ay at *
  generalize X + ((t % Wn : Nat) : Int) = bx at *
  generalize Y + ((t / Wn : Nat) : Int) = by' at *
  go_enter Try.func5, Try.ntmps5
  go_upto_region 1 with fail
  obtain ⟨w0, hw0⟩ : ∃ w0, w0 = (((w.alloc (.cells #[.int .i64 X, .int .i64 Y, .int .i64 (Wn : Int), .int .i64 (Hn : Int), .slice A N c] 26)).alloc (.cells #[.float .f32 R.gr, .float .f32 R.wt, .float .f32 R.br, .float .f32 R.de, .int .i64 (R.sp : Int), .slice C m cc] 30)).alloc (.cells #[.int .i64 ax, .int .i64 ay] 32)).alloc (.cells #[.int .i64 bx, .int .i64 by'] 32) := ⟨_, rfl⟩
  have kF : Bk w0 w.heap.size 26 #[.int .i64 X, .int .i64 Y, .int .i64 (Wn : Int), .int .i64 (Hn : Int), .slice A N c] := by rw [hw0]; exact (((Bk.new' rfl).alloc _).alloc _).alloc _
  have kR : Bk w0 (w.heap.size + 1) 30 #[.float .f32 R.gr, .float .f32 R.wt, .float .f32 R.br, .float .f32 R.de, .int .i64 (R.sp : Int), .slice C m cc] := by rw [hw0]; exact ((Bk.new' (by simp)).alloc _).alloc _
  have kA : Bk w0 (w.heap.size + 1 + 1) 32 #[.int .i64 ax, .int .i64 ay] := by rw [hw0]; exact (Bk.new' (by simp)).alloc _
  have kB : Bk w0 (w.heap.size + 1 + 1 + 1) 32 #[.int .i64 bx, .int .i64 by'] := by rw [hw0]; exact Bk.new' (by simp)
  have hx0 : Ext w w0 := by rw [hw0]; exact ((((Ext.refl w).alloc _).alloc _).alloc _).alloc _
  rw [← hw0]
  clear hw0
  generalize w.heap.size + 1 + 1 + 1 = hb' at *
  generalize w.heap.size + 1 + 1 = ha' at *
  generalize w.heap.size + 1 = hr' at *
  generalize hfe : w.heap.size = hf at *
  clear hfe
  have f0 : ∀ w', Ext w0 w' → w'.cell? ⟨hf, 0, none⟩ = some (.int .i64 X) := fun w' h => (kF.ext h).cell 0
  have f1 : ∀ w', Ext w0 w' → w'.cell? ⟨hf, 1, none⟩ = some (.int .i64 Y) := fun w' h => (kF.ext h).cell 1
  have f2 : ∀ w', Ext w0 w' → w'.cell? ⟨hf, 2, none⟩ = some (.int .i64 (Wn : Int)) := fun w' h => (kF.ext h).cell 2
  have f3 : ∀ w', Ext w0 w' → w'.cell? ⟨hf, 3, none⟩ = some (.int .i64 (Hn : Int)) := fun w' h => (kF.ext h).cell 3
  have f4 : ∀ w', Ext w0 w' → w'.cell? ⟨hf, 4, none⟩ = some (.slice A N c) := fun w' h => (kF.ext h).cell 4
  have r0 : ∀ w', Ext w0 w' → w'.cell? ⟨hr', 0, none⟩ = some (.float .f32 R.gr) := fun w' h => (kR.ext h).cell 0
  have r1 : ∀ w', Ext w0 w' → w'.cell? ⟨hr', 1, none⟩ = some (.float .f32 R.wt) := fun w' h => (kR.ext h).cell 1
  have r2 : ∀ w', Ext w0 w' → w'.cell? ⟨hr', 2, none⟩ = some (.float .f32 R.br) := fun w' h => (kR.ext h).cell 2
  have r3 : ∀ w', Ext w0 w' → w'.cell? ⟨hr', 3, none⟩ = some (.float .f32 R.de) := fun w' h => (kR.ext h).cell 3
  have r4 : ∀ w', Ext w0 w' → w'.cell? ⟨hr', 4, none⟩ = some (.int .i64 (R.sp : Int)) := fun w' h => (kR.ext h).cell 4
  have r5 : ∀ w', Ext w0 w' → w'.cell? ⟨hr', 5, none⟩ = some (.slice C m cc) := fun w' h => (kR.ext h).cell 5
  have a0 : ∀ w', Ext w0 w' → w'.cell? ⟨ha', 0, none⟩ = some (.int .i64 ax) := fun w' h => (kA.ext h).cell 0
  have a1 : ∀ w', Ext w0 w' → w'.cell? ⟨ha', 1, none⟩ = some (.int .i64 ay) := fun w' h => (kA.ext h).cell 1
  have b0 : ∀ w', Ext w0 w' → w'.cell? ⟨hb', 0, none⟩ = some (.int .i64 bx) := fun w' h => (kB.ext h).cell 0
  have b1 : ∀ w', Ext w0 w' → w'.cell? ⟨hb', 1, none⟩ = some (.int .i64 by') := fun w' h => (kB.ext h).cell 1
  have x0 := kF.cell 0
  have x1 := kF.cell 1
  have x2 := kF.cell 2
  have x3 := kF.cell 3
  have x4 := kF.cell 4
  have y0 := kR.cell 0
  have y1 := kR.cell 1
  have y2 := kR.cell 2
  have y3 := kR.cell 3
  have y4 := kR.cell 4
  have y5 := kR.cell 5
  have u0 := kA.cell 0
  have u1 := kA.cell 1
  have v0 := kB.cell 0
  have v1 := kB.cell 1
  go_upto_region 2 with (go_at_call 24; refine ((HWy _ hx0).out).mono ?_; rintro e w1 ⟨v, pv, ev, rfl, hx1, hwf⟩)
  clear x0 x1 x2 x3 x4 y0 y1 y2 y3 y4 y5 u0 u1 v0 v1 HWy
  have Hwf := hidA hwf
  clear hwf
  replace f0 := fun (w' : World) (h : Ext w1 w') => f0 w' (hx1.trans h)
  replace f1 := fun (w' : World) (h : Ext w1 w') => f1 w' (hx1.trans h)
  replace f2 := fun (w' : World) (h : Ext w1 w') => f2 w' (hx1.trans h)
  replace f3 := fun (w' : World) (h : Ext w1 w') => f3 w' (hx1.trans h)
  replace f4 := fun (w' : World) (h : Ext w1 w') => f4 w' (hx1.trans h)
  replace r0 := fun (w' : World) (h : Ext w1 w') => r0 w' (hx1.trans h)
  replace r1 := fun (w' : World) (h : Ext w1 w') => r1 w' (hx1.trans h)
  replace r2 := fun (w' : World) (h : Ext w1 w') => r2 w' (hx1.trans h)
  replace r3 := fun (w' : World) (h : Ext w1 w') => r3 w' (hx1.trans h)
  replace r4 := fun (w' : World) (h : Ext w1 w') => r4 w' (hx1.trans h)
  replace r5 := fun (w' : World) (h : Ext w1 w') => r5 w' (hx1.trans h)
  replace a0 := fun (w' : World) (h : Ext w1 w') => a0 w' (hx1.trans h)
  replace a1 := fun (w' : World) (h : Ext w1 w') => a1 w' (hx1.trans h)
  replace b0 := fun (w' : World) (h : Ext w1 w') => b0 w' (hx1.trans h)
  replace b1 := fun (w' : World) (h : Ext w1 w') => b1 w' (hx1.trans h)
  refine wp_region_noPanic ?_
  refine wp_region_held_drew (S := fun w' => Ext w1 w') (by kernel_rfl) ?_ (fun hHeld => ?_)
  · (repeat (first | exact Ext.refl _ | assumption | refine Ext.setCell ?_ (by first | (simp; done) | (simp; omega)) _ | refine Ext.drewN ?_ _ | refine Ext.alloc ?_ _ | refine Ext.drew ?_ | refine Ext.trans ?_ (by assumption)))
  refine wpAnyH_take (i := 0) (oi := ?o4x0) (v := ?v4x0) ?hi4x0 (by kernel_rfl) ?hf4x0 ?hr4x0 (fun _ _ _ h => h) ?hy4x0 (by assumption) ?rest4x0
  case hi4x0 => (simp only [List.getElem?_toArray, List.getElem?_cons_zero]; exact rfl)
  case hf4x0 => kernel_rfl
  case hr4x0 => kernel_rfl
  case hy4x0 => (refine Or.inl ⟨by rfl, ?_⟩; intro w hSw; (try dsimp only at hSw); go_simp; try with_reducible rfl)
  simp only [put_mk, List.set_cons_succ, List.set_cons_zero]
  refine wpAnyH_take (i := 1) (oi := ?o4x1) (v := ?v4x1) ?hi4x1 (by kernel_rfl) ?hf4x1 ?hr4x1 (fun _ _ _ h => h) ?hy4x1 (by assumption) ?rest4x1
  case hi4x1 => (simp only [List.getElem?_toArray, List.getElem?_cons_succ, List.getElem?_cons_zero]; exact rfl)
  case hf4x1 => kernel_rfl
  case hr4x1 => kernel_rfl
  case hy4x1 => (refine Or.inl ⟨by rfl, ?_⟩; intro w hSw; (try dsimp only at hSw); go_simp; try with_reducible rfl)
  simp only [put_mk, List.set_cons_succ, List.set_cons_zero]
  refine wpAnyH_take (i := 3) (oi := ?o4x3) (v := ?v4x3) ?hi4x3 (by kernel_rfl) ?hf4x3 ?hr4x3 (fun _ _ _ h => h) ?hy4x3 (by assumption) ?rest4x3
  case hi4x3 => (simp only [List.getElem?_toArray, List.getElem?_cons_succ, List.getElem?_cons_zero]; exact rfl)
  case hf4x3 => kernel_rfl
  case hr4x3 => kernel_rfl
  case hy4x3 => (refine Or.inl ⟨by rfl, ?_⟩; intro w hSw; (try dsimp only at hSw); go_simp; try with_reducible rfl)
  simp only [put_mk, List.set_cons_succ, List.set_cons_zero]
  refine wpAnyH_take (i := 4) (oi := ?o4x4) (v := ?v4x4) ?hi4x4 (by kernel_rfl) ?hf4x4 ?hr4x4 (fun _ _ _ h => h) ?hy4x4 (by assumption) ?rest4x4
  case hi4x4 => (simp only [List.getElem?_toArray, List.getElem?_cons_succ, List.getElem?_cons_zero]; exact rfl)
  case hf4x4 => kernel_rfl
  case hr4x4 => kernel_rfl
  case hy4x4 => (refine Or.inl ⟨by rfl, ?_⟩; intro w hSw; (try dsimp only at hSw); go_simp; try with_reducible rfl)
  simp only [put_mk, List.set_cons_succ, List.set_cons_zero]
  refine wpAnyH_take (i := 5) (oi := ?o4x5) (v := ?v4x5) ?hi4x5 (by kernel_rfl) ?hf4x5 ?hr4x5 (fun _ _ _ h => h) ?hy4x5 (by assumption) ?rest4x5
  case hi4x5 => (simp only [List.getElem?_toArray, List.getElem?_cons_succ, List.getElem?_cons_zero]; exact rfl)
  case hf4x5 => kernel_rfl
  case hr4x5 => kernel_rfl
  case hy4x5 => (refine Or.inl ⟨by rfl, ?_⟩; intro w hSw; (try dsimp only at hSw); go_simp; try with_reducible rfl)
  simp only [put_mk, List.set_cons_succ, List.set_cons_zero]
  refine wpAnyH_take (i := 6) (oi := ?o4x6) (v := ?v4x6) ?hi4x6 (by kernel_rfl) ?hf4x6 ?hr4x6 (fun _ _ _ h => h) ?hy4x6 (by assumption) ?rest4x6
  case hi4x6 => (simp only [List.getElem?_toArray, List.getElem?_cons_succ, List.getElem?_cons_zero]; exact rfl)
  case hf4x6 => kernel_rfl
  case hr4x6 => kernel_rfl
  case hy4x6 => (refine Or.inl ⟨by rfl, ?_⟩; intro w hSw; (try dsimp only at hSw); go_simp; try with_reducible rfl)
  simp only [put_mk, List.set_cons_succ, List.set_cons_zero]
  refine wpAnyH_take (i := 7) (oi := ?o4x7) (v := ?v4x7) ?hi4x7 (by kernel_rfl) ?hf4x7 ?hr4x7 (fun _ _ _ h => h) ?hy4x7 (by assumption) ?rest4x7
  case hi4x7 => (simp only [List.getElem?_toArray, List.getElem?_cons_succ, List.getElem?_cons_zero]; exact rfl)
  case hf4x7 => kernel_rfl
  case hr4x7 => kernel_rfl
  case hy4x7 => (refine Or.inl ⟨by rfl, ?_⟩; intro w hSw; (try dsimp only at hSw); go_simp; try with_reducible rfl)
  simp only [put_mk, List.set_cons_succ, List.set_cons_zero]
  refine wpAnyH_take (i := 8) (oi := ?o4x8) (v := ?v4x8) ?hi4x8 (by kernel_rfl) ?hf4x8 ?hr4x8 (fun _ _ _ h => h) ?hy4x8 (by assumption) ?rest4x8
  case hi4x8 => (simp only [List.getElem?_toArray, List.getElem?_cons_succ, List.getElem?_cons_zero]; exact rfl)
  case hf4x8 => kernel_rfl
  case hr4x8 => kernel_rfl
  case hy4x8 => (refine Or.inl ⟨by rfl, ?_⟩; intro w hSw; (try dsimp only at hSw); go_simp; try with_reducible rfl)
  simp only [put_mk, List.set_cons_succ, List.set_cons_zero]
  refine wpAnyH_ready (rs := [2]) (by kernel_rfl) (by simp) ?_
  refine AllReadyH.cons (o := ?o4x2) ?hi4x2 (fun K hK => ?_) AllReadyH.nil
  case hi4x2 => (simp only [List.getElem?_toArray, List.getElem?_cons_succ, List.getElem?_cons_zero]; exact rfl)
  go_simp
  refine ((HGE _ ((hx0.trans hx1).trans hHeld)).out).mono ?_
  rintro e w7 ⟨rfl, hx7⟩
  refine hK.out _ _ ?_ (fun hHeld => ?_)
  · (repeat (first | exact Ext.refl _ | assumption | refine Ext.setCell ?_ (by first | (simp; done) | (simp; omega)) _ | refine Ext.drewN ?_ _ | refine Ext.alloc ?_ _ | refine Ext.drew ?_ | refine Ext.trans ?_ (by assumption)))
  clear hK K
  refine wpAnyH_ready (rs := [9]) (by kernel_rfl) (by simp) ?_
  refine AllReadyH.cons (o := ?o4x9) ?hi4x9 (fun K hK => ?_) AllReadyH.nil
  case hi4x9 => (simp only [List.getElem?_toArray, List.getElem?_cons_succ, List.getElem?_cons_zero]; exact rfl)
  go_simp
  refine ((HHa _).out).mono ?_
  rintro e w7 ⟨rfl, hx7⟩
  refine hK.out _ _ ?_ (fun hHeld => ?_)
  · (repeat (first | exact Ext.refl _ | assumption | refine Ext.setCell ?_ (by first | (simp; done) | (simp; omega)) _ | refine Ext.drewN ?_ _ | refine Ext.alloc ?_ _ | refine Ext.drew ?_ | refine Ext.trans ?_ (by assumption)))
  clear hK K
  refine wpAnyH_take (i := 10) (oi := ?o4x10) (v := ?v4x10) ?hi4x10 (by kernel_rfl) ?hf4x10 ?hr4x10 (fun _ _ _ h => h) ?hy4x10 (by assumption) ?rest4x10
  case hi4x10 => (simp only [List.getElem?_toArray, List.getElem?_cons_succ, List.getElem?_cons_zero]; exact rfl)
  case hf4x10 => kernel_rfl
  case hr4x10 => kernel_rfl
  case hy4x10 => (refine Or.inl ⟨by rfl, ?_⟩; intro w hSw; (try dsimp only at hSw); go_simp; try with_reducible rfl)
  simp only [put_mk, List.set_cons_succ, List.set_cons_zero]
  refine wpAnyH_take (i := 11) (oi := ?o4x11) (v := ?v4x11) ?hi4x11 (by kernel_rfl) ?hf4x11 ?hr4x11 (fun _ _ _ h => h) ?hy4x11 (by assumption) ?rest4x11
  case hi4x11 => (simp only [List.getElem?_toArray, List.getElem?_cons_succ, List.getElem?_cons_zero]; exact rfl)
  case hf4x11 => kernel_rfl
  case hr4x11 => kernel_rfl
  case hy4x11 => (refine Or.inl ⟨by rfl, ?_⟩; intro w hSw; (try dsimp only at hSw); go_simp; try with_reducible rfl)
  simp only [put_mk, List.set_cons_succ, List.set_cons_zero]
  refine wpAnyH_take (i := 12) (oi := ?o4x12) (v := ?v4x12) ?hi4x12 (by kernel_rfl) ?hf4x12 ?hr4x12 (fun _ _ _ h => h) ?hy4x12 (by assumption) ?rest4x12
  case hi4x12 => (simp only [List.getElem?_toArray, List.getElem?_cons_succ, List.getElem?_cons_zero]; exact rfl)
  case hf4x12 => kernel_rfl
  case hr4x12 => kernel_rfl
  case hy4x12 => (refine Or.inl ⟨by rfl, ?_⟩; intro w hSw; (try dsimp only at hSw); go_simp; try with_reducible rfl)
  simp only [put_mk, List.set_cons_succ, List.set_cons_zero]
  refine wpAnyH_take (i := 13) (oi := ?o4x13) (v := ?v4x13) ?hi4x13 (by kernel_rfl) ?hf4x13 ?hr4x13 (fun _ _ _ h => h) ?hy4x13 (by assumption) ?rest4x13
  case hi4x13 => (simp only [List.getElem?_toArray, List.getElem?_cons_succ, List.getElem?_cons_zero]; exact rfl)
  case hf4x13 => kernel_rfl
  case hr4x13 => kernel_rfl
  case hy4x13 => (refine Or.inl ⟨by rfl, ?_⟩; intro w hSw; (try dsimp only at hSw); go_simp; try with_reducible rfl)
  simp only [put_mk, List.set_cons_succ, List.set_cons_zero]
  refine wpAnyH_take (i := 14) (oi := ?o4x14) (v := ?v4x14) ?hi4x14 (by kernel_rfl) ?hf4x14 ?hr4x14 (fun _ _ _ h => h) ?hy4x14 (by assumption) ?rest4x14
  case hi4x14 => (simp only [List.getElem?_toArray, List.getElem?_cons_succ, List.getElem?_cons_zero]; exact rfl)
  case hf4x14 => kernel_rfl
  case hr4x14 => kernel_rfl
  case hy4x14 => (refine Or.inl ⟨by rfl, ?_⟩; intro w hSw; (try dsimp only at hSw); go_simp; try with_reducible rfl)
  simp only [put_mk, List.set_cons_succ, List.set_cons_zero]
  refine wpAnyH_take (i := 15) (oi := ?o4x15) (v := ?v4x15) ?hi4x15 (by kernel_rfl) ?hf4x15 ?hr4x15 (fun _ _ _ h => h) ?hy4x15 (by assumption) ?rest4x15
  case hi4x15 => (simp only [List.getElem?_toArray, List.getElem?_cons_succ, List.getElem?_cons_zero]; exact rfl)
  case hf4x15 => kernel_rfl
  case hr4x15 => kernel_rfl
  case hy4x15 => (refine Or.inl ⟨by rfl, ?_⟩; intro w hSw; (try dsimp only at hSw); go_simp; try with_reducible rfl)
  simp only [put_mk, List.set_cons_succ, List.set_cons_zero]
  refine wpAnyH_take (i := 16) (oi := ?o4x16) (v := ?v4x16) ?hi4x16 (by kernel_rfl) ?hf4x16 ?hr4x16 (fun _ _ _ h => h) ?hy4x16 (by assumption) ?rest4x16
  case hi4x16 => (simp only [List.getElem?_toArray, List.getElem?_cons_succ, List.getElem?_cons_zero]; exact rfl)
  case hf4x16 => kernel_rfl
  case hr4x16 => kernel_rfl
  case hy4x16 => (refine Or.inl ⟨by rfl, ?_⟩; intro w hSw; (try dsimp only at hSw); go_simp; try with_reducible rfl)
  simp only [put_mk, List.set_cons_succ, List.set_cons_zero]
  refine wpAnyH_take (i := 17) (oi := ?o4x17) (v := ?v4x17) ?hi4x17 (by kernel_rfl) ?hf4x17 ?hr4x17 (fun _ _ _ h => h) ?hy4x17 (by assumption) ?rest4x17
  case hi4x17 => (simp only [List.getElem?_toArray, List.getElem?_cons_succ, List.getElem?_cons_zero]; exact rfl)
  case hf4x17 => kernel_rfl
  case hr4x17 => kernel_rfl
  case hy4x17 => (refine Or.inl ⟨by rfl, ?_⟩; intro w hSw; (try dsimp only at hSw); go_simp; try with_reducible rfl)
  simp only [put_mk, List.set_cons_succ, List.set_cons_zero]
  refine wpAnyH_ready (rs := [18]) (by kernel_rfl) (by simp) ?_
  refine AllReadyH.cons (o := ?o4x18) ?hi4x18 (fun K hK => ?_) AllReadyH.nil
  case hi4x18 => (simp only [List.getElem?_toArray, List.getElem?_cons_succ, List.getElem?_cons_zero]; exact rfl)
  go_simp
  refine ((HHb _).out).mono ?_
  rintro e w7 ⟨rfl, hx7⟩
  refine hK.out _ _ ?_ (fun hHeld => ?_)
  · (repeat (first | exact Ext.refl _ | assumption | refine Ext.setCell ?_ (by first | (simp; done) | (simp; omega)) _ | refine Ext.drewN ?_ _ | refine Ext.alloc ?_ _ | refine Ext.drew ?_ | refine Ext.trans ?_ (by assumption)))
  clear hK K
  refine wpAnyH_take (i := 19) (oi := ?o4x19) (v := ?v4x19) ?hi4x19 (by kernel_rfl) ?hf4x19 ?hr4x19 (fun _ _ _ h => h) ?hy4x19 (by assumption) ?rest4x19
  case hi4x19 => (simp only [List.getElem?_toArray, List.getElem?_cons_succ, List.getElem?_cons_zero]; exact rfl)
  case hf4x19 => kernel_rfl
  case hr4x19 => kernel_rfl
  case hy4x19 => (refine Or.inl ⟨by rfl, ?_⟩; intro w hSw; (try dsimp only at hSw); go_simp; try with_reducible rfl)
  simp only [put_mk, List.set_cons_succ, List.set_cons_zero]
  refine wpAnyH_take (i := 20) (oi := ?o4x20) (v := ?v4x20) ?hi4x20 (by kernel_rfl) ?hf4x20 ?hr4x20 (fun _ _ _ h => h) ?hy4x20 (by assumption) ?rest4x20
  case hi4x20 => (simp only [List.getElem?_toArray, List.getElem?_cons_succ, List.getElem?_cons_zero]; exact rfl)
  case hf4x20 => kernel_rfl
  case hr4x20 => kernel_rfl
  case hy4x20 => (refine Or.inl ⟨by rfl, ?_⟩; intro w hSw; (try dsimp only at hSw); go_simp; try with_reducible rfl)
  simp only [put_mk, List.set_cons_succ, List.set_cons_zero]
  refine wpAnyH_ready (rs := [21]) (by kernel_rfl) (by simp) ?_
  refine AllReadyH.cons (o := ?o4x21) ?hi4x21 (fun K hK => ?_) AllReadyH.nil
  case hi4x21 => (simp only [List.getElem?_toArray, List.getElem?_cons_succ, List.getElem?_cons_zero]; exact rfl)
  go_simp
  refine ((HWh _ _).out).mono ?_
  rintro e w7 ⟨rfl, hw7⟩
  subst hw7
  refine hK.out _ _ ?_ (fun hHeld => ?_)
  · (repeat (first | exact Ext.refl _ | assumption | refine Ext.setCell ?_ (by first | (simp; done) | (simp; omega)) _ | refine Ext.drewN ?_ _ | refine Ext.alloc ?_ _ | refine Ext.drew ?_ | refine Ext.trans ?_ (by assumption)))
  clear hK K
  refine wpAnyH_ready (rs := [22]) (by kernel_rfl) (by simp) ?_
  refine AllReadyH.cons (o := ?o4x22) ?hi4x22 (fun K hK => ?_) AllReadyH.nil
  case hi4x22 => (simp only [List.getElem?_toArray, List.getElem?_cons_succ, List.getElem?_cons_zero]; exact rfl)
  go_simp
  refine hK.out _ _ ?_ (fun hHeld => ?_)
  · (repeat (first | exact Ext.refl _ | assumption | refine Ext.setCell ?_ (by first | (simp; done) | (simp; omega)) _ | refine Ext.drewN ?_ _ | refine Ext.alloc ?_ _ | refine Ext.drew ?_ | refine Ext.trans ?_ (by assumption)))
  clear hK K
  refine wpAnyH_ready (rs := [23]) (by kernel_rfl) (by simp) ?_
  refine AllReadyH.cons (o := ?o4x23) ?hi4x23 (fun K hK => ?_) AllReadyH.nil
  case hi4x23 => (simp only [List.getElem?_toArray, List.getElem?_cons_succ, List.getElem?_cons_zero]; exact rfl)
  go_simp
  refine ((HS _ _ (Rd.new (by first | rfl | simp) (by first | rfl | simp))).out).mono ?_
  rintro e w7 ⟨rfl, hw7⟩
  subst hw7
  refine hK.out _ _ ?_ (fun hHeld => ?_)
  · (repeat (first | exact Ext.refl _ | assumption | refine Ext.setCell ?_ (by first | (simp; done) | (simp; omega)) _ | refine Ext.drewN ?_ _ | refine Ext.alloc ?_ _ | refine Ext.drew ?_ | refine Ext.trans ?_ (by assumption)))
  clear hK K
  refine wpAnyH_take (i := 24) (oi := ?o4x24) (v := ?v4x24) ?hi4x24 (by kernel_rfl) ?hf4x24 ?hr4x24 (fun _ _ _ h => h) ?hy4x24 (by assumption) ?rest4x24
  case hi4x24 => (simp only [List.getElem?_toArray, List.getElem?_cons_succ, List.getElem?_cons_zero]; exact rfl)
  case hf4x24 => kernel_rfl
  case hr4x24 => kernel_rfl
  case hy4x24 => (refine Or.inl ⟨by rfl, ?_⟩; intro w hSw; (try dsimp only at hSw); go_simp; try with_reducible rfl)
  simp only [put_mk, List.set_cons_succ, List.set_cons_zero]
  refine wpAnyH_done (by kernel_rfl) ?_ _
  refine NoPanic.normal ?_
  have hxH := hx0.trans (hx1.trans hHeld)
  have x0 := f0 _ hHeld
  have x1 := f1 _ hHeld
  have x2 := f2 _ hHeld
  have x3 := f3 _ hHeld
  have x4 := f4 _ hHeld
  have y0 := r0 _ hHeld
  have y1 := r1 _ hHeld
  have y2 := r2 _ hHeld
  have y3 := r3 _ hHeld
  have y4 := r4 _ hHeld
  have y5 := r5 _ hHeld
  have u0 := a0 _ hHeld
  have u1 := a1 _ hHeld
  have v0 := b0 _ hHeld
  have v1 := b1 _ hHeld
  clear f0 f1 f2 f3 f4 r0 r1 r2 r3 r4 r5 a0 a1 b0 b1 HGE HHa HHb HS HWh
  have Hev := hidA (show ev = 11 ∨ ev = 0 from by
    obtain ⟨_, _, _, ⟨_, _, _, h⟩ | ⟨_, _, _, _, _, _, _, _, _, h, _⟩⟩ := Hwf.out
    · exact .inl h
    · exact .inr h)
  by_cases h60 : 60 < N
  · have d60 : decide ((60 : Int) < (N : Int)) = true := by simp; omega
    clear x0 x1 x2 x3 y0 y1 y2 y3 y4 y5 u0 u1 v0 v1
    have X4 := hidA (fun (w' : World) (h : Ext w0 w') => (kF.ext h).cell 4)
    rcases Hev.out with rfl | rfl
    · go_upto_region 5 with (go_at_call 15; refine ((HL _).out).mono ?_; rintro e w3 ⟨rfl, hx3⟩)
      have hx13 : Ext w1 w3 := (by repeat (first | exact Ext.refl _ | assumption | refine Ext.setCell ?_ (by first | (simp; done) | (simp; omega)) _ | refine Ext.drewN ?_ _ | refine Ext.alloc ?_ _ | refine Ext.drew ?_ | refine Ext.trans ?_ (by assumption)))
      have hxq : Ext w0 w3 := hx1.trans hx13
      have x4' := X4.out _ hxq
      go_wp2
      go_ret
      exact ⟨by first | rfl | simp, hx0.trans (by repeat (first | exact Ext.refl _ | assumption | refine Ext.setCell ?_ (by first | (simp; done) | (simp; omega)) _ | refine Ext.drewN ?_ _ | refine Ext.alloc ?_ _ | refine Ext.drew ?_ | refine Ext.trans ?_ (by assumption)))⟩
    · go_upto_region 5 with (go_at_call 15; refine ((HL _).out).mono ?_; rintro e w3 ⟨rfl, hx3⟩)
      have hx13 : Ext w1 w3 := (by repeat (first | exact Ext.refl _ | assumption | refine Ext.setCell ?_ (by first | (simp; done) | (simp; omega)) _ | refine Ext.drewN ?_ _ | refine Ext.alloc ?_ _ | refine Ext.drew ?_ | refine Ext.trans ?_ (by assumption)))
      have hxq : Ext w0 w3 := hx1.trans hx13
      have x4' := X4.out _ hxq
      go_wp2
      go_ret
      exact ⟨by first | rfl | simp, hx0.trans (by repeat (first | exact Ext.refl _ | assumption | refine Ext.setCell ?_ (by first | (simp; done) | (simp; omega)) _ | refine Ext.drewN ?_ _ | refine Ext.alloc ?_ _ | refine Ext.drew ?_ | refine Ext.trans ?_ (by assumption)))⟩
  · have d60 : decide ((60 : Int) < (N : Int)) = false := by simp; omega
    have hN60 : N ≤ 60 := by omega
    have HWq := fun (w' : World) (h : Ext w w') => HWo w' h hN60
    clear x0 x1 x2 x3 x4 y0 y1 y2 y3 y4 y5 u0 u1 v0 v1 HWo
    go_upto_region 5 with (go_at_call 15; refine ((HL _).out).mono ?_; rintro e w3 ⟨rfl, hx3⟩)
    have hx13 : Ext w1 w3 := (by repeat (first | exact Ext.refl _ | assumption | refine Ext.setCell ?_ (by first | (simp; done) | (simp; omega)) _ | refine Ext.drewN ?_ _ | refine Ext.alloc ?_ _ | refine Ext.drew ?_ | refine Ext.trans ?_ (by assumption)))
    have hxq : Ext w0 w3 := hx1.trans hx13
    clear hx3 hxH hHeld HL
    have x0 := (kF.ext hxq).cell 0
    have x1 := (kF.ext hxq).cell 1
    have x2 := (kF.ext hxq).cell 2
    have x3 := (kF.ext hxq).cell 3
    have x4 := (kF.ext hxq).cell 4
    have y0 := (kR.ext hxq).cell 0
    have y1 := (kR.ext hxq).cell 1
    have y2 := (kR.ext hxq).cell 2
    have y3 := (kR.ext hxq).cell 3
    have y4 := (kR.ext hxq).cell 4
    have y5 := (kR.ext hxq).cell 5
    have u0 := (kA.ext hxq).cell 0
    have u1 := (kA.ext hxq).cell 1
    have v0 := (kB.ext hxq).cell 0
    have v1 := (kB.ext hxq).cell 1

    go_upto_region 8 with (go_at_call 25; refine ((HWq _ (hx0.trans hxq)).out).mono ?_; rintro e w4 ⟨v2, pv2, bv, ev2, rfl, hx4, hbt, hbf, hwf2⟩)
    have Hcs := hidA (HSame.out v v2 pv pv2 ev ev2 _ _ Hwf.out hwf2)
    have Hbt := hidA hbt
    have Hbf := hidA hbf
    have hxq4 := hxq.trans hx4
    have hx14 := hx13.trans hx4
    clear x0 x1 x2 x3 x4 y0 y1 y2 y3 y4 y5 u0 u1 v0 v1 HWq HSame hwf2 hbt hbf
    cases bv
    · have e2 := Hbf.out rfl
      obtain ⟨rfl, rfl, rfl⟩ : v = .slice none 0 0 ∧ pv = 0 ∧ ev = 11 := by
        rcases Hcs.out with ⟨h1, h2, h3, _⟩ | ⟨_, h, _⟩
        · exact ⟨h1, h2, h3⟩
        · rw [e2] at h; cases h
      go_wp2
      go_ret
      exact ⟨by first | rfl | simp, hx0.trans hxq4⟩
    · have e2 := Hbt.out rfl
      obtain ⟨rfl, rfl, ps, B, B2, cap, cap2, rfl, rfl, hr1, hr2, q1, q2, q3, q4, hpr⟩ : ev = 0 ∧ pv2 = pv ∧ ∃ (ps : List (Int × Int)) (B B2 : Option Addr) (cap cap2 : Nat), v = .slice B ps.length cap ∧ v2 = .slice B2 ps.length cap2 ∧ Rd w1 B (ptv ps) ∧ Rd w4 B2 (ptv ps) ∧ 1 ≤ ps.length ∧ ps.length ≤ N ∧ ps.length ≤ cap ∧ (∀ p, p ∈ ps → ∃ k, k < N ∧ p = cpt X Y Wn k) ∧ prA R (fun j => lf.getD j 0) X Y Wn Hn ps (ps.length - 1) = some pv := by
        rcases Hcs.out with ⟨_, _, _, _, _, h⟩ | ⟨h1, _, h2, h3⟩
        · rw [h] at e2; cases e2
        · exact ⟨h1, h2, h3⟩
      have HP1 := HPr w4 (hx0.trans hxq4) B ps.length cap ps rfl (hr1.ext hx14) q3 q1 q2 q4
      rw [hpr] at HP1
      have HP1 : Hid (Calls Try.prog 23 #[.agg #[.int .i64 X, .int .i64 Y, .int .i64 (Wn : Int), .int .i64 (Hn : Int), .slice A N c], .agg #[.float .f32 R.gr, .float .f32 R.wt, .float .f32 R.br, .float .f32 R.de, .int .i64 (R.sp : Int), .slice C m cc], .slice B ps.length cap] w4 fun e w' => e = .returned (.tuple #[.float .f32 pv2, .int .i64 0]) ∧ Ext w4 w') := HP1
      have HEq := fun (w' : World) (h : Ext w4 w') => hidA (eqPts_same B B2 _ cap cap2 ps w' rfl (hr1.ext (hx14.trans h)) (hr2.ext h) (by omega))
      generalize ps.length = q at *
      clear hr1 hr2 q1 q2 q3 q4 hpr HPr Hcs Hwf Hev
      have x0 := (kF.ext hxq4).cell 0
      have x1 := (kF.ext hxq4).cell 1
      have x2 := (kF.ext hxq4).cell 2
      have x3 := (kF.ext hxq4).cell 3
      have x4 := (kF.ext hxq4).cell 4
      have y0 := (kR.ext hxq4).cell 0
      have y1 := (kR.ext hxq4).cell 1
      have y2 := (kR.ext hxq4).cell 2
      have y3 := (kR.ext hxq4).cell 3
      have y4 := (kR.ext hxq4).cell 4
      have y5 := (kR.ext hxq4).cell 5

      go_upto_region 11 with (go_at_call 23; refine (HP1.out).mono ?_; rintro e w5 ⟨rfl, hx5⟩)
      clear x0 x1 x2 x3 x4 y0 y1 y2 y3 y4 y5
      go_wp2_with (first | (go_at_call 26; refine ((HEq _ hx5).out).mono ?_; rintro e w6 ⟨rfl, hx6⟩) | (go_at_call 22; refine ((HBt _ _).out).mono ?_; rintro e w9 ⟨rfl, hw9⟩; subst hw9))
      go_ret
      exact ⟨by first | rfl | simp, hx0.trans (hxq4.trans (by repeat (first | exact Ext.refl _ | assumption | refine Ext.setCell ?_ (by first | (simp; done) | (simp; omega)) _ | refine Ext.drewN ?_ _ | refine Ext.alloc ?_ _ | refine Ext.drew ?_ | refine Ext.trans ?_ (by assumption))))⟩
theorem ways_walk (X Y W H : Int) (A : Option Addr) (n c : Nat) (lf : List Nat) (gr wt br de : Nat) (sp : Int) (C : Option Addr) (m cc : Nat) (X' Y' W' H' : Int) (l : List Nat) (ax ay bx by' : Int) (w : World) (hn : lf.length = n) (hV : Rd w A (flt lf)) (hb : n ≤ 140737488351232) (hC : CoP w C m X' Y' W' H' l) (hm : m ≤ 140737488351232) :
    Calls Try.prog 5 #[.agg #[.int .i64 X, .int .i64 Y, .int .i64 W, .int .i64 H, .slice A n c], .agg #[.float .f32 gr, .float .f32 wt, .float .f32 br, .float .f32 de, .int .i64 sp, .slice C m cc], .agg #[.int .i64 ax, .int .i64 ay], .agg #[.int .i64 bx, .int .i64 by']] w fun e w' => e = .returned (.bool true) ∧ Ext w w' := by
  by_cases hg : grndE X Y W H lf gr wt br de sp m X' Y' W' H' l = 0
  · obtain ⟨Wn, Hn, R, rfl, rfl, hr, hl, hh, rfl, rfl, rfl, rfl, rfl, hR, hCo, hm1⟩ := grnd_ok hg hC
    by_cases hin : InR X Y Wn Hn ax ay ∧ InR X Y Wn Hn bx by'
    · obtain ⟨k, hk, rfl, rfl⟩ := inR_cell hin.1
      obtain ⟨t, ht, rfl, rfl⟩ := inR_cell hin.2
      exact ways_good X Y Wn Hn A n c R C m cc k t lf X' Y' W' H' l w hr (by omega) (by rw [← hn, hl]; exact hR) hn (by rw [← hn, hl]; exact hh) (by omega) (by omega) hV hCo hC hm hg
    · have hi : insE X Y Wn Hn [(ax, ay), (bx, by')] = 5 := by
        unfold insE
        rw [if_neg]
        simpa using hin
      refine ways_bad X Y Wn Hn A n c lf R.gr R.wt R.br R.de R.sp C m cc X' Y' W' H' l ax ay bx by' w hn hV hb hC hm 5 (by decide) ?_ (fun w' h => ?_)
      · rw [hg, hasB_ok hr.ok, hasB_ok hr.ok]
        unfold twoE
        by_cases h1 : InR X Y Wn Hn ax ay
        · have h2 : ¬ InR X Y Wn Hn bx by' := fun h2 => hin ⟨h1, h2⟩
          rw [decide_eq_true h1, decide_eq_false h2]
          rfl
        · rw [decide_eq_false h1]
          rfl
      · have h9 := Way_out X Y Wn Hn A n c lf R.gr R.wt R.br R.de R.sp C m cc X' Y' W' H' l ax ay bx by' w' hr hn (hV.ext h) hb (hC.ext h) hm hg (by rw [hi]; decide)
        rw [hi] at h9
        exact h9
  · refine ways_bad X Y W H A n c lf gr wt br de sp C m cc X' Y' W' H' l ax ay bx by' w hn hV hb hC hm _ hg ?_ (fun w' h => hidA (Way_bad X Y W H A n c lf gr wt br de sp C m cc X' Y' W' H' l ax ay bx by' w' hn (hV.ext h) hb (hC.ext h) hm hg))
    unfold firstE
    rw [if_neg hg]
end Go.Proofs.Ytpgdinpckolfpaa
