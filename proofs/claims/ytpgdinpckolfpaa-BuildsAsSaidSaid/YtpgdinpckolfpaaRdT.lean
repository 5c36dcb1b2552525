/- Contracts: road.pricesFrom, road.Way, where the arguments are right. -/
import Derived.Test.YtpgdinpckolfpaaRdS
namespace Go.Proofs.Ytpgdinpckolfpaa
open Go.RowKit
attribute [local go_sem ↓] Go.wp_at_zero Go.wp_at_succ
attribute [local go_sem] run_store_float

theorem cpt_in {X Y : Int} {Wn Hn N k : Nat} (hr : Reg X Y Wn Hn) (hN : N = Wn * Hn) (hk : k < N) : InR X Y Wn Hn (X + ((k % Wn : Nat) : Int)) (Y + ((k / Wn : Nat) : Int)) := by
  have h := placeK_in hr.ok (k := k) (n := N) (by rw [hN, Int.natCast_mul]) hk
  unfold placeK at h
  simpa using h
theorem cpt_cell {X Y : Int} {Wn Hn k : Nat} (hr : Reg X Y Wn Hn) : cellN X Y Wn (X + ((k % Wn : Nat) : Int)) (Y + ((k / Wn : Nat) : Int)) = k := by
  have h := cell_place (X := X) (Y := Y) (W := (Wn : Int)) (by have := hr.w1; omega) k
  unfold placeK at h
  simpa using h
/-- what pricesFrom returns -/
def PFPost (R : RlR) (l : List Nat) (Wn Hn N src : Nat) (w : World) (e : Ending) (w' : World) : Prop := ∃ go gs out seen, e = .returned (.tuple #[.agg #[.int .i64 src, .slice (some ⟨go, 0, none⟩) N N, .slice (some ⟨gs, 0, none⟩) N N], .int .i64 0]) ∧
  w.heap.size ≤ go ∧ w.heap.size ≤ gs ∧ Bk w' go 27 (flo N out) ∧ Bk w' gs 4 (bools N seen) ∧ PrOk N (edA R (fun j => l.getD j 0) Wn Hn N) src seen out ∧ Ext w w'
theorem grnd_m {X Y W H : Int} {lf : List Nat} {gr wt br de : Nat} {sp : Int} {m : Nat} {X' Y' W' H' : Int} {l : List Nat} (h : grndE X Y W H lf gr wt br de sp m X' Y' W' H' l = 0) : m ≤ 1 := by
  unfold grndE at h
  split at h
  · rename_i h1; exact absurd h h1
  · split at h
    · rename_i h1; exact absurd h h1
    · rename_i h1
      exact rulesE_m (by simpa using h1)
set_option maxRecDepth 100000 in
set_option maxHeartbeats 6400000 in
theorem pricesFrom_ok (X Y : Int) (Wn Hn : Nat) (A : Option Addr) (N c : Nat) (R : RlR) (C : Option Addr) (m cc src : Nat) (l : List Nat) (X' Y' W' H' : Int) (lc : List Nat) (w : World)
    (hr : Reg X Y Wn Hn) (hN : N = Wn * Hn) (hR : RlOk R N) (hl : l.length = N) (hh : ∀ j, j < N → Bd 20 (l.getD j 0)) (hs : src < N) (hV : Rd w A (flt l)) (hC : CoR w C m R.co) (hP : CoP w C m X' Y' W' H' lc) (hg : grndE X Y Wn Hn l R.gr R.wt R.br R.de R.sp m X' Y' W' H' lc = 0) :
    Calls Try.prog 70 #[.agg #[.int .i64 X, .int .i64 Y, .int .i64 (Wn : Int), .int .i64 (Hn : Int), .slice A N c], .agg #[.float .f32 R.gr, .float .f32 R.wt, .float .f32 R.br, .float .f32 R.de, .int .i64 (R.sp : Int), .slice C m cc], .agg #[.int .i64 (X + ((src % Wn : Nat) : Int)), .int .i64 (Y + ((src / Wn : Nat) : Int))]] w fun e w' => PFPost R l Wn Hn N src w e w' := by
  have hm := grnd_m hg
  have hN6 : N ≤ 65536 := by rw [hN]; exact hr.n
  have HC := fun (w' : World) (h : Ext w w') => hidA (chk_any X Y Wn Hn A N c l R.gr R.wt R.br R.de R.sp C m cc X' Y' W' H' lc w' hl (hV.ext h) (by omega) (hP.ext h) (by omega))
  rw [hg] at HC
  have hin := cpt_in hr hN hs
  have hcl := cpt_cell hr (k := src)
  have HI := fun (w' : World) (B : Option Addr) (h : Rd w' B (ptv [(X + ((src % Wn : Nat) : Int), Y + ((src / Wn : Nat) : Int))])) => hidA (inside_any X Y Wn Hn A B N c 1 1 [(X + ((src % Wn : Nat) : Int), Y + ((src / Wn : Nat) : Int))] w' hr.ok rfl h (by omega))
  have hi0 : insE X Y Wn Hn [(X + ((src % Wn : Nat) : Int), Y + ((src / Wn : Nat) : Int))] = 0 := by
    unfold insE
    rw [if_pos]
    simpa using hin
  rw [hi0] at HI
  have HPl := fun (w' : World) => hidA (place_in X Y Wn Hn _ _ w' hr.ok hin)
  rw [hcl] at HPl
  have HPr := fun (w' : World) (h : Ext w w') => hidA (prices_any X Y Wn Hn A N c R C m cc src l w' hr hN hR hl hh hs (hV.ext h) (hC.ext h))
  unfold gcells at HPr
  clear hm hin hcl hi0 hr hN hR hl hh hV hC hP hg
  generalize X + ((src % Wn : Nat) : Int) = px at *
  generalize Y + ((src / Wn : Nat) : Int) = py at *
  go_enter Try.func70, Try.ntmps70
  go_upto_region 1 with fail
  obtain ⟨w0, hw0⟩ : ∃ w0, w0 = (((w.alloc (.cells #[.int .i64 X, .int .i64 Y, .int .i64 (Wn : Int), .int .i64 (Hn : Int), .slice A N c] 26)).alloc (.cells #[.float .f32 R.gr, .float .f32 R.wt, .float .f32 R.br, .float .f32 R.de, .int .i64 (R.sp : Int), .slice C m cc] 30)).alloc (.cells #[.int .i64 px, .int .i64 py] 32)).alloc (.cells #[.int .i64 0, .slice none 0 0, .slice none 0 0] 124) := ⟨_, rfl⟩
  have kF : Bk w0 w.heap.size 26 #[.int .i64 X, .int .i64 Y, .int .i64 (Wn : Int), .int .i64 (Hn : Int), .slice A N c] := by rw [hw0]; exact (((Bk.new' rfl).alloc _).alloc _).alloc _
  have kR : Bk w0 (w.heap.size + 1) 30 #[.float .f32 R.gr, .float .f32 R.wt, .float .f32 R.br, .float .f32 R.de, .int .i64 (R.sp : Int), .slice C m cc] := by rw [hw0]; exact ((Bk.new' (by simp)).alloc _).alloc _
  have kA : Bk w0 (w.heap.size + 1 + 1) 32 #[.int .i64 px, .int .i64 py] := by rw [hw0]; exact (Bk.new' (by simp)).alloc _
  have kZ : Bk w0 (w.heap.size + 1 + 1 + 1) 124 #[.int .i64 0, .slice none 0 0, .slice none 0 0] := by rw [hw0]; exact Bk.new' (by simp)
  have hx0 : Ext w w0 := by rw [hw0]; exact ((((Ext.refl w).alloc _).alloc _).alloc _).alloc _
  rw [← hw0]
  clear hw0
  have hzl : w.heap.size ≤ w.heap.size + 1 + 1 + 1 := by omega
  generalize w.heap.size + 1 + 1 + 1 = hz at *
  generalize w.heap.size + 1 + 1 = ha at *
  generalize w.heap.size + 1 = hr at *
  generalize hfe : w.heap.size = hf at kF ⊢
  have f0 := kF.cell 0
  have f1 := kF.cell 1
  have f2 := kF.cell 2
  have f3 := kF.cell 3
  have f4 := kF.cell 4
  have r0 := kR.cell 0
  have r1 := kR.cell 1
  have r2 := kR.cell 2
  have r3 := kR.cell 3
  have r4 := kR.cell 4
  have r5 := kR.cell 5
  go_upto_region 4 with (go_at_call 63; refine ((HC _ hx0).out).mono ?_; rintro e w1 ⟨rfl, hx1⟩)
  have kF1 := kF.ext hx1
  have kR1 := kR.ext hx1
  have kA1 := kA.ext hx1
  have kZ1 := kZ.ext hx1
  have hxa := hx0.trans hx1
  clear f0 f1 f2 f3 f4 r0 r1 r2 r3 r4 r5 kF kR kA kZ hx0 hx1 HC
  have f0 := kF1.cell 0
  have f1 := kF1.cell 1
  have f2 := kF1.cell 2
  have f3 := kF1.cell 3
  have f4 := kF1.cell 4
  have a0 := kA1.cell 0
  have a1 := kA1.cell 1
  go_upto_region 7 with (go_at_call 64; refine ((HI _ _ (Rd.new rfl rfl)).out).mono ?_; rintro e w2 ⟨rfl, hx2⟩)
  have kF2 := (kF1.alloc (.cells #[.int .i64 px, .int .i64 py] 32)).ext hx2
  have kR2 := (kR1.alloc (.cells #[.int .i64 px, .int .i64 py] 32)).ext hx2
  have kA2 := (kA1.alloc (.cells #[.int .i64 px, .int .i64 py] 32)).ext hx2
  have kZ2 := (kZ1.alloc (.cells #[.int .i64 px, .int .i64 py] 32)).ext hx2
  have hxb := (hxa.alloc (.cells #[.int .i64 px, .int .i64 py] 32)).trans hx2
  clear f0 f1 f2 f3 f4 a0 a1 kF1 kR1 kA1 kZ1 hxa hx2 HI
  have f0 := kF2.cell 0
  have f1 := kF2.cell 1
  have f2 := kF2.cell 2
  have f3 := kF2.cell 3
  have f4 := kF2.cell 4
  have a0 := kA2.cell 0
  have a1 := kA2.cell 1
  go_upto_region 8 with (go_at_call 71; refine ((HPl _).out).mono ?_; rintro e w3 ⟨rfl, hx3⟩)
  have kF3 := kF2.ext hx3
  have kR3 := kR2.ext hx3
  have kZ3 := kZ2.ext hx3
  have hxc := hxb.trans hx3
  clear f0 f1 f2 f3 f4 a0 a1 kF2 kR2 kA2 kZ2 hxb hx3 HPl
  have f0 := kF3.cell 0
  have f1 := kF3.cell 1
  have f2 := kF3.cell 2
  have f3 := kF3.cell 3
  have f4 := kF3.cell 4
  have r0 := kR3.cell 0
  have r1 := kR3.cell 1
  have r2 := kR3.cell 2
  have r3 := kR3.cell 3
  have r4 := kR3.cell 4
  have r5 := kR3.cell 5
  have HPr3 := HPr w3 hxc
  clear HPr
  go_wp2_with (go_at_call 108; refine HPr3.out.mono ?_; rintro e w4 ⟨go, gs, out, seen, rfl, b1, b2, kO, kS, hOk, hx4⟩; have kZ4 := kZ3.ext hx4; have z0 := kZ4.cell 0; have z1 := kZ4.cell 1; have z2 := kZ4.cell 2; have y0 := kZ4.frozen 0; have y1 := kZ4.frozen 1; have y2 := kZ4.frozen 2)
  have hz9 : w.heap.size ≤ hz := by omega
  have hx9 := (((hxc.trans hx4).setCell (p := ⟨hz, 0, none⟩) hz9 (.int .i64 src)).setCell (p := ⟨hz, 1, none⟩) hz9 (.slice (some ⟨go, 0, none⟩) N N)).setCell (p := ⟨hz, 2, none⟩) hz9 (.slice (some ⟨gs, 0, none⟩) N N)
  have kZ9 := ((kZ4.set 0 (.int .i64 src)).set 1 (.slice (some ⟨go, 0, none⟩) N N)).set 2 (.slice (some ⟨gs, 0, none⟩) N N)
  have fr : ∀ {g : Nat} {t : TypeId} {cs : Array Value}, Bk w4 g t cs → g ≠ hz → Bk (((w4.setCell ⟨hz, 0, none⟩ (.int .i64 src)).setCell ⟨hz, 1, none⟩ (.slice (some ⟨go, 0, none⟩) N N)).setCell ⟨hz, 2, none⟩ (.slice (some ⟨gs, 0, none⟩) N N)) g t cs := fun hb hn => ((hb.far hn _).far hn _).far hn _
  have kO9 := fr kO (Bk.ne kO kZ4 (by decide))
  have kS9 := fr kS (Bk.ne kS kZ4 (by decide))
  have q0 := kZ9.cell 0
  have q1 := kZ9.cell 1
  have q2 := kZ9.cell 2
  have hsz := hxc.size
  have K9 := hidA (And.intro kO9 (And.intro kS9 hx9))
  refine bodyPost_ret (v := .tuple #[.agg #[.int .i64 src, .slice (some ⟨go, 0, none⟩) N N, .slice (some ⟨gs, 0, none⟩) N N], .int .i64 0]) (by simp [results, Try.results70, go_sem, q0, q1, q2]) rfl ?_
  exact ⟨go, gs, out, seen, rfl, by omega, by omega, K9.out.1, K9.out.2.1, hOk, K9.out.2.2⟩

/-- what Way returns, where the arguments are right -/
def WayRes (R : RlR) (l : List Nat) (X Y : Int) (Wn Hn N src tq : Nat) (w : World) (e : Ending) (w' : World) : Prop := ∃ (seen : Nat → Bool) (P : Nat → Nat), PrOk N (edA R (fun j => l.getD j 0) Wn Hn N) src seen P ∧ Ext w w' ∧
  (seen tq = false ∧ e = .returned (.tuple #[.slice none 0 0, .float .f32 0, .int .i64 11]) ∨
   seen tq = true ∧ ∃ (H : Nat → Int) (xs : List Nat) (g cap : Nat), HopOk N (edA R (fun j => l.getD j 0) Wn Hn N) src (tgt P) H ∧ Chain R (fun j => l.getD j 0) Wn Hn N H P tq xs ∧ xs.length ≤ N ∧ 1 ≤ xs.length ∧
     e = .returned (.tuple #[.slice (some ⟨g, 0, none⟩) xs.length cap, .float .f32 (P tq), .int .i64 0]) ∧ Rd w' (some ⟨g, 0, none⟩) (ptv (xs.reverse.map (cpt X Y Wn))))
set_option maxRecDepth 100000 in
set_option maxHeartbeats 6400000 in
theorem Way_ok (X Y : Int) (Wn Hn : Nat) (A : Option Addr) (N c : Nat) (R : RlR) (C : Option Addr) (m cc src tq : Nat) (l : List Nat) (X' Y' W' H' : Int) (lc : List Nat) (w : World)
    (hr : Reg X Y Wn Hn) (hN : N = Wn * Hn) (hR : RlOk R N) (hl : l.length = N) (hh : ∀ j, j < N → Bd 20 (l.getD j 0)) (hs : src < N) (hV : Rd w A (flt l)) (hC : CoR w C m R.co) (hP : CoP w C m X' Y' W' H' lc) (hg : grndE X Y Wn Hn l R.gr R.wt R.br R.de R.sp m X' Y' W' H' lc = 0) (ht : tq < N) :
    Calls Try.prog 24 #[.agg #[.int .i64 X, .int .i64 Y, .int .i64 (Wn : Int), .int .i64 (Hn : Int), .slice A N c], .agg #[.float .f32 R.gr, .float .f32 R.wt, .float .f32 R.br, .float .f32 R.de, .int .i64 (R.sp : Int), .slice C m cc], .agg #[.int .i64 (X + ((src % Wn : Nat) : Int)), .int .i64 (Y + ((src / Wn : Nat) : Int))], .agg #[.int .i64 (X + ((tq % Wn : Nat) : Int)), .int .i64 (Y + ((tq / Wn : Nat) : Int))]] w fun e w' => WayRes R l X Y Wn Hn N src tq w e w' := by
  have hm := grnd_m hg
  have hN6 : N ≤ 65536 := by rw [hN]; exact hr.n
  have HC := fun (w' : World) (h : Ext w w') => hidA (chk_any X Y Wn Hn A N c l R.gr R.wt R.br R.de R.sp C m cc X' Y' W' H' lc w' hl (hV.ext h) (by omega) (hP.ext h) (by omega))
  rw [hg] at HC
  have hin := cpt_in hr hN hs
  have hin2 := cpt_in hr hN ht
  have hcl := cpt_cell hr (k := tq)
  have HI := fun (w' : World) (B : Option Addr) (h : Rd w' B (ptv [(X + ((src % Wn : Nat) : Int), Y + ((src / Wn : Nat) : Int)), (X + ((tq % Wn : Nat) : Int), Y + ((tq / Wn : Nat) : Int))])) => hidA (inside_any X Y Wn Hn A B N c 2 2 [(X + ((src % Wn : Nat) : Int), Y + ((src / Wn : Nat) : Int)), (X + ((tq % Wn : Nat) : Int), Y + ((tq / Wn : Nat) : Int))] w' hr.ok rfl h (by omega))
  have hi0 : insE X Y Wn Hn [(X + ((src % Wn : Nat) : Int), Y + ((src / Wn : Nat) : Int)), (X + ((tq % Wn : Nat) : Int), Y + ((tq / Wn : Nat) : Int))] = 0 := by
    unfold insE
    rw [if_pos]
    simpa using And.intro hin hin2
  rw [hi0] at HI
  have HPl := fun (w' : World) => hidA (place_in X Y Wn Hn _ _ w' hr.ok hin2)
  rw [hcl] at HPl
  have HPr := fun (w' : World) (h : Ext w w') => hidA (pricesFrom_ok X Y Wn Hn A N c R C m cc src l X' Y' W' H' lc w' hr hN hR hl hh hs (hV.ext h) (hC.ext h) (hP.ext h) hg)
  have HWy := fun (go gs : Nat) (P : Nat → Nat) (seen : Nat → Bool) (w' : World) (h : Ext w w') (h1 : PrOk N (edA R (fun j => l.getD j 0) Wn Hn N) src seen P) (h2 : Bk w' go 27 (flo N P)) => hidA (way_any X Y Wn Hn A N c R C m cc src go gs tq l P seen w' hr hN hR hl hh hs ht (hV.ext h) (hC.ext h) h1 h2)
  unfold gcells at HWy
  clear hm hin hin2 hcl hi0 hr hN hR hl hh hV hC hP hg
  generalize X + ((src % Wn : Nat) : Int) = px at *
  generalize Y + ((src / Wn : Nat) : Int) = py at *
  generalize X + ((tq % Wn : Nat) : Int) = qx at *
  generalize Y + ((tq / Wn : Nat) : Int) = qy at *
  go_enter Try.func24, Try.ntmps24
  go_upto_region 1 with fail
  obtain ⟨w0, hw0⟩ : ∃ w0, w0 = (((w.alloc (.cells #[.int .i64 X, .int .i64 Y, .int .i64 (Wn : Int), .int .i64 (Hn : Int), .slice A N c] 26)).alloc (.cells #[.float .f32 R.gr, .float .f32 R.wt, .float .f32 R.br, .float .f32 R.de, .int .i64 (R.sp : Int), .slice C m cc] 30)).alloc (.cells #[.int .i64 px, .int .i64 py] 32)).alloc (.cells #[.int .i64 qx, .int .i64 qy] 32) := ⟨_, rfl⟩
  have kF : Bk w0 w.heap.size 26 #[.int .i64 X, .int .i64 Y, .int .i64 (Wn : Int), .int .i64 (Hn : Int), .slice A N c] := by rw [hw0]; exact (((Bk.new' rfl).alloc _).alloc _).alloc _
  have kR : Bk w0 (w.heap.size + 1) 30 #[.float .f32 R.gr, .float .f32 R.wt, .float .f32 R.br, .float .f32 R.de, .int .i64 (R.sp : Int), .slice C m cc] := by rw [hw0]; exact ((Bk.new' (by simp)).alloc _).alloc _
  have kA : Bk w0 (w.heap.size + 1 + 1) 32 #[.int .i64 px, .int .i64 py] := by rw [hw0]; exact (Bk.new' (by simp)).alloc _
  have kB : Bk w0 (w.heap.size + 1 + 1 + 1) 32 #[.int .i64 qx, .int .i64 qy] := by rw [hw0]; exact Bk.new' (by simp)
  have hx0 : Ext w w0 := by rw [hw0]; exact ((((Ext.refl w).alloc _).alloc _).alloc _).alloc _
  rw [← hw0]
  clear hw0
  generalize w.heap.size + 1 + 1 + 1 = hb at *
  generalize w.heap.size + 1 + 1 = ha at *
  generalize w.heap.size + 1 = hr at *
  generalize hfe : w.heap.size = hf at kF ⊢
  have f0 := kF.cell 0
  have f1 := kF.cell 1
  have f2 := kF.cell 2
  have f3 := kF.cell 3
  have f4 := kF.cell 4
  have r0 := kR.cell 0
  have r1 := kR.cell 1
  have r2 := kR.cell 2
  have r3 := kR.cell 3
  have r4 := kR.cell 4
  have r5 := kR.cell 5
  go_upto_region 4 with (go_at_call 63; refine ((HC _ hx0).out).mono ?_; rintro e w1 ⟨rfl, hx1⟩)
  have kF1 := kF.ext hx1
  have kR1 := kR.ext hx1
  have kA1 := kA.ext hx1
  have kB1 := kB.ext hx1
  have hxa := hx0.trans hx1
  clear f0 f1 f2 f3 f4 r0 r1 r2 r3 r4 r5 kF kR kA kB hx0 hx1 HC
  have f0 := kF1.cell 0
  have f1 := kF1.cell 1
  have f2 := kF1.cell 2
  have f3 := kF1.cell 3
  have f4 := kF1.cell 4
  have a0 := kA1.cell 0
  have a1 := kA1.cell 1
  have b0 := kB1.cell 0
  have b1 := kB1.cell 1
  go_upto_region 7 with (go_at_call 64; refine ((HI _ _ (Rd.new rfl rfl)).out).mono ?_; rintro e w2 ⟨rfl, hx2⟩)
  have kF2 := (kF1.alloc (.cells #[.int .i64 px, .int .i64 py, .int .i64 qx, .int .i64 qy] 32)).ext hx2
  have kR2 := (kR1.alloc (.cells #[.int .i64 px, .int .i64 py, .int .i64 qx, .int .i64 qy] 32)).ext hx2
  have kA2 := (kA1.alloc (.cells #[.int .i64 px, .int .i64 py, .int .i64 qx, .int .i64 qy] 32)).ext hx2
  have kB2 := (kB1.alloc (.cells #[.int .i64 px, .int .i64 py, .int .i64 qx, .int .i64 qy] 32)).ext hx2
  have hxb := (hxa.alloc (.cells #[.int .i64 px, .int .i64 py, .int .i64 qx, .int .i64 qy] 32)).trans hx2
  clear f0 f1 f2 f3 f4 a0 a1 b0 b1 kF1 kR1 kA1 kB1 hxa hx2 HI
  have f0 := kF2.cell 0
  have f1 := kF2.cell 1
  have f2 := kF2.cell 2
  have f3 := kF2.cell 3
  have f4 := kF2.cell 4
  have r0 := kR2.cell 0
  have r1 := kR2.cell 1
  have r2 := kR2.cell 2
  have r3 := kR2.cell 3
  have r4 := kR2.cell 4
  have r5 := kR2.cell 5
  have a0 := kA2.cell 0
  have a1 := kA2.cell 1
  have HPr3 := HPr w2 hxb
  clear HPr
  go_upto_region 8 with (go_at_call 70; refine HPr3.out.mono ?_; rintro e w3 ⟨go, gs, out, seen, rfl, b1, b2, kO, kS, hOk, hx3⟩)
  have kF3 := (kF2.ext hx3).alloc (.cells #[.int .i64 src, .slice (some ⟨go, 0, none⟩) N N, .slice (some ⟨gs, 0, none⟩) N N] 124)
  have kR3 := (kR2.ext hx3).alloc (.cells #[.int .i64 src, .slice (some ⟨go, 0, none⟩) N N, .slice (some ⟨gs, 0, none⟩) N N] 124)
  have kB3 := (kB2.ext hx3).alloc (.cells #[.int .i64 src, .slice (some ⟨go, 0, none⟩) N N, .slice (some ⟨gs, 0, none⟩) N N] 124)
  have kP3 : Bk (w3.alloc (.cells #[.int .i64 src, .slice (some ⟨go, 0, none⟩) N N, .slice (some ⟨gs, 0, none⟩) N N] 124)) w3.heap.size 124 #[.int .i64 src, .slice (some ⟨go, 0, none⟩) N N, .slice (some ⟨gs, 0, none⟩) N N] := Bk.new' rfl
  have kO3 := kO.alloc (.cells #[.int .i64 src, .slice (some ⟨go, 0, none⟩) N N, .slice (some ⟨gs, 0, none⟩) N N] 124)
  have kS3 := kS.alloc (.cells #[.int .i64 src, .slice (some ⟨go, 0, none⟩) N N, .slice (some ⟨gs, 0, none⟩) N N] 124)
  have hxc := (hxb.trans hx3).alloc (.cells #[.int .i64 src, .slice (some ⟨go, 0, none⟩) N N, .slice (some ⟨gs, 0, none⟩) N N] 124)
  clear f0 f1 f2 f3 f4 r0 r1 r2 r3 r4 r5 a0 a1 kF2 kR2 kA2 kB2 hxb hx3 kO kS HPr3 b1 b2
  generalize w3.alloc (.cells #[.int .i64 src, .slice (some ⟨go, 0, none⟩) N N, .slice (some ⟨gs, 0, none⟩) N N] 124) = w4 at *
  generalize w3.heap.size = hp at *
  have f0 := kF3.cell 0
  have f1 := kF3.cell 1
  have f2 := kF3.cell 2
  have f3 := kF3.cell 3
  have f4 := kF3.cell 4
  have b0 := kB3.cell 0
  have b1 := kB3.cell 1
  go_upto_region 9 with (go_at_call 71; refine ((HPl _).out).mono ?_; rintro e w5 ⟨rfl, hx5⟩)
  have kF5 := kF3.ext hx5
  have kR5 := kR3.ext hx5
  have kP5 := kP3.ext hx5
  have kO5 := kO3.ext hx5
  have kS5 := kS3.ext hx5
  have hxd := hxc.trans hx5
  clear f0 f1 f2 f3 f4 b0 b1 kF3 kR3 kB3 kP3 kO3 kS3 hxc hx5 HPl
  have p2 := kP5.cell 2
  have s1 : w5.cell? ⟨gs, tq, none⟩ = some (.bool (seen tq)) := by rw [kS5.cell]; exact bools_get _ ht
  have t0 : (0 : Int) ≤ tq := by omega
  have t1 : (tq : Int) < N := by omega
  cases hse : seen tq
  · rw [hse] at s1
    go_wp2
    go_ret3
    exact ⟨seen, out, hOk, hxd, .inl ⟨hse, rfl⟩⟩
  · rw [hse] at s1
    have HW1 := HWy go gs out seen
    clear HWy
    go_upto_region 11 with fail
    clear s1 p2
    have HSe := hidA hse
    have HOk := hidA hOk
    clear hse hOk
    have f0 : ∀ w', Ext w5 w' → w'.cell? ⟨hf, 0, none⟩ = some (.int .i64 X) := fun w' h => (kF5.ext h).cell 0
    have f1 : ∀ w', Ext w5 w' → w'.cell? ⟨hf, 1, none⟩ = some (.int .i64 Y) := fun w' h => (kF5.ext h).cell 1
    have f2 : ∀ w', Ext w5 w' → w'.cell? ⟨hf, 2, none⟩ = some (.int .i64 (Wn : Int)) := fun w' h => (kF5.ext h).cell 2
    have f3 : ∀ w', Ext w5 w' → w'.cell? ⟨hf, 3, none⟩ = some (.int .i64 (Hn : Int)) := fun w' h => (kF5.ext h).cell 3
    have f4 : ∀ w', Ext w5 w' → w'.cell? ⟨hf, 4, none⟩ = some (.slice A N c) := fun w' h => (kF5.ext h).cell 4
    have r0 : ∀ w', Ext w5 w' → w'.cell? ⟨hr, 0, none⟩ = some (.float .f32 R.gr) := fun w' h => (kR5.ext h).cell 0
    have r1 : ∀ w', Ext w5 w' → w'.cell? ⟨hr, 1, none⟩ = some (.float .f32 R.wt) := fun w' h => (kR5.ext h).cell 1
    have r2 : ∀ w', Ext w5 w' → w'.cell? ⟨hr, 2, none⟩ = some (.float .f32 R.br) := fun w' h => (kR5.ext h).cell 2
    have r3 : ∀ w', Ext w5 w' → w'.cell? ⟨hr, 3, none⟩ = some (.float .f32 R.de) := fun w' h => (kR5.ext h).cell 3
    have r4 : ∀ w', Ext w5 w' → w'.cell? ⟨hr, 4, none⟩ = some (.int .i64 (R.sp : Int)) := fun w' h => (kR5.ext h).cell 4
    have r5 : ∀ w', Ext w5 w' → w'.cell? ⟨hr, 5, none⟩ = some (.slice C m cc) := fun w' h => (kR5.ext h).cell 5
    have p0 : ∀ w', Ext w5 w' → w'.cell? ⟨hp, 0, none⟩ = some (.int .i64 src) := fun w' h => (kP5.ext h).cell 0
    have p1 : ∀ w', Ext w5 w' → w'.cell? ⟨hp, 1, none⟩ = some (.slice (some ⟨go, 0, none⟩) N N) := fun w' h => (kP5.ext h).cell 1
    have p2 : ∀ w', Ext w5 w' → w'.cell? ⟨hp, 2, none⟩ = some (.slice (some ⟨gs, 0, none⟩) N N) := fun w' h => (kP5.ext h).cell 2
    have o1 : ∀ w', Ext w5 w' → w'.cell? ⟨go, tq, none⟩ = some (.float .f32 (out tq)) := fun w' h => by rw [(kO5.ext h).cell]; exact flo_get _ ht
    have HW2 := fun (w' : World) (h : Ext w5 w') => HW1 w' (hxd.trans h) HOk.out (kO5.ext h)
    refine wp_region_noPanic ?_
    refine wp_region_held_drew (S := fun w' => Ext w5 w') (by kernel_rfl) ?_ (fun hHeld => ?_)
    · (repeat (first | exact Ext.refl _ | assumption | refine Ext.setCell ?_ (by first | (simp; done) | (simp; omega)) _ | refine Ext.drewN ?_ _ | refine Ext.alloc ?_ _ | refine Ext.drew ?_ | refine Ext.trans ?_ (by assumption)))
    refine wpAnyH_take (i := 0) (oi := ?o1x0) (v := ?v1x0) ?hi1x0 (by kernel_rfl) ?hf1x0 ?hr1x0 (fun _ _ _ h => h) ?hy1x0 (by assumption) ?rest1x0
    case hi1x0 => (simp only [List.getElem?_toArray, List.getElem?_cons_zero]; exact rfl)
    case hf1x0 => kernel_rfl
    case hr1x0 => kernel_rfl
    case hy1x0 => (refine Or.inl ⟨by rfl, ?_⟩; intro w hSw; (try dsimp only at hSw); go_simp; try with_reducible rfl)
    simp only [put_mk, List.set_cons_succ, List.set_cons_zero]
    refine wpAnyH_take (i := 1) (oi := ?o1x1) (v := ?v1x1) ?hi1x1 (by kernel_rfl) ?hf1x1 ?hr1x1 (fun _ _ _ h => h) ?hy1x1 (by assumption) ?rest1x1
    case hi1x1 => (simp only [List.getElem?_toArray, List.getElem?_cons_succ, List.getElem?_cons_zero]; exact rfl)
    case hf1x1 => kernel_rfl
    case hr1x1 => kernel_rfl
    case hy1x1 => (refine Or.inl ⟨by rfl, ?_⟩; intro w hSw; (try dsimp only at hSw); go_simp; try with_reducible rfl)
    simp only [put_mk, List.set_cons_succ, List.set_cons_zero]
    refine wpAnyH_take (i := 2) (oi := ?o1x2) (v := ?v1x2) ?hi1x2 (by kernel_rfl) ?hf1x2 ?hr1x2 (fun _ _ _ h => h) ?hy1x2 (by assumption) ?rest1x2
    case hi1x2 => (simp only [List.getElem?_toArray, List.getElem?_cons_succ, List.getElem?_cons_zero]; exact rfl)
    case hf1x2 => kernel_rfl
    case hr1x2 => kernel_rfl
    case hy1x2 => (refine Or.inl ⟨by rfl, ?_⟩; intro w hSw; (try dsimp only at hSw); go_simp; try with_reducible rfl)
    simp only [put_mk, List.set_cons_succ, List.set_cons_zero]
    refine wpAnyH_take (i := 3) (oi := ?o1x3) (v := ?v1x3) ?hi1x3 (by kernel_rfl) ?hf1x3 ?hr1x3 (fun _ _ _ h => h) ?hy1x3 (by assumption) ?rest1x3
    case hi1x3 => (simp only [List.getElem?_toArray, List.getElem?_cons_succ, List.getElem?_cons_zero]; exact rfl)
    case hf1x3 => kernel_rfl
    case hr1x3 => kernel_rfl
    case hy1x3 => (refine Or.inl ⟨by rfl, ?_⟩; intro w hSw; (try dsimp only at hSw); go_simp; try with_reducible rfl)
    simp only [put_mk, List.set_cons_succ, List.set_cons_zero]
    refine wpAnyH_take (i := 4) (oi := ?o1x4) (v := ?v1x4) ?hi1x4 (by kernel_rfl) ?hf1x4 ?hr1x4 (fun _ _ _ h => h) ?hy1x4 (by assumption) ?rest1x4
    case hi1x4 => (simp only [List.getElem?_toArray, List.getElem?_cons_succ, List.getElem?_cons_zero]; exact rfl)
    case hf1x4 => kernel_rfl
    case hr1x4 => kernel_rfl
    case hy1x4 => (refine Or.inl ⟨by rfl, ?_⟩; intro w hSw; (try dsimp only at hSw); go_simp; try with_reducible rfl)
    simp only [put_mk, List.set_cons_succ, List.set_cons_zero]
    refine wpAnyH_take (i := 6) (oi := ?o1x6) (v := ?v1x6) ?hi1x6 (by kernel_rfl) ?hf1x6 ?hr1x6 (fun _ _ _ h => h) ?hy1x6 (by assumption) ?rest1x6
    case hi1x6 => (simp only [List.getElem?_toArray, List.getElem?_cons_succ, List.getElem?_cons_zero]; exact rfl)
    case hf1x6 => kernel_rfl
    case hr1x6 => kernel_rfl
    case hy1x6 => (refine Or.inl ⟨by rfl, ?_⟩; intro w hSw; (try dsimp only at hSw); go_simp; try with_reducible rfl)
    simp only [put_mk, List.set_cons_succ, List.set_cons_zero]
    refine wpAnyH_take (i := 7) (oi := ?o1x7) (v := ?v1x7) ?hi1x7 (by kernel_rfl) ?hf1x7 ?hr1x7 (fun _ _ _ h => h) ?hy1x7 (by assumption) ?rest1x7
    case hi1x7 => (simp only [List.getElem?_toArray, List.getElem?_cons_succ, List.getElem?_cons_zero]; exact rfl)
    case hf1x7 => kernel_rfl
    case hr1x7 => kernel_rfl
    case hy1x7 => (refine Or.inl ⟨by rfl, ?_⟩; intro w hSw; (try dsimp only at hSw); go_simp; try with_reducible rfl)
    simp only [put_mk, List.set_cons_succ, List.set_cons_zero]
    refine wpAnyH_take (i := 8) (oi := ?o1x8) (v := ?v1x8) ?hi1x8 (by kernel_rfl) ?hf1x8 ?hr1x8 (fun _ _ _ h => h) ?hy1x8 (by assumption) ?rest1x8
    case hi1x8 => (simp only [List.getElem?_toArray, List.getElem?_cons_succ, List.getElem?_cons_zero]; exact rfl)
    case hf1x8 => kernel_rfl
    case hr1x8 => kernel_rfl
    case hy1x8 => (refine Or.inl ⟨by rfl, ?_⟩; intro w hSw; (try dsimp only at hSw); go_simp; try with_reducible rfl)
    simp only [put_mk, List.set_cons_succ, List.set_cons_zero]
    refine wpAnyH_take (i := 9) (oi := ?o1x9) (v := ?v1x9) ?hi1x9 (by kernel_rfl) ?hf1x9 ?hr1x9 (fun _ _ _ h => h) ?hy1x9 (by assumption) ?rest1x9
    case hi1x9 => (simp only [List.getElem?_toArray, List.getElem?_cons_succ, List.getElem?_cons_zero]; exact rfl)
    case hf1x9 => kernel_rfl
    case hr1x9 => kernel_rfl
    case hy1x9 => (refine Or.inl ⟨by rfl, ?_⟩; intro w hSw; (try dsimp only at hSw); go_simp; try with_reducible rfl)
    simp only [put_mk, List.set_cons_succ, List.set_cons_zero]
    refine wpAnyH_take (i := 10) (oi := ?o1x10) (v := ?v1x10) ?hi1x10 (by kernel_rfl) ?hf1x10 ?hr1x10 (fun _ _ _ h => h) ?hy1x10 (by assumption) ?rest1x10
    case hi1x10 => (simp only [List.getElem?_toArray, List.getElem?_cons_succ, List.getElem?_cons_zero]; exact rfl)
    case hf1x10 => kernel_rfl
    case hr1x10 => kernel_rfl
    case hy1x10 => (refine Or.inl ⟨by rfl, ?_⟩; intro w hSw; (try dsimp only at hSw); go_simp; try with_reducible rfl)
    simp only [put_mk, List.set_cons_succ, List.set_cons_zero]
    refine wpAnyH_ready (rs := [5]) (by kernel_rfl) (by simp) ?_
    refine AllReadyH.cons (o := ?o1x5) ?hi1x5 (fun K hK => ?_) AllReadyH.nil
    case hi1x5 => (simp only [List.getElem?_toArray, List.getElem?_cons_succ, List.getElem?_cons_zero]; exact rfl)
    go_simp
    go_at_call 72; refine ((HW2 _ (by repeat (first | exact Ext.refl _ | assumption | refine Ext.setCell ?_ (by first | (simp; done) | (simp; omega)) _ | refine Ext.drewN ?_ _ | refine Ext.alloc ?_ _ | refine Ext.drew ?_ | refine Ext.trans ?_ (by assumption)))).out).mono ?_; rintro e w7 ⟨H, hHop, xs, g, cap, hch, hle, rfl, hg7, hrd, hx7, hcap, h17⟩
    refine hK.out _ _ ?_ (fun hHeld => ?_)
    · (repeat (first | exact Ext.refl _ | assumption | refine Ext.setCell ?_ (by first | (simp; done) | (simp; omega)) _ | refine Ext.drewN ?_ _ | refine Ext.alloc ?_ _ | refine Ext.drew ?_ | refine Ext.trans ?_ (by assumption)))
    clear hK K
    refine wpAnyH_take (i := 11) (oi := ?o1x11) (v := ?v1x11) ?hi1x11 (by kernel_rfl) ?hf1x11 ?hr1x11 (fun _ _ _ h => h) ?hy1x11 (by assumption) ?rest1x11
    case hi1x11 => (simp only [List.getElem?_toArray, List.getElem?_cons_succ, List.getElem?_cons_zero]; exact rfl)
    case hf1x11 => kernel_rfl
    case hr1x11 => kernel_rfl
    case hy1x11 => (refine Or.inl ⟨by rfl, ?_⟩; intro w hSw; (try dsimp only at hSw); go_simp; try with_reducible rfl)
    simp only [put_mk, List.set_cons_succ, List.set_cons_zero]
    refine wpAnyH_take (i := 12) (oi := ?o1x12) (v := ?v1x12) ?hi1x12 (by kernel_rfl) ?hf1x12 ?hr1x12 (fun _ _ _ h => h) ?hy1x12 (by assumption) ?rest1x12
    case hi1x12 => (simp only [List.getElem?_toArray, List.getElem?_cons_succ, List.getElem?_cons_zero]; exact rfl)
    case hf1x12 => kernel_rfl
    case hr1x12 => kernel_rfl
    case hy1x12 => (refine Or.inl ⟨by rfl, ?_⟩; intro w hSw; (try dsimp only at hSw); go_simp; try with_reducible rfl)
    simp only [put_mk, List.set_cons_succ, List.set_cons_zero]
    refine wpAnyH_take (i := 13) (oi := ?o1x13) (v := ?v1x13) ?hi1x13 (by kernel_rfl) ?hf1x13 ?hr1x13 (fun _ _ _ h => h) ?hy1x13 (by assumption) ?rest1x13
    case hi1x13 => (simp only [List.getElem?_toArray, List.getElem?_cons_succ, List.getElem?_cons_zero]; exact rfl)
    case hf1x13 => kernel_rfl
    case hr1x13 => kernel_rfl
    case hy1x13 => (refine Or.inl ⟨by rfl, ?_⟩; intro w hSw; (try dsimp only at hSw); go_simp; try with_reducible rfl)
    simp only [put_mk, List.set_cons_succ, List.set_cons_zero]
    refine wpAnyH_done (by kernel_rfl) ?_ _
    refine NoPanic.normal ?_
    go_wp2_with fail
    go_ret3
    exact ⟨seen, out, HOk.out, hxd.trans hHeld, .inr ⟨HSe.out, H, xs, g, cap, hHop, hch, hle, h17, rfl, hrd⟩⟩
end Go.Proofs.Ytpgdinpckolfpaa

