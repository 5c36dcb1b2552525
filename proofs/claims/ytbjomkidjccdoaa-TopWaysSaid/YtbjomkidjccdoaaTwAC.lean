/- Contracts for the law TopWays: Clone of places, an append onto a row of the call's own, Price. -/
import Derived.Test.YtbjomkidjccdoaaRdT
import Derived.Test.YtbjomkidjccdoaaTwAA
import Derived.Test.YtbjomkidjccdoaaTwAB
import Derived.ChangeAlike
import Derived.Deep.QuietTactic
import Derived.Deep.AppendLies
namespace Go.Proofs.Ytbjomkidjccdoaa
open Go.RowKit
attribute [local go_sem ↓] Go.wp_at_zero Go.wp_at_succ
attribute [local go_sem] run_store_float

def WayRes2 (R : RlR) (l : List Nat) (X Y : Int) (Wn Hn N src tq : Nat) (w : World) (e : Ending) (w' : World) : Prop := ∃ (seen : Nat → Bool) (P : Nat → Nat), PrOk N (edA R (fun j => l.getD j 0) Wn Hn N) src seen P ∧ Ext w w' ∧
  (seen tq = false ∧ e = .returned (.tuple #[.slice none 0 0, .float .f32 0, .int .i64 11]) ∨
   seen tq = true ∧ ∃ (H : Nat → Int) (xs : List Nat) (g cap : Nat), HopOk N (edA R (fun j => l.getD j 0) Wn Hn N) src (tgt P) H ∧ Chain R (fun j => l.getD j 0) Wn Hn N H P tq xs ∧ xs.length ≤ N ∧ 1 ≤ xs.length ∧ xs.length ≤ cap ∧
     e = .returned (.tuple #[.slice (some ⟨g, 0, none⟩) xs.length cap, .float .f32 (P tq), .int .i64 0]) ∧ Rd w' (some ⟨g, 0, none⟩) (ptv (xs.reverse.map (cpt X Y Wn))))
set_option maxRecDepth 100000 in
set_option maxHeartbeats 6400000 in
theorem Way_ok2 (X Y : Int) (Wn Hn : Nat) (A : Option Addr) (N c : Nat) (R : RlR) (C : Option Addr) (m cc src tq : Nat) (l : List Nat) (X' Y' W' H' : Int) (lc : List Nat) (w : World)
    (hr : Reg X Y Wn Hn) (hN : N = Wn * Hn) (hR : RlOk R N) (hl : l.length = N) (hh : ∀ j, j < N → Bd 20 (l.getD j 0)) (hs : src < N) (hV : Rd w A (flt l)) (hC : CoR w C m R.co) (hP : CoP w C m X' Y' W' H' lc) (hg : grndE X Y Wn Hn l R.gr R.wt R.br R.de R.sp m X' Y' W' H' lc = 0) (ht : tq < N) :
    Calls Try.prog 5 #[.agg #[.int .i64 X, .int .i64 Y, .int .i64 (Wn : Int), .int .i64 (Hn : Int), .slice A N c], .agg #[.float .f32 R.gr, .float .f32 R.wt, .float .f32 R.br, .float .f32 R.de, .int .i64 (R.sp : Int), .slice C m cc], .agg #[.int .i64 (X + ((src % Wn : Nat) : Int)), .int .i64 (Y + ((src / Wn : Nat) : Int))], .agg #[.int .i64 (X + ((tq % Wn : Nat) : Int)), .int .i64 (Y + ((tq / Wn : Nat) : Int))]] w fun e w' => WayRes2 R l X Y Wn Hn N src tq w e w' := by
  have hm := grnd_m hg
  have hN6 : N ≤ 65536 := by rw [hN]; exact hr.n
  have HC := fun (w' : World) (h : Ext w w') => hidA (chk_any X Y Wn Hn A N c l R.gr R.wt R.br R.de R.sp C m cc X' Y' W' H' lc w' hl (hV.ext h) (by omega) (hP.ext h) (by omega))
  rw [hg] at HC
  have hin := cpt_in hr hN hs
  have hin2 := cpt_in hr hN ht
  have hcl := cpt_cell hr (k := tq)
  have HI := fun (w' : World) (B : Option Addr) (h : Rd w' B (ptv [(X + ((src % Wn : Nat) : Int), Y + ((src / Wn : Nat) : Int)), (X + ((tq % Wn : Nat) : Int), Y + ((tq / Wn : Nat) : Int))])) => hidA (inside_any X Y Wn Hn A B N c 2 2 [(X + ((src % Wn : Nat) : Int), Y + ((src / Wn : Nat) : Int)), (X + ((tq % Wn : Nat) : Int), Y + ((tq / Wn : Nat) : Int))] w' hr.ok rfl h (by omega))
  have hi0 : insE X Y Wn Hn [(X + ((src % Wn : Nat) : Int), Y + ((src / Wn : Nat) : Int)), (X + ((tq % Wn : Nat) : Int), Y + ((tq / Wn : Nat) : Int))] = 0 := by
    unfold insE
    rw [if_pos]
    simpa using And.intro hin hin2
  rw [hi0] at HI
  have HPl := fun (w' : World) => hidA (place_in X Y Wn Hn _ _ w' hr.ok hin2)
  rw [hcl] at HPl
  have HPr := fun (w' : World) (h : Ext w w') => hidA (pricesFrom_ok X Y Wn Hn A N c R C m cc src l X' Y' W' H' lc w' hr hN hR hl hh hs (hV.ext h) (hC.ext h) (hP.ext h) hg)
  have HWy := fun (go gs : Nat) (P : Nat → Nat) (seen : Nat → Bool) (w' : World) (h : Ext w w') (h1 : PrOk N (edA R (fun j => l.getD j 0) Wn Hn N) src seen P) (h2 : Bk w' go 27 (flo N P)) => hidA (way_any X Y Wn Hn A N c R C m cc src go gs tq l P seen w' hr hN hR hl hh hs ht (hV.ext h) (hC.ext h) h1 h2)
  unfold gcells at HWy
  clear hm hin hin2 hcl hi0 hr hN hR hl hh hV hC hP hg
  generalize X + ((src % Wn : Nat) : Int) = px at *
  generalize Y + ((src / Wn : Nat) : Int) = py at *
  generalize X + ((tq % Wn : Nat) : Int) = qx at *
  generalize Y + ((tq / Wn : Nat) : Int) = qy at *
  go_enter Try.func5, Try.ntmps5
  go_upto_region 1 with fail
  obtain ⟨w0, hw0⟩ : ∃ w0, w0 = (((w.alloc (.cells #[.int .i64 X, .int .i64 Y, .int .i64 (Wn : Int), .int .i64 (Hn : Int), .slice A N c] 26)).alloc (.cells #[.float .f32 R.gr, .float .f32 R.wt, .float .f32 R.br, .float .f32 R.de, .int .i64 (R.sp : Int), .slice C m cc] 30)).alloc (.cells #[.int .i64 px, .int .i64 py] 32)).alloc (.cells #[.int .i64 qx, .int .i64 qy] 32) := ⟨_, rfl⟩
  have kF : Bk w0 w.heap.size 26 #[.int .i64 X, .int .i64 Y, .int .i64 (Wn : Int), .int .i64 (Hn : Int), .slice A N c] := by rw [hw0]; exact (((Bk.new' rfl).alloc _).alloc _).alloc _
  have kR : Bk w0 (w.heap.size + 1) 30 #[.float .f32 R.gr, .float .f32 R.wt, .float .f32 R.br, .float .f32 R.de, .int .i64 (R.sp : Int), .slice C m cc] := by rw [hw0]; exact ((Bk.new' (by simp)).alloc _).alloc _
  have kA : Bk w0 (w.heap.size + 1 + 1) 32 #[.int .i64 px, .int .i64 py] := by rw [hw0]; exact (Bk.new' (by simp)).alloc _
  have kB : Bk w0 (w.heap.size + 1 + 1 + 1) 32 #[.int .i64 qx, .int .i64 qy] := by rw [hw0]; exact Bk.new' (by simp)
  have hx0 : Ext w w0 := by rw [hw0]; exact ((((Ext.refl w).alloc _).alloc _).alloc _).alloc _
  rw [← hw0]
  clear hw0
  generalize w.heap.size + 1 + 1 + 1 = hb at *
  generalize w.heap.size + 1 + 1 = ha at *
  generalize w.heap.size + 1 = hr at *
  generalize hfe : w.heap.size = hf at kF ⊢
  have f0 := kF.cell 0
  have f1 := kF.cell 1
  have f2 := kF.cell 2
  have f3 := kF.cell 3
  have f4 := kF.cell 4
  have r0 := kR.cell 0
  have r1 := kR.cell 1
  have r2 := kR.cell 2
  have r3 := kR.cell 3
  have r4 := kR.cell 4
  have r5 := kR.cell 5
  go_upto_region 4 with (go_at_call 10; refine ((HC _ hx0).out).mono ?_; rintro e w1 ⟨rfl, hx1⟩)
  have kF1 := kF.ext hx1
  have kR1 := kR.ext hx1
  have kA1 := kA.ext hx1
  have kB1 := kB.ext hx1
  have hxa := hx0.trans hx1
  clear f0 f1 f2 f3 f4 r0 r1 r2 r3 r4 r5 kF kR kA kB hx0 hx1 HC
  have f0 := kF1.cell 0
  have f1 := kF1.cell 1
  have f2 := kF1.cell 2
  have f3 := kF1.cell 3
  have f4 := kF1.cell 4
  have a0 := kA1.cell 0
  have a1 := kA1.cell 1
  have b0 := kB1.cell 0
  have b1 := kB1.cell 1
  go_upto_region 7 with (go_at_call 11; refine ((HI _ _ (Rd.new rfl rfl)).out).mono ?_; rintro e w2 ⟨rfl, hx2⟩)
  have kF2 := (kF1.alloc (.cells #[.int .i64 px, .int .i64 py, .int .i64 qx, .int .i64 qy] 32)).ext hx2
  have kR2 := (kR1.alloc (.cells #[.int .i64 px, .int .i64 py, .int .i64 qx, .int .i64 qy] 32)).ext hx2
  have kA2 := (kA1.alloc (.cells #[.int .i64 px, .int .i64 py, .int .i64 qx, .int .i64 qy] 32)).ext hx2
  have kB2 := (kB1.alloc (.cells #[.int .i64 px, .int .i64 py, .int .i64 qx, .int .i64 qy] 32)).ext hx2
  have hxb := (hxa.alloc (.cells #[.int .i64 px, .int .i64 py, .int .i64 qx, .int .i64 qy] 32)).trans hx2
  clear f0 f1 f2 f3 f4 a0 a1 b0 b1 kF1 kR1 kA1 kB1 hxa hx2 HI
  have f0 := kF2.cell 0
  have f1 := kF2.cell 1
  have f2 := kF2.cell 2
  have f3 := kF2.cell 3
  have f4 := kF2.cell 4
  have r0 := kR2.cell 0
  have r1 := kR2.cell 1
  have r2 := kR2.cell 2
  have r3 := kR2.cell 3
  have r4 := kR2.cell 4
  have r5 := kR2.cell 5
  have a0 := kA2.cell 0
  have a1 := kA2.cell 1
  have HPr3 := HPr w2 hxb
  clear HPr
  go_upto_region 8 with (go_at_call 12; refine HPr3.out.mono ?_; rintro e w3 ⟨go, gs, out, seen, rfl, b1, b2, kO, kS, hOk, hx3⟩)
  have kF3 := (kF2.ext hx3).alloc (.cells #[.int .i64 src, .slice (some ⟨go, 0, none⟩) N N, .slice (some ⟨gs, 0, none⟩) N N] 49)
  have kR3 := (kR2.ext hx3).alloc (.cells #[.int .i64 src, .slice (some ⟨go, 0, none⟩) N N, .slice (some ⟨gs, 0, none⟩) N N] 49)
  have kB3 := (kB2.ext hx3).alloc (.cells #[.int .i64 src, .slice (some ⟨go, 0, none⟩) N N, .slice (some ⟨gs, 0, none⟩) N N] 49)
  have kP3 : Bk (w3.alloc (.cells #[.int .i64 src, .slice (some ⟨go, 0, none⟩) N N, .slice (some ⟨gs, 0, none⟩) N N] 49)) w3.heap.size 49 #[.int .i64 src, .slice (some ⟨go, 0, none⟩) N N, .slice (some ⟨gs, 0, none⟩) N N] := Bk.new' rfl
  have kO3 := kO.alloc (.cells #[.int .i64 src, .slice (some ⟨go, 0, none⟩) N N, .slice (some ⟨gs, 0, none⟩) N N] 49)
  have kS3 := kS.alloc (.cells #[.int .i64 src, .slice (some ⟨go, 0, none⟩) N N, .slice (some ⟨gs, 0, none⟩) N N] 49)
  have hxc := (hxb.trans hx3).alloc (.cells #[.int .i64 src, .slice (some ⟨go, 0, none⟩) N N, .slice (some ⟨gs, 0, none⟩) N N] 49)
  clear f0 f1 f2 f3 f4 r0 r1 r2 r3 r4 r5 a0 a1 kF2 kR2 kA2 kB2 hxb hx3 kO kS HPr3 b1 b2
  generalize w3.alloc (.cells #[.int .i64 src, .slice (some ⟨go, 0, none⟩) N N, .slice (some ⟨gs, 0, none⟩) N N] 49) = w4 at *
  generalize w3.heap.size = hp at *
  have f0 := kF3.cell 0
  have f1 := kF3.cell 1
  have f2 := kF3.cell 2
  have f3 := kF3.cell 3
  have f4 := kF3.cell 4
  have b0 := kB3.cell 0
  have b1 := kB3.cell 1
  go_upto_region 9 with (go_at_call 13; refine ((HPl _).out).mono ?_; rintro e w5 ⟨rfl, hx5⟩)
  have kF5 := kF3.ext hx5
  have kR5 := kR3.ext hx5
  have kP5 := kP3.ext hx5
  have kO5 := kO3.ext hx5
  have kS5 := kS3.ext hx5
  have hxd := hxc.trans hx5
  clear f0 f1 f2 f3 f4 b0 b1 kF3 kR3 kB3 kP3 kO3 kS3 hxc hx5 HPl
  have p2 := kP5.cell 2
  have s1 : w5.cell? ⟨gs, tq, none⟩ = some (.bool (seen tq)) := by rw [kS5.cell]; exact bools_get _ ht
  have t0 : (0 : Int) ≤ tq := by omega
  have t1 : (tq : Int) < N := by omega
  cases hse : seen tq
  · rw [hse] at s1
    go_wp2
    go_ret3
    exact ⟨seen, out, hOk, hxd, .inl ⟨hse, rfl⟩⟩
  · rw [hse] at s1
    have HW1 := HWy go gs out seen
    clear HWy
    go_upto_region 11 with fail
    clear s1 p2
    have HSe := hidA hse
    have HOk := hidA hOk
    clear hse hOk
    have f0 : ∀ w', Ext w5 w' → w'.cell? ⟨hf, 0, none⟩ = some (.int .i64 X) := fun w' h => (kF5.ext h).cell 0
    have f1 : ∀ w', Ext w5 w' → w'.cell? ⟨hf, 1, none⟩ = some (.int .i64 Y) := fun w' h => (kF5.ext h).cell 1
    have f2 : ∀ w', Ext w5 w' → w'.cell? ⟨hf, 2, none⟩ = some (.int .i64 (Wn : Int)) := fun w' h => (kF5.ext h).cell 2
    have f3 : ∀ w', Ext w5 w' → w'.cell? ⟨hf, 3, none⟩ = some (.int .i64 (Hn : Int)) := fun w' h => (kF5.ext h).cell 3
    have f4 : ∀ w', Ext w5 w' → w'.cell? ⟨hf, 4, none⟩ = some (.slice A N c) := fun w' h => (kF5.ext h).cell 4
    have r0 : ∀ w', Ext w5 w' → w'.cell? ⟨hr, 0, none⟩ = some (.float .f32 R.gr) := fun w' h => (kR5.ext h).cell 0
    have r1 : ∀ w', Ext w5 w' → w'.cell? ⟨hr, 1, none⟩ = some (.float .f32 R.wt) := fun w' h => (kR5.ext h).cell 1
    have r2 : ∀ w', Ext w5 w' → w'.cell? ⟨hr, 2, none⟩ = some (.float .f32 R.br) := fun w' h => (kR5.ext h).cell 2
    have r3 : ∀ w', Ext w5 w' → w'.cell? ⟨hr, 3, none⟩ = some (.float .f32 R.de) := fun w' h => (kR5.ext h).cell 3
    have r4 : ∀ w', Ext w5 w' → w'.cell? ⟨hr, 4, none⟩ = some (.int .i64 (R.sp : Int)) := fun w' h => (kR5.ext h).cell 4
    have r5 : ∀ w', Ext w5 w' → w'.cell? ⟨hr, 5, none⟩ = some (.slice C m cc) := fun w' h => (kR5.ext h).cell 5
    have p0 : ∀ w', Ext w5 w' → w'.cell? ⟨hp, 0, none⟩ = some (.int .i64 src) := fun w' h => (kP5.ext h).cell 0
    have p1 : ∀ w', Ext w5 w' → w'.cell? ⟨hp, 1, none⟩ = some (.slice (some ⟨go, 0, none⟩) N N) := fun w' h => (kP5.ext h).cell 1
    have p2 : ∀ w', Ext w5 w' → w'.cell? ⟨hp, 2, none⟩ = some (.slice (some ⟨gs, 0, none⟩) N N) := fun w' h => (kP5.ext h).cell 2
    have o1 : ∀ w', Ext w5 w' → w'.cell? ⟨go, tq, none⟩ = some (.float .f32 (out tq)) := fun w' h => by rw [(kO5.ext h).cell]; exact flo_get _ ht
    have HW2 := fun (w' : World) (h : Ext w5 w') => HW1 w' (hxd.trans h) HOk.out (kO5.ext h)
    refine wp_region_noPanic ?_
    refine wp_region_held_drew (S := fun w' => Ext w5 w') (by kernel_rfl) ?_ (fun hHeld => ?_)
    · (repeat (first | exact Ext.refl _ | assumption | refine Ext.setCell ?_ (by first | (simp; done) | (simp; omega)) _ | refine Ext.drewN ?_ _ | refine Ext.alloc ?_ _ | refine Ext.drew ?_ | refine Ext.trans ?_ (by assumption)))
    refine wpAnyH_take (i := 0) (oi := ?o1x0) (v := ?v1x0) ?hi1x0 (by kernel_rfl) ?hf1x0 ?hr1x0 (fun _ _ _ h => h) ?hy1x0 (by assumption) ?rest1x0
    case hi1x0 => (simp only [List.getElem?_toArray, List.getElem?_cons_zero]; exact rfl)
    case hf1x0 => kernel_rfl
    case hr1x0 => kernel_rfl
    case hy1x0 => (refine Or.inl ⟨by rfl, ?_⟩; intro w hSw; (try dsimp only at hSw); go_simp; try with_reducible rfl)
    simp only [put_mk, List.set_cons_succ, List.set_cons_zero]
    refine wpAnyH_take (i := 1) (oi := ?o1x1) (v := ?v1x1) ?hi1x1 (by kernel_rfl) ?hf1x1 ?hr1x1 (fun _ _ _ h => h) ?hy1x1 (by assumption) ?rest1x1
    case hi1x1 => (simp only [List.getElem?_toArray, List.getElem?_cons_succ, List.getElem?_cons_zero]; exact rfl)
    case hf1x1 => kernel_rfl
    case hr1x1 => kernel_rfl
    case hy1x1 => (refine Or.inl ⟨by rfl, ?_⟩; intro w hSw; (try dsimp only at hSw); go_simp; try with_reducible rfl)
    simp only [put_mk, List.set_cons_succ, List.set_cons_zero]
    refine wpAnyH_take (i := 2) (oi := ?o1x2) (v := ?v1x2) ?hi1x2 (by kernel_rfl) ?hf1x2 ?hr1x2 (fun _ _ _ h => h) ?hy1x2 (by assumption) ?rest1x2
    case hi1x2 => (simp only [List.getElem?_toArray, List.getElem?_cons_succ, List.getElem?_cons_zero]; exact rfl)
    case hf1x2 => kernel_rfl
    case hr1x2 => kernel_rfl
    case hy1x2 => (refine Or.inl ⟨by rfl, ?_⟩; intro w hSw; (try dsimp only at hSw); go_simp; try with_reducible rfl)
    simp only [put_mk, List.set_cons_succ, List.set_cons_zero]
    refine wpAnyH_take (i := 3) (oi := ?o1x3) (v := ?v1x3) ?hi1x3 (by kernel_rfl) ?hf1x3 ?hr1x3 (fun _ _ _ h => h) ?hy1x3 (by assumption) ?rest1x3
    case hi1x3 => (simp only [List.getElem?_toArray, List.getElem?_cons_succ, List.getElem?_cons_zero]; exact rfl)
    case hf1x3 => kernel_rfl
    case hr1x3 => kernel_rfl
    case hy1x3 => (refine Or.inl ⟨by rfl, ?_⟩; intro w hSw; (try dsimp only at hSw); go_simp; try with_reducible rfl)
    simp only [put_mk, List.set_cons_succ, List.set_cons_zero]
    refine wpAnyH_take (i := 4) (oi := ?o1x4) (v := ?v1x4) ?hi1x4 (by kernel_rfl) ?hf1x4 ?hr1x4 (fun _ _ _ h => h) ?hy1x4 (by assumption) ?rest1x4
    case hi1x4 => (simp only [List.getElem?_toArray, List.getElem?_cons_succ, List.getElem?_cons_zero]; exact rfl)
    case hf1x4 => kernel_rfl
    case hr1x4 => kernel_rfl
    case hy1x4 => (refine Or.inl ⟨by rfl, ?_⟩; intro w hSw; (try dsimp only at hSw); go_simp; try with_reducible rfl)
    simp only [put_mk, List.set_cons_succ, List.set_cons_zero]
    refine wpAnyH_take (i := 6) (oi := ?o1x6) (v := ?v1x6) ?hi1x6 (by kernel_rfl) ?hf1x6 ?hr1x6 (fun _ _ _ h => h) ?hy1x6 (by assumption) ?rest1x6
    case hi1x6 => (simp only [List.getElem?_toArray, List.getElem?_cons_succ, List.getElem?_cons_zero]; exact rfl)
    case hf1x6 => kernel_rfl
    case hr1x6 => kernel_rfl
    case hy1x6 => (refine Or.inl ⟨by rfl, ?_⟩; intro w hSw; (try dsimp only at hSw); go_simp; try with_reducible rfl)
    simp only [put_mk, List.set_cons_succ, List.set_cons_zero]
    refine wpAnyH_take (i := 7) (oi := ?o1x7) (v := ?v1x7) ?hi1x7 (by kernel_rfl) ?hf1x7 ?hr1x7 (fun _ _ _ h => h) ?hy1x7 (by assumption) ?rest1x7
    case hi1x7 => (simp only [List.getElem?_toArray, List.getElem?_cons_succ, List.getElem?_cons_zero]; exact rfl)
    case hf1x7 => kernel_rfl
    case hr1x7 => kernel_rfl
    case hy1x7 => (refine Or.inl ⟨by rfl, ?_⟩; intro w hSw; (try dsimp only at hSw); go_simp; try with_reducible rfl)
    simp only [put_mk, List.set_cons_succ, List.set_cons_zero]
    refine wpAnyH_take (i := 8) (oi := ?o1x8) (v := ?v1x8) ?hi1x8 (by kernel_rfl) ?hf1x8 ?hr1x8 (fun _ _ _ h => h) ?hy1x8 (by assumption) ?rest1x8
    case hi1x8 => (simp only [List.getElem?_toArray, List.getElem?_cons_succ, List.getElem?_cons_zero]; exact rfl)
    case hf1x8 => kernel_rfl
    case hr1x8 => kernel_rfl
    case hy1x8 => (refine Or.inl ⟨by rfl, ?_⟩; intro w hSw; (try dsimp only at hSw); go_simp; try with_reducible rfl)
    simp only [put_mk, List.set_cons_succ, List.set_cons_zero]
    refine wpAnyH_take (i := 9) (oi := ?o1x9) (v := ?v1x9) ?hi1x9 (by kernel_rfl) ?hf1x9 ?hr1x9 (fun _ _ _ h => h) ?hy1x9 (by assumption) ?rest1x9
    case hi1x9 => (simp only [List.getElem?_toArray, List.getElem?_cons_succ, List.getElem?_cons_zero]; exact rfl)
    case hf1x9 => kernel_rfl
    case hr1x9 => kernel_rfl
    case hy1x9 => (refine Or.inl ⟨by rfl, ?_⟩; intro w hSw; (try dsimp only at hSw); go_simp; try with_reducible rfl)
    simp only [put_mk, List.set_cons_succ, List.set_cons_zero]
    refine wpAnyH_take (i := 10) (oi := ?o1x10) (v := ?v1x10) ?hi1x10 (by kernel_rfl) ?hf1x10 ?hr1x10 (fun _ _ _ h => h) ?hy1x10 (by assumption) ?rest1x10
    case hi1x10 => (simp only [List.getElem?_toArray, List.getElem?_cons_succ, List.getElem?_cons_zero]; exact rfl)
    case hf1x10 => kernel_rfl
    case hr1x10 => kernel_rfl
    case hy1x10 => (refine Or.inl ⟨by rfl, ?_⟩; intro w hSw; (try dsimp only at hSw); go_simp; try with_reducible rfl)
    simp only [put_mk, List.set_cons_succ, List.set_cons_zero]
    refine wpAnyH_ready (rs := [5]) (by kernel_rfl) (by simp) ?_
    refine AllReadyH.cons (o := ?o1x5) ?hi1x5 (fun K hK => ?_) AllReadyH.nil
    case hi1x5 => (simp only [List.getElem?_toArray, List.getElem?_cons_succ, List.getElem?_cons_zero]; exact rfl)
    go_simp
    go_at_call 14; refine ((HW2 _ (by repeat (first | exact Ext.refl _ | assumption | refine Ext.setCell ?_ (by first | (simp; done) | (simp; omega)) _ | refine Ext.drewN ?_ _ | refine Ext.alloc ?_ _ | refine Ext.drew ?_ | refine Ext.trans ?_ (by assumption)))).out).mono ?_; rintro e w7 ⟨H, hHop, xs, g, cap, hch, hle, rfl, hg7, hrd, hx7, hcap, h17⟩
    refine hK.out _ _ ?_ (fun hHeld => ?_)
    · (repeat (first | exact Ext.refl _ | assumption | refine Ext.setCell ?_ (by first | (simp; done) | (simp; omega)) _ | refine Ext.drewN ?_ _ | refine Ext.alloc ?_ _ | refine Ext.drew ?_ | refine Ext.trans ?_ (by assumption)))
    clear hK K
    refine wpAnyH_take (i := 11) (oi := ?o1x11) (v := ?v1x11) ?hi1x11 (by kernel_rfl) ?hf1x11 ?hr1x11 (fun _ _ _ h => h) ?hy1x11 (by assumption) ?rest1x11
    case hi1x11 => (simp only [List.getElem?_toArray, List.getElem?_cons_succ, List.getElem?_cons_zero]; exact rfl)
    case hf1x11 => kernel_rfl
    case hr1x11 => kernel_rfl
    case hy1x11 => (refine Or.inl ⟨by rfl, ?_⟩; intro w hSw; (try dsimp only at hSw); go_simp; try with_reducible rfl)
    simp only [put_mk, List.set_cons_succ, List.set_cons_zero]
    refine wpAnyH_take (i := 12) (oi := ?o1x12) (v := ?v1x12) ?hi1x12 (by kernel_rfl) ?hf1x12 ?hr1x12 (fun _ _ _ h => h) ?hy1x12 (by assumption) ?rest1x12
    case hi1x12 => (simp only [List.getElem?_toArray, List.getElem?_cons_succ, List.getElem?_cons_zero]; exact rfl)
    case hf1x12 => kernel_rfl
    case hr1x12 => kernel_rfl
    case hy1x12 => (refine Or.inl ⟨by rfl, ?_⟩; intro w hSw; (try dsimp only at hSw); go_simp; try with_reducible rfl)
    simp only [put_mk, List.set_cons_succ, List.set_cons_zero]
    refine wpAnyH_take (i := 13) (oi := ?o1x13) (v := ?v1x13) ?hi1x13 (by kernel_rfl) ?hf1x13 ?hr1x13 (fun _ _ _ h => h) ?hy1x13 (by assumption) ?rest1x13
    case hi1x13 => (simp only [List.getElem?_toArray, List.getElem?_cons_succ, List.getElem?_cons_zero]; exact rfl)
    case hf1x13 => kernel_rfl
    case hr1x13 => kernel_rfl
    case hy1x13 => (refine Or.inl ⟨by rfl, ?_⟩; intro w hSw; (try dsimp only at hSw); go_simp; try with_reducible rfl)
    simp only [put_mk, List.set_cons_succ, List.set_cons_zero]
    refine wpAnyH_done (by kernel_rfl) ?_ _
    refine NoPanic.normal ?_
    go_wp2_with fail
    go_ret3
    exact ⟨seen, out, HOk.out, hxd.trans hHeld, .inr ⟨HSe.out, H, xs, g, cap, hHop, hch, hle, h17, hcap, rfl, hrd⟩⟩
end Go.Proofs.Ytbjomkidjccdoaa

namespace Go.Proofs.Ytbjomkidjccdoaa
open Go.RowKit
attribute [local go_sem ↓] Go.wp_at_zero Go.wp_at_succ
attribute [local go_sem] run_store_float

set_option maxRecDepth 100000 in
set_option maxHeartbeats 6400000 in
theorem Way_bad (X Y W H : Int) (A : Option Addr) (n c : Nat) (lf : List Nat) (gr wt br de : Nat) (sp : Int) (C : Option Addr) (m cc : Nat) (X' Y' W' H' : Int) (l : List Nat) (ax ay bx by' : Int) (w : World) (hn : lf.length = n) (hV : Rd w A (flt lf)) (hb : n ≤ 140737488351232) (hC : CoP w C m X' Y' W' H' l) (hm : m ≤ 140737488351232) (hE : grndE X Y W H lf gr wt br de sp m X' Y' W' H' l ≠ 0) :
    Calls Try.prog 5 #[.agg #[.int .i64 X, .int .i64 Y, .int .i64 W, .int .i64 H, .slice A n c], .agg #[.float .f32 gr, .float .f32 wt, .float .f32 br, .float .f32 de, .int .i64 sp, .slice C m cc], .agg #[.int .i64 ax, .int .i64 ay], .agg #[.int .i64 bx, .int .i64 by']] w fun e w' => e = .returned (.tuple #[.slice none 0 0, .float .f32 0, .int .i64 (grndE X Y W H lf gr wt br de sp m X' Y' W' H' l)]) ∧ Ext w w' := by
  have HC := fun (w' : World) (h : Ext w w') => hidA (chk_any X Y W H A n c lf gr wt br de sp C m cc X' Y' W' H' l w' hn (hV.ext h) hb (hC.ext h) hm)
  have hne : (grndE X Y W H lf gr wt br de sp m X' Y' W' H' l != 0) = true := by simpa using hE
  generalize grndE X Y W H lf gr wt br de sp m X' Y' W' H' l = E at *
  clear hn hV hb hC hm hE
  go_enter Try.func5, Try.ntmps5
  go_upto_region 1 with fail
  obtain ⟨w0, hw0⟩ : ∃ w0, w0 = (((w.alloc (.cells #[.int .i64 X, .int .i64 Y, .int .i64 W, .int .i64 H, .slice A n c] 26)).alloc (.cells #[.float .f32 gr, .float .f32 wt, .float .f32 br, .float .f32 de, .int .i64 sp, .slice C m cc] 30)).alloc (.cells #[.int .i64 ax, .int .i64 ay] 32)).alloc (.cells #[.int .i64 bx, .int .i64 by'] 32) := ⟨_, rfl⟩
  have kF : Bk w0 w.heap.size 26 #[.int .i64 X, .int .i64 Y, .int .i64 W, .int .i64 H, .slice A n c] := by rw [hw0]; exact (((Bk.new' rfl).alloc _).alloc _).alloc _
  have kR : Bk w0 (w.heap.size + 1) 30 #[.float .f32 gr, .float .f32 wt, .float .f32 br, .float .f32 de, .int .i64 sp, .slice C m cc] := by rw [hw0]; exact ((Bk.new' (by simp)).alloc _).alloc _
  have kA : Bk w0 (w.heap.size + 1 + 1) 32 #[.int .i64 ax, .int .i64 ay] := by rw [hw0]; exact (Bk.new' (by simp)).alloc _
  have kB : Bk w0 (w.heap.size + 1 + 1 + 1) 32 #[.int .i64 bx, .int .i64 by'] := by rw [hw0]; exact Bk.new' (by simp)
  have hx0 : Ext w w0 := by rw [hw0]; exact ((((Ext.refl w).alloc _).alloc _).alloc _).alloc _
  rw [← hw0]
  clear hw0
  generalize w.heap.size + 1 + 1 + 1 = hb at *
  generalize w.heap.size + 1 + 1 = ha at *
  generalize w.heap.size + 1 = hr at *
  generalize hfe : w.heap.size = hf at *
  clear hfe
  have f0 := kF.cell 0
  have f1 := kF.cell 1
  have f2 := kF.cell 2
  have f3 := kF.cell 3
  have f4 := kF.cell 4
  have r0 := kR.cell 0
  have r1 := kR.cell 1
  have r2 := kR.cell 2
  have r3 := kR.cell 3
  have r4 := kR.cell 4
  have r5 := kR.cell 5
  clear kF kR kA kB
  go_wp2_with (go_at_call 10; refine ((HC _ hx0).out).mono ?_; rintro e w1 ⟨rfl, hx1⟩)
  go_ret3
  exact ⟨rfl, hx0.trans hx1⟩
set_option maxRecDepth 100000 in
set_option maxHeartbeats 6400000 in
theorem Way_out (X Y : Int) (Wn Hn : Nat) (A : Option Addr) (N c : Nat) (lf : List Nat) (gr wt br de : Nat) (sp : Int) (C : Option Addr) (m cc : Nat) (X' Y' W' H' : Int) (l : List Nat) (ax ay bx by' : Int) (w : World) (hr : Reg X Y Wn Hn) (hn : lf.length = N) (hV : Rd w A (flt lf)) (hb : N ≤ 140737488351232) (hC : CoP w C m X' Y' W' H' l) (hm : m ≤ 140737488351232) (hE : grndE X Y Wn Hn lf gr wt br de sp m X' Y' W' H' l = 0) (hi : insE X Y Wn Hn [(ax, ay), (bx, by')] ≠ 0) :
    Calls Try.prog 5 #[.agg #[.int .i64 X, .int .i64 Y, .int .i64 (Wn : Int), .int .i64 (Hn : Int), .slice A N c], .agg #[.float .f32 gr, .float .f32 wt, .float .f32 br, .float .f32 de, .int .i64 sp, .slice C m cc], .agg #[.int .i64 ax, .int .i64 ay], .agg #[.int .i64 bx, .int .i64 by']] w fun e w' => e = .returned (.tuple #[.slice none 0 0, .float .f32 0, .int .i64 (insE X Y Wn Hn [(ax, ay), (bx, by')])]) ∧ Ext w w' := by
  have HC := fun (w' : World) (h : Ext w w') => hidA (chk_any X Y Wn Hn A N c lf gr wt br de sp C m cc X' Y' W' H' l w' hn (hV.ext h) hb (hC.ext h) hm)
  rw [hE] at HC
  have HI := fun (w' : World) (B : Option Addr) (h : Rd w' B (ptv [(ax, ay), (bx, by')])) => hidA (inside_any X Y Wn Hn A B N c 2 2 [(ax, ay), (bx, by')] w' hr.ok rfl h (by omega))
  have hne : (insE X Y Wn Hn [(ax, ay), (bx, by')] != 0) = true := by simpa using hi
  generalize insE X Y Wn Hn [(ax, ay), (bx, by')] = E at *
  clear hn hV hb hC hm hE hi hr
  go_enter Try.func5, Try.ntmps5
  go_upto_region 1 with fail
  obtain ⟨w0, hw0⟩ : ∃ w0, w0 = (((w.alloc (.cells #[.int .i64 X, .int .i64 Y, .int .i64 (Wn : Int), .int .i64 (Hn : Int), .slice A N c] 26)).alloc (.cells #[.float .f32 gr, .float .f32 wt, .float .f32 br, .float .f32 de, .int .i64 sp, .slice C m cc] 30)).alloc (.cells #[.int .i64 ax, .int .i64 ay] 32)).alloc (.cells #[.int .i64 bx, .int .i64 by'] 32) := ⟨_, rfl⟩
  have kF : Bk w0 w.heap.size 26 #[.int .i64 X, .int .i64 Y, .int .i64 (Wn : Int), .int .i64 (Hn : Int), .slice A N c] := by rw [hw0]; exact (((Bk.new' rfl).alloc _).alloc _).alloc _
  have kR : Bk w0 (w.heap.size + 1) 30 #[.float .f32 gr, .float .f32 wt, .float .f32 br, .float .f32 de, .int .i64 sp, .slice C m cc] := by rw [hw0]; exact ((Bk.new' (by simp)).alloc _).alloc _
  have kA : Bk w0 (w.heap.size + 1 + 1) 32 #[.int .i64 ax, .int .i64 ay] := by rw [hw0]; exact (Bk.new' (by simp)).alloc _
  have kB : Bk w0 (w.heap.size + 1 + 1 + 1) 32 #[.int .i64 bx, .int .i64 by'] := by rw [hw0]; exact Bk.new' (by simp)
  have hx0 : Ext w w0 := by rw [hw0]; exact ((((Ext.refl w).alloc _).alloc _).alloc _).alloc _
  rw [← hw0]
  clear hw0
  generalize w.heap.size + 1 + 1 + 1 = hb at *
  generalize w.heap.size + 1 + 1 = ha at *
  generalize w.heap.size + 1 = hr at *
  generalize hfe : w.heap.size = hf at *
  clear hfe
  have f0 := kF.cell 0
  have f1 := kF.cell 1
  have f2 := kF.cell 2
  have f3 := kF.cell 3
  have f4 := kF.cell 4
  have r0 := kR.cell 0
  have r1 := kR.cell 1
  have r2 := kR.cell 2
  have r3 := kR.cell 3
  have r4 := kR.cell 4
  have r5 := kR.cell 5
  go_upto_region 4 with (go_at_call 10; refine ((HC _ hx0).out).mono ?_; rintro e w1 ⟨rfl, hx1⟩)
  have kF1 := kF.ext hx1
  have kA1 := kA.ext hx1
  have kB1 := kB.ext hx1
  have hxa := hx0.trans hx1
  clear f0 f1 f2 f3 f4 r0 r1 r2 r3 r4 r5 kF kR kA kB hx0 hx1 HC
  have f0 := kF1.cell 0
  have f1 := kF1.cell 1
  have f2 := kF1.cell 2
  have f3 := kF1.cell 3
  have f4 := kF1.cell 4
  have a0 := kA1.cell 0
  have a1 := kA1.cell 1
  have b0 := kB1.cell 0
  have b1 := kB1.cell 1
  go_wp2_with (go_at_call 11; refine ((HI _ _ (Rd.new rfl rfl)).out).mono ?_; rintro e w2 ⟨rfl, hx2⟩)
  go_ret3
  exact ⟨rfl, hxa.trans (by repeat (first | exact Ext.refl _ | assumption | refine Ext.setCell ?_ (by first | (simp; done) | (simp; omega)) _ | refine Ext.drewN ?_ _ | refine Ext.alloc ?_ _ | refine Ext.drew ?_ | refine Ext.trans ?_ (by assumption)))⟩
end Go.Proofs.Ytbjomkidjccdoaa

namespace Go.Proofs.Ytbjomkidjccdoaa
open Go.RowKit
attribute [local go_sem ↓] Go.wp_at_zero Go.wp_at_succ
attribute [local go_sem] run_store_float

set_option maxRecDepth 100000 in
set_option maxHeartbeats 6400000 in
theorem pf_bad (X Y W H : Int) (A : Option Addr) (n c : Nat) (lf : List Nat) (gr wt br de : Nat) (sp : Int) (C : Option Addr) (m cc : Nat) (X' Y' W' H' : Int) (l : List Nat) (ax ay : Int) (w : World) (hn : lf.length = n) (hV : Rd w A (flt lf)) (hb : n ≤ 140737488351232) (hC : CoP w C m X' Y' W' H' l) (hm : m ≤ 140737488351232) (hE : grndE X Y W H lf gr wt br de sp m X' Y' W' H' l ≠ 0) :
    Calls Try.prog 12 #[.agg #[.int .i64 X, .int .i64 Y, .int .i64 W, .int .i64 H, .slice A n c], .agg #[.float .f32 gr, .float .f32 wt, .float .f32 br, .float .f32 de, .int .i64 sp, .slice C m cc], .agg #[.int .i64 ax, .int .i64 ay]] w fun e w' => e = .returned (.tuple #[.agg #[.int .i64 0, .slice none 0 0, .slice none 0 0], .int .i64 (grndE X Y W H lf gr wt br de sp m X' Y' W' H' l)]) ∧ Ext w w' := by
  have HC := fun (w' : World) (h : Ext w w') => hidA (chk_any X Y W H A n c lf gr wt br de sp C m cc X' Y' W' H' l w' hn (hV.ext h) hb (hC.ext h) hm)
  have hne : (grndE X Y W H lf gr wt br de sp m X' Y' W' H' l != 0) = true := by simpa using hE
  generalize grndE X Y W H lf gr wt br de sp m X' Y' W' H' l = E at *
  clear hn hV hb hC hm hE
  go_enter Try.func12, Try.ntmps12
  go_upto_region 1 with fail
  obtain ⟨w0, hw0⟩ : ∃ w0, w0 = (((w.alloc (.cells #[.int .i64 X, .int .i64 Y, .int .i64 W, .int .i64 H, .slice A n c] 26)).alloc (.cells #[.float .f32 gr, .float .f32 wt, .float .f32 br, .float .f32 de, .int .i64 sp, .slice C m cc] 30)).alloc (.cells #[.int .i64 ax, .int .i64 ay] 32)).alloc (.cells #[.int .i64 0, .slice none 0 0, .slice none 0 0] 49) := ⟨_, rfl⟩
  have kF : Bk w0 w.heap.size 26 #[.int .i64 X, .int .i64 Y, .int .i64 W, .int .i64 H, .slice A n c] := by rw [hw0]; exact (((Bk.new' rfl).alloc _).alloc _).alloc _
  have kR : Bk w0 (w.heap.size + 1) 30 #[.float .f32 gr, .float .f32 wt, .float .f32 br, .float .f32 de, .int .i64 sp, .slice C m cc] := by rw [hw0]; exact ((Bk.new' (by simp)).alloc _).alloc _
  have kA : Bk w0 (w.heap.size + 1 + 1) 32 #[.int .i64 ax, .int .i64 ay] := by rw [hw0]; exact (Bk.new' (by simp)).alloc _
  have kZ : Bk w0 (w.heap.size + 1 + 1 + 1) 49 #[.int .i64 0, .slice none 0 0, .slice none 0 0] := by rw [hw0]; exact Bk.new' (by simp)
  have hx0 : Ext w w0 := by rw [hw0]; exact ((((Ext.refl w).alloc _).alloc _).alloc _).alloc _
  rw [← hw0]
  clear hw0
  have hzl : w.heap.size ≤ w.heap.size + 1 + 1 + 1 := by omega
  generalize w.heap.size + 1 + 1 + 1 = hz at *
  generalize w.heap.size + 1 + 1 = ha at *
  generalize w.heap.size + 1 = hr' at *
  generalize hfe : w.heap.size = hf at kF ⊢
  have Hzl := hidA hzl
  clear hfe hzl
  have f0 := kF.cell 0
  have f1 := kF.cell 1
  have f2 := kF.cell 2
  have f3 := kF.cell 3
  have f4 := kF.cell 4
  have r0 := kR.cell 0
  have r1 := kR.cell 1
  have r2 := kR.cell 2
  have r3 := kR.cell 3
  have r4 := kR.cell 4
  have r5 := kR.cell 5
  go_upto_region 3 with (go_at_call 10; refine ((HC _ hx0).out).mono ?_; rintro e w1 ⟨rfl, hx1⟩)
  have kZ1 := kZ.ext hx1
  have hxa := hx0.trans hx1
  clear f0 f1 f2 f3 f4 r0 r1 r2 r3 r4 r5 kF kR kA kZ hx0 hx1 HC
  have z0 := kZ1.cell 0
  have z1 := kZ1.cell 1
  have z2 := kZ1.cell 2
  have y0 := kZ1.frozen 0
  have y1 := kZ1.frozen 1
  have y2 := kZ1.frozen 2
  have hx9 := hidA (((hxa.setCell (p := ⟨hz, 0, none⟩) Hzl.out (.int .i64 0)).setCell (p := ⟨hz, 1, none⟩) Hzl.out (.slice none 0 0)).setCell (p := ⟨hz, 2, none⟩) Hzl.out (.slice none 0 0))
  have kZ9 := ((kZ1.set 0 (.int .i64 0)).set 1 (.slice none 0 0)).set 2 (.slice none 0 0)
  have q0 := kZ9.cell 0
  have q1 := kZ9.cell 1
  have q2 := kZ9.cell 2
  clear kZ1 kZ9 hxa
  go_wp2
  refine bodyPost_ret (v := .tuple #[.agg #[.int .i64 0, .slice none 0 0, .slice none 0 0], .int .i64 E]) (by simp [results, Try.results12, go_sem, q0, q1, q2]) rfl ⟨rfl, hx9.out⟩
set_option maxRecDepth 100000 in
set_option maxHeartbeats 6400000 in
theorem pf_out (X Y W H : Int) (A : Option Addr) (n c : Nat) (lf : List Nat) (gr wt br de : Nat) (sp : Int) (C : Option Addr) (m cc : Nat) (X' Y' W' H' : Int) (l : List Nat) (ax ay : Int) (w : World) (hn : lf.length = n) (hV : Rd w A (flt lf)) (hb : n ≤ 140737488351232) (hC : CoP w C m X' Y' W' H' l) (hm : m ≤ 140737488351232) (hr : RegOk X Y W H) (hE : grndE X Y W H lf gr wt br de sp m X' Y' W' H' l = 0) (hi : insE X Y W H [(ax, ay)] ≠ 0) :
    Calls Try.prog 12 #[.agg #[.int .i64 X, .int .i64 Y, .int .i64 W, .int .i64 H, .slice A n c], .agg #[.float .f32 gr, .float .f32 wt, .float .f32 br, .float .f32 de, .int .i64 sp, .slice C m cc], .agg #[.int .i64 ax, .int .i64 ay]] w fun e w' => e = .returned (.tuple #[.agg #[.int .i64 0, .slice none 0 0, .slice none 0 0], .int .i64 (insE X Y W H [(ax, ay)])]) ∧ Ext w w' := by
  have HC := fun (w' : World) (h : Ext w w') => hidA (chk_any X Y W H A n c lf gr wt br de sp C m cc X' Y' W' H' l w' hn (hV.ext h) hb (hC.ext h) hm)
  rw [hE] at HC
  have HI := fun (w' : World) (B : Option Addr) (h : Rd w' B (ptv [(ax, ay)])) => hidA (inside_any X Y W H A B n c 1 1 [(ax, ay)] w' hr rfl h (by omega))
  have hne : (insE X Y W H [(ax, ay)] != 0) = true := by simpa using hi
  generalize insE X Y W H [(ax, ay)] = E at *
  clear hn hV hb hC hm hE hi hr
  go_enter Try.func12, Try.ntmps12
  go_upto_region 1 with fail
  obtain ⟨w0, hw0⟩ : ∃ w0, w0 = (((w.alloc (.cells #[.int .i64 X, .int .i64 Y, .int .i64 W, .int .i64 H, .slice A n c] 26)).alloc (.cells #[.float .f32 gr, .float .f32 wt, .float .f32 br, .float .f32 de, .int .i64 sp, .slice C m cc] 30)).alloc (.cells #[.int .i64 ax, .int .i64 ay] 32)).alloc (.cells #[.int .i64 0, .slice none 0 0, .slice none 0 0] 49) := ⟨_, rfl⟩
  have kF : Bk w0 w.heap.size 26 #[.int .i64 X, .int .i64 Y, .int .i64 W, .int .i64 H, .slice A n c] := by rw [hw0]; exact (((Bk.new' rfl).alloc _).alloc _).alloc _
  have kR : Bk w0 (w.heap.size + 1) 30 #[.float .f32 gr, .float .f32 wt, .float .f32 br, .float .f32 de, .int .i64 sp, .slice C m cc] := by rw [hw0]; exact ((Bk.new' (by simp)).alloc _).alloc _
  have kA : Bk w0 (w.heap.size + 1 + 1) 32 #[.int .i64 ax, .int .i64 ay] := by rw [hw0]; exact (Bk.new' (by simp)).alloc _
  have kZ : Bk w0 (w.heap.size + 1 + 1 + 1) 49 #[.int .i64 0, .slice none 0 0, .slice none 0 0] := by rw [hw0]; exact Bk.new' (by simp)
  have hx0 : Ext w w0 := by rw [hw0]; exact ((((Ext.refl w).alloc _).alloc _).alloc _).alloc _
  rw [← hw0]
  clear hw0
  have hzl : w.heap.size ≤ w.heap.size + 1 + 1 + 1 := by omega
  generalize w.heap.size + 1 + 1 + 1 = hz at *
  generalize w.heap.size + 1 + 1 = ha at *
  generalize w.heap.size + 1 = hr' at *
  generalize hfe : w.heap.size = hf at kF ⊢
  have Hzl := hidA hzl
  clear hfe hzl
  have f0 := kF.cell 0
  have f1 := kF.cell 1
  have f2 := kF.cell 2
  have f3 := kF.cell 3
  have f4 := kF.cell 4
  have r0 := kR.cell 0
  have r1 := kR.cell 1
  have r2 := kR.cell 2
  have r3 := kR.cell 3
  have r4 := kR.cell 4
  have r5 := kR.cell 5
  go_upto_region 4 with (go_at_call 10; refine ((HC _ hx0).out).mono ?_; rintro e w1 ⟨rfl, hx1⟩)
  have kF1 := kF.ext hx1
  have kA1 := kA.ext hx1
  have kZ0 := kZ.ext hx1
  have hxb := hx0.trans hx1
  clear f0 f1 f2 f3 f4 r0 r1 r2 r3 r4 r5 kF kR kA kZ hx0 hx1 HC
  have f0 := kF1.cell 0
  have f1 := kF1.cell 1
  have f2 := kF1.cell 2
  have f3 := kF1.cell 3
  have f4 := kF1.cell 4
  have a0 := kA1.cell 0
  have a1 := kA1.cell 1
  go_upto_region 6 with (go_at_call 11; refine ((HI _ _ (Rd.new rfl rfl)).out).mono ?_; rintro e w2 ⟨rfl, hx2⟩)
  have kZ1 := (kZ0.alloc (.cells #[.int .i64 ax, .int .i64 ay] 32)).ext hx2
  have hxa := (hxb.alloc (.cells #[.int .i64 ax, .int .i64 ay] 32)).trans hx2
  clear f0 f1 f2 f3 f4 a0 a1 kF1 kA1 kZ0 hxb hx2 HI
  have z0 := kZ1.cell 0
  have z1 := kZ1.cell 1
  have z2 := kZ1.cell 2
  have y0 := kZ1.frozen 0
  have y1 := kZ1.frozen 1
  have y2 := kZ1.frozen 2
  have hx9 := hidA (((hxa.setCell (p := ⟨hz, 0, none⟩) Hzl.out (.int .i64 0)).setCell (p := ⟨hz, 1, none⟩) Hzl.out (.slice none 0 0)).setCell (p := ⟨hz, 2, none⟩) Hzl.out (.slice none 0 0))
  have kZ9 := ((kZ1.set 0 (.int .i64 0)).set 1 (.slice none 0 0)).set 2 (.slice none 0 0)
  have q0 := kZ9.cell 0
  have q1 := kZ9.cell 1
  have q2 := kZ9.cell 2
  clear kZ1 kZ9 hxa
  go_wp2
  refine bodyPost_ret (v := .tuple #[.agg #[.int .i64 0, .slice none 0 0, .slice none 0 0], .int .i64 E]) (by simp [results, Try.results12, go_sem, q0, q1, q2]) rfl ⟨rfl, hx9.out⟩
set_option maxRecDepth 100000 in
set_option maxHeartbeats 6400000 in
/-- Costs hands on what pricesFrom gives -/
theorem Costs_of (X Y W H : Int) (A : Option Addr) (n c : Nat) (gr wt br de : Nat) (sp : Int) (C : Option Addr) (m cc : Nat) (ax ay : Int) (w : World) (Q : Value → Value → Int → World → Prop) (hQ : ∀ v u e w1 w2, Q v u e w1 → Ext w1 w2 → Q v u e w2)
    (HP : ∀ w', Ext w w' → Hid (Calls Try.prog 12 #[.agg #[.int .i64 X, .int .i64 Y, .int .i64 W, .int .i64 H, .slice A n c], .agg #[.float .f32 gr, .float .f32 wt, .float .f32 br, .float .f32 de, .int .i64 sp, .slice C m cc], .agg #[.int .i64 ax, .int .i64 ay]] w' fun e w'' => ∃ (a : Int) (A1 A2 : Option Addr) (n1 n2 c1 c2 : Nat) (ev : Int), e = .returned (.tuple #[.agg #[.int .i64 a, .slice A1 n1 c1, .slice A2 n2 c2], .int .i64 ev]) ∧ Ext w' w'' ∧ Q (.slice A1 n1 c1) (.slice A2 n2 c2) ev w'')) :
    Calls Try.prog 6 #[.agg #[.int .i64 X, .int .i64 Y, .int .i64 W, .int .i64 H, .slice A n c], .agg #[.float .f32 gr, .float .f32 wt, .float .f32 br, .float .f32 de, .int .i64 sp, .slice C m cc], .agg #[.int .i64 ax, .int .i64 ay]] w fun e w' => ∃ (A1 A2 : Option Addr) (n1 n2 c1 c2 : Nat) (ev : Int), e = .returned (.tuple #[.slice A1 n1 c1, .slice A2 n2 c2, .int .i64 ev]) ∧ Ext w w' ∧ Q (.slice A1 n1 c1) (.slice A2 n2 c2) ev w' := by
  go_enter Try.func6, Try.ntmps6
  go_upto_region 1 with fail
  obtain ⟨w0, hw0⟩ : ∃ w0, w0 = ((w.alloc (.cells #[.int .i64 X, .int .i64 Y, .int .i64 W, .int .i64 H, .slice A n c] 26)).alloc (.cells #[.float .f32 gr, .float .f32 wt, .float .f32 br, .float .f32 de, .int .i64 sp, .slice C m cc] 30)).alloc (.cells #[.int .i64 ax, .int .i64 ay] 32) := ⟨_, rfl⟩
  have kF : Bk w0 w.heap.size 26 #[.int .i64 X, .int .i64 Y, .int .i64 W, .int .i64 H, .slice A n c] := by rw [hw0]; exact ((Bk.new' rfl).alloc _).alloc _
  have kR : Bk w0 (w.heap.size + 1) 30 #[.float .f32 gr, .float .f32 wt, .float .f32 br, .float .f32 de, .int .i64 sp, .slice C m cc] := by rw [hw0]; exact (Bk.new' (by simp)).alloc _
  have kA : Bk w0 (w.heap.size + 1 + 1) 32 #[.int .i64 ax, .int .i64 ay] := by rw [hw0]; exact Bk.new' (by simp)
  have hx0 : Ext w w0 := by rw [hw0]; exact (((Ext.refl w).alloc _).alloc _).alloc _
  rw [← hw0]
  clear hw0
  generalize w.heap.size + 1 + 1 = ha at *
  generalize w.heap.size + 1 = hr' at *
  generalize hfe : w.heap.size = hf at kF ⊢
  clear hfe
  have f0 := kF.cell 0
  have f1 := kF.cell 1
  have f2 := kF.cell 2
  have f3 := kF.cell 3
  have f4 := kF.cell 4
  have r0 := kR.cell 0
  have r1 := kR.cell 1
  have r2 := kR.cell 2
  have r3 := kR.cell 3
  have r4 := kR.cell 4
  have r5 := kR.cell 5
  have a0 := kA.cell 0
  have a1 := kA.cell 1
  go_upto_region 2 with (go_at_call 12; refine ((HP _ hx0).out).mono ?_; rintro e w1 ⟨a, A1, A2, n1, n2, c1, c2, ev, rfl, hx1, hq⟩)
  clear f0 f1 f2 f3 f4 r0 r1 r2 r3 r4 r5 a0 a1 kF kR kA HP
  have kZ : Bk (w1.alloc (.cells #[.int .i64 a, .slice A1 n1 c1, .slice A2 n2 c2] 49)) w1.heap.size 49 #[.int .i64 a, .slice A1 n1 c1, .slice A2 n2 c2] := Bk.new' rfl
  have hxz := (Ext.refl w1).alloc (.cells #[.int .i64 a, .slice A1 n1 c1, .slice A2 n2 c2] 49)
  have Hq2 := hidA (hQ _ _ _ _ _ hq hxz)
  have hxw := (hx0.trans hx1).trans hxz
  clear hq hx0 hx1 hxz
  generalize w1.alloc (.cells #[.int .i64 a, .slice A1 n1 c1, .slice A2 n2 c2] 49) = w2 at *
  generalize w1.heap.size = hz at *
  have z1 := kZ.cell 1
  have z2 := kZ.cell 2
  go_quiet (fail)
  have hx3 : Ext w2 (w2.drewN nq) := (by repeat (first | exact Ext.refl _ | assumption | refine Ext.setCell ?_ (by first | (simp; done) | (simp; omega)) _ | refine Ext.drewN ?_ _ | refine Ext.alloc ?_ _ | refine Ext.drew ?_ | refine Ext.trans ?_ (by assumption)))
  go_wp2
  refine bodyPost_ret (v := .tuple #[.slice A1 n1 c1, .slice A2 n2 c2, .int .i64 ev]) (by simp [results, Try.results6, go_sem]) rfl ?_
  exact ⟨_, _, _, _, _, _, _, rfl, hxw.trans hx3, hQ _ _ _ _ _ Hq2.out hx3⟩
end Go.Proofs.Ytbjomkidjccdoaa

namespace Go.Proofs.Ytbjomkidjccdoaa
open Go.RowKit
attribute [local go_sem ↓] Go.wp_at_zero Go.wp_at_succ
attribute [local go_sem] run_store_float

set_option maxHeartbeats 800000 in
theorem landed_any (w : World) : Calls Try.prog 4 #[] w fun e w' => e = .returned (.bool true) ∧ Ext w w' := by
  have HC := fun (w : World) => hidA (checkRegion_any 0 0 0 0 w)
  have h3 : regE 0 0 0 0 = 3 := by decide +kernel
  rw [h3] at HC
  go_enter Try.func4, Try.ntmps4
  go_wp2_with (go_at_call 9; refine ((HC _).out).mono ?_; rintro e w1 ⟨rfl, hx1⟩)
  go_ret
  exact ⟨by first | rfl | simp, (by repeat (first | exact Ext.refl _ | assumption | refine Ext.setCell ?_ (by first | (simp; done) | (simp; omega)) _ | refine Ext.drewN ?_ _ | refine Ext.alloc ?_ _ | refine Ext.drew ?_ | refine Ext.trans ?_ (by assumption)))⟩
theorem gt_no {x y : Nat} (hx : Fin x) (hy : Fin y) (h : valI x ≤ valI y) : (FloatKind.f32.format.order x y == some .gt) = false := by
  rw [ord_def, ord_valI hx hy]
  have h1 : compare (valI x) (valI y) ≠ .gt := by
    rw [Ne, Int.compare_eq_gt]
    omega
  simpa using h1
theorem lt_no {x y : Nat} (hx : Fin x) (hy : Fin y) (h : valI y ≤ valI x) : (FloatKind.f32.format.order x y == some .lt) = false := by
  rw [ord_def, ord_valI hx hy]
  have h1 : compare (valI x) (valI y) ≠ .lt := by
    rw [Ne, Int.compare_eq_lt]
    omega
  simpa using h1
theorem eq_yes {x : Nat} (hx : Fin x) : (FloatKind.f32.format.order x x == some .eq) = true := by
  rw [ord_def, (eq_val hx hx).2 rfl]
  rfl
theorem own_formL {w : World} {base n : Nat} {e : TypeId} {size : Nat} {v : Value} {xs : List Value} (h : w.ownsRow base e size v n xs) : ∃ A cap, v = .slice A n cap ∧ Rd w A xs ∧ n ≤ cap := by
  rcases h.2 with ⟨h1, h2⟩ | ⟨g, cap, cur, hv, hbg, hh, h3, h4, h5, h6⟩
  · have hx : xs = [] := List.eq_nil_of_length_eq_zero (by rw [h.1, h2, Nat.zero_mul])
    subst hx
    exact ⟨none, 0, by rw [h1, h2], Rd.nil _ _, by omega⟩
  · subst hv
    exact ⟨_, cap, rfl, Rd.of_own h, h3⟩
theorem step_append_own {P : Program} {w : World} {ops : Array Oper} {o : Oper} {a : Act} {K : Act → World → Prop} {Q : Exit → Act → World → Prop} {E : Prop} (hgd : o.guard = none) (s x : Operand) (t : TypeId)
    (ho : o.op = .call { callee := .builtin .append, args := #[s, x], argTypes := #[t, t] })
    (base : Nat) (e : TypeId) (i : TypeInfo) (z : Value) (size bytes : Nat) (ht : P.underlying t = some (.slice e)) (hi : P.info? e = some i) (hz : i.zero = some z)
    (hsize : i.size = size) (hby : i.bytes = bytes) (hzs : z.cells.size = size) (hsz : 0 < size)
    (v : Value) (n : Nat) (xs : List Value) (hs : a.eval s = v) (hown : w.ownsRow base e size v n xs)
    (ad : Addr) (m c : Nat) (news : List Value) (hx : a.eval x = .slice (some ad) m c) (hl : news.length = m * size) (hnews : ∀ j u, news[j]? = some u → w.cell? (ad.add j) = some u) (h1 : ∀ u ∈ news, u.oneCell' = true)
    (h63 : n + m ≤ maxLen) (hbytes : (n + m) * bytes ≤ 140737488355328) (hbase : base ≤ w.heap.size)
    (h : ∀ v' w', w'.ownsRow base e size v' (n + m) (xs ++ news) → w.grownBy w' v.ownBlock → K (a.put o.dst v') w') :
    if Region.wanted o (yielded ops a.tmps) = true then Oper.wp P o a w K Q else E := by
  have hw : Region.wanted o (yielded ops a.tmps) = true := by simp [Region.wanted, hgd]
  rw [if_pos hw]
  exact wp_append_own w s x t ho base e i z size bytes ht hi hz hsize hby hzs hsz v n xs hs hown ad m c news hx hl hnews h1 h63 hbytes hbase fun v' w' h2 h3 _ => h v' w' h2 h3
set_option maxRecDepth 100000 in
set_option maxHeartbeats 3200000 in
theorem Clone_pt (ad : Addr) (n c : Nat) (ps : List (Int × Int)) (w : World) (hl : ps.length = n) (hV : Rd w (some ad) (ptv ps)) (h1 : 1 ≤ n) (hb : n ≤ 262144) :
    Calls Try.prog 8 #[.slice (some ad) n c] w fun e w' => ∃ v, e = .returned v ∧ w'.ownsRow w.heap.size 32 2 v n (ptv ps) ∧ Ext w w' := by
  obtain ⟨i0, hi0, hz0, hz1, hz2⟩ := info_parts infoPt
  have q22 : ∀ (w : World) (a : Option Addr) (n c n' c' : Nat), (binOp .eql 34 (.slice a n c) (.slice none n' c')).run Try.prog w = .ok (.bool a.isNone) w := fun w a n c n' c' => Lib.run_eql_slice_nil w _ _ a n c n' c' Try.underlying34
  have Hl := hidA hl
  have HV := hidA hV
  clear hl hV
  go_enter Try.func8, Try.ntmps8
  go_wp2_with (at_builtin; refine wpList_append_own _ rfl _ _ 34 rfl w.heap.size 32 i0 (.agg #[.int .i64 0, .int .i64 0]) 2 16 Try.underlying34 hi0 hz0 hz1 hz2 rfl (by decide) _ _ _ rfl (World.ownsRow_made w #[] 0 (Nat.le_refl _) (Nat.zero_le _) rfl) ad n c (ptv ps) rfl ?qc1 ?qc2 ?qc3 ?qc4 ?qc5 ?qc6 ?_)
  case qc2 =>
    intro j u hj
    have hjl : j < (ptv ps).length := (List.getElem?_eq_some_iff.1 hj).1
    obtain ⟨ad', e, _, hcv⟩ := (HV.out.ext ((Ext.refl w).alloc (.cells #[] 32))).at (k := j) hjl
    cases e
    exact hcv j u hj
  case qc3 => exact ptv_one ps
  case qc4 => unfold maxLen; omega
  case qc5 => omega
  case qc6 => simp
  case qc1 => rw [ptv_length, Hl.out]
  intro v' w1 hown hgrow hnil
  have hx : Ext w w1 := Ext.grown ((Ext.refl w).alloc _) hgrow (by intro k hk; simp [Value.ownBlock] at hk; omega)
  have hown2 : w1.ownsRow w.heap.size 32 2 v' n (ptv ps) := by
    have h9 := hown
    first
      | exact h9
      | (rw [Nat.zero_add, List.nil_append] at h9; exact h9)
  have HO := hidA hown2
  have HX := hidA hx
  clear hown hgrow hnil hown2 hx q22
  go_wp2
  go_ret
  exact ⟨_, rfl, HO.out, HX.out⟩
set_option maxRecDepth 100000 in
set_option maxHeartbeats 6400000 in
theorem tw_bad (X Y W H : Int) (A : Option Addr) (n c : Nat) (gr wt br de : Nat) (sp : Int) (C : Option Addr) (m cc : Nat) (ax ay dx dy bx by' : Int) (w : World) (E : Int) (hE : E ≠ 0)
    (HWy : ∀ w', Ext w w' → Hid (Calls Try.prog 5 #[.agg #[.int .i64 X, .int .i64 Y, .int .i64 W, .int .i64 H, .slice A n c], .agg #[.float .f32 gr, .float .f32 wt, .float .f32 br, .float .f32 de, .int .i64 sp, .slice C m cc], .agg #[.int .i64 ax, .int .i64 ay], .agg #[.int .i64 dx, .int .i64 dy]] w' fun e w'' => ∃ (A1 : Option Addr) (n1 c1 pv : Nat), e = .returned (.tuple #[.slice A1 n1 c1, .float .f32 pv, .int .i64 E]) ∧ Ext w' w'')) :
    Calls Try.prog 3 #[.agg #[.int .i64 X, .int .i64 Y, .int .i64 W, .int .i64 H, .slice A n c], .agg #[.float .f32 gr, .float .f32 wt, .float .f32 br, .float .f32 de, .int .i64 sp, .slice C m cc], .agg #[.int .i64 ax, .int .i64 ay], .agg #[.int .i64 dx, .int .i64 dy], .agg #[.int .i64 bx, .int .i64 by']] w fun e w' => e = .returned (.bool true) ∧ Ext w w' := by
  have hne : (E != 0) = true := by simpa using hE
  have HW := fun (w : World) => hidA (landed_any w)
  clear hE
  go_enter Try.func3, Try.ntmps3
  go_upto_region 1 with fail
  obtain ⟨w0, hw0⟩ : ∃ w0, w0 = ((((w.alloc (.cells #[.int .i64 X, .int .i64 Y, .int .i64 W, .int .i64 H, .slice A n c] 26)).alloc (.cells #[.float .f32 gr, .float .f32 wt, .float .f32 br, .float .f32 de, .int .i64 sp, .slice C m cc] 30)).alloc (.cells #[.int .i64 ax, .int .i64 ay] 32)).alloc (.cells #[.int .i64 dx, .int .i64 dy] 32)).alloc (.cells #[.int .i64 bx, .int .i64 by'] 32) := ⟨_, rfl⟩
  have kF : Bk w0 w.heap.size 26 #[.int .i64 X, .int .i64 Y, .int .i64 W, .int .i64 H, .slice A n c] := by rw [hw0]; exact ((((Bk.new' rfl).alloc _).alloc _).alloc _).alloc _
  have kR : Bk w0 (w.heap.size + 1) 30 #[.float .f32 gr, .float .f32 wt, .float .f32 br, .float .f32 de, .int .i64 sp, .slice C m cc] := by rw [hw0]; exact (((Bk.new' (by simp)).alloc _).alloc _).alloc _
  have kA : Bk w0 (w.heap.size + 1 + 1) 32 #[.int .i64 ax, .int .i64 ay] := by rw [hw0]; exact ((Bk.new' (by simp)).alloc _).alloc _
  have kD : Bk w0 (w.heap.size + 1 + 1 + 1) 32 #[.int .i64 dx, .int .i64 dy] := by rw [hw0]; exact (Bk.new' (by simp)).alloc _
  have kB : Bk w0 (w.heap.size + 1 + 1 + 1 + 1) 32 #[.int .i64 bx, .int .i64 by'] := by rw [hw0]; exact Bk.new' (by simp)
  have hx0 : Ext w w0 := by rw [hw0]; exact (((((Ext.refl w).alloc _).alloc _).alloc _).alloc _).alloc _
  rw [← hw0]
  clear hw0
  generalize w.heap.size + 1 + 1 + 1 + 1 = hb' at *
  generalize w.heap.size + 1 + 1 + 1 = hd' at *
  generalize w.heap.size + 1 + 1 = ha' at *
  generalize w.heap.size + 1 = hr' at *
  generalize hfe : w.heap.size = hf at *
  clear hfe
  go_upto_region 3 with (go_at_call 4; refine ((HW _).out).mono ?_; rintro e w1 ⟨rfl, hx1⟩)
  have x0 := (kF.ext hx1).cell 0
  have x1 := (kF.ext hx1).cell 1
  have x2 := (kF.ext hx1).cell 2
  have x3 := (kF.ext hx1).cell 3
  have x4 := (kF.ext hx1).cell 4
  have y0 := (kR.ext hx1).cell 0
  have y1 := (kR.ext hx1).cell 1
  have y2 := (kR.ext hx1).cell 2
  have y3 := (kR.ext hx1).cell 3
  have y4 := (kR.ext hx1).cell 4
  have y5 := (kR.ext hx1).cell 5
  have u0 := (kA.ext hx1).cell 0
  have u1 := (kA.ext hx1).cell 1
  have z0 := (kD.ext hx1).cell 0
  have z1 := (kD.ext hx1).cell 1
  go_wp2_with (go_at_call 5; refine ((HWy _ (hx0.trans hx1)).out).mono ?_; rintro e w2 ⟨A1, n1, c1, pv, rfl, hx2⟩)
  go_ret
  exact ⟨by first | rfl | simp, hx0.trans (hx1.trans hx2)⟩
end Go.Proofs.Ytbjomkidjccdoaa
