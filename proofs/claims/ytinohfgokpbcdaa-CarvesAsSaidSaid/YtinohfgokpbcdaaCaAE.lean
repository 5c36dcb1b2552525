/- The law CarvesAsSaid: its walk where the arguments are right. -/
import Derived.Test.YtinohfgokpbcdaaCaAD
import Derived.Test.YtinohfgokpbcdaaBrAD
import Derived.Test.YtinohfgokpbcdaaDsAG
import Derived.Deep.DeepCutAuto
namespace Go.Proofs.Ytinohfgokpbcdaa
open Go.RowKit
attribute [local go_sem ↓] Go.wp_at_zero Go.wp_at_succ
attribute [local go_sem] run_store_float

theorem crvE_first (x y ww hh : Int) (l : List Nat) (r le mo : Nat) (st : Int) : firstE [fieldE x y ww hh l, carvE r le mo st] = crvE x y ww hh l r le mo st := by
  rw [first2]
  rfl
set_option maxRecDepth 100000 in
set_option maxHeartbeats 3200000 in
theorem carves_bad (x y ww hh : Int) (A : Option Addr) (n c r le mo : Nat) (st : Int) (l : List Nat) (w : World) (hn : l.length = n) (hd : Rd w A (flt l)) (hb : n ≤ 140737488351232) (hE : crvE x y ww hh l r le mo st ≠ 0) :
    Calls Try.prog 14 #[.agg #[.int .i64 x, .int .i64 y, .int .i64 ww, .int .i64 hh, .slice A n c], .agg #[.float .f32 r, .float .f32 le, .float .f32 mo, .int .i64 st]] w fun e w' => e = .returned (.bool true) ∧ Ext w w' := by
  have HF := fun (w : World) (h : Rd w A (flt l)) => hidA (Carve_bad x y ww hh A n c r le mo st l w hn h hb hE)
  have HE := fun (w : World) (h : Rd w A (flt l)) => hidA (fieldError_any x y ww hh A n c l w hn h hb)
  have HCE := fun (w : World) => hidA (carvingError_any r le mo st w)
  have HS := fun (B : Option Addr) (w : World) (h : Rd w B ([fieldE x y ww hh l, carvE r le mo st].map (.int .i64))) => hidA (first_any B 2 2 [fieldE x y ww hh l, carvE r le mo st] w rfl h (by omega))
  rw [crvE_first] at HS
  have HZ := fun (w : World) => hidA (empty_zero w)
  have HW := fun (w : World) => hidA (flows_any w)
  have hE' : (crvE x y ww hh l r le mo st != 0) = true := by simpa using hE
  generalize crvE x y ww hh l r le mo st = E at *
  generalize fieldE x y ww hh l = f1 at *
  generalize carvE r le mo st = f2 at *
  clear hn hb hE
  go_enter Try.func14, Try.ntmps14
  go_wp2_with fail
  refine ((HF _ (hd.ext (by repeat (first | (with_reducible exact Ext.refl _) | (with_reducible assumption) | (with_reducible refine Ext.setCell ?_ (by first | (simp; done) | (simp; omega)) _) | (with_reducible refine Ext.drewN ?_ _) | (with_reducible refine Ext.alloc ?_ _) | (with_reducible refine Ext.drew ?_) | (with_reducible refine Ext.trans ?_ (by assumption)))))).out).mono ?_
  rintro e w1 ⟨rfl, hx1⟩
  have kF1 : Bk w1 w.heap.size 26 #[.int .i64 x, .int .i64 y, .int .i64 ww, .int .i64 hh, .slice A n c] := ((Bk.new' rfl).alloc _).ext hx1
  have kC1 : Bk w1 (w.heap.size + 1) 52 #[.float .f32 r, .float .f32 le, .float .f32 mo, .int .i64 st] := (Bk.new' (by simp)).ext hx1
  have hxw1 : Ext w w1 := (((Ext.refl w).alloc _).alloc _).trans hx1
  have kF := kF1.alloc (.cells #[.int .i64 0, .int .i64 0, .int .i64 0, .int .i64 0, .slice none 0 0] 26)
  have kC := kC1.alloc (.cells #[.int .i64 0, .int .i64 0, .int .i64 0, .int .i64 0, .slice none 0 0] 26)
  have kG : Bk (w1.alloc (.cells #[.int .i64 0, .int .i64 0, .int .i64 0, .int .i64 0, .slice none 0 0] 26)) w1.heap.size 26 #[.int .i64 0, .int .i64 0, .int .i64 0, .int .i64 0, .slice none 0 0] := Bk.new' rfl
  have hxw2 := hxw1.alloc (.cells #[.int .i64 0, .int .i64 0, .int .i64 0, .int .i64 0, .slice none 0 0] 26)
  clear hx1 kF1 kC1 hxw1
  go_upto_region 2 with fail
  generalize w1.alloc (.cells #[.int .i64 0, .int .i64 0, .int .i64 0, .int .i64 0, .slice none 0 0] 26) = w2 at *
  generalize w1.heap.size = hg at *
  generalize w.heap.size + 1 = hc at *
  generalize hh0 : w.heap.size = h0 at kF ⊢
  clear hh0
  have hd := hd.ext hxw2
  have c0 : ∀ w', Ext w2 w' → w'.cell? ⟨h0, 0, none⟩ = some (.int .i64 x) := fun w' h => (kF.ext h).cell 0
  have c1 : ∀ w', Ext w2 w' → w'.cell? ⟨h0, 1, none⟩ = some (.int .i64 y) := fun w' h => (kF.ext h).cell 1
  have c2 : ∀ w', Ext w2 w' → w'.cell? ⟨h0, 2, none⟩ = some (.int .i64 ww) := fun w' h => (kF.ext h).cell 2
  have c3 : ∀ w', Ext w2 w' → w'.cell? ⟨h0, 3, none⟩ = some (.int .i64 hh) := fun w' h => (kF.ext h).cell 3
  have c4 : ∀ w', Ext w2 w' → w'.cell? ⟨h0, 4, none⟩ = some (.slice A n c) := fun w' h => (kF.ext h).cell 4
  have k0 : ∀ w', Ext w2 w' → w'.cell? ⟨hc, 0, none⟩ = some (.float .f32 r) := fun w' h => (kC.ext h).cell 0
  have k1 : ∀ w', Ext w2 w' → w'.cell? ⟨hc, 1, none⟩ = some (.float .f32 le) := fun w' h => (kC.ext h).cell 1
  have k2 : ∀ w', Ext w2 w' → w'.cell? ⟨hc, 2, none⟩ = some (.float .f32 mo) := fun w' h => (kC.ext h).cell 2
  have k3 : ∀ w', Ext w2 w' → w'.cell? ⟨hc, 3, none⟩ = some (.int .i64 st) := fun w' h => (kC.ext h).cell 3
  go_cut [7] (fun s7 wx => s7 = Value.int .i64 E ∧ Ext w2 wx)
  case first =>
    refine wp_region_noPanic ?_
    refine wp_region_held_drew (S := fun w' => Ext w2 w') (by kernel_rfl) ?_ (fun hHeld => ?_)
    · (repeat (first | exact Ext.refl _ | assumption | refine Ext.setCell ?_ (by first | (simp; done) | (simp; omega)) _ | refine Ext.drewN ?_ _ | refine Ext.alloc ?_ _ | refine Ext.drew ?_ | refine Ext.trans ?_ (by assumption)))
    refine wpAnyH_take (i := 0) (oi := ?o2x0) (v := ?v2x0) ?hi2x0 (by kernel_rfl) ?hf2x0 ?hr2x0 (fun _ _ _ h => h) ?hy2x0 (by assumption) ?rest2x0
    case hi2x0 => (simp only [List.getElem?_toArray, List.getElem?_cons_zero]; exact rfl)
    case hf2x0 => kernel_rfl
    case hr2x0 => kernel_rfl
    case hy2x0 => (refine Or.inl ⟨by rfl, ?_⟩; intro w hSw; (try dsimp only at hSw); go_simp; try with_reducible rfl)
    simp only [put_mk, List.set_cons_succ, List.set_cons_zero]
    refine wpAnyH_take (i := 2) (oi := ?o3x2) (v := ?v3x2) ?hi3x2 (by kernel_rfl) ?hf3x2 ?hr3x2 (fun _ _ _ h => h) ?hy3x2 (by assumption) ?rest3x2
    case hi3x2 => (simp only [List.getElem?_toArray, List.getElem?_cons_succ, List.getElem?_cons_zero]; exact rfl)
    case hf3x2 => kernel_rfl
    case hr3x2 => kernel_rfl
    case hy3x2 => (refine Or.inl ⟨by rfl, ?_⟩; intro w hSw; (try dsimp only at hSw); go_simp; try with_reducible rfl)
    simp only [put_mk, List.set_cons_succ, List.set_cons_zero]
    refine wpAnyH_ready (rs := [1]) (by kernel_rfl) (by simp) ?_
    refine AllReadyH.cons (o := ?o4x1) ?hi4x1 (fun K hK => ?_) AllReadyH.nil
    case hi4x1 => (simp only [List.getElem?_toArray, List.getElem?_cons_succ, List.getElem?_cons_zero]; exact rfl)
    go_simp
    refine ((HE _ (hd.ext (by repeat (first | exact Ext.refl _ | assumption | refine Ext.setCell ?_ (by first | (simp; done) | (simp; omega)) _ | refine Ext.drewN ?_ _ | refine Ext.alloc ?_ _ | refine Ext.drew ?_ | refine Ext.trans ?_ (by assumption))))).out).mono ?_
    rintro e w3 ⟨rfl, hx3⟩
    refine hK.out _ _ ?_ (fun hHeld => ?_)
    · (repeat (first | exact Ext.refl _ | assumption | refine Ext.setCell ?_ (by first | (simp; done) | (simp; omega)) _ | refine Ext.drewN ?_ _ | refine Ext.alloc ?_ _ | refine Ext.drew ?_ | refine Ext.trans ?_ (by assumption)))
    clear hK K
    refine wpAnyH_ready (rs := [3]) (by kernel_rfl) (by simp) ?_
    refine AllReadyH.cons (o := ?o5x3) ?hi5x3 (fun K hK => ?_) AllReadyH.nil
    case hi5x3 => (simp only [List.getElem?_toArray, List.getElem?_cons_succ, List.getElem?_cons_zero]; exact rfl)
    go_simp
    refine ((HCE _).out).mono ?_
    rintro e w4 ⟨rfl, hx4⟩
    refine hK.out _ _ ?_ (fun hHeld => ?_)
    · (repeat (first | exact Ext.refl _ | assumption | refine Ext.setCell ?_ (by first | (simp; done) | (simp; omega)) _ | refine Ext.drewN ?_ _ | refine Ext.alloc ?_ _ | refine Ext.drew ?_ | refine Ext.trans ?_ (by assumption)))
    clear hK K
    refine wpAnyH_ready (rs := [4]) (by kernel_rfl) (by simp) ?_
    refine AllReadyH.cons (o := ?o6x4) ?hi6x4 (fun K hK => ?_) AllReadyH.nil
    case hi6x4 => (simp only [List.getElem?_toArray, List.getElem?_cons_succ, List.getElem?_cons_zero]; exact rfl)
    go_simp
    refine hK.out _ _ ?_ (fun hHeld => ?_)
    · (repeat (first | exact Ext.refl _ | assumption | refine Ext.setCell ?_ (by first | (simp; done) | (simp; omega)) _ | refine Ext.drewN ?_ _ | refine Ext.alloc ?_ _ | refine Ext.drew ?_ | refine Ext.trans ?_ (by assumption)))
    clear hK K
    refine wpAnyH_ready (rs := [5]) (by kernel_rfl) (by simp) ?_
    refine AllReadyH.cons (o := ?o7x5) ?hi7x5 (fun K hK => ?_) AllReadyH.nil
    case hi7x5 => (simp only [List.getElem?_toArray, List.getElem?_cons_succ, List.getElem?_cons_zero]; exact rfl)
    go_simp
    refine ((HS _ _ (Rd.new (by first | rfl | simp) (by first | rfl | simp))).out).mono ?_
    rintro e w5 ⟨rfl, rfl⟩
    refine hK.out _ _ ?_ (fun hHeld => ?_)
    · (repeat (first | exact Ext.refl _ | assumption | refine Ext.setCell ?_ (by first | (simp; done) | (simp; omega)) _ | refine Ext.drewN ?_ _ | refine Ext.alloc ?_ _ | refine Ext.drew ?_ | refine Ext.trans ?_ (by assumption)))
    clear hK K
    refine wpAnyH_take (i := 6) (oi := ?o8x6) (v := ?v8x6) ?hi8x6 (by kernel_rfl) ?hf8x6 ?hr8x6 (fun _ _ _ h => h) ?hy8x6 (by assumption) ?rest8x6
    case hi8x6 => (simp only [List.getElem?_toArray, List.getElem?_cons_succ, List.getElem?_cons_zero]; exact rfl)
    case hf8x6 => kernel_rfl
    case hr8x6 => kernel_rfl
    case hy8x6 => (refine Or.inl ⟨by rfl, ?_⟩; intro w hSw; (try dsimp only at hSw); go_simp; try with_reducible rfl)
    simp only [put_mk, List.set_cons_succ, List.set_cons_zero]
    refine wpAnyH_done (by kernel_rfl) ?_ _
    refine NoPanic.normal ?_
    go_wp2_with fail
    go_meet
    case rel => exact ⟨rfl, (by repeat (first | exact Ext.refl _ | assumption | refine Ext.setCell ?_ (by first | (simp; done) | (simp; omega)) _ | refine Ext.drewN ?_ _ | refine Ext.alloc ?_ _ | refine Ext.drew ?_ | refine Ext.trans ?_ (by assumption)))⟩
  case rest =>
    obtain ⟨rfl, hx5⟩ := hcut
    have hx6 := hxw2.trans hx5
    have kG6 := kG.ext hx5
    clear c0 c1 c2 c3 c4 k0 k1 k2 k3 kF kC kG hxw2 HE HCE HS HF hd
    go_wp2_with (go_at_call 20; refine ((HW _).out).mono ?_; rintro e w7 ⟨rfl, hx7⟩; have kG7 := kG6.ext (by first | exact hx7 | exact Ext.trans (by repeat (first | exact Ext.refl _ | assumption | refine Ext.setCell ?_ (by first | (simp; done) | (simp; omega)) _ | refine Ext.drewN ?_ _ | refine Ext.alloc ?_ _ | refine Ext.drew ?_ | refine Ext.trans ?_ (by assumption))) hx7); have d0 := kG7.cell 0; have d1 := kG7.cell 1; have d2 := kG7.cell 2; have d3 := kG7.cell 3; have d4 := kG7.cell 4)
    refine ((HZ _).out).mono ?_
    rintro e w8 ⟨rfl, hx8⟩
    go_wp2_with fail
    go_ret
    exact ⟨by first | rfl | simp, hx6.trans (by repeat (first | (with_reducible exact Ext.refl _) | (with_reducible assumption) | (with_reducible refine Ext.setCell ?_ (by first | (simp; done) | (simp; omega)) _) | (with_reducible refine Ext.drewN ?_ _) | (with_reducible refine Ext.alloc ?_ _) | (with_reducible refine Ext.drew ?_) | (with_reducible refine Ext.trans ?_ (by assumption))))⟩
end Go.Proofs.Ytinohfgokpbcdaa
namespace Go.Proofs.Ytinohfgokpbcdaa
open Go.RowKit
attribute [local go_sem ↓] Go.wp_at_zero Go.wp_at_succ
attribute [local go_sem] run_store_float

theorem two_of {X Y : Int} {Wn Hn N g cp : Nat} {v : List Nat} {w : World} {a b c d : Int} {vA : Option Addr} {vn vc : Nat} {ec : Int} (h : ResR X Y Wn Hn (.slice (some ⟨g, 0, none⟩) N cp) v a b c d (.slice vA vn vc) ec) (hR : Rd w (some ⟨g, 0, none⟩) (flt v)) : TwoR X Y Wn Hn N v w a b c d vA vn vc ec := by
  rcases h with ⟨h1, rfl, rfl, rfl, rfl, h6, rfl⟩ | ⟨h1, rfl, rfl, rfl, rfl, h6, rfl⟩
  · injection h6 with e1 e2 e3
    subst e1
    subst e2
    exact .inl ⟨h1, rfl, rfl, rfl, rfl, rfl, rfl, hR⟩
  · injection h6 with e1 e2 e3
    subst e1
    subst e2
    subst e3
    exact .inr ⟨h1, rfl, rfl, rfl, rfl, rfl, rfl, rfl, rfl⟩
set_option maxRecDepth 100000 in
set_option maxHeartbeats 6400000 in
theorem carves_good (X Y : Int) (Wn Hn N : Nat) (A : Option Addr) (c r le mo : Nat) (st : Int) (l : List Nat) (w : World) (hr : Reg X Y Wn Hn) (hN : N = Wn * Hn) (hn : l.length = N) (hd : Rd w A (flt l)) (hf : fieldE X Y Wn Hn l = 0) (hs : carvE r le mo st = 0) :
    Calls Try.prog 14 #[.agg #[.int .i64 X, .int .i64 Y, .int .i64 (Wn : Int), .int .i64 (Hn : Int), .slice A N c], .agg #[.float .f32 r, .float .f32 le, .float .f32 mo, .int .i64 st]] w fun e w' => e = .returned (.bool true) ∧ Ext w w' := by
  have hN6 : N ≤ 65536 := by rw [hN]; exact hr.n
  have hh : ∀ x ∈ l, Bd 20 x := fun x hx => hgt_bd ((numE_zero (field_reg hf).2.2).2 x hx)
  obtain ⟨r1, r2, r3, r4, r5, st0, st5⟩ := carv_ok hs
  have HF := fun (w : World) (h : Rd w A (flt l)) => hidA (Carve_ok X Y Wn Hn N A c r le mo st l w hr hN hn h hf hs)
  have HOf := hidA (fun (A : Option Addr) (c i : Nat) (w : World) (h : Rd w A (flt (crvI r le mo Wn Hn N l i))) => CarvedOf_any X Y Wn Hn N A c r le mo st (crvI r le mo Wn Hn N l i) w hr hN (crvI_len hn i) h (crvI_bd hN hN6 r1 r2 r3 r4 r5 (getD_bd hn hh) i) hs)
  have Hlen := hidA (fun i => crvI_len (r := r) (le := le) (mo := mo) (Wn := Wn) (Hn := Hn) hn i)
  have HE := fun (w : World) (h : Rd w A (flt l)) => hidA (fieldError_any X Y Wn Hn A N c l w hn h (by omega))
  have HCE := fun (w : World) => hidA (carvingError_any r le mo st w)
  have HS := fun (B : Option Addr) (w : World) (h : Rd w B ([(0 : Int), 0].map (.int .i64))) => hidA (first_any B 2 2 [0, 0] w rfl h (by omega))
  have hS0 : firstE [(0 : Int), 0] = 0 := rfl
  rw [hS0] at HS
  rw [hf] at HE
  rw [hs] at HCE
  have HW := fun (w : World) => hidA (flows_any w)
  have HSm := fun (w : World) => hidA (small_any X Y Wn Hn A N c w)
  clear hS0 hh hr hf hs hn hN r1 r2 r3 r4 r5
  go_enter Try.func14, Try.ntmps14
  go_wp2_with fail
  refine ((HF _ (hd.ext (by repeat (first | (with_reducible exact Ext.refl _) | (with_reducible assumption) | (with_reducible refine Ext.setCell ?_ (by first | (simp; done) | (simp; omega)) _) | (with_reducible refine Ext.drewN ?_ _) | (with_reducible refine Ext.alloc ?_ _) | (with_reducible refine Ext.drew ?_) | (with_reducible refine Ext.trans ?_ (by assumption)))))).out).mono ?_
  rintro e w1 ⟨a, b, c', d, vA, vn, vc, ec, rfl, hx1, g, cp, hCF, hrel⟩
  have hTwo := hidA (two_of hrel (hCF.rdl (Hlen.out _)))
  clear hrel hCF
  have kF1 : Bk w1 w.heap.size 26 #[.int .i64 X, .int .i64 Y, .int .i64 (Wn : Int), .int .i64 (Hn : Int), .slice A N c] := ((Bk.new' rfl).alloc _).ext hx1
  have kC1 : Bk w1 (w.heap.size + 1) 52 #[.float .f32 r, .float .f32 le, .float .f32 mo, .int .i64 st] := (Bk.new' (by simp)).ext hx1
  have hxw1 : Ext w w1 := (((Ext.refl w).alloc _).alloc _).trans hx1
  have kF := kF1.alloc (.cells #[.int .i64 a, .int .i64 b, .int .i64 c', .int .i64 d, .slice vA vn vc] 26)
  have kC := kC1.alloc (.cells #[.int .i64 a, .int .i64 b, .int .i64 c', .int .i64 d, .slice vA vn vc] 26)
  have kG : Bk (w1.alloc (.cells #[.int .i64 a, .int .i64 b, .int .i64 c', .int .i64 d, .slice vA vn vc] 26)) w1.heap.size 26 #[.int .i64 a, .int .i64 b, .int .i64 c', .int .i64 d, .slice vA vn vc] := Bk.new' rfl
  have hxw2 := hxw1.alloc (.cells #[.int .i64 a, .int .i64 b, .int .i64 c', .int .i64 d, .slice vA vn vc] 26)
  have hT2 := hidA (hTwo.out.ext ((Ext.refl w1).alloc (.cells #[.int .i64 a, .int .i64 b, .int .i64 c', .int .i64 d, .slice vA vn vc] 26)))
  clear hx1 kF1 kC1 hxw1 hTwo HF
  go_upto_region 2 with fail
  generalize w1.alloc (.cells #[.int .i64 a, .int .i64 b, .int .i64 c', .int .i64 d, .slice vA vn vc] 26) = w2 at *
  generalize w1.heap.size = hg at *
  generalize w.heap.size + 1 = hc at *
  generalize hh0 : w.heap.size = h0 at kF ⊢
  clear hh0
  have hd := hd.ext hxw2
  have c0 : ∀ w', Ext w2 w' → w'.cell? ⟨h0, 0, none⟩ = some (.int .i64 X) := fun w' h => (kF.ext h).cell 0
  have c1 : ∀ w', Ext w2 w' → w'.cell? ⟨h0, 1, none⟩ = some (.int .i64 Y) := fun w' h => (kF.ext h).cell 1
  have c2 : ∀ w', Ext w2 w' → w'.cell? ⟨h0, 2, none⟩ = some (.int .i64 (Wn : Int)) := fun w' h => (kF.ext h).cell 2
  have c3 : ∀ w', Ext w2 w' → w'.cell? ⟨h0, 3, none⟩ = some (.int .i64 (Hn : Int)) := fun w' h => (kF.ext h).cell 3
  have c4 : ∀ w', Ext w2 w' → w'.cell? ⟨h0, 4, none⟩ = some (.slice A N c) := fun w' h => (kF.ext h).cell 4
  have k0 : ∀ w', Ext w2 w' → w'.cell? ⟨hc, 0, none⟩ = some (.float .f32 r) := fun w' h => (kC.ext h).cell 0
  have k1 : ∀ w', Ext w2 w' → w'.cell? ⟨hc, 1, none⟩ = some (.float .f32 le) := fun w' h => (kC.ext h).cell 1
  have k2 : ∀ w', Ext w2 w' → w'.cell? ⟨hc, 2, none⟩ = some (.float .f32 mo) := fun w' h => (kC.ext h).cell 2
  have k3 : ∀ w', Ext w2 w' → w'.cell? ⟨hc, 3, none⟩ = some (.int .i64 st) := fun w' h => (kC.ext h).cell 3
  go_cut [7] (fun s7 wx => s7 = Value.int .i64 0 ∧ Ext w2 wx)
  case first =>
    refine wp_region_noPanic ?_
    refine wp_region_held_drew (S := fun w' => Ext w2 w') (by kernel_rfl) ?_ (fun hHeld => ?_)
    · (repeat (first | exact Ext.refl _ | assumption | refine Ext.setCell ?_ (by first | (simp; done) | (simp; omega)) _ | refine Ext.drewN ?_ _ | refine Ext.alloc ?_ _ | refine Ext.drew ?_ | refine Ext.trans ?_ (by assumption)))
    refine wpAnyH_take (i := 0) (oi := ?o10x0) (v := ?v10x0) ?hi10x0 (by kernel_rfl) ?hf10x0 ?hr10x0 (fun _ _ _ h => h) ?hy10x0 (by assumption) ?rest10x0
    case hi10x0 => (simp only [List.getElem?_toArray, List.getElem?_cons_zero]; exact rfl)
    case hf10x0 => kernel_rfl
    case hr10x0 => kernel_rfl
    case hy10x0 => (refine Or.inl ⟨by rfl, ?_⟩; intro w hSw; (try dsimp only at hSw); go_simp; try with_reducible rfl)
    simp only [put_mk, List.set_cons_succ, List.set_cons_zero]
    refine wpAnyH_take (i := 2) (oi := ?o11x2) (v := ?v11x2) ?hi11x2 (by kernel_rfl) ?hf11x2 ?hr11x2 (fun _ _ _ h => h) ?hy11x2 (by assumption) ?rest11x2
    case hi11x2 => (simp only [List.getElem?_toArray, List.getElem?_cons_succ, List.getElem?_cons_zero]; exact rfl)
    case hf11x2 => kernel_rfl
    case hr11x2 => kernel_rfl
    case hy11x2 => (refine Or.inl ⟨by rfl, ?_⟩; intro w hSw; (try dsimp only at hSw); go_simp; try with_reducible rfl)
    simp only [put_mk, List.set_cons_succ, List.set_cons_zero]
    refine wpAnyH_ready (rs := [1]) (by kernel_rfl) (by simp) ?_
    refine AllReadyH.cons (o := ?o12x1) ?hi12x1 (fun K hK => ?_) AllReadyH.nil
    case hi12x1 => (simp only [List.getElem?_toArray, List.getElem?_cons_succ, List.getElem?_cons_zero]; exact rfl)
    go_simp
    refine ((HE _ (hd.ext (by repeat (first | exact Ext.refl _ | assumption | refine Ext.setCell ?_ (by first | (simp; done) | (simp; omega)) _ | refine Ext.drewN ?_ _ | refine Ext.alloc ?_ _ | refine Ext.drew ?_ | refine Ext.trans ?_ (by assumption))))).out).mono ?_
    rintro e w3 ⟨rfl, hx3⟩
    refine hK.out _ _ ?_ (fun hHeld => ?_)
    · (repeat (first | exact Ext.refl _ | assumption | refine Ext.setCell ?_ (by first | (simp; done) | (simp; omega)) _ | refine Ext.drewN ?_ _ | refine Ext.alloc ?_ _ | refine Ext.drew ?_ | refine Ext.trans ?_ (by assumption)))
    clear hK K
    refine wpAnyH_ready (rs := [3]) (by kernel_rfl) (by simp) ?_
    refine AllReadyH.cons (o := ?o13x3) ?hi13x3 (fun K hK => ?_) AllReadyH.nil
    case hi13x3 => (simp only [List.getElem?_toArray, List.getElem?_cons_succ, List.getElem?_cons_zero]; exact rfl)
    go_simp
    refine ((HCE _).out).mono ?_
    rintro e w4 ⟨rfl, hx4⟩
    refine hK.out _ _ ?_ (fun hHeld => ?_)
    · (repeat (first | exact Ext.refl _ | assumption | refine Ext.setCell ?_ (by first | (simp; done) | (simp; omega)) _ | refine Ext.drewN ?_ _ | refine Ext.alloc ?_ _ | refine Ext.drew ?_ | refine Ext.trans ?_ (by assumption)))
    clear hK K
    refine wpAnyH_ready (rs := [4]) (by kernel_rfl) (by simp) ?_
    refine AllReadyH.cons (o := ?o14x4) ?hi14x4 (fun K hK => ?_) AllReadyH.nil
    case hi14x4 => (simp only [List.getElem?_toArray, List.getElem?_cons_succ, List.getElem?_cons_zero]; exact rfl)
    go_simp
    refine hK.out _ _ ?_ (fun hHeld => ?_)
    · (repeat (first | exact Ext.refl _ | assumption | refine Ext.setCell ?_ (by first | (simp; done) | (simp; omega)) _ | refine Ext.drewN ?_ _ | refine Ext.alloc ?_ _ | refine Ext.drew ?_ | refine Ext.trans ?_ (by assumption)))
    clear hK K
    refine wpAnyH_ready (rs := [5]) (by kernel_rfl) (by simp) ?_
    refine AllReadyH.cons (o := ?o15x5) ?hi15x5 (fun K hK => ?_) AllReadyH.nil
    case hi15x5 => (simp only [List.getElem?_toArray, List.getElem?_cons_succ, List.getElem?_cons_zero]; exact rfl)
    go_simp
    refine ((HS _ _ (Rd.new (by first | rfl | simp) (by first | rfl | simp))).out).mono ?_
    rintro e w5 ⟨rfl, rfl⟩
    refine hK.out _ _ ?_ (fun hHeld => ?_)
    · (repeat (first | exact Ext.refl _ | assumption | refine Ext.setCell ?_ (by first | (simp; done) | (simp; omega)) _ | refine Ext.drewN ?_ _ | refine Ext.alloc ?_ _ | refine Ext.drew ?_ | refine Ext.trans ?_ (by assumption)))
    clear hK K
    refine wpAnyH_take (i := 6) (oi := ?o16x6) (v := ?v16x6) ?hi16x6 (by kernel_rfl) ?hf16x6 ?hr16x6 (fun _ _ _ h => h) ?hy16x6 (by assumption) ?rest16x6
    case hi16x6 => (simp only [List.getElem?_toArray, List.getElem?_cons_succ, List.getElem?_cons_zero]; exact rfl)
    case hf16x6 => kernel_rfl
    case hr16x6 => kernel_rfl
    case hy16x6 => (refine Or.inl ⟨by rfl, ?_⟩; intro w hSw; (try dsimp only at hSw); go_simp; try with_reducible rfl)
    simp only [put_mk, List.set_cons_succ, List.set_cons_zero]
    refine wpAnyH_done (by kernel_rfl) ?_ _
    refine NoPanic.normal ?_
    go_wp2_with fail
    go_meet
    case rel => exact ⟨rfl, (by repeat (first | exact Ext.refl _ | assumption | refine Ext.setCell ?_ (by first | (simp; done) | (simp; omega)) _ | refine Ext.drewN ?_ _ | refine Ext.alloc ?_ _ | refine Ext.drew ?_ | refine Ext.trans ?_ (by assumption)))⟩
  case rest =>
    obtain ⟨rfl, hx5⟩ := hcut
    have hx6 := hxw2.trans hx5
    have kG6 := kG.ext hx5
    have kF6 := kF.ext hx5
    have kC6 := kC.ext hx5
    have hd6 := hd.ext hx5
    have hT6 := hidA (hT2.out.ext hx5)
    clear c0 c1 c2 c3 c4 k0 k1 k2 k3 kF kC kG hxw2 HE HCE HS hd hT2
    go_upto_region 5 with (go_at_call 20; refine ((HW _).out).mono ?_; rintro e w7 ⟨rfl, hx7⟩)
    have kG7 := kG6.ext hx7
    have kF7 := kF6.ext hx7
    have kC7 := kC6.ext hx7
    have hd7 := hd6.ext hx7
    have hT7 := hidA (hT6.out.ext hx7)
    have hw7 := hx6.trans hx7
    clear kG6 kF6 kC6 hd6 hT6 hx6 hx7 hx5 HW
    have c0 : w7.cell? ⟨h0, 0, none⟩ = some (.int .i64 X) := kF7.cell 0
    have c1 : w7.cell? ⟨h0, 1, none⟩ = some (.int .i64 Y) := kF7.cell 1
    have c2 : w7.cell? ⟨h0, 2, none⟩ = some (.int .i64 (Wn : Int)) := kF7.cell 2
    have c3 : w7.cell? ⟨h0, 3, none⟩ = some (.int .i64 (Hn : Int)) := kF7.cell 3
    have c4 : w7.cell? ⟨h0, 4, none⟩ = some (.slice A N c) := kF7.cell 4
    have k0 : w7.cell? ⟨hc, 0, none⟩ = some (.float .f32 r) := kC7.cell 0
    have k1 : w7.cell? ⟨hc, 1, none⟩ = some (.float .f32 le) := kC7.cell 1
    have k2 : w7.cell? ⟨hc, 2, none⟩ = some (.float .f32 mo) := kC7.cell 2
    have k3 : w7.cell? ⟨hc, 3, none⟩ = some (.int .i64 st) := kC7.cell 3
    by_cases hsm : (N : Int) ≤ 200
    · have hsm3 : decide ((N : Int) ≤ 200) = true := by simpa using hsm
      rw [hsm3] at HSm
      clear hsm hsm3
      by_cases h4 : st ≤ 4
      · have h4' : ¬ (4 < st) := by omega
        go_upto_region 7 with (go_at_call 22; refine ((HSm _).out).mono ?_; rintro e w8 ⟨rfl, hx8⟩; have k3 : w8.cell? ⟨hc, 3, none⟩ = some (.int .i64 st) := (kC7.ext hx8).cell 3)
        have kG8 := kG7.ext hx8
        have kF8 := kF7.ext hx8
        have kC8 := kC7.ext hx8
        have hd8 := hd7.ext hx8
        have hT8 := hidA (hT7.out.ext hx8)
        have hw8 := hw7.trans hx8
        clear kG7 kF7 kC7 hd7 hT7 hw7 hx8 HSm c0 c1 c2 c3 c4 k0 k1 k2 k3
        have c0 : w8.cell? ⟨h0, 0, none⟩ = some (.int .i64 X) := kF8.cell 0
        have c1 : w8.cell? ⟨h0, 1, none⟩ = some (.int .i64 Y) := kF8.cell 1
        have c2 : w8.cell? ⟨h0, 2, none⟩ = some (.int .i64 (Wn : Int)) := kF8.cell 2
        have c3 : w8.cell? ⟨h0, 3, none⟩ = some (.int .i64 (Hn : Int)) := kF8.cell 3
        have c4 : w8.cell? ⟨h0, 4, none⟩ = some (.slice A N c) := kF8.cell 4
        go_upto_region 8 with fail
        have kH : Bk (w8.alloc (.cells #[.int .i64 X, .int .i64 Y, .int .i64 (Wn : Int), .int .i64 (Hn : Int), .slice A N c] 26)) w8.heap.size 26 #[.int .i64 X, .int .i64 Y, .int .i64 (Wn : Int), .int .i64 (Hn : Int), .slice A N c] := Bk.new' rfl
        have hx9 : Ext w8 (w8.alloc (.cells #[.int .i64 X, .int .i64 Y, .int .i64 (Wn : Int), .int .i64 (Hn : Int), .slice A N c] 26)) := (Ext.refl w8).alloc _
        have hd9 := hd8.ext hx9
        have kC9 := kC8.ext hx9
        clear c0 c1 c2 c3 c4
        generalize w8.alloc (.cells #[.int .i64 X, .int .i64 Y, .int .i64 (Wn : Int), .int .i64 (Hn : Int), .slice A N c] 26) = w9 at *
        generalize hh8 : w8.heap.size = h8 at kH ⊢
        have H8 := hidA hh8
        clear hh8
        have k3 : w9.cell? ⟨hc, 3, none⟩ = some (.int .i64 st) := kC9.cell 3
        go_wp2_with fail
        clear k3
        go_loopw [48] (fun s48 wr => ∃ (i : Nat) (B : Option Addr) (q : Nat), (i : Int) ≤ st ∧ s48 = .int .i64 i ∧ Bk wr h8 26 #[.int .i64 X, .int .i64 Y, .int .i64 (Wn : Int), .int .i64 (Hn : Int), .slice B N q] ∧ Rd wr B (flt (crvI r le mo Wn Hn N l i)) ∧ Ext w8 wr) (fun s48 _ => st.toNat - (intOf s48).toNat)
        case atStart => exact ⟨0, A, c, st0, rfl, kH, hd9, hx9⟩
        case round =>
          clear kH hd9 hx9 kC9
          obtain ⟨i, B, q, hi, rfl, kH, hB, hx⟩ := hrel
          by_cases hist : (i : Int) < st
          · have HOi := hidA (HOf.out B q i wr hB)
            have c0 := kH.cell 0
            have c1 := kH.cell 1
            have c2 := kH.cell 2
            have c3 := kH.cell 3
            have c4 := kH.cell 4
            have kC := kC8.ext hx
            have k0 : wr.cell? ⟨hc, 0, none⟩ = some (.float .f32 r) := kC.cell 0
            have k1 : wr.cell? ⟨hc, 1, none⟩ = some (.float .f32 le) := kC.cell 1
            have k2 : wr.cell? ⟨hc, 2, none⟩ = some (.float .f32 mo) := kC.cell 2
            have k3 : wr.cell? ⟨hc, 3, none⟩ = some (.int .i64 st) := kC.cell 3
            clear HOf hB
            go_upto_region 11 with (go_at_call 79; refine (HOi.out).mono ?_; rintro e w10 ⟨gm, cm, rfl, hC, hx10⟩; have kH10 := kH.ext hx10; have z0 := kH10.cell 0; have z1 := kH10.cell 1; have z2 := kH10.cell 2; have z3 := kH10.cell 3; have z4 := kH10.cell 4; have y0 := kH10.frozen 0; have y1 := kH10.frozen 1; have y2 := kH10.frozen 2; have y3 := kH10.frozen 3; have y4 := kH10.frozen 4)
            have a3 : gm ≠ h8 := fun e => hC.ne kH10 (by decide) e.symm
            have h := ((((kH10.set 0 (.int .i64 X)).set 1 (.int .i64 Y)).set 2 (.int .i64 (Wn : Int))).set 3 (.int .i64 (Hn : Int))).set 4 (.slice (some ⟨gm, 0, none⟩) N cm)
            have hCC := ((((hC.far a3 (.int .i64 X) (p := ⟨h8, 0, none⟩)).far a3 (.int .i64 Y) (p := ⟨h8, 1, none⟩)).far a3 (.int .i64 (Wn : Int)) (p := ⟨h8, 2, none⟩)).far a3 (.int .i64 (Hn : Int)) (p := ⟨h8, 3, none⟩)).far a3 (.slice (some ⟨gm, 0, none⟩) N cm) (p := ⟨h8, 4, none⟩)
            have b8 : w8.heap.size ≤ h8 := by rw [H8.out]; exact Nat.le_refl _
            have hxx := (((((hx.trans hx10).setCell (p := ⟨h8, 0, none⟩) b8 (.int .i64 X)).setCell (p := ⟨h8, 1, none⟩) b8 (.int .i64 Y)).setCell (p := ⟨h8, 2, none⟩) b8 (.int .i64 (Wn : Int))).setCell (p := ⟨h8, 3, none⟩) b8 (.int .i64 (Hn : Int))).setCell (p := ⟨h8, 4, none⟩) b8 (.slice (some ⟨gm, 0, none⟩) N cm)
            have hlast := hidA (And.intro h (And.intro (hCC.rdl crv_len) hxx))
            clear h hCC hxx kH10 hC
            go_wp2_with fail
            go_roundw
            case rel => exact ⟨i + 1, some ⟨gm, 0, none⟩, cm, by omega, by go_num, by simpa using hlast.out.1, hlast.out.2.1, hlast.out.2.2⟩
            case measure => simp [intOf]; omega
          · obtain rfl : st = i := by omega
            have kG := kG8.ext hx
            have kF := kF8.ext hx
            have hT := hidA (hT8.out.ext hx)
            rw [Int.toNat_natCast] at hT
            have hll := Hlen.out i
            have d0 : wr.cell? ⟨hg, 0, none⟩ = some (.int .i64 a) := kG.cell 0
            have d1 : wr.cell? ⟨hg, 1, none⟩ = some (.int .i64 b) := kG.cell 1
            have d2 : wr.cell? ⟨hg, 2, none⟩ = some (.int .i64 c') := kG.cell 2
            have d3 : wr.cell? ⟨hg, 3, none⟩ = some (.int .i64 d) := kG.cell 3
            have d4 : wr.cell? ⟨hg, 4, none⟩ = some (.slice vA vn vc) := kG.cell 4
            have c0 : wr.cell? ⟨h0, 0, none⟩ = some (.int .i64 X) := kF.cell 0
            have c1 : wr.cell? ⟨h0, 1, none⟩ = some (.int .i64 Y) := kF.cell 1
            have c2 : wr.cell? ⟨h0, 2, none⟩ = some (.int .i64 (Wn : Int)) := kF.cell 2
            have c3 : wr.cell? ⟨h0, 3, none⟩ = some (.int .i64 (Hn : Int)) := kF.cell 3
            have q4 : wr.cell? ⟨h8, 4, none⟩ = some (.slice B N q) := kH.cell 4
            have HR := hidA (result_both X Y Wn Hn N _ wr a b c' d vA B vn vc q ec hT.out hll hB (by omega))
            clear hT hB HOf
            go_wp2_with (go_at_call 39; refine (HR.out).mono ?_; rintro e w11 ⟨rfl, hx11⟩)
            go_ret
            exact ⟨by first | rfl | simp, hw8.trans (hx.trans hx11)⟩
      · have h4' : 4 < st := by omega
        go_wp2_with (go_at_call 22; refine ((HSm _).out).mono ?_; rintro e w8 ⟨rfl, hx8⟩; have k3 : w8.cell? ⟨hc, 3, none⟩ = some (.int .i64 st) := (kC7.ext hx8).cell 3)
        go_ret
        exact ⟨by first | rfl | simp, hw7.trans (by repeat (first | (with_reducible exact Ext.refl _) | (with_reducible assumption) | (with_reducible refine Ext.setCell ?_ (by first | (simp; done) | (simp; omega)) _) | (with_reducible refine Ext.drewN ?_ _) | (with_reducible refine Ext.alloc ?_ _) | (with_reducible refine Ext.drew ?_) | (with_reducible refine Ext.trans ?_ (by assumption))))⟩
    · have hsm3 : decide ((N : Int) ≤ 200) = false := by simpa using hsm
      rw [hsm3] at HSm
      clear hsm hsm3
      go_wp2_with (go_at_call 22; refine ((HSm _).out).mono ?_; rintro e w8 ⟨rfl, hx8⟩)
      go_ret
      exact ⟨by first | rfl | simp, hw7.trans (by repeat (first | (with_reducible exact Ext.refl _) | (with_reducible assumption) | (with_reducible refine Ext.setCell ?_ (by first | (simp; done) | (simp; omega)) _) | (with_reducible refine Ext.drewN ?_ _) | (with_reducible refine Ext.alloc ?_ _) | (with_reducible refine Ext.drew ?_) | (with_reducible refine Ext.trans ?_ (by assumption))))⟩

theorem carves_walk (x y ww hh : Int) (A : Option Addr) (n c : Nat) (l : List Nat) (r le mo : Nat) (st : Int) (w : World) (hn : l.length = n) (hd : Rd w A (flt l)) (hb : n ≤ 140737488351232) :
    Calls Try.prog 14 #[.agg #[.int .i64 x, .int .i64 y, .int .i64 ww, .int .i64 hh, .slice A n c], .agg #[.float .f32 r, .float .f32 le, .float .f32 mo, .int .i64 st]] w fun e w' => e = .returned (.bool true) ∧ Ext w w' := by
  by_cases hE : crvE x y ww hh l r le mo st = 0
  · have hf : fieldE x y ww hh l = 0 := Classical.byContradiction fun h => by
      unfold crvE at hE
      rw [if_pos h] at hE
      exact h hE
    have hs : carvE r le mo st = 0 := by
      unfold crvE at hE
      rwa [if_neg (fun h => h hf)] at hE
    obtain ⟨h1, h2, _⟩ := field_reg hf
    obtain ⟨Wn, Hn, rfl, rfl, hr⟩ := Reg.of_zero h1
    have hN : n = Wn * Hn := by
      rw [hn, ← Int.natCast_mul] at h2
      exact Int.ofNat.inj h2
    exact carves_good x y Wn Hn n A c r le mo st l w hr hN hn hd hf hs
  · exact carves_bad x y ww hh A n c r le mo st l w hn hd hb hE
end Go.Proofs.Ytinohfgokpbcdaa
