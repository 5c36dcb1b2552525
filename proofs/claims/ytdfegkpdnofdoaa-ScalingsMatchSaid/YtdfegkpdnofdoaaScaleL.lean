/- The walk of the law ScalingsMatch. -/
import Derived.Test.YtdfegkpdnofdoaaScaleK
import Derived.Deep.DeepCutAuto
import Derived.Deep.RegionLaw
import Derived.BigRegion
import Derived.BigQuiet
namespace Go.Proofs.Ytdfegkpdnofdoaa
open Go.RowKit
attribute [local go_sem ↓] Go.wp_at_zero Go.wp_at_succ
attribute [local go_sem] run_store_float' run_equalIn_flo

set_option maxRecDepth 100000 in
set_option maxHeartbeats 12800000 in
theorem scalings_walk (s : ScaleR) (v : Nat) (num X Y W H bt : Int) (A : Option Addr) (n c : Nat) (l : List Nat) (w : World) (hn : l.length = n) (hd : Rd w A (flt l)) (hcap : n ≤ c) (hb : n ≤ 140737488351232) :
    Calls Try.prog 4 #[s.v, .float .f32 v, .int .i64 num, .agg #[.int .i64 X, .int .i64 Y, .int .i64 W, .int .i64 H, .slice A n c], .int .i64 bt] w fun e w' => e = .returned (.bool true) ∧ Ext w w' := by
  have HLev := fun (w : World) => hidA (level_any s v w)
  have HRef := fun (w : World) (h : levE s v = 0) => hidA (level_ref s v w h)
  have HSE := fun (w : World) => hidA (scaleError_any s w)
  have HCS := fun (w : World) => hidA (checkScale_any s w)
  have HNv := fun (A : Option Addr) (w : World) (hr : Rd w A (flt [v])) => hidA (numberError_any A 1 1 [v] w rfl hr (by omega))
  have HVal := fun (w : World) => hidA (value_all s num w)
  have HVO := fun (w : World) (h : numR s num = 0) => hidA (valueOf_any s num w (numR_zero h).1 (out_small (numR_zero h).1 (numR_zero h).2))
  have HNn := fun (A : Option Addr) (w : World) (hr : Rd w A (flt [valN s num])) => hidA (numberError_any A 1 1 [valN s num] w rfl hr (by omega))
  have HFit := fun (w : World) (hd : Rd w A (flt l)) => hidA (fit_all (X := X) (Y := Y) (W := W) (H := H) (bt := bt) w hn hd hcap hb)
  have HFE := fun (w : World) (hd : Rd w A (flt l)) => hidA (fieldError_any X Y W H A n c l w hn hd hb)
  have LB : Hid (levE s v ≠ 0 → levA s v = (0, false)) := fun h => levA_bad h
  have z0 : (FloatKind.f32.format.order 0 0 == some .eq) = true := by decide +kernel
  have HLF := hidA (lev_first s v)
  have HSB : Hid (∀ b : Nat, s.bits = b → (!(decide ((0 : Int) ≤ num) && decide (num ≤ ((2 ^ b : Nat) : Int) - 1))) = outB s num) := fun b hb => out_not hb
  have HSZ : Hid (scaleE s = 0 → ∃ b : Nat, s.bits = b ∧ 1 ≤ b ∧ b ≤ 24) := fun h => (scaleE_zero h).2.2
  have hDN := hidA (And.intro hd (And.intro hn (And.intro hcap hb)))
  clear hn hd hcap hb
  simp only [ScaleR.v] at *
  generalize levE s v = LE at *
  generalize levA s v = LA at *
  go_enter Try.func4, Try.ntmps4
  go_wp2_with fail
  refine ((HLev _).out).mono ?_
  rintro e w1 ⟨rfl, hb1⟩
  have hS1 : Bk w1 w.heap.size 38 #[.float .f32 s.low, .float .f32 s.step, .int .i64 s.bits] := ((Bk.new' rfl).alloc _).ext hb1
  have hF1 : Bk w1 (w.heap.size + 1) 43 #[.int .i64 X, .int .i64 Y, .int .i64 W, .int .i64 H, .slice A n c] := (Bk.new' (by simp)).ext hb1
  have hx1 : Ext w w1 := (((Ext.refl w).alloc _).alloc _).trans hb1
  have s0 : ∀ w', Ext w1 w' → w'.cell? ⟨w.heap.size, 0, none⟩ = some (.float .f32 s.low) := fun w' h => (hS1.ext h).cell 0
  have s1 : ∀ w', Ext w1 w' → w'.cell? ⟨w.heap.size, 1, none⟩ = some (.float .f32 s.step) := fun w' h => (hS1.ext h).cell 1
  have s2 : ∀ w', Ext w1 w' → w'.cell? ⟨w.heap.size, 2, none⟩ = some (.int .i64 s.bits) := fun w' h => (hS1.ext h).cell 2
  have f0 : ∀ w', Ext w1 w' → w'.cell? ⟨w.heap.size + 1, 0, none⟩ = some (.int .i64 X) := fun w' h => (hF1.ext h).cell 0
  have f1 : ∀ w', Ext w1 w' → w'.cell? ⟨w.heap.size + 1, 1, none⟩ = some (.int .i64 Y) := fun w' h => (hF1.ext h).cell 1
  have f2 : ∀ w', Ext w1 w' → w'.cell? ⟨w.heap.size + 1, 2, none⟩ = some (.int .i64 W) := fun w' h => (hF1.ext h).cell 2
  have f3 : ∀ w', Ext w1 w' → w'.cell? ⟨w.heap.size + 1, 3, none⟩ = some (.int .i64 H) := fun w' h => (hF1.ext h).cell 3
  have f4 : ∀ w', Ext w1 w' → w'.cell? ⟨w.heap.size + 1, 4, none⟩ = some (.slice A n c) := fun w' h => (hF1.ext h).cell 4
  have hl1 := hF1.lt
  have hDD := fun (w' : World) (h : Ext w1 w') => hDN.out.1.ext (hx1.trans h)
  have hN1 := hidA hDN.out.2
  have Hx1 := hidA hx1
  clear hS1 hF1 hb1 hDN HLev hx1
  have k0 := s0 w1 (Ext.refl _)
  have k1 := s1 w1 (Ext.refl _)
  have k2 := s2 w1 (Ext.refl _)
  go_wp2_with fail
  refine ((HSE _).out).mono ?_
  rintro e w2 ⟨rfl, hb2⟩
  clear k0 k1 k2
  go_wp2_with fail
  refine ((HNv _ _ (Rd.new (by first | rfl | simp) rfl)).out).mono ?_
  rintro e w3 ⟨rfl, hw3⟩
  have hx3 : Ext w1 w3 := by rw [← hw3]; exact hb2.alloc _
  clear hw3 hb2
  go_wp2_with fail
  refine (first_any _ 2 2 [scaleE s, numE [v]] _ rfl (Rd.new (by first | rfl | simp) rfl) (by omega)).mono ?_
  rw [HLF.out]
  rintro e w4 ⟨rfl, hw4⟩
  have hx4 : Ext w1 w4 := by rw [← hw4]; exact hx3.alloc _
  clear hw4 hx3
  go_upto_region 3 with fail
  go_cut [63] from 39 to 62 (fun s63 wx => s63 = .bool false ∧ Ext w4 wx)
  case first =>
    have u0 : ∀ w', Ext w4 w' → w'.cell? ⟨w.heap.size, 0, none⟩ = some (.float .f32 s.low) := fun w' h => s0 w' (hx4.trans h)
    have u1 : ∀ w', Ext w4 w' → w'.cell? ⟨w.heap.size, 1, none⟩ = some (.float .f32 s.step) := fun w' h => s1 w' (hx4.trans h)
    have u2 : ∀ w', Ext w4 w' → w'.cell? ⟨w.heap.size, 2, none⟩ = some (.int .i64 s.bits) := fun w' h => s2 w' (hx4.trans h)
    clear s0 s1 s2 f0 f1 f2 f3 f4
    by_cases hz : LE = 0
    · subst hz
      refine wp_region_noPanic ?_
      refine wp_region_held_drew (S := fun w' => Ext w4 w') (by kernel_rfl) ?_ (fun hHeld => ?_)
      · (repeat (first | exact Ext.refl _ | assumption | refine Ext.setCell ?_ (by first | (simp; done) | (simp; omega)) _ | refine Ext.drewN ?_ _ | refine Ext.alloc ?_ _ | refine Ext.drew ?_ | refine Ext.trans ?_ (by assumption)))
      refine wpAnyH_ready (rs := [0]) (by kernel_rfl) (by simp) ?_
      refine AllReadyH.cons (o := ?o1x0) ?hi1x0 (fun K hK => ?_) AllReadyH.nil
      case hi1x0 => (simp only [List.getElem?_toArray, List.getElem?_cons_zero]; exact rfl)
      go_simp
      refine (writes_any _).mono ?_
      rintro e w5 ⟨rfl, hb5⟩
      refine hK.out _ _ ?_ (fun hHeld => ?_)
      · (repeat (first | exact Ext.refl _ | assumption | refine Ext.setCell ?_ (by first | (simp; done) | (simp; omega)) _ | refine Ext.drewN ?_ _ | refine Ext.alloc ?_ _ | refine Ext.drew ?_ | refine Ext.trans ?_ (by assumption)))
      clear hK K
      refine wpAnyH_take (i := 1) (oi := ?o1x1) (v := ?v1x1) ?hi1x1 (by kernel_rfl) ?hf1x1 ?hr1x1 (fun _ _ _ h => h) ?hy1x1 (by assumption) ?rest1x1
      case hi1x1 => (simp only [List.getElem?_toArray, List.getElem?_cons_succ, List.getElem?_cons_zero]; exact rfl)
      case hf1x1 => kernel_rfl
      case hr1x1 => kernel_rfl
      case hy1x1 => (refine Or.inl ⟨by rfl, ?_⟩; intro w hSw; (try dsimp only at hSw); go_simp; try with_reducible rfl)
      simp only [put_mk, List.set_cons_succ, List.set_cons_zero]
      refine wpAnyH_take (i := 2) (oi := ?o1x2) (v := ?v1x2) ?hi1x2 (by kernel_rfl) ?hf1x2 ?hr1x2 (fun _ _ _ h => h) ?hy1x2 (by assumption) ?rest1x2
      case hi1x2 => (simp only [List.getElem?_toArray, List.getElem?_cons_succ, List.getElem?_cons_zero]; exact rfl)
      case hf1x2 => kernel_rfl
      case hr1x2 => kernel_rfl
      case hy1x2 => (refine Or.inl ⟨by rfl, ?_⟩; intro w hSw; (try dsimp only at hSw); go_simp; try with_reducible rfl)
      simp only [put_mk, List.set_cons_succ, List.set_cons_zero]
      refine wpAnyH_take (i := 3) (oi := ?o1x3) (v := ?v1x3) ?hi1x3 (by kernel_rfl) ?hf1x3 ?hr1x3 (fun _ _ _ h => h) ?hy1x3 (by assumption) ?rest1x3
      case hi1x3 => (simp only [List.getElem?_toArray, List.getElem?_cons_succ, List.getElem?_cons_zero]; exact rfl)
      case hf1x3 => kernel_rfl
      case hr1x3 => kernel_rfl
      case hy1x3 => (refine Or.inl ⟨by rfl, ?_⟩; intro w hSw; (try dsimp only at hSw); go_simp; try with_reducible rfl)
      simp only [put_mk, List.set_cons_succ, List.set_cons_zero]
      refine wpAnyH_take (i := 5) (oi := ?o1x5) (v := ?v1x5) ?hi1x5 (by kernel_rfl) ?hf1x5 ?hr1x5 (fun _ _ _ h => h) ?hy1x5 (by assumption) ?rest1x5
      case hi1x5 => (simp only [List.getElem?_toArray, List.getElem?_cons_succ, List.getElem?_cons_zero]; exact rfl)
      case hf1x5 => kernel_rfl
      case hr1x5 => kernel_rfl
      case hy1x5 => (refine Or.inl ⟨by rfl, ?_⟩; intro w hSw; (try dsimp only at hSw); go_simp; try with_reducible rfl)
      simp only [put_mk, List.set_cons_succ, List.set_cons_zero]
      refine wpAnyH_ready (rs := [4]) (by kernel_rfl) (by simp) ?_
      refine AllReadyH.cons (o := ?o1x4) ?hi1x4 (fun K hK => ?_) AllReadyH.nil
      case hi1x4 => (simp only [List.getElem?_toArray, List.getElem?_cons_succ, List.getElem?_cons_zero]; exact rfl)
      go_simp
      refine ((HCS _).out).mono ?_
      rintro e w6 ⟨rfl, hb6⟩
      refine hK.out _ _ ?_ (fun hHeld => ?_)
      · (repeat (first | exact Ext.refl _ | assumption | refine Ext.setCell ?_ (by first | (simp; done) | (simp; omega)) _ | refine Ext.drewN ?_ _ | refine Ext.alloc ?_ _ | refine Ext.drew ?_ | refine Ext.trans ?_ (by assumption)))
      clear hK K
      refine wpAnyH_ready (rs := [6]) (by kernel_rfl) (by simp) ?_
      refine AllReadyH.cons (o := ?o1x6) ?hi1x6 (fun K hK => ?_) AllReadyH.nil
      case hi1x6 => (simp only [List.getElem?_toArray, List.getElem?_cons_succ, List.getElem?_cons_zero]; exact rfl)
      go_simp
      refine ((HSE _).out).mono ?_
      rintro e w7 ⟨rfl, hb7⟩
      refine hK.out _ _ ?_ (fun hHeld => ?_)
      · (repeat (first | exact Ext.refl _ | assumption | refine Ext.setCell ?_ (by first | (simp; done) | (simp; omega)) _ | refine Ext.drewN ?_ _ | refine Ext.alloc ?_ _ | refine Ext.drew ?_ | refine Ext.trans ?_ (by assumption)))
      clear hK K
      refine wpAnyH_take (i := 7) (oi := ?o1x7) (v := ?v1x7) ?hi1x7 (by kernel_rfl) ?hf1x7 ?hr1x7 (fun _ _ _ h => h) ?hy1x7 (by assumption) ?rest1x7
      case hi1x7 => (simp only [List.getElem?_toArray, List.getElem?_cons_succ, List.getElem?_cons_zero]; exact rfl)
      case hf1x7 => kernel_rfl
      case hr1x7 => kernel_rfl
      case hy1x7 => (refine Or.inl ⟨by rfl, ?_⟩; intro w hSw; (try dsimp only at hSw); go_simp; try with_reducible rfl)
      simp only [put_mk, List.set_cons_succ, List.set_cons_zero]
      refine wpAnyH_take (i := 8) (oi := ?o1x8) (v := ?v1x8) ?hi1x8 (by kernel_rfl) ?hf1x8 ?hr1x8 (fun _ _ _ h => h) ?hy1x8 (by assumption) ?rest1x8
      case hi1x8 => (simp only [List.getElem?_toArray, List.getElem?_cons_succ, List.getElem?_cons_zero]; exact rfl)
      case hf1x8 => kernel_rfl
      case hr1x8 => kernel_rfl
      case hy1x8 => (refine Or.inl ⟨by rfl, ?_⟩; intro w hSw; (try dsimp only at hSw); go_simp; try with_reducible rfl)
      simp only [put_mk, List.set_cons_succ, List.set_cons_zero]
      refine wpAnyH_take (i := 9) (oi := ?o1x9) (v := ?v1x9) ?hi1x9 (by kernel_rfl) ?hf1x9 ?hr1x9 (fun _ _ _ h => h) ?hy1x9 (by assumption) ?rest1x9
      case hi1x9 => (simp only [List.getElem?_toArray, List.getElem?_cons_succ, List.getElem?_cons_zero]; exact rfl)
      case hf1x9 => kernel_rfl
      case hr1x9 => kernel_rfl
      case hy1x9 => (refine Or.inl ⟨by rfl, ?_⟩; intro w hSw; (try dsimp only at hSw); go_simp; try with_reducible rfl)
      simp only [put_mk, List.set_cons_succ, List.set_cons_zero]
      refine wpAnyH_take (i := 10) (oi := ?o1x10) (v := ?v1x10) ?hi1x10 (by kernel_rfl) ?hf1x10 ?hr1x10 (fun _ _ _ h => h) ?hy1x10 (by assumption) ?rest1x10
      case hi1x10 => (simp only [List.getElem?_toArray, List.getElem?_cons_succ, List.getElem?_cons_zero]; exact rfl)
      case hf1x10 => kernel_rfl
      case hr1x10 => kernel_rfl
      case hy1x10 => (refine Or.inl ⟨by rfl, ?_⟩; intro w hSw; (try dsimp only at hSw); go_simp; try with_reducible rfl)
      simp only [put_mk, List.set_cons_succ, List.set_cons_zero]
      refine wpAnyH_take (i := 11) (oi := ?o1x11) (v := ?v1x11) ?hi1x11 (by kernel_rfl) ?hf1x11 ?hr1x11 (fun _ _ _ h => h) ?hy1x11 (by assumption) ?rest1x11
      case hi1x11 => (simp only [List.getElem?_toArray, List.getElem?_cons_succ, List.getElem?_cons_zero]; exact rfl)
      case hf1x11 => kernel_rfl
      case hr1x11 => kernel_rfl
      case hy1x11 => (refine Or.inl ⟨by rfl, ?_⟩; intro w hSw; (try dsimp only at hSw); go_simp; try with_reducible rfl)
      simp only [put_mk, List.set_cons_succ, List.set_cons_zero]
      refine wpAnyH_take (i := 12) (oi := ?o1x12) (v := ?v1x12) ?hi1x12 (by kernel_rfl) ?hf1x12 ?hr1x12 (fun _ _ _ h => h) ?hy1x12 (by assumption) ?rest1x12
      case hi1x12 => (simp only [List.getElem?_toArray, List.getElem?_cons_succ, List.getElem?_cons_zero]; exact rfl)
      case hf1x12 => kernel_rfl
      case hr1x12 => kernel_rfl
      case hy1x12 => (refine Or.inl ⟨by rfl, ?_⟩; intro w hSw; (try dsimp only at hSw); go_simp; try with_reducible rfl)
      simp only [put_mk, List.set_cons_succ, List.set_cons_zero]
      refine wpAnyH_take (i := 13) (oi := ?o1x13) (v := undef) ?hi1x13 (by kernel_rfl) ?hf1x13 ?hr1x13 (fun _ _ _ h => h) ?hy1x13 (by assumption) ?rest1x13
      case hi1x13 => (simp only [List.getElem?_toArray, List.getElem?_cons_succ, List.getElem?_cons_zero]; exact rfl)
      case hf1x13 => kernel_rfl
      case hr1x13 => kernel_rfl
      case hy1x13 => exact Or.inr ⟨by rfl, rfl⟩
      simp only [put_mk, List.set_cons_succ, List.set_cons_zero]
      refine wpAnyH_take (i := 14) (oi := ?o1x14) (v := undef) ?hi1x14 (by kernel_rfl) ?hf1x14 ?hr1x14 (fun _ _ _ h => h) ?hy1x14 (by assumption) ?rest1x14
      case hi1x14 => (simp only [List.getElem?_toArray, List.getElem?_cons_succ, List.getElem?_cons_zero]; exact rfl)
      case hf1x14 => kernel_rfl
      case hr1x14 => kernel_rfl
      case hy1x14 => exact Or.inr ⟨by rfl, rfl⟩
      simp only [put_mk, List.set_cons_succ, List.set_cons_zero]
      refine wpAnyH_take (i := 15) (oi := ?o1x15) (v := undef) ?hi1x15 (by kernel_rfl) ?hf1x15 ?hr1x15 (fun _ _ _ h => h) ?hy1x15 (by assumption) ?rest1x15
      case hi1x15 => (simp only [List.getElem?_toArray, List.getElem?_cons_succ, List.getElem?_cons_zero]; exact rfl)
      case hf1x15 => kernel_rfl
      case hr1x15 => kernel_rfl
      case hy1x15 => exact Or.inr ⟨by rfl, rfl⟩
      simp only [put_mk, List.set_cons_succ, List.set_cons_zero]
      refine wpAnyH_take (i := 16) (oi := ?o1x16) (v := undef) ?hi1x16 (by kernel_rfl) ?hf1x16 ?hr1x16 (fun _ _ _ h => h) ?hy1x16 (by assumption) ?rest1x16
      case hi1x16 => (simp only [List.getElem?_toArray, List.getElem?_cons_succ, List.getElem?_cons_zero]; exact rfl)
      case hf1x16 => kernel_rfl
      case hr1x16 => kernel_rfl
      case hy1x16 => exact Or.inr ⟨by rfl, rfl⟩
      simp only [put_mk, List.set_cons_succ, List.set_cons_zero]
      refine wpAnyH_take (i := 17) (oi := ?o1x17) (v := undef) ?hi1x17 (by kernel_rfl) ?hf1x17 ?hr1x17 (fun _ _ _ h => h) ?hy1x17 (by assumption) ?rest1x17
      case hi1x17 => (simp only [List.getElem?_toArray, List.getElem?_cons_succ, List.getElem?_cons_zero]; exact rfl)
      case hf1x17 => kernel_rfl
      case hr1x17 => kernel_rfl
      case hy1x17 => exact Or.inr ⟨by rfl, rfl⟩
      simp only [put_mk, List.set_cons_succ, List.set_cons_zero]
      refine wpAnyH_take (i := 18) (oi := ?o1x18) (v := undef) ?hi1x18 (by kernel_rfl) ?hf1x18 ?hr1x18 (fun _ _ _ h => h) ?hy1x18 (by assumption) ?rest1x18
      case hi1x18 => (simp only [List.getElem?_toArray, List.getElem?_cons_succ, List.getElem?_cons_zero]; exact rfl)
      case hf1x18 => kernel_rfl
      case hr1x18 => kernel_rfl
      case hy1x18 => exact Or.inr ⟨by rfl, rfl⟩
      simp only [put_mk, List.set_cons_succ, List.set_cons_zero]
      refine wpAnyH_take (i := 19) (oi := ?o1x19) (v := undef) ?hi1x19 (by kernel_rfl) ?hf1x19 ?hr1x19 (fun _ _ _ h => h) ?hy1x19 (by assumption) ?rest1x19
      case hi1x19 => (simp only [List.getElem?_toArray, List.getElem?_cons_succ, List.getElem?_cons_zero]; exact rfl)
      case hf1x19 => kernel_rfl
      case hr1x19 => kernel_rfl
      case hy1x19 => exact Or.inr ⟨by rfl, rfl⟩
      simp only [put_mk, List.set_cons_succ, List.set_cons_zero]
      refine wpAnyH_take (i := 20) (oi := ?o1x20) (v := undef) ?hi1x20 (by kernel_rfl) ?hf1x20 ?hr1x20 (fun _ _ _ h => h) ?hy1x20 (by assumption) ?rest1x20
      case hi1x20 => (simp only [List.getElem?_toArray, List.getElem?_cons_succ, List.getElem?_cons_zero]; exact rfl)
      case hf1x20 => kernel_rfl
      case hr1x20 => kernel_rfl
      case hy1x20 => exact Or.inr ⟨by rfl, rfl⟩
      simp only [put_mk, List.set_cons_succ, List.set_cons_zero]
      refine wpAnyH_take (i := 21) (oi := ?o1x21) (v := undef) ?hi1x21 (by kernel_rfl) ?hf1x21 ?hr1x21 (fun _ _ _ h => h) ?hy1x21 (by assumption) ?rest1x21
      case hi1x21 => (simp only [List.getElem?_toArray, List.getElem?_cons_succ, List.getElem?_cons_zero]; exact rfl)
      case hf1x21 => kernel_rfl
      case hr1x21 => kernel_rfl
      case hy1x21 => exact Or.inr ⟨by rfl, rfl⟩
      simp only [put_mk, List.set_cons_succ, List.set_cons_zero]
      refine wpAnyH_take (i := 22) (oi := ?o1x22) (v := undef) ?hi1x22 (by kernel_rfl) ?hf1x22 ?hr1x22 (fun _ _ _ h => h) ?hy1x22 (by assumption) ?rest1x22
      case hi1x22 => (simp only [List.getElem?_toArray, List.getElem?_cons_succ, List.getElem?_cons_zero]; exact rfl)
      case hf1x22 => kernel_rfl
      case hr1x22 => kernel_rfl
      case hy1x22 => exact Or.inr ⟨by rfl, rfl⟩
      simp only [put_mk, List.set_cons_succ, List.set_cons_zero]
      refine wpAnyH_take (i := 23) (oi := ?o1x23) (v := ?v1x23) ?hi1x23 (by kernel_rfl) ?hf1x23 ?hr1x23 (fun _ _ _ h => h) ?hy1x23 (by assumption) ?rest1x23
      case hi1x23 => (simp only [List.getElem?_toArray, List.getElem?_cons_succ, List.getElem?_cons_zero]; exact rfl)
      case hf1x23 => kernel_rfl
      case hr1x23 => kernel_rfl
      case hy1x23 => (refine Or.inl ⟨by rfl, ?_⟩; intro w hSw; (try dsimp only at hSw); go_simp; try with_reducible rfl)
      simp only [put_mk, List.set_cons_succ, List.set_cons_zero]
      refine wpAnyH_take (i := 24) (oi := ?o1x24) (v := ?v1x24) ?hi1x24 (by kernel_rfl) ?hf1x24 ?hr1x24 (fun _ _ _ h => h) ?hy1x24 (by assumption) ?rest1x24
      case hi1x24 => (simp only [List.getElem?_toArray, List.getElem?_cons_succ, List.getElem?_cons_zero]; exact rfl)
      case hf1x24 => kernel_rfl
      case hr1x24 => kernel_rfl
      case hy1x24 => (refine Or.inl ⟨by rfl, ?_⟩; intro w hSw; (try dsimp only at hSw); go_simp; try with_reducible rfl)
      simp only [put_mk, List.set_cons_succ, List.set_cons_zero]
      refine wpAnyH_done (by kernel_rfl) ?_ _
      refine NoPanic.normal ?_
      go_wp2_with fail
      go_meet
      case rel => exact ⟨rfl, (by repeat (first | exact Ext.refl _ | assumption | refine Ext.setCell ?_ (by first | (simp; done) | (simp; omega)) _ | refine Ext.drewN ?_ _ | refine Ext.alloc ?_ _ | refine Ext.drew ?_ | refine Ext.trans ?_ (by assumption)))⟩
    · have t1 : (LE != 0) = true := by simpa using hz
      have t2 : (LE != LE) = false := by simp
      have ea := LB.out hz
      subst ea
      clear hz
      refine wp_region_noPanic ?_
      refine wp_region_held_drew (S := fun w' => Ext w4 w') (by kernel_rfl) ?_ (fun hHeld => ?_)
      · (repeat (first | exact Ext.refl _ | assumption | refine Ext.setCell ?_ (by first | (simp; done) | (simp; omega)) _ | refine Ext.drewN ?_ _ | refine Ext.alloc ?_ _ | refine Ext.drew ?_ | refine Ext.trans ?_ (by assumption)))
      refine wpAnyH_ready (rs := [0]) (by kernel_rfl) (by simp) ?_
      refine AllReadyH.cons (o := ?o2x0) ?hi2x0 (fun K hK => ?_) AllReadyH.nil
      case hi2x0 => (simp only [List.getElem?_toArray, List.getElem?_cons_zero]; exact rfl)
      go_simp
      refine (writes_any _).mono ?_
      rintro e w5 ⟨rfl, hb5⟩
      refine hK.out _ _ ?_ (fun hHeld => ?_)
      · (repeat (first | exact Ext.refl _ | assumption | refine Ext.setCell ?_ (by first | (simp; done) | (simp; omega)) _ | refine Ext.drewN ?_ _ | refine Ext.alloc ?_ _ | refine Ext.drew ?_ | refine Ext.trans ?_ (by assumption)))
      clear hK K
      refine wpAnyH_take (i := 1) (oi := ?o2x1) (v := ?v2x1) ?hi2x1 (by kernel_rfl) ?hf2x1 ?hr2x1 (fun _ _ _ h => h) ?hy2x1 (by assumption) ?rest2x1
      case hi2x1 => (simp only [List.getElem?_toArray, List.getElem?_cons_succ, List.getElem?_cons_zero]; exact rfl)
      case hf2x1 => kernel_rfl
      case hr2x1 => kernel_rfl
      case hy2x1 => (refine Or.inl ⟨by rfl, ?_⟩; intro w hSw; (try dsimp only at hSw); go_simp; try with_reducible rfl)
      simp only [put_mk, List.set_cons_succ, List.set_cons_zero]
      refine wpAnyH_take (i := 2) (oi := ?o2x2) (v := ?v2x2) ?hi2x2 (by kernel_rfl) ?hf2x2 ?hr2x2 (fun _ _ _ h => h) ?hy2x2 (by assumption) ?rest2x2
      case hi2x2 => (simp only [List.getElem?_toArray, List.getElem?_cons_succ, List.getElem?_cons_zero]; exact rfl)
      case hf2x2 => kernel_rfl
      case hr2x2 => kernel_rfl
      case hy2x2 => (refine Or.inl ⟨by rfl, ?_⟩; intro w hSw; (try dsimp only at hSw); go_simp; try with_reducible rfl)
      simp only [put_mk, List.set_cons_succ, List.set_cons_zero]
      refine wpAnyH_take (i := 3) (oi := ?o2x3) (v := ?v2x3) ?hi2x3 (by kernel_rfl) ?hf2x3 ?hr2x3 (fun _ _ _ h => h) ?hy2x3 (by assumption) ?rest2x3
      case hi2x3 => (simp only [List.getElem?_toArray, List.getElem?_cons_succ, List.getElem?_cons_zero]; exact rfl)
      case hf2x3 => kernel_rfl
      case hr2x3 => kernel_rfl
      case hy2x3 => (refine Or.inl ⟨by rfl, ?_⟩; intro w hSw; (try dsimp only at hSw); go_simp; try with_reducible rfl)
      simp only [put_mk, List.set_cons_succ, List.set_cons_zero]
      refine wpAnyH_take (i := 5) (oi := ?o2x5) (v := ?v2x5) ?hi2x5 (by kernel_rfl) ?hf2x5 ?hr2x5 (fun _ _ _ h => h) ?hy2x5 (by assumption) ?rest2x5
      case hi2x5 => (simp only [List.getElem?_toArray, List.getElem?_cons_succ, List.getElem?_cons_zero]; exact rfl)
      case hf2x5 => kernel_rfl
      case hr2x5 => kernel_rfl
      case hy2x5 => (refine Or.inl ⟨by rfl, ?_⟩; intro w hSw; (try dsimp only at hSw); go_simp; try with_reducible rfl)
      simp only [put_mk, List.set_cons_succ, List.set_cons_zero]
      refine wpAnyH_ready (rs := [4]) (by kernel_rfl) (by simp) ?_
      refine AllReadyH.cons (o := ?o2x4) ?hi2x4 (fun K hK => ?_) AllReadyH.nil
      case hi2x4 => (simp only [List.getElem?_toArray, List.getElem?_cons_succ, List.getElem?_cons_zero]; exact rfl)
      go_simp
      refine ((HCS _).out).mono ?_
      rintro e w6 ⟨rfl, hb6⟩
      refine hK.out _ _ ?_ (fun hHeld => ?_)
      · (repeat (first | exact Ext.refl _ | assumption | refine Ext.setCell ?_ (by first | (simp; done) | (simp; omega)) _ | refine Ext.drewN ?_ _ | refine Ext.alloc ?_ _ | refine Ext.drew ?_ | refine Ext.trans ?_ (by assumption)))
      clear hK K
      refine wpAnyH_ready (rs := [6]) (by kernel_rfl) (by simp) ?_
      refine AllReadyH.cons (o := ?o2x6) ?hi2x6 (fun K hK => ?_) AllReadyH.nil
      case hi2x6 => (simp only [List.getElem?_toArray, List.getElem?_cons_succ, List.getElem?_cons_zero]; exact rfl)
      go_simp
      refine ((HSE _).out).mono ?_
      rintro e w7 ⟨rfl, hb7⟩
      refine hK.out _ _ ?_ (fun hHeld => ?_)
      · (repeat (first | exact Ext.refl _ | assumption | refine Ext.setCell ?_ (by first | (simp; done) | (simp; omega)) _ | refine Ext.drewN ?_ _ | refine Ext.alloc ?_ _ | refine Ext.drew ?_ | refine Ext.trans ?_ (by assumption)))
      clear hK K
      refine wpAnyH_take (i := 7) (oi := ?o2x7) (v := ?v2x7) ?hi2x7 (by kernel_rfl) ?hf2x7 ?hr2x7 (fun _ _ _ h => h) ?hy2x7 (by assumption) ?rest2x7
      case hi2x7 => (simp only [List.getElem?_toArray, List.getElem?_cons_succ, List.getElem?_cons_zero]; exact rfl)
      case hf2x7 => kernel_rfl
      case hr2x7 => kernel_rfl
      case hy2x7 => (refine Or.inl ⟨by rfl, ?_⟩; intro w hSw; (try dsimp only at hSw); go_simp; try with_reducible rfl)
      simp only [put_mk, List.set_cons_succ, List.set_cons_zero]
      refine wpAnyH_take (i := 8) (oi := ?o2x8) (v := ?v2x8) ?hi2x8 (by kernel_rfl) ?hf2x8 ?hr2x8 (fun _ _ _ h => h) ?hy2x8 (by assumption) ?rest2x8
      case hi2x8 => (simp only [List.getElem?_toArray, List.getElem?_cons_succ, List.getElem?_cons_zero]; exact rfl)
      case hf2x8 => kernel_rfl
      case hr2x8 => kernel_rfl
      case hy2x8 => (refine Or.inl ⟨by rfl, ?_⟩; intro w hSw; (try dsimp only at hSw); go_simp; try with_reducible rfl)
      simp only [put_mk, List.set_cons_succ, List.set_cons_zero]
      refine wpAnyH_take (i := 9) (oi := ?o2x9) (v := ?v2x9) ?hi2x9 (by kernel_rfl) ?hf2x9 ?hr2x9 (fun _ _ _ h => h) ?hy2x9 (by assumption) ?rest2x9
      case hi2x9 => (simp only [List.getElem?_toArray, List.getElem?_cons_succ, List.getElem?_cons_zero]; exact rfl)
      case hf2x9 => kernel_rfl
      case hr2x9 => kernel_rfl
      case hy2x9 => (refine Or.inl ⟨by rfl, ?_⟩; intro w hSw; (try dsimp only at hSw); go_simp; try with_reducible rfl)
      simp only [put_mk, List.set_cons_succ, List.set_cons_zero]
      refine wpAnyH_take (i := 10) (oi := ?o2x10) (v := ?v2x10) ?hi2x10 (by kernel_rfl) ?hf2x10 ?hr2x10 (fun _ _ _ h => h) ?hy2x10 (by assumption) ?rest2x10
      case hi2x10 => (simp only [List.getElem?_toArray, List.getElem?_cons_succ, List.getElem?_cons_zero]; exact rfl)
      case hf2x10 => kernel_rfl
      case hr2x10 => kernel_rfl
      case hy2x10 => (refine Or.inl ⟨by rfl, ?_⟩; intro w hSw; (try dsimp only at hSw); go_simp; try with_reducible rfl)
      simp only [put_mk, List.set_cons_succ, List.set_cons_zero]
      refine wpAnyH_take (i := 11) (oi := ?o2x11) (v := ?v2x11) ?hi2x11 (by kernel_rfl) ?hf2x11 ?hr2x11 (fun _ _ _ h => h) ?hy2x11 (by assumption) ?rest2x11
      case hi2x11 => (simp only [List.getElem?_toArray, List.getElem?_cons_succ, List.getElem?_cons_zero]; exact rfl)
      case hf2x11 => kernel_rfl
      case hr2x11 => kernel_rfl
      case hy2x11 => (refine Or.inl ⟨by rfl, ?_⟩; intro w hSw; (try dsimp only at hSw); go_simp; try with_reducible rfl)
      simp only [put_mk, List.set_cons_succ, List.set_cons_zero]
      refine wpAnyH_take (i := 12) (oi := ?o2x12) (v := ?v2x12) ?hi2x12 (by kernel_rfl) ?hf2x12 ?hr2x12 (fun _ _ _ h => h) ?hy2x12 (by assumption) ?rest2x12
      case hi2x12 => (simp only [List.getElem?_toArray, List.getElem?_cons_succ, List.getElem?_cons_zero]; exact rfl)
      case hf2x12 => kernel_rfl
      case hr2x12 => kernel_rfl
      case hy2x12 => (refine Or.inl ⟨by rfl, ?_⟩; intro w hSw; (try dsimp only at hSw); go_simp; try with_reducible rfl)
      simp only [put_mk, List.set_cons_succ, List.set_cons_zero]
      refine wpAnyH_take (i := 13) (oi := ?o2x13) (v := ?v2x13) ?hi2x13 (by kernel_rfl) ?hf2x13 ?hr2x13 (fun _ _ _ h => h) ?hy2x13 (by assumption) ?rest2x13
      case hi2x13 => (simp only [List.getElem?_toArray, List.getElem?_cons_succ, List.getElem?_cons_zero]; exact rfl)
      case hf2x13 => kernel_rfl
      case hr2x13 => kernel_rfl
      case hy2x13 => (refine Or.inl ⟨by rfl, ?_⟩; intro w hSw; (try dsimp only at hSw); go_simp; try with_reducible rfl)
      simp only [put_mk, List.set_cons_succ, List.set_cons_zero]
      refine wpAnyH_take (i := 14) (oi := ?o2x14) (v := ?v2x14) ?hi2x14 (by kernel_rfl) ?hf2x14 ?hr2x14 (fun _ _ _ h => h) ?hy2x14 (by assumption) ?rest2x14
      case hi2x14 => (simp only [List.getElem?_toArray, List.getElem?_cons_succ, List.getElem?_cons_zero]; exact rfl)
      case hf2x14 => kernel_rfl
      case hr2x14 => kernel_rfl
      case hy2x14 => (refine Or.inl ⟨by rfl, ?_⟩; intro w hSw; (try dsimp only at hSw); go_simp; try with_reducible rfl)
      simp only [put_mk, List.set_cons_succ, List.set_cons_zero]
      refine wpAnyH_take (i := 15) (oi := ?o2x15) (v := ?v2x15) ?hi2x15 (by kernel_rfl) ?hf2x15 ?hr2x15 (fun _ _ _ h => h) ?hy2x15 (by assumption) ?rest2x15
      case hi2x15 => (simp only [List.getElem?_toArray, List.getElem?_cons_succ, List.getElem?_cons_zero]; exact rfl)
      case hf2x15 => kernel_rfl
      case hr2x15 => kernel_rfl
      case hy2x15 => (refine Or.inl ⟨by rfl, ?_⟩; intro w hSw; (try dsimp only at hSw); go_simp; try with_reducible rfl)
      simp only [put_mk, List.set_cons_succ, List.set_cons_zero]
      refine wpAnyH_take (i := 16) (oi := ?o2x16) (v := ?v2x16) ?hi2x16 (by kernel_rfl) ?hf2x16 ?hr2x16 (fun _ _ _ h => h) ?hy2x16 (by assumption) ?rest2x16
      case hi2x16 => (simp only [List.getElem?_toArray, List.getElem?_cons_succ, List.getElem?_cons_zero]; exact rfl)
      case hf2x16 => kernel_rfl
      case hr2x16 => kernel_rfl
      case hy2x16 => (refine Or.inl ⟨by rfl, ?_⟩; intro w hSw; (try dsimp only at hSw); go_simp; try with_reducible rfl)
      simp only [put_mk, List.set_cons_succ, List.set_cons_zero]
      refine wpAnyH_take (i := 17) (oi := ?o2x17) (v := ?v2x17) ?hi2x17 (by kernel_rfl) ?hf2x17 ?hr2x17 (fun _ _ _ h => h) ?hy2x17 (by assumption) ?rest2x17
      case hi2x17 => (simp only [List.getElem?_toArray, List.getElem?_cons_succ, List.getElem?_cons_zero]; exact rfl)
      case hf2x17 => kernel_rfl
      case hr2x17 => kernel_rfl
      case hy2x17 => (refine Or.inl ⟨by rfl, ?_⟩; intro w hSw; (try dsimp only at hSw); go_simp; try with_reducible rfl)
      simp only [put_mk, List.set_cons_succ, List.set_cons_zero]
      refine wpAnyH_take (i := 18) (oi := ?o2x18) (v := ?v2x18) ?hi2x18 (by kernel_rfl) ?hf2x18 ?hr2x18 (fun _ _ _ h => h) ?hy2x18 (by assumption) ?rest2x18
      case hi2x18 => (simp only [List.getElem?_toArray, List.getElem?_cons_succ, List.getElem?_cons_zero]; exact rfl)
      case hf2x18 => kernel_rfl
      case hr2x18 => kernel_rfl
      case hy2x18 => (refine Or.inl ⟨by rfl, ?_⟩; intro w hSw; (try dsimp only at hSw); go_simp; try with_reducible rfl)
      simp only [put_mk, List.set_cons_succ, List.set_cons_zero]
      refine wpAnyH_take (i := 19) (oi := ?o2x19) (v := ?v2x19) ?hi2x19 (by kernel_rfl) ?hf2x19 ?hr2x19 (fun _ _ _ h => h) ?hy2x19 (by assumption) ?rest2x19
      case hi2x19 => (simp only [List.getElem?_toArray, List.getElem?_cons_succ, List.getElem?_cons_zero]; exact rfl)
      case hf2x19 => kernel_rfl
      case hr2x19 => kernel_rfl
      case hy2x19 => (refine Or.inl ⟨by rfl, ?_⟩; intro w hSw; (try dsimp only at hSw); go_simp; try with_reducible rfl)
      simp only [put_mk, List.set_cons_succ, List.set_cons_zero]
      refine wpAnyH_take (i := 20) (oi := ?o2x20) (v := ?v2x20) ?hi2x20 (by kernel_rfl) ?hf2x20 ?hr2x20 (fun _ _ _ h => h) ?hy2x20 (by assumption) ?rest2x20
      case hi2x20 => (simp only [List.getElem?_toArray, List.getElem?_cons_succ, List.getElem?_cons_zero]; exact rfl)
      case hf2x20 => kernel_rfl
      case hr2x20 => kernel_rfl
      case hy2x20 => (refine Or.inl ⟨by rfl, ?_⟩; intro w hSw; (try dsimp only at hSw); go_simp; try with_reducible rfl)
      simp only [put_mk, List.set_cons_succ, List.set_cons_zero]
      refine wpAnyH_take (i := 21) (oi := ?o2x21) (v := ?v2x21) ?hi2x21 (by kernel_rfl) ?hf2x21 ?hr2x21 (fun _ _ _ h => h) ?hy2x21 (by assumption) ?rest2x21
      case hi2x21 => (simp only [List.getElem?_toArray, List.getElem?_cons_succ, List.getElem?_cons_zero]; exact rfl)
      case hf2x21 => kernel_rfl
      case hr2x21 => kernel_rfl
      case hy2x21 => (refine Or.inl ⟨by rfl, ?_⟩; intro w hSw; (try dsimp only at hSw); go_simp; try with_reducible rfl)
      simp only [put_mk, List.set_cons_succ, List.set_cons_zero]
      refine wpAnyH_take (i := 22) (oi := ?o2x22) (v := ?v2x22) ?hi2x22 (by kernel_rfl) ?hf2x22 ?hr2x22 (fun _ _ _ h => h) ?hy2x22 (by assumption) ?rest2x22
      case hi2x22 => (simp only [List.getElem?_toArray, List.getElem?_cons_succ, List.getElem?_cons_zero]; exact rfl)
      case hf2x22 => kernel_rfl
      case hr2x22 => kernel_rfl
      case hy2x22 => (refine Or.inl ⟨by rfl, ?_⟩; intro w hSw; (try dsimp only at hSw); go_simp; try with_reducible rfl)
      simp only [put_mk, List.set_cons_succ, List.set_cons_zero]
      refine wpAnyH_take (i := 23) (oi := ?o2x23) (v := ?v2x23) ?hi2x23 (by kernel_rfl) ?hf2x23 ?hr2x23 (fun _ _ _ h => h) ?hy2x23 (by assumption) ?rest2x23
      case hi2x23 => (simp only [List.getElem?_toArray, List.getElem?_cons_succ, List.getElem?_cons_zero]; exact rfl)
      case hf2x23 => kernel_rfl
      case hr2x23 => kernel_rfl
      case hy2x23 => (refine Or.inl ⟨by rfl, ?_⟩; intro w hSw; (try dsimp only at hSw); go_simp; try with_reducible rfl)
      simp only [put_mk, List.set_cons_succ, List.set_cons_zero]
      refine wpAnyH_take (i := 24) (oi := ?o2x24) (v := ?v2x24) ?hi2x24 (by kernel_rfl) ?hf2x24 ?hr2x24 (fun _ _ _ h => h) ?hy2x24 (by assumption) ?rest2x24
      case hi2x24 => (simp only [List.getElem?_toArray, List.getElem?_cons_succ, List.getElem?_cons_zero]; exact rfl)
      case hf2x24 => kernel_rfl
      case hr2x24 => kernel_rfl
      case hy2x24 => (refine Or.inl ⟨by rfl, ?_⟩; intro w hSw; (try dsimp only at hSw); go_simp; try with_reducible rfl)
      simp only [put_mk, List.set_cons_succ, List.set_cons_zero]
      refine wpAnyH_done (by kernel_rfl) ?_ _
      refine NoPanic.normal ?_
      go_wp2_with fail
      go_meet
      case rel => exact ⟨rfl, (by repeat (first | exact Ext.refl _ | assumption | refine Ext.setCell ?_ (by first | (simp; done) | (simp; omega)) _ | refine Ext.drewN ?_ _ | refine Ext.alloc ?_ _ | refine Ext.drew ?_ | refine Ext.trans ?_ (by assumption)))⟩
  case rest =>
    obtain ⟨rfl, hx5'⟩ := hcut
    obtain ⟨w5, hw5⟩ : ∃ w5, w5 = wc := ⟨_, rfl⟩
    subst hw5
    have hx5 : Ext w1 w5 := hx4.trans hx5'
    clear hx5' hx4 HCS HNv HLF LB
    go_upto_if 65 with fail
    go_cut [15, 16] from 65 to 83 (fun s15 s16 wx => Ext w5 wx)
    case first =>
      by_cases hz : LE = 0
      · subst hz
        have k0 := s0 w5 hx5
        have k1 := s1 w5 hx5
        have k2 := s2 w5 hx5
        have t2 : (LA.1 != LA.1) = false := by simp
        have t3 : (LA.2 != LA.2) = false := by simp
        go_wp2_with fail
        refine ((HRef _ (by first | trivial | rfl)).out).mono ?_
        rintro e w6 ⟨rfl, hb6⟩
        go_wp2_with fail
        go_meet
        case rel => exact hb6
      · have t1 : (LE == 0) = false := by simpa using hz
        rw [t1]
        go_wp2_with fail
        go_meet
        case rel => exact Ext.refl _
    case rest =>
      have hx6 : Ext w1 wc := hx5.trans hcut
      obtain ⟨w6, hw6⟩ : ∃ w6, w6 = wc := ⟨_, rfl⟩
      subst hw6
      clear hcut hx5 HRef
      have k0 := s0 w6 hx6
      have k1 := s1 w6 hx6
      have k2 := s2 w6 hx6
      go_wp2_with fail
      refine ((HVal _).out).mono ?_
      rintro e w7 ⟨rfl, hb7⟩
      have hx7 : Ext w1 w7 := hx6.trans hb7
      clear k0 k1 k2 hb7 hx6
      have k0 := s0 w7 hx7
      have k1 := s1 w7 hx7
      have k2 := s2 w7 hx7
      go_wp2_with fail
      refine ((HSE _).out).mono ?_
      rintro e w8 ⟨rfl, hb8⟩
      have hx8 : Ext w1 w8 := hx7.trans hb8
      clear k0 k1 k2 hb8 hx7
      go_upto_if 93 with fail
      go_cut [14] from 93 to 101 (fun s14 wx => s14 = .int .i64 (numR s num) ∧ Ext w8 wx)
      case first =>
        by_cases hz : scaleE s = 0
        · obtain ⟨b, hb, b1, b2⟩ := HSZ.out hz
          have ho := HSB.out b hb
          have hnr := numR_in (n := num) hz
          rw [← ho] at hnr
          have HNR := hidA hnr
          have sh := shl_pow b2
          rw [← hb] at sh
          obtain ⟨m1, m2, m3⟩ := mostN_bd b1 b2
          have q2 : wrap64 (((2 ^ b : Nat) : Int) - 1) = ((2 ^ b : Nat) : Int) - 1 := by unfold wrap64; omega
          have hS : 2 ≤ 2 ^ b ∧ 2 ^ b ≤ 16777216 := by omega
          have t1 : (scaleE s == 0) = true := by simpa using hz
          rw [t1]
          clear m1 m2 m3 ho hnr hb hz
          generalize 2 ^ b = S at *
          go_wp2_with fail
          refine (within_any _ _ _ _).mono ?_
          rintro e w9 ⟨rfl, rfl⟩
          generalize (decide ((0 : Int) ≤ num) && decide (num ≤ (S : Int) - 1)) = ib at *
          cases ib
          all_goals
            go_wp2_with fail
            refine (when_any _ _ _).mono ?_
            rintro e w9 ⟨rfl, rfl⟩
            go_wp2_with fail
            go_meet
            case rel => exact ⟨by rw [HNR.out]; rfl, Ext.refl _⟩
        · have t1 : (scaleE s == 0) = false := by simpa using hz
          have HNR := hidA (numR_bad (n := num) hz)
          rw [t1]
          go_wp2_with fail
          go_meet
          case rel => exact ⟨by rw [HNR.out], Ext.refl _⟩
      case rest =>
        obtain ⟨rfl, hx9'⟩ := hcut
        have hx9 : Ext w1 wc := hx8.trans hx9'
        obtain ⟨w9, hw9⟩ : ∃ w9, w9 = wc := ⟨_, rfl⟩
        subst hw9
        clear hx9' hx8 HSE HSB HSZ
        go_upto_if 103 with fail
        go_cut [14] from 103 to 110 (fun s14 wx => s14 = .int .i64 (valE s num) ∧ Ext w9 wx)
        case first =>
          by_cases hz : numR s num = 0
          · have H3 := hidA (val_three hz)
            have HV := fun (w : World) => HVO w hz
            have k0 := s0 w9 hx9
            have k1 := s1 w9 hx9
            have k2 := s2 w9 hx9
            have t1 : (numR s num == 0) = true := by simpa using hz
            rw [t1]
            clear hz HVO
            go_wp2_with fail
            refine ((HV _).out).mono ?_
            rintro e w10 ⟨rfl, hb10⟩
            go_wp2_with fail
            refine ((HNn _ _ (Rd.new (by first | rfl | simp) rfl)).out).mono ?_
            rintro e w11 ⟨rfl, hw11⟩
            have hx11 : Ext w9 w11 := by rw [← hw11]; exact hb10.alloc _
            clear hw11
            obtain ⟨nb, hnb⟩ : ∃ nb, (numE [valN s num] != 0) = nb := ⟨_, rfl⟩
            rw [hnb] at H3
            cases nb
            all_goals
              go_wp2_with fail
              refine (when_any _ _ _).mono ?_
              rintro e w12 ⟨rfl, rfl⟩
              go_wp2_with fail
              go_meet
              case rel => exact ⟨by rw [← H3.out]; rfl, hx11⟩
          · have H3 := hidA (numR_val hz)
            have t1 : (numR s num == 0) = false := by simpa using hz
            rw [t1]
            go_wp2_with fail
            go_meet
            case rel => exact ⟨by rw [H3.out], Ext.refl _⟩
        case rest =>
          obtain ⟨rfl, hx10'⟩ := hcut
          have hx10 : Ext w1 wc := hx9.trans hx10'
          obtain ⟨w10, hw10⟩ : ∃ w10, w10 = wc := ⟨_, rfl⟩
          subst hw10
          clear hx10' hx9 HNn
          go_upto_region 15 with fail
          go_cut [137] from 111 to 136 (fun s137 wx => s137 = .bool false ∧ Ext w10 wx)
          case first =>
            by_cases hz : valE s num = 0
            · have hnr : numR s num = 0 := by
                by_cases h : numR s num = 0
                · exact h
                · rw [numR_val h] at hz
                  exact hz
              have HV := fun (w : World) => HVO w hnr
              have HBT := fun (w : World) => hidA (show Calls Try.prog 22 #[.float .f32 (valA s num), .float .f32 (valN s num)] w fun e w' => e = .returned (.bool true) ∧ w' = w from by rw [valA_ok hz]; exact bit_same _ w)
              have k0 := s0 w10 hx10
              have k1 := s1 w10 hx10
              have k2 := s2 w10 hx10
              have t1 : (valE s num != 0) = false := by simpa using hz
              have t2 : (valE s num == 0) = true := by simpa using hz
              clear hnr hz HVO
              go_wp2_with fail
              refine ((HV _).out).mono ?_
              rintro e w11 ⟨rfl, hb11⟩
              go_wp2_with fail
              refine ((HBT _).out).mono ?_
              rintro e w12 ⟨rfl, hw12⟩
              rw [hw12]
              clear hw12 w12
              go_wp2_with fail
              go_meet
              case rel => exact ⟨rfl, hb11⟩
            · have ea := valA_bad hz
              have t1 : (valE s num != 0) = true := by simpa using hz
              have t2 : (valE s num == 0) = false := by simpa using hz
              have t3 : (valE s num != valE s num) = false := by simp
              have t4 : (FloatKind.f32.format.order (valA s num) 0 == some .eq) = true := by rw [ea]; exact z0
              have t5 : FloatKind.f32.format.order (valA s num) 0 = some .eq := by simpa using t4
              clear ea hz
              go_wp2_with fail
              go_meet
              case rel => exact ⟨rfl, Ext.refl _⟩
          case rest =>
            obtain ⟨rfl, hx11'⟩ := hcut
            have hx11 : Ext w1 wc := hx10.trans hx11'
            obtain ⟨w11, hw11⟩ : ∃ w11, w11 = wc := ⟨_, rfl⟩
            subst hw11
            clear hx11' hx10 HVO HVal s0 s1 s2
            have k0 := f0 w11 hx11
            have k1 := f1 w11 hx11
            have k2 := f2 w11 hx11
            have k3 := f3 w11 hx11
            have k4 := f4 w11 hx11
            obtain ⟨FA, hFA⟩ : ∃ FA, fitA X Y W H l bt = FA := ⟨_, rfl⟩
            obtain ⟨FE, hFE⟩ : ∃ FE, fitE X Y W H l bt = FE := ⟨_, rfl⟩
            rw [hFA, hFE] at HFit
            have HFA := hidA hFA
            have HFF := hidA hFE
            clear hFA hFE
            go_wp2_with fail
            refine ((HFit _ (hDD _ hx11)).out).mono ?_
            rintro e w12 ⟨rfl, hb12⟩
            have hx12 : Ext w1 w12 := hx11.trans hb12
            have hl12 : w.heap.size + 1 < w12.heap.size := Nat.lt_of_lt_of_le hl1 hx12.size
            clear k0 k1 k2 k3 k4 hb12 hx11 HFit
            have k0 := f0 w12 hx12
            have k1 := f1 w12 hx12
            have k2 := f2 w12 hx12
            have k3 := f3 w12 hx12
            have k4 := f4 w12 hx12
            go_wp2_with fail
            refine ((HFE _ (hDD _ (hx12.alloc _))).out).mono ?_
            rintro e w13 ⟨rfl, hb13⟩
            have hX : Bk w13 w12.heap.size 38 #[.float .f32 FA.1, .float .f32 FA.2.1, .int .i64 FA.2.2] := (Bk.new w12 38 _).ext hb13
            have hx13 : Ext w1 w13 := (hx12.alloc _).trans hb13
            have hl13 := hX.lt
            have hX := hidA hX
            clear k0 k1 k2 k3 k4 hb13 HFE
            have HFI := hidA (fit_first X Y W H l bt)
            go_wp2_with fail
            refine (within_any _ _ _ _).mono ?_
            rintro e w14 ⟨rfl, rfl⟩
            generalize (decide ((1 : Int) ≤ bt) && decide (bt ≤ 24)) = ib at *
            go_wp2_with fail
            refine (when_any _ _ _).mono ?_
            rintro e w14 ⟨rfl, rfl⟩
            generalize (if (!ib) = true then (3 : Int) else 0) = z3 at *
            go_wp2_with fail
            refine (first_any _ 2 2 [fieldE X Y W H l, z3] _ rfl (Rd.new (by first | rfl | simp) rfl) (by omega)).mono ?_
            rw [HFI.out]
            rintro e w14 ⟨rfl, hw14⟩
            have hx14 : Ext w13 w14 := by rw [← hw14]; exact (Ext.refl w13).alloc _
            have hX14 := hX.out.ext hx14
            have hl14 : w12.heap.size < w14.heap.size := hX14.lt
            have x0 := hX14.cell 0
            have x1 := hX14.cell 1
            have x2 := hX14.cell 2
            have hxw := hx13.trans hx14
            clear hw14 HFI hX hx14 hX14 hx13 hx12
            by_cases hz : fitW X Y W H l bt = 0
            · obtain ⟨b, rfl, b1, b2, HH⟩ := fin_facts hN1.out.1 hz HFA.out HFF.out
              obtain ⟨c1, c2, c3, p1, p2, c4, c5, heq, c6, c7⟩ := HH
              have HMin := fun (w : World) (hd : Rd w A (flt l)) => hidA (sMin_any A n c l w hN1.out.1 hd c1 c2 c3)
              have HMax := fun (w : World) (hd : Rd w A (flt l)) => hidA (sMax_any A n c l w hN1.out.1 hd c1 c2 c3)
              have q1 := fun (w : World) => run_float_arith (P := Try.prog) w .sub 22 .f32 _ _ _ p1
              have q2 := fun (w : World) => run_float_arith (P := Try.prog) w .quo 22 .f32 _ _ _ p2
              have sh := wrap_pow b2
              obtain ⟨q3, q4, q5⟩ := pow_facts b1 b2
              have HNs := fun (A : Option Addr) (w : World) (hr : Rd w A (flt [fitS l b])) => hidA (numberError_any A 1 1 [fitS l b] w rfl hr (by omega))
              have HST := hidA c4
              have HP3 := hidA c5
              have HE := hidA c6
              have HA := hidA c7
              have t1 : (fitW X Y W H l b != 0) = false := by simpa using hz
              have g4 : ∀ w', Ext w14 w' → w'.cell? ⟨w.heap.size + 1, 4, none⟩ = some (.slice A n c) := fun w' h => f4 w' (hxw.trans h)
              have y0 : ∀ w', Ext w14 w' → w'.cell? ⟨w12.heap.size, 0, none⟩ = some (.float .f32 FA.1) := fun w' h => (h.cell _ hl14).trans x0
              have y1 : ∀ w', Ext w14 w' → w'.cell? ⟨w12.heap.size, 1, none⟩ = some (.float .f32 FA.2.1) := fun w' h => (h.cell _ hl14).trans x1
              have y2 : ∀ w', Ext w14 w' → w'.cell? ⟨w12.heap.size, 2, none⟩ = some (.int .i64 FA.2.2) := fun w' h => (h.cell _ hl14).trans x2
              clear hz c1 c2 c3 p1 p2 c4 c5 c6 c7 HFA HFF f0 f1 f2 f3 f4 x0 x1 x2
              generalize fitS l b = r at *
              generalize fdiv (fsub (maxs l) (mins l)) (floatOfInt .f32 (((2 ^ b : Nat) : Int) - 1)) = d at *
              generalize 2 ^ b = S at *
              obtain ⟨bb, hbb⟩ : ∃ bb, lt d 897581056 = bb := ⟨_, rfl⟩
              have b0 : (FloatKind.f32.format.order d 897581056 == some .lt) = bb := hbb
              rw [hbb] at HST
              clear hbb
              by_cases hz2 : numE [r] = 0
              · have hE := HE.out
                have hA := HA.out
                rw [hz2] at hE HNs
                rw [if_pos hz2] at hA
                subst hE
                subst hA
                dsimp only at y0 y1 y2
                clear HE HA HP3 hz2
                cases bb
                · have hr := HST.out
                  rw [if_neg (by decide)] at hr
                  subst hr
                  clear HST
                  go_wp2_with fail
                  refine wp_region_noPanic ?_
                  refine wp_region_held_drew (S := fun w' => Ext w14 w') (by kernel_rfl) ?_ (fun hHeld => ?_)
                  · (repeat (first | exact Ext.refl _ | assumption | refine Ext.setCell ?_ (by first | (simp; done) | (simp; omega)) _ | refine Ext.drewN ?_ _ | refine Ext.alloc ?_ _ | refine Ext.drew ?_ | refine Ext.trans ?_ (by assumption)))
                  refine wpAnyH_take (i := 0) (oi := ?o101x0) (v := ?v101x0) ?hi101x0 (by kernel_rfl) ?hf101x0 ?hr101x0 (fun _ _ _ h => h) ?hy101x0 (by assumption) ?rest101x0
                  case hi101x0 => (simp only [List.getElem?_toArray, List.getElem?_cons_zero]; exact rfl)
                  case hf101x0 => kernel_rfl
                  case hr101x0 => kernel_rfl
                  case hy101x0 => (refine Or.inl ⟨by rfl, ?_⟩; intro w hSw; (try dsimp only at hSw); go_simp; try with_reducible rfl)
                  simp only [put_mk, List.set_cons_succ, List.set_cons_zero]
                  refine wpAnyH_take (i := 1) (oi := ?o101x1) (v := ?v101x1) ?hi101x1 (by kernel_rfl) ?hf101x1 ?hr101x1 (fun _ _ _ h => h) ?hy101x1 (by assumption) ?rest101x1
                  case hi101x1 => (simp only [List.getElem?_toArray, List.getElem?_cons_succ, List.getElem?_cons_zero]; exact rfl)
                  case hf101x1 => kernel_rfl
                  case hr101x1 => kernel_rfl
                  case hy101x1 => (refine Or.inl ⟨by rfl, ?_⟩; intro w hSw; (try dsimp only at hSw); go_simp; try with_reducible rfl)
                  simp only [put_mk, List.set_cons_succ, List.set_cons_zero]
                  refine wpAnyH_take (i := 3) (oi := ?o101x3) (v := ?v101x3) ?hi101x3 (by kernel_rfl) ?hf101x3 ?hr101x3 (fun _ _ _ h => h) ?hy101x3 (by assumption) ?rest101x3
                  case hi101x3 => (simp only [List.getElem?_toArray, List.getElem?_cons_succ, List.getElem?_cons_zero]; exact rfl)
                  case hf101x3 => kernel_rfl
                  case hr101x3 => kernel_rfl
                  case hy101x3 => (refine Or.inl ⟨by rfl, ?_⟩; intro w hSw; (try dsimp only at hSw); go_simp; try with_reducible rfl)
                  simp only [put_mk, List.set_cons_succ, List.set_cons_zero]
                  refine wpAnyH_take (i := 4) (oi := ?o101x4) (v := ?v101x4) ?hi101x4 (by kernel_rfl) ?hf101x4 ?hr101x4 (fun _ _ _ h => h) ?hy101x4 (by assumption) ?rest101x4
                  case hi101x4 => (simp only [List.getElem?_toArray, List.getElem?_cons_succ, List.getElem?_cons_zero]; exact rfl)
                  case hf101x4 => kernel_rfl
                  case hr101x4 => kernel_rfl
                  case hy101x4 => (refine Or.inl ⟨by rfl, ?_⟩; intro w hSw; (try dsimp only at hSw); go_simp; try with_reducible rfl)
                  simp only [put_mk, List.set_cons_succ, List.set_cons_zero]
                  refine wpAnyH_ready (rs := [2]) (by kernel_rfl) (by simp) ?_
                  refine AllReadyH.cons (o := ?o101x2) ?hi101x2 (fun K hK => ?_) AllReadyH.nil
                  case hi101x2 => (simp only [List.getElem?_toArray, List.getElem?_cons_succ, List.getElem?_cons_zero]; exact rfl)
                  go_simp
                  refine ((HMin _ (hDD _ (hxw.trans ?_))).out).mono ?_
                  · (repeat (first | exact Ext.refl _ | assumption | refine Ext.setCell ?_ (by first | (simp; done) | (simp; omega)) _ | refine Ext.drewN ?_ _ | refine Ext.alloc ?_ _ | refine Ext.drew ?_ | refine Ext.trans ?_ (by assumption)))
                  rintro e w15 ⟨rfl, hw15⟩
                  have hb15 := Ext.refl w15
                  subst hw15
                  refine hK.out _ _ ?_ (fun hHeld => ?_)
                  · (repeat (first | exact Ext.refl _ | assumption | refine Ext.setCell ?_ (by first | (simp; done) | (simp; omega)) _ | refine Ext.drewN ?_ _ | refine Ext.alloc ?_ _ | refine Ext.drew ?_ | refine Ext.trans ?_ (by assumption)))
                  clear hK K
                  refine wpAnyH_ready (rs := [5]) (by kernel_rfl) (by simp) ?_
                  refine AllReadyH.cons (o := ?o101x5) ?hi101x5 (fun K hK => ?_) AllReadyH.nil
                  case hi101x5 => (simp only [List.getElem?_toArray, List.getElem?_cons_succ, List.getElem?_cons_zero]; exact rfl)
                  go_simp
                  refine ((HMax _ (hDD _ (hxw.trans ?_))).out).mono ?_
                  · (repeat (first | exact Ext.refl _ | assumption | refine Ext.setCell ?_ (by first | (simp; done) | (simp; omega)) _ | refine Ext.drewN ?_ _ | refine Ext.alloc ?_ _ | refine Ext.drew ?_ | refine Ext.trans ?_ (by assumption)))
                  rintro e w16 ⟨rfl, hw16⟩
                  subst hw16
                  refine hK.out _ _ ?_ (fun hHeld => ?_)
                  · (repeat (first | exact Ext.refl _ | assumption | refine Ext.setCell ?_ (by first | (simp; done) | (simp; omega)) _ | refine Ext.drewN ?_ _ | refine Ext.alloc ?_ _ | refine Ext.drew ?_ | refine Ext.trans ?_ (by assumption)))
                  clear hK K
                  refine wpAnyH_take (i := 6) (oi := ?o101x6) (v := ?v101x6) ?hi101x6 (by kernel_rfl) ?hf101x6 ?hr101x6 (fun _ _ _ h => h) ?hy101x6 (by assumption) ?rest101x6
                  case hi101x6 => (simp only [List.getElem?_toArray, List.getElem?_cons_succ, List.getElem?_cons_zero]; exact rfl)
                  case hf101x6 => kernel_rfl
                  case hr101x6 => kernel_rfl
                  case hy101x6 => (refine Or.inl ⟨by rfl, ?_⟩; intro w hSw; (try dsimp only at hSw); go_simp; try with_reducible rfl)
                  simp only [put_mk, List.set_cons_succ, List.set_cons_zero]
                  refine wpAnyH_take (i := 7) (oi := ?o101x7) (v := ?v101x7) ?hi101x7 (by kernel_rfl) ?hf101x7 ?hr101x7 (fun _ _ _ h => h) ?hy101x7 (by assumption) ?rest101x7
                  case hi101x7 => (simp only [List.getElem?_toArray, List.getElem?_cons_succ, List.getElem?_cons_zero]; exact rfl)
                  case hf101x7 => kernel_rfl
                  case hr101x7 => kernel_rfl
                  case hy101x7 => (refine Or.inl ⟨by rfl, ?_⟩; intro w hSw; (try dsimp only at hSw); go_simp; try with_reducible rfl)
                  simp only [put_mk, List.set_cons_succ, List.set_cons_zero]
                  refine wpAnyH_done (by kernel_rfl) ?_ _
                  refine NoPanic.normal ?_
                  obtain ⟨w15, hw15⟩ : ∃ w15, w15 = w14.drew := ⟨_, rfl⟩
                  have hx15 : Ext w14 w15 := by rw [hw15]; exact (Ext.refl w14).drew
                  rw [← hw15]
                  clear hw15
                  go_wp2_with fail
                  refine ((HNs _ _ (Rd.new (by first | rfl | simp) rfl)).out).mono ?_
                  rintro e w17 ⟨rfl, hw17⟩
                  have hx17 : Ext w14 w17 := by rw [← hw17]; exact hx15.alloc _
                  clear hw17
                  have x0 := y0 w17 hx17
                  have x1 := y1 w17 hx17
                  have x2 := y2 w17 hx17
                  go_wp2_with fail
                  refine (bit_same _ _).mono ?_
                  rintro e w18 ⟨rfl, hw18⟩
                  rw [hw18]
                  clear hw18 w18
                  go_wp2_with fail
                  go_ret
                  exact ⟨by first | rfl | simp, (Hx1.out.trans hxw).trans hx17⟩
                · have hr := HST.out
                  rw [if_pos rfl] at hr
                  subst hr
                  clear HST
                  go_wp2_with fail
                  refine wp_region_noPanic ?_
                  refine wp_region_held_drew (S := fun w' => Ext w14 w') (by kernel_rfl) ?_ (fun hHeld => ?_)
                  · (repeat (first | exact Ext.refl _ | assumption | refine Ext.setCell ?_ (by first | (simp; done) | (simp; omega)) _ | refine Ext.drewN ?_ _ | refine Ext.alloc ?_ _ | refine Ext.drew ?_ | refine Ext.trans ?_ (by assumption)))
                  refine wpAnyH_take (i := 0) (oi := ?o102x0) (v := ?v102x0) ?hi102x0 (by kernel_rfl) ?hf102x0 ?hr102x0 (fun _ _ _ h => h) ?hy102x0 (by assumption) ?rest102x0
                  case hi102x0 => (simp only [List.getElem?_toArray, List.getElem?_cons_zero]; exact rfl)
                  case hf102x0 => kernel_rfl
                  case hr102x0 => kernel_rfl
                  case hy102x0 => (refine Or.inl ⟨by rfl, ?_⟩; intro w hSw; (try dsimp only at hSw); go_simp; try with_reducible rfl)
                  simp only [put_mk, List.set_cons_succ, List.set_cons_zero]
                  refine wpAnyH_take (i := 1) (oi := ?o102x1) (v := ?v102x1) ?hi102x1 (by kernel_rfl) ?hf102x1 ?hr102x1 (fun _ _ _ h => h) ?hy102x1 (by assumption) ?rest102x1
                  case hi102x1 => (simp only [List.getElem?_toArray, List.getElem?_cons_succ, List.getElem?_cons_zero]; exact rfl)
                  case hf102x1 => kernel_rfl
                  case hr102x1 => kernel_rfl
                  case hy102x1 => (refine Or.inl ⟨by rfl, ?_⟩; intro w hSw; (try dsimp only at hSw); go_simp; try with_reducible rfl)
                  simp only [put_mk, List.set_cons_succ, List.set_cons_zero]
                  refine wpAnyH_take (i := 3) (oi := ?o102x3) (v := ?v102x3) ?hi102x3 (by kernel_rfl) ?hf102x3 ?hr102x3 (fun _ _ _ h => h) ?hy102x3 (by assumption) ?rest102x3
                  case hi102x3 => (simp only [List.getElem?_toArray, List.getElem?_cons_succ, List.getElem?_cons_zero]; exact rfl)
                  case hf102x3 => kernel_rfl
                  case hr102x3 => kernel_rfl
                  case hy102x3 => (refine Or.inl ⟨by rfl, ?_⟩; intro w hSw; (try dsimp only at hSw); go_simp; try with_reducible rfl)
                  simp only [put_mk, List.set_cons_succ, List.set_cons_zero]
                  refine wpAnyH_take (i := 4) (oi := ?o102x4) (v := ?v102x4) ?hi102x4 (by kernel_rfl) ?hf102x4 ?hr102x4 (fun _ _ _ h => h) ?hy102x4 (by assumption) ?rest102x4
                  case hi102x4 => (simp only [List.getElem?_toArray, List.getElem?_cons_succ, List.getElem?_cons_zero]; exact rfl)
                  case hf102x4 => kernel_rfl
                  case hr102x4 => kernel_rfl
                  case hy102x4 => (refine Or.inl ⟨by rfl, ?_⟩; intro w hSw; (try dsimp only at hSw); go_simp; try with_reducible rfl)
                  simp only [put_mk, List.set_cons_succ, List.set_cons_zero]
                  refine wpAnyH_ready (rs := [2]) (by kernel_rfl) (by simp) ?_
                  refine AllReadyH.cons (o := ?o102x2) ?hi102x2 (fun K hK => ?_) AllReadyH.nil
                  case hi102x2 => (simp only [List.getElem?_toArray, List.getElem?_cons_succ, List.getElem?_cons_zero]; exact rfl)
                  go_simp
                  refine ((HMin _ (hDD _ (hxw.trans ?_))).out).mono ?_
                  · (repeat (first | exact Ext.refl _ | assumption | refine Ext.setCell ?_ (by first | (simp; done) | (simp; omega)) _ | refine Ext.drewN ?_ _ | refine Ext.alloc ?_ _ | refine Ext.drew ?_ | refine Ext.trans ?_ (by assumption)))
                  rintro e w15 ⟨rfl, hw15⟩
                  have hb15 := Ext.refl w15
                  subst hw15
                  refine hK.out _ _ ?_ (fun hHeld => ?_)
                  · (repeat (first | exact Ext.refl _ | assumption | refine Ext.setCell ?_ (by first | (simp; done) | (simp; omega)) _ | refine Ext.drewN ?_ _ | refine Ext.alloc ?_ _ | refine Ext.drew ?_ | refine Ext.trans ?_ (by assumption)))
                  clear hK K
                  refine wpAnyH_ready (rs := [5]) (by kernel_rfl) (by simp) ?_
                  refine AllReadyH.cons (o := ?o102x5) ?hi102x5 (fun K hK => ?_) AllReadyH.nil
                  case hi102x5 => (simp only [List.getElem?_toArray, List.getElem?_cons_succ, List.getElem?_cons_zero]; exact rfl)
                  go_simp
                  refine ((HMax _ (hDD _ (hxw.trans ?_))).out).mono ?_
                  · (repeat (first | exact Ext.refl _ | assumption | refine Ext.setCell ?_ (by first | (simp; done) | (simp; omega)) _ | refine Ext.drewN ?_ _ | refine Ext.alloc ?_ _ | refine Ext.drew ?_ | refine Ext.trans ?_ (by assumption)))
                  rintro e w16 ⟨rfl, hw16⟩
                  subst hw16
                  refine hK.out _ _ ?_ (fun hHeld => ?_)
                  · (repeat (first | exact Ext.refl _ | assumption | refine Ext.setCell ?_ (by first | (simp; done) | (simp; omega)) _ | refine Ext.drewN ?_ _ | refine Ext.alloc ?_ _ | refine Ext.drew ?_ | refine Ext.trans ?_ (by assumption)))
                  clear hK K
                  refine wpAnyH_take (i := 6) (oi := ?o102x6) (v := ?v102x6) ?hi102x6 (by kernel_rfl) ?hf102x6 ?hr102x6 (fun _ _ _ h => h) ?hy102x6 (by assumption) ?rest102x6
                  case hi102x6 => (simp only [List.getElem?_toArray, List.getElem?_cons_succ, List.getElem?_cons_zero]; exact rfl)
                  case hf102x6 => kernel_rfl
                  case hr102x6 => kernel_rfl
                  case hy102x6 => (refine Or.inl ⟨by rfl, ?_⟩; intro w hSw; (try dsimp only at hSw); go_simp; try with_reducible rfl)
                  simp only [put_mk, List.set_cons_succ, List.set_cons_zero]
                  refine wpAnyH_take (i := 7) (oi := ?o102x7) (v := ?v102x7) ?hi102x7 (by kernel_rfl) ?hf102x7 ?hr102x7 (fun _ _ _ h => h) ?hy102x7 (by assumption) ?rest102x7
                  case hi102x7 => (simp only [List.getElem?_toArray, List.getElem?_cons_succ, List.getElem?_cons_zero]; exact rfl)
                  case hf102x7 => kernel_rfl
                  case hr102x7 => kernel_rfl
                  case hy102x7 => (refine Or.inl ⟨by rfl, ?_⟩; intro w hSw; (try dsimp only at hSw); go_simp; try with_reducible rfl)
                  simp only [put_mk, List.set_cons_succ, List.set_cons_zero]
                  refine wpAnyH_done (by kernel_rfl) ?_ _
                  refine NoPanic.normal ?_
                  obtain ⟨w15, hw15⟩ : ∃ w15, w15 = w14.drew := ⟨_, rfl⟩
                  have hx15 : Ext w14 w15 := by rw [hw15]; exact (Ext.refl w14).drew
                  rw [← hw15]
                  clear hw15
                  go_wp2_with fail
                  refine ((HNs _ _ (Rd.new (by first | rfl | simp) rfl)).out).mono ?_
                  rintro e w17 ⟨rfl, hw17⟩
                  have hx17 : Ext w14 w17 := by rw [← hw17]; exact hx15.alloc _
                  clear hw17
                  have x0 := y0 w17 hx17
                  have x1 := y1 w17 hx17
                  have x2 := y2 w17 hx17
                  go_wp2_with fail
                  refine (bit_same _ _).mono ?_
                  rintro e w18 ⟨rfl, hw18⟩
                  rw [hw18]
                  clear hw18 w18
                  go_wp2_with fail
                  go_ret
                  exact ⟨by first | rfl | simp, (Hx1.out.trans hxw).trans hx17⟩
              · have h3 := HP3.out hz2
                have hE := HE.out
                have hA := HA.out
                rw [h3] at hE HNs
                rw [if_neg hz2] at hA
                subst hE
                subst hA
                dsimp only at y0 y1 y2
                clear HE HA HP3 hz2 h3
                cases bb
                · have hr := HST.out
                  rw [if_neg (by decide)] at hr
                  subst hr
                  clear HST
                  go_wp2_with fail
                  refine wp_region_noPanic ?_
                  refine wp_region_held_drew (S := fun w' => Ext w14 w') (by kernel_rfl) ?_ (fun hHeld => ?_)
                  · (repeat (first | exact Ext.refl _ | assumption | refine Ext.setCell ?_ (by first | (simp; done) | (simp; omega)) _ | refine Ext.drewN ?_ _ | refine Ext.alloc ?_ _ | refine Ext.drew ?_ | refine Ext.trans ?_ (by assumption)))
                  refine wpAnyH_take (i := 0) (oi := ?o103x0) (v := ?v103x0) ?hi103x0 (by kernel_rfl) ?hf103x0 ?hr103x0 (fun _ _ _ h => h) ?hy103x0 (by assumption) ?rest103x0
                  case hi103x0 => (simp only [List.getElem?_toArray, List.getElem?_cons_zero]; exact rfl)
                  case hf103x0 => kernel_rfl
                  case hr103x0 => kernel_rfl
                  case hy103x0 => (refine Or.inl ⟨by rfl, ?_⟩; intro w hSw; (try dsimp only at hSw); go_simp; try with_reducible rfl)
                  simp only [put_mk, List.set_cons_succ, List.set_cons_zero]
                  refine wpAnyH_take (i := 1) (oi := ?o103x1) (v := ?v103x1) ?hi103x1 (by kernel_rfl) ?hf103x1 ?hr103x1 (fun _ _ _ h => h) ?hy103x1 (by assumption) ?rest103x1
                  case hi103x1 => (simp only [List.getElem?_toArray, List.getElem?_cons_succ, List.getElem?_cons_zero]; exact rfl)
                  case hf103x1 => kernel_rfl
                  case hr103x1 => kernel_rfl
                  case hy103x1 => (refine Or.inl ⟨by rfl, ?_⟩; intro w hSw; (try dsimp only at hSw); go_simp; try with_reducible rfl)
                  simp only [put_mk, List.set_cons_succ, List.set_cons_zero]
                  refine wpAnyH_take (i := 3) (oi := ?o103x3) (v := ?v103x3) ?hi103x3 (by kernel_rfl) ?hf103x3 ?hr103x3 (fun _ _ _ h => h) ?hy103x3 (by assumption) ?rest103x3
                  case hi103x3 => (simp only [List.getElem?_toArray, List.getElem?_cons_succ, List.getElem?_cons_zero]; exact rfl)
                  case hf103x3 => kernel_rfl
                  case hr103x3 => kernel_rfl
                  case hy103x3 => (refine Or.inl ⟨by rfl, ?_⟩; intro w hSw; (try dsimp only at hSw); go_simp; try with_reducible rfl)
                  simp only [put_mk, List.set_cons_succ, List.set_cons_zero]
                  refine wpAnyH_take (i := 4) (oi := ?o103x4) (v := ?v103x4) ?hi103x4 (by kernel_rfl) ?hf103x4 ?hr103x4 (fun _ _ _ h => h) ?hy103x4 (by assumption) ?rest103x4
                  case hi103x4 => (simp only [List.getElem?_toArray, List.getElem?_cons_succ, List.getElem?_cons_zero]; exact rfl)
                  case hf103x4 => kernel_rfl
                  case hr103x4 => kernel_rfl
                  case hy103x4 => (refine Or.inl ⟨by rfl, ?_⟩; intro w hSw; (try dsimp only at hSw); go_simp; try with_reducible rfl)
                  simp only [put_mk, List.set_cons_succ, List.set_cons_zero]
                  refine wpAnyH_ready (rs := [2]) (by kernel_rfl) (by simp) ?_
                  refine AllReadyH.cons (o := ?o103x2) ?hi103x2 (fun K hK => ?_) AllReadyH.nil
                  case hi103x2 => (simp only [List.getElem?_toArray, List.getElem?_cons_succ, List.getElem?_cons_zero]; exact rfl)
                  go_simp
                  refine ((HMin _ (hDD _ (hxw.trans ?_))).out).mono ?_
                  · (repeat (first | exact Ext.refl _ | assumption | refine Ext.setCell ?_ (by first | (simp; done) | (simp; omega)) _ | refine Ext.drewN ?_ _ | refine Ext.alloc ?_ _ | refine Ext.drew ?_ | refine Ext.trans ?_ (by assumption)))
                  rintro e w15 ⟨rfl, hw15⟩
                  have hb15 := Ext.refl w15
                  subst hw15
                  refine hK.out _ _ ?_ (fun hHeld => ?_)
                  · (repeat (first | exact Ext.refl _ | assumption | refine Ext.setCell ?_ (by first | (simp; done) | (simp; omega)) _ | refine Ext.drewN ?_ _ | refine Ext.alloc ?_ _ | refine Ext.drew ?_ | refine Ext.trans ?_ (by assumption)))
                  clear hK K
                  refine wpAnyH_ready (rs := [5]) (by kernel_rfl) (by simp) ?_
                  refine AllReadyH.cons (o := ?o103x5) ?hi103x5 (fun K hK => ?_) AllReadyH.nil
                  case hi103x5 => (simp only [List.getElem?_toArray, List.getElem?_cons_succ, List.getElem?_cons_zero]; exact rfl)
                  go_simp
                  refine ((HMax _ (hDD _ (hxw.trans ?_))).out).mono ?_
                  · (repeat (first | exact Ext.refl _ | assumption | refine Ext.setCell ?_ (by first | (simp; done) | (simp; omega)) _ | refine Ext.drewN ?_ _ | refine Ext.alloc ?_ _ | refine Ext.drew ?_ | refine Ext.trans ?_ (by assumption)))
                  rintro e w16 ⟨rfl, hw16⟩
                  subst hw16
                  refine hK.out _ _ ?_ (fun hHeld => ?_)
                  · (repeat (first | exact Ext.refl _ | assumption | refine Ext.setCell ?_ (by first | (simp; done) | (simp; omega)) _ | refine Ext.drewN ?_ _ | refine Ext.alloc ?_ _ | refine Ext.drew ?_ | refine Ext.trans ?_ (by assumption)))
                  clear hK K
                  refine wpAnyH_take (i := 6) (oi := ?o103x6) (v := ?v103x6) ?hi103x6 (by kernel_rfl) ?hf103x6 ?hr103x6 (fun _ _ _ h => h) ?hy103x6 (by assumption) ?rest103x6
                  case hi103x6 => (simp only [List.getElem?_toArray, List.getElem?_cons_succ, List.getElem?_cons_zero]; exact rfl)
                  case hf103x6 => kernel_rfl
                  case hr103x6 => kernel_rfl
                  case hy103x6 => (refine Or.inl ⟨by rfl, ?_⟩; intro w hSw; (try dsimp only at hSw); go_simp; try with_reducible rfl)
                  simp only [put_mk, List.set_cons_succ, List.set_cons_zero]
                  refine wpAnyH_take (i := 7) (oi := ?o103x7) (v := ?v103x7) ?hi103x7 (by kernel_rfl) ?hf103x7 ?hr103x7 (fun _ _ _ h => h) ?hy103x7 (by assumption) ?rest103x7
                  case hi103x7 => (simp only [List.getElem?_toArray, List.getElem?_cons_succ, List.getElem?_cons_zero]; exact rfl)
                  case hf103x7 => kernel_rfl
                  case hr103x7 => kernel_rfl
                  case hy103x7 => (refine Or.inl ⟨by rfl, ?_⟩; intro w hSw; (try dsimp only at hSw); go_simp; try with_reducible rfl)
                  simp only [put_mk, List.set_cons_succ, List.set_cons_zero]
                  refine wpAnyH_done (by kernel_rfl) ?_ _
                  refine NoPanic.normal ?_
                  obtain ⟨w15, hw15⟩ : ∃ w15, w15 = w14.drew := ⟨_, rfl⟩
                  have hx15 : Ext w14 w15 := by rw [hw15]; exact (Ext.refl w14).drew
                  rw [← hw15]
                  clear hw15
                  go_wp2_with fail
                  refine ((HNs _ _ (Rd.new (by first | rfl | simp) rfl)).out).mono ?_
                  rintro e w17 ⟨rfl, hw17⟩
                  have hx17 : Ext w14 w17 := by rw [← hw17]; exact hx15.alloc _
                  clear hw17
                  have x0 := y0 w17 hx17
                  have x1 := y1 w17 hx17
                  have x2 := y2 w17 hx17
                  go_wp2_with fail
                  go_ret
                  exact ⟨by first | rfl | simp, (Hx1.out.trans hxw).trans hx17⟩
                · have hr := HST.out
                  rw [if_pos rfl] at hr
                  subst hr
                  clear HST
                  go_wp2_with fail
                  refine wp_region_noPanic ?_
                  refine wp_region_held_drew (S := fun w' => Ext w14 w') (by kernel_rfl) ?_ (fun hHeld => ?_)
                  · (repeat (first | exact Ext.refl _ | assumption | refine Ext.setCell ?_ (by first | (simp; done) | (simp; omega)) _ | refine Ext.drewN ?_ _ | refine Ext.alloc ?_ _ | refine Ext.drew ?_ | refine Ext.trans ?_ (by assumption)))
                  refine wpAnyH_take (i := 0) (oi := ?o104x0) (v := ?v104x0) ?hi104x0 (by kernel_rfl) ?hf104x0 ?hr104x0 (fun _ _ _ h => h) ?hy104x0 (by assumption) ?rest104x0
                  case hi104x0 => (simp only [List.getElem?_toArray, List.getElem?_cons_zero]; exact rfl)
                  case hf104x0 => kernel_rfl
                  case hr104x0 => kernel_rfl
                  case hy104x0 => (refine Or.inl ⟨by rfl, ?_⟩; intro w hSw; (try dsimp only at hSw); go_simp; try with_reducible rfl)
                  simp only [put_mk, List.set_cons_succ, List.set_cons_zero]
                  refine wpAnyH_take (i := 1) (oi := ?o104x1) (v := ?v104x1) ?hi104x1 (by kernel_rfl) ?hf104x1 ?hr104x1 (fun _ _ _ h => h) ?hy104x1 (by assumption) ?rest104x1
                  case hi104x1 => (simp only [List.getElem?_toArray, List.getElem?_cons_succ, List.getElem?_cons_zero]; exact rfl)
                  case hf104x1 => kernel_rfl
                  case hr104x1 => kernel_rfl
                  case hy104x1 => (refine Or.inl ⟨by rfl, ?_⟩; intro w hSw; (try dsimp only at hSw); go_simp; try with_reducible rfl)
                  simp only [put_mk, List.set_cons_succ, List.set_cons_zero]
                  refine wpAnyH_take (i := 3) (oi := ?o104x3) (v := ?v104x3) ?hi104x3 (by kernel_rfl) ?hf104x3 ?hr104x3 (fun _ _ _ h => h) ?hy104x3 (by assumption) ?rest104x3
                  case hi104x3 => (simp only [List.getElem?_toArray, List.getElem?_cons_succ, List.getElem?_cons_zero]; exact rfl)
                  case hf104x3 => kernel_rfl
                  case hr104x3 => kernel_rfl
                  case hy104x3 => (refine Or.inl ⟨by rfl, ?_⟩; intro w hSw; (try dsimp only at hSw); go_simp; try with_reducible rfl)
                  simp only [put_mk, List.set_cons_succ, List.set_cons_zero]
                  refine wpAnyH_take (i := 4) (oi := ?o104x4) (v := ?v104x4) ?hi104x4 (by kernel_rfl) ?hf104x4 ?hr104x4 (fun _ _ _ h => h) ?hy104x4 (by assumption) ?rest104x4
                  case hi104x4 => (simp only [List.getElem?_toArray, List.getElem?_cons_succ, List.getElem?_cons_zero]; exact rfl)
                  case hf104x4 => kernel_rfl
                  case hr104x4 => kernel_rfl
                  case hy104x4 => (refine Or.inl ⟨by rfl, ?_⟩; intro w hSw; (try dsimp only at hSw); go_simp; try with_reducible rfl)
                  simp only [put_mk, List.set_cons_succ, List.set_cons_zero]
                  refine wpAnyH_ready (rs := [2]) (by kernel_rfl) (by simp) ?_
                  refine AllReadyH.cons (o := ?o104x2) ?hi104x2 (fun K hK => ?_) AllReadyH.nil
                  case hi104x2 => (simp only [List.getElem?_toArray, List.getElem?_cons_succ, List.getElem?_cons_zero]; exact rfl)
                  go_simp
                  refine ((HMin _ (hDD _ (hxw.trans ?_))).out).mono ?_
                  · (repeat (first | exact Ext.refl _ | assumption | refine Ext.setCell ?_ (by first | (simp; done) | (simp; omega)) _ | refine Ext.drewN ?_ _ | refine Ext.alloc ?_ _ | refine Ext.drew ?_ | refine Ext.trans ?_ (by assumption)))
                  rintro e w15 ⟨rfl, hw15⟩
                  have hb15 := Ext.refl w15
                  subst hw15
                  refine hK.out _ _ ?_ (fun hHeld => ?_)
                  · (repeat (first | exact Ext.refl _ | assumption | refine Ext.setCell ?_ (by first | (simp; done) | (simp; omega)) _ | refine Ext.drewN ?_ _ | refine Ext.alloc ?_ _ | refine Ext.drew ?_ | refine Ext.trans ?_ (by assumption)))
                  clear hK K
                  refine wpAnyH_ready (rs := [5]) (by kernel_rfl) (by simp) ?_
                  refine AllReadyH.cons (o := ?o104x5) ?hi104x5 (fun K hK => ?_) AllReadyH.nil
                  case hi104x5 => (simp only [List.getElem?_toArray, List.getElem?_cons_succ, List.getElem?_cons_zero]; exact rfl)
                  go_simp
                  refine ((HMax _ (hDD _ (hxw.trans ?_))).out).mono ?_
                  · (repeat (first | exact Ext.refl _ | assumption | refine Ext.setCell ?_ (by first | (simp; done) | (simp; omega)) _ | refine Ext.drewN ?_ _ | refine Ext.alloc ?_ _ | refine Ext.drew ?_ | refine Ext.trans ?_ (by assumption)))
                  rintro e w16 ⟨rfl, hw16⟩
                  subst hw16
                  refine hK.out _ _ ?_ (fun hHeld => ?_)
                  · (repeat (first | exact Ext.refl _ | assumption | refine Ext.setCell ?_ (by first | (simp; done) | (simp; omega)) _ | refine Ext.drewN ?_ _ | refine Ext.alloc ?_ _ | refine Ext.drew ?_ | refine Ext.trans ?_ (by assumption)))
                  clear hK K
                  refine wpAnyH_take (i := 6) (oi := ?o104x6) (v := ?v104x6) ?hi104x6 (by kernel_rfl) ?hf104x6 ?hr104x6 (fun _ _ _ h => h) ?hy104x6 (by assumption) ?rest104x6
                  case hi104x6 => (simp only [List.getElem?_toArray, List.getElem?_cons_succ, List.getElem?_cons_zero]; exact rfl)
                  case hf104x6 => kernel_rfl
                  case hr104x6 => kernel_rfl
                  case hy104x6 => (refine Or.inl ⟨by rfl, ?_⟩; intro w hSw; (try dsimp only at hSw); go_simp; try with_reducible rfl)
                  simp only [put_mk, List.set_cons_succ, List.set_cons_zero]
                  refine wpAnyH_take (i := 7) (oi := ?o104x7) (v := ?v104x7) ?hi104x7 (by kernel_rfl) ?hf104x7 ?hr104x7 (fun _ _ _ h => h) ?hy104x7 (by assumption) ?rest104x7
                  case hi104x7 => (simp only [List.getElem?_toArray, List.getElem?_cons_succ, List.getElem?_cons_zero]; exact rfl)
                  case hf104x7 => kernel_rfl
                  case hr104x7 => kernel_rfl
                  case hy104x7 => (refine Or.inl ⟨by rfl, ?_⟩; intro w hSw; (try dsimp only at hSw); go_simp; try with_reducible rfl)
                  simp only [put_mk, List.set_cons_succ, List.set_cons_zero]
                  refine wpAnyH_done (by kernel_rfl) ?_ _
                  refine NoPanic.normal ?_
                  obtain ⟨w15, hw15⟩ : ∃ w15, w15 = w14.drew := ⟨_, rfl⟩
                  have hx15 : Ext w14 w15 := by rw [hw15]; exact (Ext.refl w14).drew
                  rw [← hw15]
                  clear hw15
                  go_wp2_with fail
                  refine ((HNs _ _ (Rd.new (by first | rfl | simp) rfl)).out).mono ?_
                  rintro e w17 ⟨rfl, hw17⟩
                  have hx17 : Ext w14 w17 := by rw [← hw17]; exact hx15.alloc _
                  clear hw17
                  have x0 := y0 w17 hx17
                  have x1 := y1 w17 hx17
                  have x2 := y2 w17 hx17
                  go_wp2_with fail
                  go_ret
                  exact ⟨by first | rfl | simp, (Hx1.out.trans hxw).trans hx17⟩
            · obtain ⟨e1, e2⟩ := fitW_bad hz
              rw [HFF.out] at e1
              rw [HFA.out] at e2
              subst e1
              subst e2
              have t1 : (fitW X Y W H l bt != 0) = true := by simpa using hz
              have t2 : (fitW X Y W H l bt == fitW X Y W H l bt) = true := by simp
              clear hz HFF HFA
              go_wp2_with fail
              go_ret
              exact ⟨by first | rfl | simp, Hx1.out.trans hxw⟩
end Go.Proofs.Ytdfegkpdnofdoaa
