/- Contract: water.ranks, one neighbour of a cell. -/
import Derived.Test.YtinohfgokpbcdaaDiAB
import Derived.Test.YtinohfgokpbcdaaShowA
import Derived.StillTailTactics
import Derived.LoopTactic
import Derived.Shelf.Abstract
import Derived.RegionTactic
import Derived.ChangeAlike
namespace Go.Proofs.Ytinohfgokpbcdaa
open Go.RowKit
attribute [local go_sem ↓] Go.wp_at_zero Go.wp_at_succ
attribute [local go_sem] run_store_float

theorem feq_valW {a b : Nat} (ha : Bd 20 a) (hb : Bd 20 b) : (FloatKind.f32.format.order a b == some .eq) = decide (valI a = valI b) := by
  have h := eq_val (bd_Fin ha (by omega)) (bd_Fin hb (by omega))
  rw [ord_def]
  by_cases e : valI a = valI b
  · rw [h.2 e]
    simp [e]
  · have h2 : ord a b ≠ some .eq := fun h3 => e (h.1 h3)
    simp [e, h2]
theorem infoIntW : (Try.prog.info? 3).map (fun i => (i.zero, i.size, i.bytes)) = some (some (.int .i64 0), 1, 8) := by kernel_rfl
set_option maxRecDepth 100000 in
set_option maxHeartbeats 3200000 in
theorem ranks1_any (W0 w : World) (hf hk hr hd hq gr : Nat) (X Y : Int) (Wn Hn N : Nat) (A : Option Addr) (c : Nat) (D : Option Addr) (cD p : Nat) (o : Nat → Int) (L : List Nat) (Q : Option Addr) (cap : Nat) (l : List Nat) (n d : Nat)
    (hF : RM W0 w hf hk hr hd hq gr X Y Wn Hn N A c D cD p o L Q cap) (hl : l.length = N) (hV : Rd W0 A (flt l)) (hpN : p < N) (hn : n < N) (hL : L.length ≤ 10000000) (bp : Bd 20 (l.getD p 0)) (bn : Bd 20 (l.getD n 0)) (ho0 : 0 ≤ o p) (ho1 : o p ≤ 65536) :
    Calls Try.prog 163 #[.int .i64 n, .int .i64 d, .pointer (some ⟨hf, 0, none⟩), .pointer (some ⟨hk, 0, none⟩), .pointer (some ⟨hr, 0, none⟩), .pointer (some ⟨hd, 0, none⟩), .pointer (some ⟨hq, 0, none⟩)] w fun e w' => e = .returned (.tuple #[]) ∧
      (∀ g cs, Bk w g 23 cs → Bk w' g 23 cs) ∧ ∃ Q' cap', (valI (l.getD n 0) = valI (l.getD p 0) ∧ o n = N ∧ RM W0 w' hf hk hr hd hq gr X Y Wn Hn N A c D cD p (updF o n (o p + 1)) (L ++ [n]) Q' cap') ∨ (¬ (valI (l.getD n 0) = valI (l.getD p 0) ∧ o n = N) ∧ RM W0 w' hf hk hr hd hq gr X Y Wn Hn N A c D cD p o L Q' cap') := by
  have hnl : n < l.length := by omega
  have hpl : p < l.length := by omega
  obtain ⟨ad, rfl, hbk, hcv⟩ := (hV.ext hF.ext).at (k := n) (by rw [flt_length]; exact hnl)
  have cn := hcv n _ (flt_get hnl)
  have cp := hcv p _ (flt_get hpl)
  have en : l.getD n 0 = l[n] := by simp [List.getD_eq_getElem?_getD, hnl]
  have ep : l.getD p 0 = l[p] := by simp [List.getD_eq_getElem?_getD, hpl]
  rw [← en] at cn
  rw [← ep] at cp
  have hfe := feq_valW bn bp
  generalize l.getD n 0 = a at *
  generalize l.getD p 0 = b at *
  clear en ep hcv hV bp bn hnl hpl hl
  have HF := hidA hF
  have c4 : ∀ w', Ext w w' → w'.cell? ⟨hf, 4, none⟩ = some (.slice (some ad) N c) := fun w' h => (HF.out.fb.ext h).cell 4
  have k0 : ∀ w', Ext w w' → w'.cell? ⟨hk, 0, none⟩ = some (.int .i64 (p : Int)) := fun w' h => (HF.out.kb.ext h).cell 0
  have s0 : ∀ w', Ext w w' → w'.cell? ⟨hr, 0, none⟩ = some (.slice (some ⟨gr, 0, none⟩) N N) := fun w' h => (HF.out.rb.ext h).cell 0
  have d0 : ∀ w', Ext w w' → w'.cell? ⟨hd, 0, none⟩ = some (.slice D N cD) := fun w' h => (HF.out.db.ext h).cell 0
  have a1 : ∀ w', Ext w w' → w'.cell? (ad.add n) = some (.float .f32 a) := fun w' h => by rw [h.cell _ (by rw [add_block]; exact hbk)]; exact cn
  have a2 : ∀ w', Ext w w' → w'.cell? (ad.add p) = some (.float .f32 b) := fun w' h => by rw [h.cell _ (by rw [add_block]; exact hbk)]; exact cp
  have r1 : ∀ w', Ext w w' → w'.cell? ⟨gr, n, none⟩ = some (.int .i64 (o n)) := fun w' h => HF.out.rcell hn h
  have r2 : ∀ w', Ext w w' → w'.cell? ⟨gr, p, none⟩ = some (.int .i64 (o p)) := fun w' h => HF.out.rcell hpN h
  have g1 : ∀ w', Ext w w' → w'.frozen? ⟨gr, n, none⟩ = false := fun w' h => (HF.out.gb.ext h).frozen n
  have i0 : (0 : Int) ≤ n := by omega
  have i1 : (n : Int) < N := by omega
  have i2 : (0 : Int) ≤ p := by omega
  have i3 : (p : Int) < N := by omega
  clear hF cn cp
  have hput := hidA (HF.out.put n (o p + 1))
  have HR := hidA (show ∀ g cs, Bk w g 23 cs → Bk (w.setCell ⟨gr, n, none⟩ (.int .i64 (o p + 1))) g 23 cs from fun g cs h => h.far (Bk.ne h HF.out.gb (by decide)) _)
  obtain ⟨i0, hi0, hz0, hz1, hz2⟩ := info_parts (e := 3) infoIntW
  go_enter Try.func163, Try.ntmps163
  go_wp2_with fail
  by_cases he : valI a = valI b
  · rw [decide_eq_true he] at hfe
    have He := hidA he
    clear he
    by_cases hz : o n = (N : Int)
    · have hb : (o n == (N : Int)) = true := by simp [hz]
      have Hz := hidA hz
      clear hz
      generalize hon : o n = z at r1 hb
      have Hon := hidA hon
      clear hon
      generalize hop : o p = x at *
      have Hop := hidA hop
      clear hop
      refine wp_region_noPanic ?_
      refine wp_region_held_drew (S := fun w' => Ext w w') (by kernel_rfl) ?_ (fun hHeld => ?_)
      · (repeat (first | exact Ext.refl _ | assumption | refine Ext.setCell ?_ (by first | (simp; done) | (simp; omega)) _ | refine Ext.drewN ?_ _ | refine Ext.alloc ?_ _ | refine Ext.drew ?_ | refine Ext.trans ?_ (by assumption)))
      refine wpAnyH_take (i := 0) (oi := ?o1x0) (v := ?v1x0) ?hi1x0 (by kernel_rfl) ?hf1x0 ?hr1x0 (fun _ _ _ h => h) ?hy1x0 (by assumption) ?rest1x0
      case hi1x0 => (simp only [List.getElem?_toArray, List.getElem?_cons_zero]; exact rfl)
      case hf1x0 => kernel_rfl
      case hr1x0 => kernel_rfl
      case hy1x0 => (refine Or.inl ⟨by rfl, ?_⟩; intro w hSw; (try dsimp only at hSw); go_simp; try with_reducible rfl)
      simp only [put_mk, List.set_cons_succ, List.set_cons_zero]
      refine wpAnyH_take (i := 1) (oi := ?o1x1) (v := ?v1x1) ?hi1x1 (by kernel_rfl) ?hf1x1 ?hr1x1 (fun _ _ _ h => h) ?hy1x1 (by assumption) ?rest1x1
      case hi1x1 => (simp only [List.getElem?_toArray, List.getElem?_cons_succ, List.getElem?_cons_zero]; exact rfl)
      case hf1x1 => kernel_rfl
      case hr1x1 => kernel_rfl
      case hy1x1 => (refine Or.inl ⟨by rfl, ?_⟩; intro w hSw; (try dsimp only at hSw); go_simp; try with_reducible rfl)
      simp only [put_mk, List.set_cons_succ, List.set_cons_zero]
      refine wpAnyH_take (i := 2) (oi := ?o1x2) (v := ?v1x2) ?hi1x2 (by kernel_rfl) ?hf1x2 ?hr1x2 (fun _ _ _ h => h) ?hy1x2 (by assumption) ?rest1x2
      case hi1x2 => (simp only [List.getElem?_toArray, List.getElem?_cons_succ, List.getElem?_cons_zero]; exact rfl)
      case hf1x2 => kernel_rfl
      case hr1x2 => kernel_rfl
      case hy1x2 => (refine Or.inl ⟨by rfl, ?_⟩; intro w hSw; (try dsimp only at hSw); go_simp; try with_reducible rfl)
      simp only [put_mk, List.set_cons_succ, List.set_cons_zero]
      refine wpAnyH_take (i := 3) (oi := ?o1x3) (v := ?v1x3) ?hi1x3 (by kernel_rfl) ?hf1x3 ?hr1x3 (fun _ _ _ h => h) ?hy1x3 (by assumption) ?rest1x3
      case hi1x3 => (simp only [List.getElem?_toArray, List.getElem?_cons_succ, List.getElem?_cons_zero]; exact rfl)
      case hf1x3 => kernel_rfl
      case hr1x3 => kernel_rfl
      case hy1x3 => (refine Or.inl ⟨by rfl, ?_⟩; intro w hSw; (try dsimp only at hSw); go_simp; try with_reducible rfl)
      simp only [put_mk, List.set_cons_succ, List.set_cons_zero]
      refine wpAnyH_take (i := 4) (oi := ?o1x4) (v := ?v1x4) ?hi1x4 (by kernel_rfl) ?hf1x4 ?hr1x4 (fun _ _ _ h => h) ?hy1x4 (by assumption) ?rest1x4
      case hi1x4 => (simp only [List.getElem?_toArray, List.getElem?_cons_succ, List.getElem?_cons_zero]; exact rfl)
      case hf1x4 => kernel_rfl
      case hr1x4 => kernel_rfl
      case hy1x4 => (refine Or.inl ⟨by rfl, ?_⟩; intro w hSw; (try dsimp only at hSw); go_simp; try with_reducible rfl)
      simp only [put_mk, List.set_cons_succ, List.set_cons_zero]
      refine wpAnyH_take (i := 5) (oi := ?o1x5) (v := ?v1x5) ?hi1x5 (by kernel_rfl) ?hf1x5 ?hr1x5 (fun _ _ _ h => h) ?hy1x5 (by assumption) ?rest1x5
      case hi1x5 => (simp only [List.getElem?_toArray, List.getElem?_cons_succ, List.getElem?_cons_zero]; exact rfl)
      case hf1x5 => kernel_rfl
      case hr1x5 => kernel_rfl
      case hy1x5 => (refine Or.inl ⟨by rfl, ?_⟩; intro w hSw; (try dsimp only at hSw); go_simp; try with_reducible rfl)
      simp only [put_mk, List.set_cons_succ, List.set_cons_zero]
      refine wpAnyH_take (i := 6) (oi := ?o1x6) (v := ?v1x6) ?hi1x6 (by kernel_rfl) ?hf1x6 ?hr1x6 (fun _ _ _ h => h) ?hy1x6 (by assumption) ?rest1x6
      case hi1x6 => (simp only [List.getElem?_toArray, List.getElem?_cons_succ, List.getElem?_cons_zero]; exact rfl)
      case hf1x6 => kernel_rfl
      case hr1x6 => kernel_rfl
      case hy1x6 => (refine Or.inl ⟨by rfl, ?_⟩; intro w hSw; (try dsimp only at hSw); go_simp; try with_reducible rfl)
      simp only [put_mk, List.set_cons_succ, List.set_cons_zero]
      refine wpAnyH_take (i := 7) (oi := ?o1x7) (v := ?v1x7) ?hi1x7 (by kernel_rfl) ?hf1x7 ?hr1x7 (fun _ _ _ h => h) ?hy1x7 (by assumption) ?rest1x7
      case hi1x7 => (simp only [List.getElem?_toArray, List.getElem?_cons_succ, List.getElem?_cons_zero]; exact rfl)
      case hf1x7 => kernel_rfl
      case hr1x7 => kernel_rfl
      case hy1x7 => (refine Or.inl ⟨by rfl, ?_⟩; intro w hSw; (try dsimp only at hSw); go_simp; try with_reducible rfl)
      simp only [put_mk, List.set_cons_succ, List.set_cons_zero]
      refine wpAnyH_take (i := 8) (oi := ?o1x8) (v := ?v1x8) ?hi1x8 (by kernel_rfl) ?hf1x8 ?hr1x8 (fun _ _ _ h => h) ?hy1x8 (by assumption) ?rest1x8
      case hi1x8 => (simp only [List.getElem?_toArray, List.getElem?_cons_succ, List.getElem?_cons_zero]; exact rfl)
      case hf1x8 => kernel_rfl
      case hr1x8 => kernel_rfl
      case hy1x8 => (refine Or.inl ⟨by rfl, ?_⟩; intro w hSw; (try dsimp only at hSw); go_simp; try with_reducible rfl)
      simp only [put_mk, List.set_cons_succ, List.set_cons_zero]
      refine wpAnyH_take (i := 9) (oi := ?o1x9) (v := ?v1x9) ?hi1x9 (by kernel_rfl) ?hf1x9 ?hr1x9 (fun _ _ _ h => h) ?hy1x9 (by assumption) ?rest1x9
      case hi1x9 => (simp only [List.getElem?_toArray, List.getElem?_cons_succ, List.getElem?_cons_zero]; exact rfl)
      case hf1x9 => kernel_rfl
      case hr1x9 => kernel_rfl
      case hy1x9 => (refine Or.inl ⟨by rfl, ?_⟩; intro w hSw; (try dsimp only at hSw); go_simp; try with_reducible rfl)
      simp only [put_mk, List.set_cons_succ, List.set_cons_zero]
      refine wpAnyH_take (i := 10) (oi := ?o1x10) (v := ?v1x10) ?hi1x10 (by kernel_rfl) ?hf1x10 ?hr1x10 (fun _ _ _ h => h) ?hy1x10 (by assumption) ?rest1x10
      case hi1x10 => (simp only [List.getElem?_toArray, List.getElem?_cons_succ, List.getElem?_cons_zero]; exact rfl)
      case hf1x10 => kernel_rfl
      case hr1x10 => kernel_rfl
      case hy1x10 => (refine Or.inl ⟨by rfl, ?_⟩; intro w hSw; (try dsimp only at hSw); go_simp; try with_reducible rfl)
      simp only [put_mk, List.set_cons_succ, List.set_cons_zero]
      refine wpAnyH_take (i := 11) (oi := ?o1x11) (v := ?v1x11) ?hi1x11 (by kernel_rfl) ?hf1x11 ?hr1x11 (fun _ _ _ h => h) ?hy1x11 (by assumption) ?rest1x11
      case hi1x11 => (simp only [List.getElem?_toArray, List.getElem?_cons_succ, List.getElem?_cons_zero]; exact rfl)
      case hf1x11 => kernel_rfl
      case hr1x11 => kernel_rfl
      case hy1x11 => (refine Or.inl ⟨by rfl, ?_⟩; intro w hSw; (try dsimp only at hSw); go_simp; try with_reducible rfl)
      simp only [put_mk, List.set_cons_succ, List.set_cons_zero]
      refine wpAnyH_take (i := 12) (oi := ?o1x12) (v := ?v1x12) ?hi1x12 (by kernel_rfl) ?hf1x12 ?hr1x12 (fun _ _ _ h => h) ?hy1x12 (by assumption) ?rest1x12
      case hi1x12 => (simp only [List.getElem?_toArray, List.getElem?_cons_succ, List.getElem?_cons_zero]; exact rfl)
      case hf1x12 => kernel_rfl
      case hr1x12 => kernel_rfl
      case hy1x12 => (refine Or.inl ⟨by rfl, ?_⟩; intro w hSw; (try dsimp only at hSw); go_simp; try with_reducible rfl)
      simp only [put_mk, List.set_cons_succ, List.set_cons_zero]
      refine wpAnyH_take (i := 13) (oi := ?o1x13) (v := ?v1x13) ?hi1x13 (by kernel_rfl) ?hf1x13 ?hr1x13 (fun _ _ _ h => h) ?hy1x13 (by assumption) ?rest1x13
      case hi1x13 => (simp only [List.getElem?_toArray, List.getElem?_cons_succ, List.getElem?_cons_zero]; exact rfl)
      case hf1x13 => kernel_rfl
      case hr1x13 => kernel_rfl
      case hy1x13 => (refine Or.inl ⟨by rfl, ?_⟩; intro w hSw; (try dsimp only at hSw); go_simp; try with_reducible rfl)
      simp only [put_mk, List.set_cons_succ, List.set_cons_zero]
      refine wpAnyH_take (i := 14) (oi := ?o1x14) (v := ?v1x14) ?hi1x14 (by kernel_rfl) ?hf1x14 ?hr1x14 (fun _ _ _ h => h) ?hy1x14 (by assumption) ?rest1x14
      case hi1x14 => (simp only [List.getElem?_toArray, List.getElem?_cons_succ, List.getElem?_cons_zero]; exact rfl)
      case hf1x14 => kernel_rfl
      case hr1x14 => kernel_rfl
      case hy1x14 => (refine Or.inl ⟨by rfl, ?_⟩; intro w hSw; (try dsimp only at hSw); go_simp; try with_reducible rfl)
      simp only [put_mk, List.set_cons_succ, List.set_cons_zero]
      refine wpAnyH_take (i := 15) (oi := ?o1x15) (v := ?v1x15) ?hi1x15 (by kernel_rfl) ?hf1x15 ?hr1x15 (fun _ _ _ h => h) ?hy1x15 (by assumption) ?rest1x15
      case hi1x15 => (simp only [List.getElem?_toArray, List.getElem?_cons_succ, List.getElem?_cons_zero]; exact rfl)
      case hf1x15 => kernel_rfl
      case hr1x15 => kernel_rfl
      case hy1x15 => (refine Or.inl ⟨by rfl, ?_⟩; intro w hSw; (try dsimp only at hSw); go_simp; try with_reducible rfl)
      simp only [put_mk, List.set_cons_succ, List.set_cons_zero]
      refine wpAnyH_take (i := 16) (oi := ?o1x16) (v := ?v1x16) ?hi1x16 (by kernel_rfl) ?hf1x16 ?hr1x16 (fun _ _ _ h => h) ?hy1x16 (by assumption) ?rest1x16
      case hi1x16 => (simp only [List.getElem?_toArray, List.getElem?_cons_succ, List.getElem?_cons_zero]; exact rfl)
      case hf1x16 => kernel_rfl
      case hr1x16 => kernel_rfl
      case hy1x16 => (refine Or.inl ⟨by rfl, ?_⟩; intro w hSw; (try dsimp only at hSw); go_simp; try with_reducible rfl)
      simp only [put_mk, List.set_cons_succ, List.set_cons_zero]
      refine wpAnyH_take (i := 17) (oi := ?o1x17) (v := ?v1x17) ?hi1x17 (by kernel_rfl) ?hf1x17 ?hr1x17 (fun _ _ _ h => h) ?hy1x17 (by assumption) ?rest1x17
      case hi1x17 => (simp only [List.getElem?_toArray, List.getElem?_cons_succ, List.getElem?_cons_zero]; exact rfl)
      case hf1x17 => kernel_rfl
      case hr1x17 => kernel_rfl
      case hy1x17 => (refine Or.inl ⟨by rfl, ?_⟩; intro w hSw; (try dsimp only at hSw); go_simp; try with_reducible rfl)
      simp only [put_mk, List.set_cons_succ, List.set_cons_zero]
      refine wpAnyH_take (i := 18) (oi := ?o1x18) (v := ?v1x18) ?hi1x18 (by kernel_rfl) ?hf1x18 ?hr1x18 (fun _ _ _ h => h) ?hy1x18 (by assumption) ?rest1x18
      case hi1x18 => (simp only [List.getElem?_toArray, List.getElem?_cons_succ, List.getElem?_cons_zero]; exact rfl)
      case hf1x18 => kernel_rfl
      case hr1x18 => kernel_rfl
      case hy1x18 => (refine Or.inl ⟨by rfl, ?_⟩; intro w hSw; (try dsimp only at hSw); go_simp; try with_reducible rfl)
      simp only [put_mk, List.set_cons_succ, List.set_cons_zero]
      refine wpAnyH_take (i := 19) (oi := ?o1x19) (v := ?v1x19) ?hi1x19 (by kernel_rfl) ?hf1x19 ?hr1x19 (fun _ _ _ h => h) ?hy1x19 (by assumption) ?rest1x19
      case hi1x19 => (simp only [List.getElem?_toArray, List.getElem?_cons_succ, List.getElem?_cons_zero]; exact rfl)
      case hf1x19 => kernel_rfl
      case hr1x19 => kernel_rfl
      case hy1x19 => (refine Or.inl ⟨by rfl, ?_⟩; intro w hSw; (try dsimp only at hSw); go_simp; try with_reducible rfl)
      simp only [put_mk, List.set_cons_succ, List.set_cons_zero]
      refine wpAnyH_done (by kernel_rfl) ?_ _
      refine NoPanic.normal ?_
      clear c4 a1 a2 r1 hb hfe hHeld
      go_upto_region 1 with fail
      have k0' := k0 _ (Ext.drew (Ext.refl _))
      have s0' := s0 _ (Ext.drew (Ext.refl _))
      have r2' := r2 _ (Ext.drew (Ext.refl _))
      have g1' := g1 _ (Ext.drew (Ext.refl _))
      have cw : Ext w w.drew := Ext.drew (Ext.refl _)
      have hput2 := hidA ((hput.out.step (Ext.drew (Ext.refl _))).step (Ext.drew (Ext.refl _)))
      have HR2 := hidA (show ∀ g cs, Bk w g 23 cs → Bk (w.setCell ⟨gr, n, none⟩ (.int .i64 (x + 1))).drew.drew g 23 cs from fun g cs h => (HR.out g cs h).drew.drew)
      clear hput HR s0 k0 r2 g1
      have n1' : (w.drew).cell? ⟨gr, n, none⟩ = some (.int .i64 z) := by rw [← Hon.out]; exact HF.out.rcell hn cw
      clear d0
      go_region
      go_upto_region 2 with fail
      clear k0' s0' r2' g1' n1' cw
      obtain ⟨w3, hw3⟩ : ∃ w3, w3 = (w.setCell ⟨gr, n, none⟩ (.int .i64 (x + 1))).drew.drew := ⟨_, rfl⟩
      rw [← hw3] at hput2 HR2 ⊢
      clear hw3
      have hs3 := hput2.out.ext.size
      have hA3 := hidA ((hput2.out.step ((Ext.refl _).alloc (.cells #[.int .i64 (n : Int)] 3))).qs)
      have hC3 := hidA (show (w3.alloc (.cells #[.int .i64 (n : Int)] 3)).cell? ⟨w3.heap.size, 0, none⟩ = some (.int .i64 (n : Int)) from by rw [cell_new_row]; rfl)
      have hS3 := hidA (show W0.heap.size ≤ (w3.alloc (.cells #[.int .i64 (n : Int)] 3)).heap.size from by simp; omega)
      have hQ3 := hidA (hput2.out.step ((Ext.refl _).alloc (.cells #[.int .i64 (n : Int)] 3)))
      have c0 := hput2.out.qb.cell 0
      have hqn := hidA (hQ3.out.qs.ne hQ3.out.qb (by decide))
      go_wp2_with (at_builtin; (refine wpList_append_q _ (by rfl) _ _ 41 (by rfl) W0.heap.size 3 i0 (.int .i64 0) 8 Try.underlying41 hi0 hz0 hz1 hz2 rfl Q L.length cap (inq L) (by rfl) hA3.out hS3.out ⟨w3.heap.size, 0, none⟩ 1 (.int .i64 (n : Int)) (by rfl) hC3.out rfl (by unfold maxLen; omega) (by omega) ?_; intro Q' cap' w4 hq4 hg4 ho4; have k0 := (hQ3.out.qb.grown hg4 hqn.out).cell 0; have k1 := (hQ3.out.qb.grown hg4 hqn.out).frozen 0))
      go_wp2_with fail
      refine bodyPost_end (results_none Try.results163 _ _ _) rfl ?_
      have hx3 : ∀ g cs, Bk w3 g 23 cs → Bk (w4.setCell ⟨hq, 0, none⟩ (.slice Q' (L.length + 1) cap')) g 23 cs := fun g cs hb => by
        have h1 := (hb.alloc (.cells #[.int .i64 (n : Int)] 3)).grown hg4 (hA3.out.ne (hb.alloc _) (by decide))
        exact h1.far (Bk.ne h1 (hQ3.out.qb.grown hg4 hqn.out) (by decide)) _
      exact ⟨rfl, fun g cs hb => hx3 g cs (HR2.out g cs hb), Q', cap', .inl ⟨He.out, Hz.out, by rw [Hop.out]; exact hQ3.out.app hq4 hg4 ho4⟩⟩
    · have hb : (o n == (N : Int)) = false := by simp [hz]
      have Hz := hidA hz
      clear hz
      generalize o n = z at r1 hb
      refine wp_region_noPanic ?_
      refine wp_region_held_drew (S := fun w' => Ext w w') (by kernel_rfl) ?_ (fun hHeld => ?_)
      · (repeat (first | exact Ext.refl _ | assumption | refine Ext.setCell ?_ (by first | (simp; done) | (simp; omega)) _ | refine Ext.drewN ?_ _ | refine Ext.alloc ?_ _ | refine Ext.drew ?_ | refine Ext.trans ?_ (by assumption)))
      refine wpAnyH_take (i := 0) (oi := ?o2x0) (v := ?v2x0) ?hi2x0 (by kernel_rfl) ?hf2x0 ?hr2x0 (fun _ _ _ h => h) ?hy2x0 (by assumption) ?rest2x0
      case hi2x0 => (simp only [List.getElem?_toArray, List.getElem?_cons_zero]; exact rfl)
      case hf2x0 => kernel_rfl
      case hr2x0 => kernel_rfl
      case hy2x0 => (refine Or.inl ⟨by rfl, ?_⟩; intro w hSw; (try dsimp only at hSw); go_simp; try with_reducible rfl)
      simp only [put_mk, List.set_cons_succ, List.set_cons_zero]
      refine wpAnyH_take (i := 1) (oi := ?o2x1) (v := ?v2x1) ?hi2x1 (by kernel_rfl) ?hf2x1 ?hr2x1 (fun _ _ _ h => h) ?hy2x1 (by assumption) ?rest2x1
      case hi2x1 => (simp only [List.getElem?_toArray, List.getElem?_cons_succ, List.getElem?_cons_zero]; exact rfl)
      case hf2x1 => kernel_rfl
      case hr2x1 => kernel_rfl
      case hy2x1 => (refine Or.inl ⟨by rfl, ?_⟩; intro w hSw; (try dsimp only at hSw); go_simp; try with_reducible rfl)
      simp only [put_mk, List.set_cons_succ, List.set_cons_zero]
      refine wpAnyH_take (i := 2) (oi := ?o2x2) (v := ?v2x2) ?hi2x2 (by kernel_rfl) ?hf2x2 ?hr2x2 (fun _ _ _ h => h) ?hy2x2 (by assumption) ?rest2x2
      case hi2x2 => (simp only [List.getElem?_toArray, List.getElem?_cons_succ, List.getElem?_cons_zero]; exact rfl)
      case hf2x2 => kernel_rfl
      case hr2x2 => kernel_rfl
      case hy2x2 => (refine Or.inl ⟨by rfl, ?_⟩; intro w hSw; (try dsimp only at hSw); go_simp; try with_reducible rfl)
      simp only [put_mk, List.set_cons_succ, List.set_cons_zero]
      refine wpAnyH_take (i := 3) (oi := ?o2x3) (v := ?v2x3) ?hi2x3 (by kernel_rfl) ?hf2x3 ?hr2x3 (fun _ _ _ h => h) ?hy2x3 (by assumption) ?rest2x3
      case hi2x3 => (simp only [List.getElem?_toArray, List.getElem?_cons_succ, List.getElem?_cons_zero]; exact rfl)
      case hf2x3 => kernel_rfl
      case hr2x3 => kernel_rfl
      case hy2x3 => (refine Or.inl ⟨by rfl, ?_⟩; intro w hSw; (try dsimp only at hSw); go_simp; try with_reducible rfl)
      simp only [put_mk, List.set_cons_succ, List.set_cons_zero]
      refine wpAnyH_take (i := 4) (oi := ?o2x4) (v := ?v2x4) ?hi2x4 (by kernel_rfl) ?hf2x4 ?hr2x4 (fun _ _ _ h => h) ?hy2x4 (by assumption) ?rest2x4
      case hi2x4 => (simp only [List.getElem?_toArray, List.getElem?_cons_succ, List.getElem?_cons_zero]; exact rfl)
      case hf2x4 => kernel_rfl
      case hr2x4 => kernel_rfl
      case hy2x4 => (refine Or.inl ⟨by rfl, ?_⟩; intro w hSw; (try dsimp only at hSw); go_simp; try with_reducible rfl)
      simp only [put_mk, List.set_cons_succ, List.set_cons_zero]
      refine wpAnyH_take (i := 5) (oi := ?o2x5) (v := ?v2x5) ?hi2x5 (by kernel_rfl) ?hf2x5 ?hr2x5 (fun _ _ _ h => h) ?hy2x5 (by assumption) ?rest2x5
      case hi2x5 => (simp only [List.getElem?_toArray, List.getElem?_cons_succ, List.getElem?_cons_zero]; exact rfl)
      case hf2x5 => kernel_rfl
      case hr2x5 => kernel_rfl
      case hy2x5 => (refine Or.inl ⟨by rfl, ?_⟩; intro w hSw; (try dsimp only at hSw); go_simp; try with_reducible rfl)
      simp only [put_mk, List.set_cons_succ, List.set_cons_zero]
      refine wpAnyH_take (i := 6) (oi := ?o2x6) (v := ?v2x6) ?hi2x6 (by kernel_rfl) ?hf2x6 ?hr2x6 (fun _ _ _ h => h) ?hy2x6 (by assumption) ?rest2x6
      case hi2x6 => (simp only [List.getElem?_toArray, List.getElem?_cons_succ, List.getElem?_cons_zero]; exact rfl)
      case hf2x6 => kernel_rfl
      case hr2x6 => kernel_rfl
      case hy2x6 => (refine Or.inl ⟨by rfl, ?_⟩; intro w hSw; (try dsimp only at hSw); go_simp; try with_reducible rfl)
      simp only [put_mk, List.set_cons_succ, List.set_cons_zero]
      refine wpAnyH_take (i := 7) (oi := ?o2x7) (v := ?v2x7) ?hi2x7 (by kernel_rfl) ?hf2x7 ?hr2x7 (fun _ _ _ h => h) ?hy2x7 (by assumption) ?rest2x7
      case hi2x7 => (simp only [List.getElem?_toArray, List.getElem?_cons_succ, List.getElem?_cons_zero]; exact rfl)
      case hf2x7 => kernel_rfl
      case hr2x7 => kernel_rfl
      case hy2x7 => (refine Or.inl ⟨by rfl, ?_⟩; intro w hSw; (try dsimp only at hSw); go_simp; try with_reducible rfl)
      simp only [put_mk, List.set_cons_succ, List.set_cons_zero]
      refine wpAnyH_take (i := 8) (oi := ?o2x8) (v := ?v2x8) ?hi2x8 (by kernel_rfl) ?hf2x8 ?hr2x8 (fun _ _ _ h => h) ?hy2x8 (by assumption) ?rest2x8
      case hi2x8 => (simp only [List.getElem?_toArray, List.getElem?_cons_succ, List.getElem?_cons_zero]; exact rfl)
      case hf2x8 => kernel_rfl
      case hr2x8 => kernel_rfl
      case hy2x8 => (refine Or.inl ⟨by rfl, ?_⟩; intro w hSw; (try dsimp only at hSw); go_simp; try with_reducible rfl)
      simp only [put_mk, List.set_cons_succ, List.set_cons_zero]
      refine wpAnyH_take (i := 9) (oi := ?o2x9) (v := ?v2x9) ?hi2x9 (by kernel_rfl) ?hf2x9 ?hr2x9 (fun _ _ _ h => h) ?hy2x9 (by assumption) ?rest2x9
      case hi2x9 => (simp only [List.getElem?_toArray, List.getElem?_cons_succ, List.getElem?_cons_zero]; exact rfl)
      case hf2x9 => kernel_rfl
      case hr2x9 => kernel_rfl
      case hy2x9 => (refine Or.inl ⟨by rfl, ?_⟩; intro w hSw; (try dsimp only at hSw); go_simp; try with_reducible rfl)
      simp only [put_mk, List.set_cons_succ, List.set_cons_zero]
      refine wpAnyH_take (i := 10) (oi := ?o2x10) (v := ?v2x10) ?hi2x10 (by kernel_rfl) ?hf2x10 ?hr2x10 (fun _ _ _ h => h) ?hy2x10 (by assumption) ?rest2x10
      case hi2x10 => (simp only [List.getElem?_toArray, List.getElem?_cons_succ, List.getElem?_cons_zero]; exact rfl)
      case hf2x10 => kernel_rfl
      case hr2x10 => kernel_rfl
      case hy2x10 => (refine Or.inl ⟨by rfl, ?_⟩; intro w hSw; (try dsimp only at hSw); go_simp; try with_reducible rfl)
      simp only [put_mk, List.set_cons_succ, List.set_cons_zero]
      refine wpAnyH_take (i := 11) (oi := ?o2x11) (v := ?v2x11) ?hi2x11 (by kernel_rfl) ?hf2x11 ?hr2x11 (fun _ _ _ h => h) ?hy2x11 (by assumption) ?rest2x11
      case hi2x11 => (simp only [List.getElem?_toArray, List.getElem?_cons_succ, List.getElem?_cons_zero]; exact rfl)
      case hf2x11 => kernel_rfl
      case hr2x11 => kernel_rfl
      case hy2x11 => (refine Or.inl ⟨by rfl, ?_⟩; intro w hSw; (try dsimp only at hSw); go_simp; try with_reducible rfl)
      simp only [put_mk, List.set_cons_succ, List.set_cons_zero]
      refine wpAnyH_take (i := 12) (oi := ?o2x12) (v := ?v2x12) ?hi2x12 (by kernel_rfl) ?hf2x12 ?hr2x12 (fun _ _ _ h => h) ?hy2x12 (by assumption) ?rest2x12
      case hi2x12 => (simp only [List.getElem?_toArray, List.getElem?_cons_succ, List.getElem?_cons_zero]; exact rfl)
      case hf2x12 => kernel_rfl
      case hr2x12 => kernel_rfl
      case hy2x12 => (refine Or.inl ⟨by rfl, ?_⟩; intro w hSw; (try dsimp only at hSw); go_simp; try with_reducible rfl)
      simp only [put_mk, List.set_cons_succ, List.set_cons_zero]
      refine wpAnyH_take (i := 13) (oi := ?o2x13) (v := ?v2x13) ?hi2x13 (by kernel_rfl) ?hf2x13 ?hr2x13 (fun _ _ _ h => h) ?hy2x13 (by assumption) ?rest2x13
      case hi2x13 => (simp only [List.getElem?_toArray, List.getElem?_cons_succ, List.getElem?_cons_zero]; exact rfl)
      case hf2x13 => kernel_rfl
      case hr2x13 => kernel_rfl
      case hy2x13 => (refine Or.inl ⟨by rfl, ?_⟩; intro w hSw; (try dsimp only at hSw); go_simp; try with_reducible rfl)
      simp only [put_mk, List.set_cons_succ, List.set_cons_zero]
      refine wpAnyH_take (i := 14) (oi := ?o2x14) (v := ?v2x14) ?hi2x14 (by kernel_rfl) ?hf2x14 ?hr2x14 (fun _ _ _ h => h) ?hy2x14 (by assumption) ?rest2x14
      case hi2x14 => (simp only [List.getElem?_toArray, List.getElem?_cons_succ, List.getElem?_cons_zero]; exact rfl)
      case hf2x14 => kernel_rfl
      case hr2x14 => kernel_rfl
      case hy2x14 => (refine Or.inl ⟨by rfl, ?_⟩; intro w hSw; (try dsimp only at hSw); go_simp; try with_reducible rfl)
      simp only [put_mk, List.set_cons_succ, List.set_cons_zero]
      refine wpAnyH_take (i := 15) (oi := ?o2x15) (v := ?v2x15) ?hi2x15 (by kernel_rfl) ?hf2x15 ?hr2x15 (fun _ _ _ h => h) ?hy2x15 (by assumption) ?rest2x15
      case hi2x15 => (simp only [List.getElem?_toArray, List.getElem?_cons_succ, List.getElem?_cons_zero]; exact rfl)
      case hf2x15 => kernel_rfl
      case hr2x15 => kernel_rfl
      case hy2x15 => (refine Or.inl ⟨by rfl, ?_⟩; intro w hSw; (try dsimp only at hSw); go_simp; try with_reducible rfl)
      simp only [put_mk, List.set_cons_succ, List.set_cons_zero]
      refine wpAnyH_take (i := 16) (oi := ?o2x16) (v := ?v2x16) ?hi2x16 (by kernel_rfl) ?hf2x16 ?hr2x16 (fun _ _ _ h => h) ?hy2x16 (by assumption) ?rest2x16
      case hi2x16 => (simp only [List.getElem?_toArray, List.getElem?_cons_succ, List.getElem?_cons_zero]; exact rfl)
      case hf2x16 => kernel_rfl
      case hr2x16 => kernel_rfl
      case hy2x16 => (refine Or.inl ⟨by rfl, ?_⟩; intro w hSw; (try dsimp only at hSw); go_simp; try with_reducible rfl)
      simp only [put_mk, List.set_cons_succ, List.set_cons_zero]
      refine wpAnyH_take (i := 17) (oi := ?o2x17) (v := ?v2x17) ?hi2x17 (by kernel_rfl) ?hf2x17 ?hr2x17 (fun _ _ _ h => h) ?hy2x17 (by assumption) ?rest2x17
      case hi2x17 => (simp only [List.getElem?_toArray, List.getElem?_cons_succ, List.getElem?_cons_zero]; exact rfl)
      case hf2x17 => kernel_rfl
      case hr2x17 => kernel_rfl
      case hy2x17 => (refine Or.inl ⟨by rfl, ?_⟩; intro w hSw; (try dsimp only at hSw); go_simp; try with_reducible rfl)
      simp only [put_mk, List.set_cons_succ, List.set_cons_zero]
      refine wpAnyH_take (i := 18) (oi := ?o2x18) (v := ?v2x18) ?hi2x18 (by kernel_rfl) ?hf2x18 ?hr2x18 (fun _ _ _ h => h) ?hy2x18 (by assumption) ?rest2x18
      case hi2x18 => (simp only [List.getElem?_toArray, List.getElem?_cons_succ, List.getElem?_cons_zero]; exact rfl)
      case hf2x18 => kernel_rfl
      case hr2x18 => kernel_rfl
      case hy2x18 => (refine Or.inl ⟨by rfl, ?_⟩; intro w hSw; (try dsimp only at hSw); go_simp; try with_reducible rfl)
      simp only [put_mk, List.set_cons_succ, List.set_cons_zero]
      refine wpAnyH_take (i := 19) (oi := ?o2x19) (v := ?v2x19) ?hi2x19 (by kernel_rfl) ?hf2x19 ?hr2x19 (fun _ _ _ h => h) ?hy2x19 (by assumption) ?rest2x19
      case hi2x19 => (simp only [List.getElem?_toArray, List.getElem?_cons_succ, List.getElem?_cons_zero]; exact rfl)
      case hf2x19 => kernel_rfl
      case hr2x19 => kernel_rfl
      case hy2x19 => (refine Or.inl ⟨by rfl, ?_⟩; intro w hSw; (try dsimp only at hSw); go_simp; try with_reducible rfl)
      simp only [put_mk, List.set_cons_succ, List.set_cons_zero]
      refine wpAnyH_done (by kernel_rfl) ?_ _
      refine NoPanic.normal ?_
      clear c4 a1 a2 r1 r2 g1 hb hfe hHeld k0 s0 d0
      go_wp2_with fail
      refine bodyPost_end (results_none Try.results163 _ _ _) rfl ?_
      exact ⟨rfl, fun g cs hb => Bk.drew hb, Q, cap, .inr ⟨fun h => Hz.out h.2, HF.out.step (Ext.drew (Ext.refl _))⟩⟩
  · rw [decide_eq_false he] at hfe
    have He := hidA he
    clear he
    refine wp_region_noPanic ?_
    refine wp_region_held_drew (S := fun w' => Ext w w') (by kernel_rfl) ?_ (fun hHeld => ?_)
    · (repeat (first | exact Ext.refl _ | assumption | refine Ext.setCell ?_ (by first | (simp; done) | (simp; omega)) _ | refine Ext.drewN ?_ _ | refine Ext.alloc ?_ _ | refine Ext.drew ?_ | refine Ext.trans ?_ (by assumption)))
    refine wpAnyH_take (i := 0) (oi := ?o3x0) (v := ?v3x0) ?hi3x0 (by kernel_rfl) ?hf3x0 ?hr3x0 (fun _ _ _ h => h) ?hy3x0 (by assumption) ?rest3x0
    case hi3x0 => (simp only [List.getElem?_toArray, List.getElem?_cons_zero]; exact rfl)
    case hf3x0 => kernel_rfl
    case hr3x0 => kernel_rfl
    case hy3x0 => (refine Or.inl ⟨by rfl, ?_⟩; intro w hSw; (try dsimp only at hSw); go_simp; try with_reducible rfl)
    simp only [put_mk, List.set_cons_succ, List.set_cons_zero]
    refine wpAnyH_take (i := 1) (oi := ?o3x1) (v := ?v3x1) ?hi3x1 (by kernel_rfl) ?hf3x1 ?hr3x1 (fun _ _ _ h => h) ?hy3x1 (by assumption) ?rest3x1
    case hi3x1 => (simp only [List.getElem?_toArray, List.getElem?_cons_succ, List.getElem?_cons_zero]; exact rfl)
    case hf3x1 => kernel_rfl
    case hr3x1 => kernel_rfl
    case hy3x1 => (refine Or.inl ⟨by rfl, ?_⟩; intro w hSw; (try dsimp only at hSw); go_simp; try with_reducible rfl)
    simp only [put_mk, List.set_cons_succ, List.set_cons_zero]
    refine wpAnyH_take (i := 2) (oi := ?o3x2) (v := ?v3x2) ?hi3x2 (by kernel_rfl) ?hf3x2 ?hr3x2 (fun _ _ _ h => h) ?hy3x2 (by assumption) ?rest3x2
    case hi3x2 => (simp only [List.getElem?_toArray, List.getElem?_cons_succ, List.getElem?_cons_zero]; exact rfl)
    case hf3x2 => kernel_rfl
    case hr3x2 => kernel_rfl
    case hy3x2 => (refine Or.inl ⟨by rfl, ?_⟩; intro w hSw; (try dsimp only at hSw); go_simp; try with_reducible rfl)
    simp only [put_mk, List.set_cons_succ, List.set_cons_zero]
    refine wpAnyH_take (i := 3) (oi := ?o3x3) (v := ?v3x3) ?hi3x3 (by kernel_rfl) ?hf3x3 ?hr3x3 (fun _ _ _ h => h) ?hy3x3 (by assumption) ?rest3x3
    case hi3x3 => (simp only [List.getElem?_toArray, List.getElem?_cons_succ, List.getElem?_cons_zero]; exact rfl)
    case hf3x3 => kernel_rfl
    case hr3x3 => kernel_rfl
    case hy3x3 => (refine Or.inl ⟨by rfl, ?_⟩; intro w hSw; (try dsimp only at hSw); go_simp; try with_reducible rfl)
    simp only [put_mk, List.set_cons_succ, List.set_cons_zero]
    refine wpAnyH_take (i := 4) (oi := ?o3x4) (v := ?v3x4) ?hi3x4 (by kernel_rfl) ?hf3x4 ?hr3x4 (fun _ _ _ h => h) ?hy3x4 (by assumption) ?rest3x4
    case hi3x4 => (simp only [List.getElem?_toArray, List.getElem?_cons_succ, List.getElem?_cons_zero]; exact rfl)
    case hf3x4 => kernel_rfl
    case hr3x4 => kernel_rfl
    case hy3x4 => (refine Or.inl ⟨by rfl, ?_⟩; intro w hSw; (try dsimp only at hSw); go_simp; try with_reducible rfl)
    simp only [put_mk, List.set_cons_succ, List.set_cons_zero]
    refine wpAnyH_take (i := 5) (oi := ?o3x5) (v := ?v3x5) ?hi3x5 (by kernel_rfl) ?hf3x5 ?hr3x5 (fun _ _ _ h => h) ?hy3x5 (by assumption) ?rest3x5
    case hi3x5 => (simp only [List.getElem?_toArray, List.getElem?_cons_succ, List.getElem?_cons_zero]; exact rfl)
    case hf3x5 => kernel_rfl
    case hr3x5 => kernel_rfl
    case hy3x5 => (refine Or.inl ⟨by rfl, ?_⟩; intro w hSw; (try dsimp only at hSw); go_simp; try with_reducible rfl)
    simp only [put_mk, List.set_cons_succ, List.set_cons_zero]
    refine wpAnyH_take (i := 6) (oi := ?o3x6) (v := ?v3x6) ?hi3x6 (by kernel_rfl) ?hf3x6 ?hr3x6 (fun _ _ _ h => h) ?hy3x6 (by assumption) ?rest3x6
    case hi3x6 => (simp only [List.getElem?_toArray, List.getElem?_cons_succ, List.getElem?_cons_zero]; exact rfl)
    case hf3x6 => kernel_rfl
    case hr3x6 => kernel_rfl
    case hy3x6 => (refine Or.inl ⟨by rfl, ?_⟩; intro w hSw; (try dsimp only at hSw); go_simp; try with_reducible rfl)
    simp only [put_mk, List.set_cons_succ, List.set_cons_zero]
    refine wpAnyH_take (i := 7) (oi := ?o3x7) (v := ?v3x7) ?hi3x7 (by kernel_rfl) ?hf3x7 ?hr3x7 (fun _ _ _ h => h) ?hy3x7 (by assumption) ?rest3x7
    case hi3x7 => (simp only [List.getElem?_toArray, List.getElem?_cons_succ, List.getElem?_cons_zero]; exact rfl)
    case hf3x7 => kernel_rfl
    case hr3x7 => kernel_rfl
    case hy3x7 => (refine Or.inl ⟨by rfl, ?_⟩; intro w hSw; (try dsimp only at hSw); go_simp; try with_reducible rfl)
    simp only [put_mk, List.set_cons_succ, List.set_cons_zero]
    refine wpAnyH_take (i := 8) (oi := ?o3x8) (v := ?v3x8) ?hi3x8 (by kernel_rfl) ?hf3x8 ?hr3x8 (fun _ _ _ h => h) ?hy3x8 (by assumption) ?rest3x8
    case hi3x8 => (simp only [List.getElem?_toArray, List.getElem?_cons_succ, List.getElem?_cons_zero]; exact rfl)
    case hf3x8 => kernel_rfl
    case hr3x8 => kernel_rfl
    case hy3x8 => (refine Or.inl ⟨by rfl, ?_⟩; intro w hSw; (try dsimp only at hSw); go_simp; try with_reducible rfl)
    simp only [put_mk, List.set_cons_succ, List.set_cons_zero]
    refine wpAnyH_take (i := 9) (oi := ?o3x9) (v := ?v3x9) ?hi3x9 (by kernel_rfl) ?hf3x9 ?hr3x9 (fun _ _ _ h => h) ?hy3x9 (by assumption) ?rest3x9
    case hi3x9 => (simp only [List.getElem?_toArray, List.getElem?_cons_succ, List.getElem?_cons_zero]; exact rfl)
    case hf3x9 => kernel_rfl
    case hr3x9 => kernel_rfl
    case hy3x9 => (refine Or.inl ⟨by rfl, ?_⟩; intro w hSw; (try dsimp only at hSw); go_simp; try with_reducible rfl)
    simp only [put_mk, List.set_cons_succ, List.set_cons_zero]
    refine wpAnyH_take (i := 10) (oi := ?o3x10) (v := ?v3x10) ?hi3x10 (by kernel_rfl) ?hf3x10 ?hr3x10 (fun _ _ _ h => h) ?hy3x10 (by assumption) ?rest3x10
    case hi3x10 => (simp only [List.getElem?_toArray, List.getElem?_cons_succ, List.getElem?_cons_zero]; exact rfl)
    case hf3x10 => kernel_rfl
    case hr3x10 => kernel_rfl
    case hy3x10 => (refine Or.inl ⟨by rfl, ?_⟩; intro w hSw; (try dsimp only at hSw); go_simp; try with_reducible rfl)
    simp only [put_mk, List.set_cons_succ, List.set_cons_zero]
    refine wpAnyH_take (i := 11) (oi := ?o3x11) (v := ?v3x11) ?hi3x11 (by kernel_rfl) ?hf3x11 ?hr3x11 (fun _ _ _ h => h) ?hy3x11 (by assumption) ?rest3x11
    case hi3x11 => (simp only [List.getElem?_toArray, List.getElem?_cons_succ, List.getElem?_cons_zero]; exact rfl)
    case hf3x11 => kernel_rfl
    case hr3x11 => kernel_rfl
    case hy3x11 => (refine Or.inl ⟨by rfl, ?_⟩; intro w hSw; (try dsimp only at hSw); go_simp; try with_reducible rfl)
    simp only [put_mk, List.set_cons_succ, List.set_cons_zero]
    refine wpAnyH_take (i := 12) (oi := ?o3x12) (v := undef) ?hi3x12 (by kernel_rfl) ?hf3x12 ?hr3x12 (fun _ _ _ h => h) ?hy3x12 (by assumption) ?rest3x12
    case hi3x12 => (simp only [List.getElem?_toArray, List.getElem?_cons_succ, List.getElem?_cons_zero]; exact rfl)
    case hf3x12 => kernel_rfl
    case hr3x12 => kernel_rfl
    case hy3x12 => exact Or.inr ⟨by rfl, rfl⟩
    simp only [put_mk, List.set_cons_succ, List.set_cons_zero]
    refine wpAnyH_take (i := 13) (oi := ?o3x13) (v := undef) ?hi3x13 (by kernel_rfl) ?hf3x13 ?hr3x13 (fun _ _ _ h => h) ?hy3x13 (by assumption) ?rest3x13
    case hi3x13 => (simp only [List.getElem?_toArray, List.getElem?_cons_succ, List.getElem?_cons_zero]; exact rfl)
    case hf3x13 => kernel_rfl
    case hr3x13 => kernel_rfl
    case hy3x13 => exact Or.inr ⟨by rfl, rfl⟩
    simp only [put_mk, List.set_cons_succ, List.set_cons_zero]
    refine wpAnyH_take (i := 14) (oi := ?o3x14) (v := undef) ?hi3x14 (by kernel_rfl) ?hf3x14 ?hr3x14 (fun _ _ _ h => h) ?hy3x14 (by assumption) ?rest3x14
    case hi3x14 => (simp only [List.getElem?_toArray, List.getElem?_cons_succ, List.getElem?_cons_zero]; exact rfl)
    case hf3x14 => kernel_rfl
    case hr3x14 => kernel_rfl
    case hy3x14 => exact Or.inr ⟨by rfl, rfl⟩
    simp only [put_mk, List.set_cons_succ, List.set_cons_zero]
    refine wpAnyH_take (i := 15) (oi := ?o3x15) (v := undef) ?hi3x15 (by kernel_rfl) ?hf3x15 ?hr3x15 (fun _ _ _ h => h) ?hy3x15 (by assumption) ?rest3x15
    case hi3x15 => (simp only [List.getElem?_toArray, List.getElem?_cons_succ, List.getElem?_cons_zero]; exact rfl)
    case hf3x15 => kernel_rfl
    case hr3x15 => kernel_rfl
    case hy3x15 => exact Or.inr ⟨by rfl, rfl⟩
    simp only [put_mk, List.set_cons_succ, List.set_cons_zero]
    refine wpAnyH_take (i := 16) (oi := ?o3x16) (v := undef) ?hi3x16 (by kernel_rfl) ?hf3x16 ?hr3x16 (fun _ _ _ h => h) ?hy3x16 (by assumption) ?rest3x16
    case hi3x16 => (simp only [List.getElem?_toArray, List.getElem?_cons_succ, List.getElem?_cons_zero]; exact rfl)
    case hf3x16 => kernel_rfl
    case hr3x16 => kernel_rfl
    case hy3x16 => exact Or.inr ⟨by rfl, rfl⟩
    simp only [put_mk, List.set_cons_succ, List.set_cons_zero]
    refine wpAnyH_take (i := 17) (oi := ?o3x17) (v := undef) ?hi3x17 (by kernel_rfl) ?hf3x17 ?hr3x17 (fun _ _ _ h => h) ?hy3x17 (by assumption) ?rest3x17
    case hi3x17 => (simp only [List.getElem?_toArray, List.getElem?_cons_succ, List.getElem?_cons_zero]; exact rfl)
    case hf3x17 => kernel_rfl
    case hr3x17 => kernel_rfl
    case hy3x17 => exact Or.inr ⟨by rfl, rfl⟩
    simp only [put_mk, List.set_cons_succ, List.set_cons_zero]
    refine wpAnyH_take (i := 18) (oi := ?o3x18) (v := undef) ?hi3x18 (by kernel_rfl) ?hf3x18 ?hr3x18 (fun _ _ _ h => h) ?hy3x18 (by assumption) ?rest3x18
    case hi3x18 => (simp only [List.getElem?_toArray, List.getElem?_cons_succ, List.getElem?_cons_zero]; exact rfl)
    case hf3x18 => kernel_rfl
    case hr3x18 => kernel_rfl
    case hy3x18 => exact Or.inr ⟨by rfl, rfl⟩
    simp only [put_mk, List.set_cons_succ, List.set_cons_zero]
    refine wpAnyH_take (i := 19) (oi := ?o3x19) (v := ?v3x19) ?hi3x19 (by kernel_rfl) ?hf3x19 ?hr3x19 (fun _ _ _ h => h) ?hy3x19 (by assumption) ?rest3x19
    case hi3x19 => (simp only [List.getElem?_toArray, List.getElem?_cons_succ, List.getElem?_cons_zero]; exact rfl)
    case hf3x19 => kernel_rfl
    case hr3x19 => kernel_rfl
    case hy3x19 => (refine Or.inl ⟨by rfl, ?_⟩; intro w hSw; (try dsimp only at hSw); go_simp; try with_reducible rfl)
    simp only [put_mk, List.set_cons_succ, List.set_cons_zero]
    refine wpAnyH_done (by kernel_rfl) ?_ _
    refine NoPanic.normal ?_
    clear c4 a1 a2 r1 r2 g1 hfe hHeld k0 s0 d0
    go_wp2_with fail
    refine bodyPost_end (results_none Try.results163 _ _ _) rfl ?_
    exact ⟨rfl, fun g cs hb => Bk.drew hb, Q, cap, .inr ⟨fun h => He.out h.1, HF.out.step (Ext.drew (Ext.refl _))⟩⟩
end Go.Proofs.Ytinohfgokpbcdaa
