/- Contract: water.steep. -/
import Derived.Test.YtepgfplbkmhgbaaTdAD
import Derived.RegionTactic
import Derived.ChangeAlike
import Derived.Test.YtepgfplbkmhgbaaTdAA
namespace Go.Proofs.Ytepgfplbkmhgbaa
open Go.RowKit
attribute [local go_sem ↓] Go.wp_at_zero Go.wp_at_succ
attribute [local go_sem] run_store_float

/-- what drain holds in memory: the field, the cell, the ranks, the least rank beside it, the directions -/
structure XM (W0 w : World) (hf hk hr hl hd gr gd : Nat) (X Y : Int) (Wn Hn N : Nat) (A : Option Addr) (c k : Nat) (R I : Nat → Int) (z : Int) : Prop where
  fb : Bk w hf 26 #[.int .i64 X, .int .i64 Y, .int .i64 (Wn : Int), .int .i64 (Hn : Int), .slice A N c]
  kb : Bk w hk 3 #[.int .i64 (k : Int)]
  rb : Bk w hr 32 #[.slice (some ⟨gr, 0, none⟩) N N]
  lb : Bk w hl 3 #[.int .i64 z]
  db : Bk w hd 32 #[.slice (some ⟨gd, 0, none⟩) N N]
  gb : Bk w gr 3 (intB N R)
  ib : Bk w gd 3 (intB N I)
  ext : Ext W0 w
  b1 : W0.heap.size ≤ hl
  b2 : W0.heap.size ≤ gd
  n1 : hk ≠ hl
  n2 : hk ≠ gd
  n3 : gr ≠ hl
  n4 : gr ≠ gd
  n5 : hl ≠ gd
section
variable {W0 w : World} {hf hk hr hl hd gr gd : Nat} {X Y : Int} {Wn Hn N : Nat} {A : Option Addr} {c k : Nat} {R I : Nat → Int} {z : Int}
theorem XM.step (h : XM W0 w hf hk hr hl hd gr gd X Y Wn Hn N A c k R I z) {w' : World} (hx : Ext w w') : XM W0 w' hf hk hr hl hd gr gd X Y Wn Hn N A c k R I z :=
  ⟨h.fb.ext hx, h.kb.ext hx, h.rb.ext hx, h.lb.ext hx, h.db.ext hx, h.gb.ext hx, h.ib.ext hx, h.ext.trans hx, h.b1, h.b2, h.n1, h.n2, h.n3, h.n4, h.n5⟩
theorem XM.put (h : XM W0 w hf hk hr hl hd gr gd X Y Wn Hn N A c k R I z) (y x : Int) : XM W0 ((w.setCell ⟨hl, 0, none⟩ (.int .i64 y)).setCell ⟨gd, k, none⟩ (.int .i64 x)) hf hk hr hl hd gr gd X Y Wn Hn N A c k R (updF I k x) y := by
  have l1 := Bk.set h.lb 0 (.int .i64 y)
  have i1 := h.ib.far (p := ⟨hl, 0, none⟩) (Ne.symm h.n5) (.int .i64 y)
  have i2 := Bk.set i1 k (.int .i64 x)
  rw [intB_set] at i2
  exact ⟨(h.fb.far (Bk.ne h.fb h.lb (by decide)) _).far (Bk.ne h.fb h.ib (by decide)) _, (h.kb.far h.n1 _).far h.n2 _, (h.rb.far (Bk.ne h.rb h.lb (by decide)) _).far (Bk.ne h.rb h.ib (by decide)) _,
    l1.far h.n5 _, (h.db.far (Bk.ne h.db h.lb (by decide)) _).far (Bk.ne h.db h.ib (by decide)) _, (h.gb.far h.n3 _).far h.n4 _, i2, (h.ext.setCell h.b1 _).setCell h.b2 _, h.b1, h.b2, h.n1, h.n2, h.n3, h.n4, h.n5⟩
end
set_option maxRecDepth 100000 in
set_option maxHeartbeats 3200000 in
theorem drain1_any (W0 w : World) (hf hk hr hl hd gr gd : Nat) (X Y : Int) (Wn Hn N : Nat) (A : Option Addr) (c k : Nat) (R I : Nat → Int) (z : Int) (l : List Nat) (n d : Nat)
    (hF : XM W0 w hf hk hr hl hd gr gd X Y Wn Hn N A c k R I z) (hll : l.length = N) (hV : Rd W0 A (flt l)) (hkN : k < N) (hn : n < N) (bp : Bd 20 (l.getD k 0)) (bn : Bd 20 (l.getD n 0)) :
    Calls Try.prog 44 #[.int .i64 n, .int .i64 d, .pointer (some ⟨hf, 0, none⟩), .pointer (some ⟨hk, 0, none⟩), .pointer (some ⟨hr, 0, none⟩), .pointer (some ⟨hl, 0, none⟩), .pointer (some ⟨hd, 0, none⟩)] w fun e w' => e = .returned (.tuple #[]) ∧
      (∀ g cs, Bk w g 23 cs → Bk w' g 23 cs) ∧ ((valI (l.getD n 0) = valI (l.getD k 0) ∧ R n < z ∧ XM W0 w' hf hk hr hl hd gr gd X Y Wn Hn N A c k R (updF I k (d : Int)) (R n)) ∨ (¬ (valI (l.getD n 0) = valI (l.getD k 0) ∧ R n < z) ∧ XM W0 w' hf hk hr hl hd gr gd X Y Wn Hn N A c k R I z)) := by
  have hnl : n < l.length := by omega
  have hkl : k < l.length := by omega
  obtain ⟨ad, rfl, hbk, hcv⟩ := (hV.ext hF.ext).at (k := n) (by rw [flt_length]; exact hnl)
  have cn := hcv n _ (flt_get hnl)
  have cp := hcv k _ (flt_get hkl)
  have en : l.getD n 0 = l[n] := by simp [List.getD_eq_getElem?_getD, hnl]
  have ep : l.getD k 0 = l[k] := by simp [List.getD_eq_getElem?_getD, hkl]
  rw [← en] at cn
  rw [← ep] at cp
  have hfe := feq_valW bn bp
  generalize l.getD n 0 = a at *
  generalize l.getD k 0 = b at *
  clear en ep hcv hV bp bn hnl hkl hll
  have HF := hidA hF
  have c4 : ∀ w', Ext w w' → w'.cell? ⟨hf, 4, none⟩ = some (.slice (some ad) N c) := fun w' h => (HF.out.fb.ext h).cell 4
  have k0 : ∀ w', Ext w w' → w'.cell? ⟨hk, 0, none⟩ = some (.int .i64 (k : Int)) := fun w' h => (HF.out.kb.ext h).cell 0
  have s0 : ∀ w', Ext w w' → w'.cell? ⟨hr, 0, none⟩ = some (.slice (some ⟨gr, 0, none⟩) N N) := fun w' h => (HF.out.rb.ext h).cell 0
  have l0 : ∀ w', Ext w w' → w'.cell? ⟨hl, 0, none⟩ = some (.int .i64 z) := fun w' h => (HF.out.lb.ext h).cell 0
  have d0 : ∀ w', Ext w w' → w'.cell? ⟨hd, 0, none⟩ = some (.slice (some ⟨gd, 0, none⟩) N N) := fun w' h => (HF.out.db.ext h).cell 0
  have a1 : ∀ w', Ext w w' → w'.cell? (ad.add n) = some (.float .f32 a) := fun w' h => by rw [h.cell _ (by rw [add_block]; exact hbk)]; exact cn
  have a2 : ∀ w', Ext w w' → w'.cell? (ad.add k) = some (.float .f32 b) := fun w' h => by rw [h.cell _ (by rw [add_block]; exact hbk)]; exact cp
  have r1 : ∀ w', Ext w w' → w'.cell? ⟨gr, n, none⟩ = some (.int .i64 (R n)) := fun w' h => by rw [(HF.out.gb.ext h).cell]; exact intB_get _ hn
  have e1 : ∀ w', Ext w w' → w'.cell? ⟨gd, k, none⟩ = some (.int .i64 (I k)) := fun w' h => by rw [(HF.out.ib.ext h).cell]; exact intB_get _ hkN
  have g1 : ∀ w', Ext w w' → w'.frozen? ⟨gd, k, none⟩ = false := fun w' h => (HF.out.ib.ext h).frozen k
  have g2 : ∀ w', Ext w w' → w'.frozen? ⟨hl, 0, none⟩ = false := fun w' h => (HF.out.lb.ext h).frozen 0
  have i0 : (0 : Int) ≤ n := by omega
  have i1 : (n : Int) < N := by omega
  have i2 : (0 : Int) ≤ k := by omega
  have i3 : (k : Int) < N := by omega
  have ne1 := HF.out.n1
  have ne2 := HF.out.n2
  have ne3 := HF.out.n3
  have ne4 := HF.out.n4
  have ne5 := HF.out.n5
  have ne6 : hd ≠ hl := Bk.ne HF.out.db HF.out.lb (by decide)
  have ne7 : hd ≠ gd := Bk.ne HF.out.db HF.out.ib (by decide)
  have ne8 : hr ≠ hl := Bk.ne HF.out.rb HF.out.lb (by decide)
  have ne9 : hr ≠ gd := Bk.ne HF.out.rb HF.out.ib (by decide)
  clear hF cn cp
  go_enter Try.func44, Try.ntmps44
  go_wp2_with fail
  by_cases he : valI a = valI b
  · rw [decide_eq_true he] at hfe
    have He := hidA he
    clear he
    by_cases hz : R n < z
    · have hb : decide (R n < z) = true := decide_eq_true hz
      have Hz := hidA hz
      have hput := hidA ((HF.out.put (R n) (d : Int)).step ((Ext.drew (Ext.refl _)).trans (Ext.drew (Ext.refl _))))
      have HR := hidA (show ∀ g cs, Bk w g 23 cs → Bk (((w.setCell ⟨hl, 0, none⟩ (.int .i64 (R n))).setCell ⟨gd, k, none⟩ (.int .i64 (d : Int))).drew.drew) g 23 cs from fun g cs h => ((h.far (Bk.ne h HF.out.lb (by decide)) _).far (Bk.ne h HF.out.ib (by decide)) _).drew.drew)
      clear hz
      generalize hon : R n = y at r1 hb hput HR
      have Hon := hidA hon
      clear hon
      refine wp_region_noPanic ?_
      refine wp_region_held_drew (S := fun w' => Ext w w') (by kernel_rfl) ?_ (fun hHeld => ?_)
      · (repeat (first | exact Ext.refl _ | assumption | refine Ext.setCell ?_ (by first | (simp; done) | (simp; omega)) _ | refine Ext.drewN ?_ _ | refine Ext.alloc ?_ _ | refine Ext.drew ?_ | refine Ext.trans ?_ (by assumption)))
      refine wpAnyH_take (i := 0) (oi := ?o1x0) (v := ?v1x0) ?hi1x0 (by kernel_rfl) ?hf1x0 ?hr1x0 (fun _ _ _ h => h) ?hy1x0 (by assumption) ?rest1x0
      case hi1x0 => (simp only [List.getElem?_toArray, List.getElem?_cons_zero]; exact rfl)
      case hf1x0 => kernel_rfl
      case hr1x0 => kernel_rfl
      case hy1x0 => (refine Or.inl ⟨by rfl, ?_⟩; intro w hSw; (try dsimp only at hSw); go_simp; try with_reducible rfl)
      simp only [put_mk, List.set_cons_succ, List.set_cons_zero]
      refine wpAnyH_take (i := 1) (oi := ?o1x1) (v := ?v1x1) ?hi1x1 (by kernel_rfl) ?hf1x1 ?hr1x1 (fun _ _ _ h => h) ?hy1x1 (by assumption) ?rest1x1
      case hi1x1 => (simp only [List.getElem?_toArray, List.getElem?_cons_succ, List.getElem?_cons_zero]; exact rfl)
      case hf1x1 => kernel_rfl
      case hr1x1 => kernel_rfl
      case hy1x1 => (refine Or.inl ⟨by rfl, ?_⟩; intro w hSw; (try dsimp only at hSw); go_simp; try with_reducible rfl)
      simp only [put_mk, List.set_cons_succ, List.set_cons_zero]
      refine wpAnyH_take (i := 2) (oi := ?o1x2) (v := ?v1x2) ?hi1x2 (by kernel_rfl) ?hf1x2 ?hr1x2 (fun _ _ _ h => h) ?hy1x2 (by assumption) ?rest1x2
      case hi1x2 => (simp only [List.getElem?_toArray, List.getElem?_cons_succ, List.getElem?_cons_zero]; exact rfl)
      case hf1x2 => kernel_rfl
      case hr1x2 => kernel_rfl
      case hy1x2 => (refine Or.inl ⟨by rfl, ?_⟩; intro w hSw; (try dsimp only at hSw); go_simp; try with_reducible rfl)
      simp only [put_mk, List.set_cons_succ, List.set_cons_zero]
      refine wpAnyH_take (i := 3) (oi := ?o1x3) (v := ?v1x3) ?hi1x3 (by kernel_rfl) ?hf1x3 ?hr1x3 (fun _ _ _ h => h) ?hy1x3 (by assumption) ?rest1x3
      case hi1x3 => (simp only [List.getElem?_toArray, List.getElem?_cons_succ, List.getElem?_cons_zero]; exact rfl)
      case hf1x3 => kernel_rfl
      case hr1x3 => kernel_rfl
      case hy1x3 => (refine Or.inl ⟨by rfl, ?_⟩; intro w hSw; (try dsimp only at hSw); go_simp; try with_reducible rfl)
      simp only [put_mk, List.set_cons_succ, List.set_cons_zero]
      refine wpAnyH_take (i := 4) (oi := ?o1x4) (v := ?v1x4) ?hi1x4 (by kernel_rfl) ?hf1x4 ?hr1x4 (fun _ _ _ h => h) ?hy1x4 (by assumption) ?rest1x4
      case hi1x4 => (simp only [List.getElem?_toArray, List.getElem?_cons_succ, List.getElem?_cons_zero]; exact rfl)
      case hf1x4 => kernel_rfl
      case hr1x4 => kernel_rfl
      case hy1x4 => (refine Or.inl ⟨by rfl, ?_⟩; intro w hSw; (try dsimp only at hSw); go_simp; try with_reducible rfl)
      simp only [put_mk, List.set_cons_succ, List.set_cons_zero]
      refine wpAnyH_take (i := 5) (oi := ?o1x5) (v := ?v1x5) ?hi1x5 (by kernel_rfl) ?hf1x5 ?hr1x5 (fun _ _ _ h => h) ?hy1x5 (by assumption) ?rest1x5
      case hi1x5 => (simp only [List.getElem?_toArray, List.getElem?_cons_succ, List.getElem?_cons_zero]; exact rfl)
      case hf1x5 => kernel_rfl
      case hr1x5 => kernel_rfl
      case hy1x5 => (refine Or.inl ⟨by rfl, ?_⟩; intro w hSw; (try dsimp only at hSw); go_simp; try with_reducible rfl)
      simp only [put_mk, List.set_cons_succ, List.set_cons_zero]
      refine wpAnyH_take (i := 6) (oi := ?o1x6) (v := ?v1x6) ?hi1x6 (by kernel_rfl) ?hf1x6 ?hr1x6 (fun _ _ _ h => h) ?hy1x6 (by assumption) ?rest1x6
      case hi1x6 => (simp only [List.getElem?_toArray, List.getElem?_cons_succ, List.getElem?_cons_zero]; exact rfl)
      case hf1x6 => kernel_rfl
      case hr1x6 => kernel_rfl
      case hy1x6 => (refine Or.inl ⟨by rfl, ?_⟩; intro w hSw; (try dsimp only at hSw); go_simp; try with_reducible rfl)
      simp only [put_mk, List.set_cons_succ, List.set_cons_zero]
      refine wpAnyH_take (i := 7) (oi := ?o1x7) (v := ?v1x7) ?hi1x7 (by kernel_rfl) ?hf1x7 ?hr1x7 (fun _ _ _ h => h) ?hy1x7 (by assumption) ?rest1x7
      case hi1x7 => (simp only [List.getElem?_toArray, List.getElem?_cons_succ, List.getElem?_cons_zero]; exact rfl)
      case hf1x7 => kernel_rfl
      case hr1x7 => kernel_rfl
      case hy1x7 => (refine Or.inl ⟨by rfl, ?_⟩; intro w hSw; (try dsimp only at hSw); go_simp; try with_reducible rfl)
      simp only [put_mk, List.set_cons_succ, List.set_cons_zero]
      refine wpAnyH_take (i := 8) (oi := ?o1x8) (v := ?v1x8) ?hi1x8 (by kernel_rfl) ?hf1x8 ?hr1x8 (fun _ _ _ h => h) ?hy1x8 (by assumption) ?rest1x8
      case hi1x8 => (simp only [List.getElem?_toArray, List.getElem?_cons_succ, List.getElem?_cons_zero]; exact rfl)
      case hf1x8 => kernel_rfl
      case hr1x8 => kernel_rfl
      case hy1x8 => (refine Or.inl ⟨by rfl, ?_⟩; intro w hSw; (try dsimp only at hSw); go_simp; try with_reducible rfl)
      simp only [put_mk, List.set_cons_succ, List.set_cons_zero]
      refine wpAnyH_take (i := 9) (oi := ?o1x9) (v := ?v1x9) ?hi1x9 (by kernel_rfl) ?hf1x9 ?hr1x9 (fun _ _ _ h => h) ?hy1x9 (by assumption) ?rest1x9
      case hi1x9 => (simp only [List.getElem?_toArray, List.getElem?_cons_succ, List.getElem?_cons_zero]; exact rfl)
      case hf1x9 => kernel_rfl
      case hr1x9 => kernel_rfl
      case hy1x9 => (refine Or.inl ⟨by rfl, ?_⟩; intro w hSw; (try dsimp only at hSw); go_simp; try with_reducible rfl)
      simp only [put_mk, List.set_cons_succ, List.set_cons_zero]
      refine wpAnyH_take (i := 10) (oi := ?o1x10) (v := ?v1x10) ?hi1x10 (by kernel_rfl) ?hf1x10 ?hr1x10 (fun _ _ _ h => h) ?hy1x10 (by assumption) ?rest1x10
      case hi1x10 => (simp only [List.getElem?_toArray, List.getElem?_cons_succ, List.getElem?_cons_zero]; exact rfl)
      case hf1x10 => kernel_rfl
      case hr1x10 => kernel_rfl
      case hy1x10 => (refine Or.inl ⟨by rfl, ?_⟩; intro w hSw; (try dsimp only at hSw); go_simp; try with_reducible rfl)
      simp only [put_mk, List.set_cons_succ, List.set_cons_zero]
      refine wpAnyH_take (i := 11) (oi := ?o1x11) (v := ?v1x11) ?hi1x11 (by kernel_rfl) ?hf1x11 ?hr1x11 (fun _ _ _ h => h) ?hy1x11 (by assumption) ?rest1x11
      case hi1x11 => (simp only [List.getElem?_toArray, List.getElem?_cons_succ, List.getElem?_cons_zero]; exact rfl)
      case hf1x11 => kernel_rfl
      case hr1x11 => kernel_rfl
      case hy1x11 => (refine Or.inl ⟨by rfl, ?_⟩; intro w hSw; (try dsimp only at hSw); go_simp; try with_reducible rfl)
      simp only [put_mk, List.set_cons_succ, List.set_cons_zero]
      refine wpAnyH_take (i := 12) (oi := ?o1x12) (v := ?v1x12) ?hi1x12 (by kernel_rfl) ?hf1x12 ?hr1x12 (fun _ _ _ h => h) ?hy1x12 (by assumption) ?rest1x12
      case hi1x12 => (simp only [List.getElem?_toArray, List.getElem?_cons_succ, List.getElem?_cons_zero]; exact rfl)
      case hf1x12 => kernel_rfl
      case hr1x12 => kernel_rfl
      case hy1x12 => (refine Or.inl ⟨by rfl, ?_⟩; intro w hSw; (try dsimp only at hSw); go_simp; try with_reducible rfl)
      simp only [put_mk, List.set_cons_succ, List.set_cons_zero]
      refine wpAnyH_take (i := 13) (oi := ?o1x13) (v := ?v1x13) ?hi1x13 (by kernel_rfl) ?hf1x13 ?hr1x13 (fun _ _ _ h => h) ?hy1x13 (by assumption) ?rest1x13
      case hi1x13 => (simp only [List.getElem?_toArray, List.getElem?_cons_succ, List.getElem?_cons_zero]; exact rfl)
      case hf1x13 => kernel_rfl
      case hr1x13 => kernel_rfl
      case hy1x13 => (refine Or.inl ⟨by rfl, ?_⟩; intro w hSw; (try dsimp only at hSw); go_simp; try with_reducible rfl)
      simp only [put_mk, List.set_cons_succ, List.set_cons_zero]
      refine wpAnyH_take (i := 14) (oi := ?o1x14) (v := ?v1x14) ?hi1x14 (by kernel_rfl) ?hf1x14 ?hr1x14 (fun _ _ _ h => h) ?hy1x14 (by assumption) ?rest1x14
      case hi1x14 => (simp only [List.getElem?_toArray, List.getElem?_cons_succ, List.getElem?_cons_zero]; exact rfl)
      case hf1x14 => kernel_rfl
      case hr1x14 => kernel_rfl
      case hy1x14 => (refine Or.inl ⟨by rfl, ?_⟩; intro w hSw; (try dsimp only at hSw); go_simp; try with_reducible rfl)
      simp only [put_mk, List.set_cons_succ, List.set_cons_zero]
      refine wpAnyH_take (i := 15) (oi := ?o1x15) (v := ?v1x15) ?hi1x15 (by kernel_rfl) ?hf1x15 ?hr1x15 (fun _ _ _ h => h) ?hy1x15 (by assumption) ?rest1x15
      case hi1x15 => (simp only [List.getElem?_toArray, List.getElem?_cons_succ, List.getElem?_cons_zero]; exact rfl)
      case hf1x15 => kernel_rfl
      case hr1x15 => kernel_rfl
      case hy1x15 => (refine Or.inl ⟨by rfl, ?_⟩; intro w hSw; (try dsimp only at hSw); go_simp; try with_reducible rfl)
      simp only [put_mk, List.set_cons_succ, List.set_cons_zero]
      refine wpAnyH_take (i := 16) (oi := ?o1x16) (v := ?v1x16) ?hi1x16 (by kernel_rfl) ?hf1x16 ?hr1x16 (fun _ _ _ h => h) ?hy1x16 (by assumption) ?rest1x16
      case hi1x16 => (simp only [List.getElem?_toArray, List.getElem?_cons_succ, List.getElem?_cons_zero]; exact rfl)
      case hf1x16 => kernel_rfl
      case hr1x16 => kernel_rfl
      case hy1x16 => (refine Or.inl ⟨by rfl, ?_⟩; intro w hSw; (try dsimp only at hSw); go_simp; try with_reducible rfl)
      simp only [put_mk, List.set_cons_succ, List.set_cons_zero]
      refine wpAnyH_take (i := 17) (oi := ?o1x17) (v := ?v1x17) ?hi1x17 (by kernel_rfl) ?hf1x17 ?hr1x17 (fun _ _ _ h => h) ?hy1x17 (by assumption) ?rest1x17
      case hi1x17 => (simp only [List.getElem?_toArray, List.getElem?_cons_succ, List.getElem?_cons_zero]; exact rfl)
      case hf1x17 => kernel_rfl
      case hr1x17 => kernel_rfl
      case hy1x17 => (refine Or.inl ⟨by rfl, ?_⟩; intro w hSw; (try dsimp only at hSw); go_simp; try with_reducible rfl)
      simp only [put_mk, List.set_cons_succ, List.set_cons_zero]
      refine wpAnyH_take (i := 18) (oi := ?o1x18) (v := ?v1x18) ?hi1x18 (by kernel_rfl) ?hf1x18 ?hr1x18 (fun _ _ _ h => h) ?hy1x18 (by assumption) ?rest1x18
      case hi1x18 => (simp only [List.getElem?_toArray, List.getElem?_cons_succ, List.getElem?_cons_zero]; exact rfl)
      case hf1x18 => kernel_rfl
      case hr1x18 => kernel_rfl
      case hy1x18 => (refine Or.inl ⟨by rfl, ?_⟩; intro w hSw; (try dsimp only at hSw); go_simp; try with_reducible rfl)
      simp only [put_mk, List.set_cons_succ, List.set_cons_zero]
      refine wpAnyH_done (by kernel_rfl) ?_ _
      refine NoPanic.normal ?_
      clear c4 a1 a2 hb hfe hHeld
      go_upto_region 1 with fail
      have cw : Ext w w := Ext.refl _
      have HF1 := hidA (HF.out.kb.far (p := ⟨hl, 0, none⟩) ne1 (.int .i64 y))
      have k1 := HF1.out.cell 0
      have d1 := (HF.out.db.far (p := ⟨hl, 0, none⟩) ne6 (.int .i64 y)).cell 0
      have s1 := (HF.out.rb.far (p := ⟨hl, 0, none⟩) ne8 (.int .i64 y)).cell 0
      have hrc : (w.setCell ⟨hl, 0, none⟩ (.int .i64 y)).cell? ⟨gr, n, none⟩ = some (.int .i64 y) := by rw [(HF.out.gb.far (p := ⟨hl, 0, none⟩) ne3 (.int .i64 y)).cell, ← Hon.out]; exact intB_get _ hn
      have hic : (w.setCell ⟨hl, 0, none⟩ (.int .i64 y)).cell? ⟨gd, k, none⟩ = some (.int .i64 (I k)) := by rw [(HF.out.ib.far (p := ⟨hl, 0, none⟩) (Ne.symm ne5) (.int .i64 y)).cell]; exact intB_get _ hkN
      have hif := (HF.out.ib.far (p := ⟨hl, 0, none⟩) (Ne.symm ne5) (.int .i64 y)).frozen k
      have k0' := k0 _ cw
      have s0' := s0 _ cw
      have l0' := l0 _ cw
      have d0' := d0 _ cw
      have r1' := r1 _ cw
      have e1' := e1 _ cw
      have g1' := g1 _ cw
      have g2' := g2 _ cw
      clear k0 s0 l0 d0 r1 e1 g1 g2
      go_region
      refine bodyPost_end (results_none Try.results44 _ _ _) rfl ?_
      exact ⟨rfl, HR.out, .inl ⟨He.out, by have := Hz.out; have := Hon.out; omega, by rw [Hon.out]; exact hput.out⟩⟩
    · have hb : decide (R n < z) = false := decide_eq_false hz
      have Hz := hidA hz
      clear hz
      generalize R n = y at r1 hb
      refine wp_region_noPanic ?_
      refine wp_region_held_drew (S := fun w' => Ext w w') (by kernel_rfl) ?_ (fun hHeld => ?_)
      · (repeat (first | exact Ext.refl _ | assumption | refine Ext.setCell ?_ (by first | (simp; done) | (simp; omega)) _ | refine Ext.drewN ?_ _ | refine Ext.alloc ?_ _ | refine Ext.drew ?_ | refine Ext.trans ?_ (by assumption)))
      refine wpAnyH_take (i := 0) (oi := ?o2x0) (v := ?v2x0) ?hi2x0 (by kernel_rfl) ?hf2x0 ?hr2x0 (fun _ _ _ h => h) ?hy2x0 (by assumption) ?rest2x0
      case hi2x0 => (simp only [List.getElem?_toArray, List.getElem?_cons_zero]; exact rfl)
      case hf2x0 => kernel_rfl
      case hr2x0 => kernel_rfl
      case hy2x0 => (refine Or.inl ⟨by rfl, ?_⟩; intro w hSw; (try dsimp only at hSw); go_simp; try with_reducible rfl)
      simp only [put_mk, List.set_cons_succ, List.set_cons_zero]
      refine wpAnyH_take (i := 1) (oi := ?o2x1) (v := ?v2x1) ?hi2x1 (by kernel_rfl) ?hf2x1 ?hr2x1 (fun _ _ _ h => h) ?hy2x1 (by assumption) ?rest2x1
      case hi2x1 => (simp only [List.getElem?_toArray, List.getElem?_cons_succ, List.getElem?_cons_zero]; exact rfl)
      case hf2x1 => kernel_rfl
      case hr2x1 => kernel_rfl
      case hy2x1 => (refine Or.inl ⟨by rfl, ?_⟩; intro w hSw; (try dsimp only at hSw); go_simp; try with_reducible rfl)
      simp only [put_mk, List.set_cons_succ, List.set_cons_zero]
      refine wpAnyH_take (i := 2) (oi := ?o2x2) (v := ?v2x2) ?hi2x2 (by kernel_rfl) ?hf2x2 ?hr2x2 (fun _ _ _ h => h) ?hy2x2 (by assumption) ?rest2x2
      case hi2x2 => (simp only [List.getElem?_toArray, List.getElem?_cons_succ, List.getElem?_cons_zero]; exact rfl)
      case hf2x2 => kernel_rfl
      case hr2x2 => kernel_rfl
      case hy2x2 => (refine Or.inl ⟨by rfl, ?_⟩; intro w hSw; (try dsimp only at hSw); go_simp; try with_reducible rfl)
      simp only [put_mk, List.set_cons_succ, List.set_cons_zero]
      refine wpAnyH_take (i := 3) (oi := ?o2x3) (v := ?v2x3) ?hi2x3 (by kernel_rfl) ?hf2x3 ?hr2x3 (fun _ _ _ h => h) ?hy2x3 (by assumption) ?rest2x3
      case hi2x3 => (simp only [List.getElem?_toArray, List.getElem?_cons_succ, List.getElem?_cons_zero]; exact rfl)
      case hf2x3 => kernel_rfl
      case hr2x3 => kernel_rfl
      case hy2x3 => (refine Or.inl ⟨by rfl, ?_⟩; intro w hSw; (try dsimp only at hSw); go_simp; try with_reducible rfl)
      simp only [put_mk, List.set_cons_succ, List.set_cons_zero]
      refine wpAnyH_take (i := 4) (oi := ?o2x4) (v := ?v2x4) ?hi2x4 (by kernel_rfl) ?hf2x4 ?hr2x4 (fun _ _ _ h => h) ?hy2x4 (by assumption) ?rest2x4
      case hi2x4 => (simp only [List.getElem?_toArray, List.getElem?_cons_succ, List.getElem?_cons_zero]; exact rfl)
      case hf2x4 => kernel_rfl
      case hr2x4 => kernel_rfl
      case hy2x4 => (refine Or.inl ⟨by rfl, ?_⟩; intro w hSw; (try dsimp only at hSw); go_simp; try with_reducible rfl)
      simp only [put_mk, List.set_cons_succ, List.set_cons_zero]
      refine wpAnyH_take (i := 5) (oi := ?o2x5) (v := ?v2x5) ?hi2x5 (by kernel_rfl) ?hf2x5 ?hr2x5 (fun _ _ _ h => h) ?hy2x5 (by assumption) ?rest2x5
      case hi2x5 => (simp only [List.getElem?_toArray, List.getElem?_cons_succ, List.getElem?_cons_zero]; exact rfl)
      case hf2x5 => kernel_rfl
      case hr2x5 => kernel_rfl
      case hy2x5 => (refine Or.inl ⟨by rfl, ?_⟩; intro w hSw; (try dsimp only at hSw); go_simp; try with_reducible rfl)
      simp only [put_mk, List.set_cons_succ, List.set_cons_zero]
      refine wpAnyH_take (i := 6) (oi := ?o2x6) (v := ?v2x6) ?hi2x6 (by kernel_rfl) ?hf2x6 ?hr2x6 (fun _ _ _ h => h) ?hy2x6 (by assumption) ?rest2x6
      case hi2x6 => (simp only [List.getElem?_toArray, List.getElem?_cons_succ, List.getElem?_cons_zero]; exact rfl)
      case hf2x6 => kernel_rfl
      case hr2x6 => kernel_rfl
      case hy2x6 => (refine Or.inl ⟨by rfl, ?_⟩; intro w hSw; (try dsimp only at hSw); go_simp; try with_reducible rfl)
      simp only [put_mk, List.set_cons_succ, List.set_cons_zero]
      refine wpAnyH_take (i := 7) (oi := ?o2x7) (v := ?v2x7) ?hi2x7 (by kernel_rfl) ?hf2x7 ?hr2x7 (fun _ _ _ h => h) ?hy2x7 (by assumption) ?rest2x7
      case hi2x7 => (simp only [List.getElem?_toArray, List.getElem?_cons_succ, List.getElem?_cons_zero]; exact rfl)
      case hf2x7 => kernel_rfl
      case hr2x7 => kernel_rfl
      case hy2x7 => (refine Or.inl ⟨by rfl, ?_⟩; intro w hSw; (try dsimp only at hSw); go_simp; try with_reducible rfl)
      simp only [put_mk, List.set_cons_succ, List.set_cons_zero]
      refine wpAnyH_take (i := 8) (oi := ?o2x8) (v := ?v2x8) ?hi2x8 (by kernel_rfl) ?hf2x8 ?hr2x8 (fun _ _ _ h => h) ?hy2x8 (by assumption) ?rest2x8
      case hi2x8 => (simp only [List.getElem?_toArray, List.getElem?_cons_succ, List.getElem?_cons_zero]; exact rfl)
      case hf2x8 => kernel_rfl
      case hr2x8 => kernel_rfl
      case hy2x8 => (refine Or.inl ⟨by rfl, ?_⟩; intro w hSw; (try dsimp only at hSw); go_simp; try with_reducible rfl)
      simp only [put_mk, List.set_cons_succ, List.set_cons_zero]
      refine wpAnyH_take (i := 9) (oi := ?o2x9) (v := ?v2x9) ?hi2x9 (by kernel_rfl) ?hf2x9 ?hr2x9 (fun _ _ _ h => h) ?hy2x9 (by assumption) ?rest2x9
      case hi2x9 => (simp only [List.getElem?_toArray, List.getElem?_cons_succ, List.getElem?_cons_zero]; exact rfl)
      case hf2x9 => kernel_rfl
      case hr2x9 => kernel_rfl
      case hy2x9 => (refine Or.inl ⟨by rfl, ?_⟩; intro w hSw; (try dsimp only at hSw); go_simp; try with_reducible rfl)
      simp only [put_mk, List.set_cons_succ, List.set_cons_zero]
      refine wpAnyH_take (i := 10) (oi := ?o2x10) (v := ?v2x10) ?hi2x10 (by kernel_rfl) ?hf2x10 ?hr2x10 (fun _ _ _ h => h) ?hy2x10 (by assumption) ?rest2x10
      case hi2x10 => (simp only [List.getElem?_toArray, List.getElem?_cons_succ, List.getElem?_cons_zero]; exact rfl)
      case hf2x10 => kernel_rfl
      case hr2x10 => kernel_rfl
      case hy2x10 => (refine Or.inl ⟨by rfl, ?_⟩; intro w hSw; (try dsimp only at hSw); go_simp; try with_reducible rfl)
      simp only [put_mk, List.set_cons_succ, List.set_cons_zero]
      refine wpAnyH_take (i := 11) (oi := ?o2x11) (v := ?v2x11) ?hi2x11 (by kernel_rfl) ?hf2x11 ?hr2x11 (fun _ _ _ h => h) ?hy2x11 (by assumption) ?rest2x11
      case hi2x11 => (simp only [List.getElem?_toArray, List.getElem?_cons_succ, List.getElem?_cons_zero]; exact rfl)
      case hf2x11 => kernel_rfl
      case hr2x11 => kernel_rfl
      case hy2x11 => (refine Or.inl ⟨by rfl, ?_⟩; intro w hSw; (try dsimp only at hSw); go_simp; try with_reducible rfl)
      simp only [put_mk, List.set_cons_succ, List.set_cons_zero]
      refine wpAnyH_take (i := 12) (oi := ?o2x12) (v := ?v2x12) ?hi2x12 (by kernel_rfl) ?hf2x12 ?hr2x12 (fun _ _ _ h => h) ?hy2x12 (by assumption) ?rest2x12
      case hi2x12 => (simp only [List.getElem?_toArray, List.getElem?_cons_succ, List.getElem?_cons_zero]; exact rfl)
      case hf2x12 => kernel_rfl
      case hr2x12 => kernel_rfl
      case hy2x12 => (refine Or.inl ⟨by rfl, ?_⟩; intro w hSw; (try dsimp only at hSw); go_simp; try with_reducible rfl)
      simp only [put_mk, List.set_cons_succ, List.set_cons_zero]
      refine wpAnyH_take (i := 13) (oi := ?o2x13) (v := ?v2x13) ?hi2x13 (by kernel_rfl) ?hf2x13 ?hr2x13 (fun _ _ _ h => h) ?hy2x13 (by assumption) ?rest2x13
      case hi2x13 => (simp only [List.getElem?_toArray, List.getElem?_cons_succ, List.getElem?_cons_zero]; exact rfl)
      case hf2x13 => kernel_rfl
      case hr2x13 => kernel_rfl
      case hy2x13 => (refine Or.inl ⟨by rfl, ?_⟩; intro w hSw; (try dsimp only at hSw); go_simp; try with_reducible rfl)
      simp only [put_mk, List.set_cons_succ, List.set_cons_zero]
      refine wpAnyH_take (i := 14) (oi := ?o2x14) (v := ?v2x14) ?hi2x14 (by kernel_rfl) ?hf2x14 ?hr2x14 (fun _ _ _ h => h) ?hy2x14 (by assumption) ?rest2x14
      case hi2x14 => (simp only [List.getElem?_toArray, List.getElem?_cons_succ, List.getElem?_cons_zero]; exact rfl)
      case hf2x14 => kernel_rfl
      case hr2x14 => kernel_rfl
      case hy2x14 => (refine Or.inl ⟨by rfl, ?_⟩; intro w hSw; (try dsimp only at hSw); go_simp; try with_reducible rfl)
      simp only [put_mk, List.set_cons_succ, List.set_cons_zero]
      refine wpAnyH_take (i := 15) (oi := ?o2x15) (v := ?v2x15) ?hi2x15 (by kernel_rfl) ?hf2x15 ?hr2x15 (fun _ _ _ h => h) ?hy2x15 (by assumption) ?rest2x15
      case hi2x15 => (simp only [List.getElem?_toArray, List.getElem?_cons_succ, List.getElem?_cons_zero]; exact rfl)
      case hf2x15 => kernel_rfl
      case hr2x15 => kernel_rfl
      case hy2x15 => (refine Or.inl ⟨by rfl, ?_⟩; intro w hSw; (try dsimp only at hSw); go_simp; try with_reducible rfl)
      simp only [put_mk, List.set_cons_succ, List.set_cons_zero]
      refine wpAnyH_take (i := 16) (oi := ?o2x16) (v := ?v2x16) ?hi2x16 (by kernel_rfl) ?hf2x16 ?hr2x16 (fun _ _ _ h => h) ?hy2x16 (by assumption) ?rest2x16
      case hi2x16 => (simp only [List.getElem?_toArray, List.getElem?_cons_succ, List.getElem?_cons_zero]; exact rfl)
      case hf2x16 => kernel_rfl
      case hr2x16 => kernel_rfl
      case hy2x16 => (refine Or.inl ⟨by rfl, ?_⟩; intro w hSw; (try dsimp only at hSw); go_simp; try with_reducible rfl)
      simp only [put_mk, List.set_cons_succ, List.set_cons_zero]
      refine wpAnyH_take (i := 17) (oi := ?o2x17) (v := ?v2x17) ?hi2x17 (by kernel_rfl) ?hf2x17 ?hr2x17 (fun _ _ _ h => h) ?hy2x17 (by assumption) ?rest2x17
      case hi2x17 => (simp only [List.getElem?_toArray, List.getElem?_cons_succ, List.getElem?_cons_zero]; exact rfl)
      case hf2x17 => kernel_rfl
      case hr2x17 => kernel_rfl
      case hy2x17 => (refine Or.inl ⟨by rfl, ?_⟩; intro w hSw; (try dsimp only at hSw); go_simp; try with_reducible rfl)
      simp only [put_mk, List.set_cons_succ, List.set_cons_zero]
      refine wpAnyH_take (i := 18) (oi := ?o2x18) (v := ?v2x18) ?hi2x18 (by kernel_rfl) ?hf2x18 ?hr2x18 (fun _ _ _ h => h) ?hy2x18 (by assumption) ?rest2x18
      case hi2x18 => (simp only [List.getElem?_toArray, List.getElem?_cons_succ, List.getElem?_cons_zero]; exact rfl)
      case hf2x18 => kernel_rfl
      case hr2x18 => kernel_rfl
      case hy2x18 => (refine Or.inl ⟨by rfl, ?_⟩; intro w hSw; (try dsimp only at hSw); go_simp; try with_reducible rfl)
      simp only [put_mk, List.set_cons_succ, List.set_cons_zero]
      refine wpAnyH_done (by kernel_rfl) ?_ _
      refine NoPanic.normal ?_
      clear c4 a1 a2 r1 g1 g2 e1 hb hfe hHeld k0 s0 d0 l0
      go_wp2_with fail
      refine bodyPost_end (results_none Try.results44 _ _ _) rfl ?_
      exact ⟨rfl, fun g cs hb => Bk.drew hb, .inr ⟨fun _ => by have := Hz.out; omega, HF.out.step (Ext.drew (Ext.refl _))⟩⟩
  · rw [decide_eq_false he] at hfe
    have He := hidA he
    clear he
    refine wp_region_noPanic ?_
    refine wp_region_held_drew (S := fun w' => Ext w w') (by kernel_rfl) ?_ (fun hHeld => ?_)
    · (repeat (first | exact Ext.refl _ | assumption | refine Ext.setCell ?_ (by first | (simp; done) | (simp; omega)) _ | refine Ext.drewN ?_ _ | refine Ext.alloc ?_ _ | refine Ext.drew ?_ | refine Ext.trans ?_ (by assumption)))
    refine wpAnyH_take (i := 0) (oi := ?o3x0) (v := ?v3x0) ?hi3x0 (by kernel_rfl) ?hf3x0 ?hr3x0 (fun _ _ _ h => h) ?hy3x0 (by assumption) ?rest3x0
    case hi3x0 => (simp only [List.getElem?_toArray, List.getElem?_cons_zero]; exact rfl)
    case hf3x0 => kernel_rfl
    case hr3x0 => kernel_rfl
    case hy3x0 => (refine Or.inl ⟨by rfl, ?_⟩; intro w hSw; (try dsimp only at hSw); go_simp; try with_reducible rfl)
    simp only [put_mk, List.set_cons_succ, List.set_cons_zero]
    refine wpAnyH_take (i := 1) (oi := ?o3x1) (v := ?v3x1) ?hi3x1 (by kernel_rfl) ?hf3x1 ?hr3x1 (fun _ _ _ h => h) ?hy3x1 (by assumption) ?rest3x1
    case hi3x1 => (simp only [List.getElem?_toArray, List.getElem?_cons_succ, List.getElem?_cons_zero]; exact rfl)
    case hf3x1 => kernel_rfl
    case hr3x1 => kernel_rfl
    case hy3x1 => (refine Or.inl ⟨by rfl, ?_⟩; intro w hSw; (try dsimp only at hSw); go_simp; try with_reducible rfl)
    simp only [put_mk, List.set_cons_succ, List.set_cons_zero]
    refine wpAnyH_take (i := 2) (oi := ?o3x2) (v := ?v3x2) ?hi3x2 (by kernel_rfl) ?hf3x2 ?hr3x2 (fun _ _ _ h => h) ?hy3x2 (by assumption) ?rest3x2
    case hi3x2 => (simp only [List.getElem?_toArray, List.getElem?_cons_succ, List.getElem?_cons_zero]; exact rfl)
    case hf3x2 => kernel_rfl
    case hr3x2 => kernel_rfl
    case hy3x2 => (refine Or.inl ⟨by rfl, ?_⟩; intro w hSw; (try dsimp only at hSw); go_simp; try with_reducible rfl)
    simp only [put_mk, List.set_cons_succ, List.set_cons_zero]
    refine wpAnyH_take (i := 3) (oi := ?o3x3) (v := ?v3x3) ?hi3x3 (by kernel_rfl) ?hf3x3 ?hr3x3 (fun _ _ _ h => h) ?hy3x3 (by assumption) ?rest3x3
    case hi3x3 => (simp only [List.getElem?_toArray, List.getElem?_cons_succ, List.getElem?_cons_zero]; exact rfl)
    case hf3x3 => kernel_rfl
    case hr3x3 => kernel_rfl
    case hy3x3 => (refine Or.inl ⟨by rfl, ?_⟩; intro w hSw; (try dsimp only at hSw); go_simp; try with_reducible rfl)
    simp only [put_mk, List.set_cons_succ, List.set_cons_zero]
    refine wpAnyH_take (i := 4) (oi := ?o3x4) (v := ?v3x4) ?hi3x4 (by kernel_rfl) ?hf3x4 ?hr3x4 (fun _ _ _ h => h) ?hy3x4 (by assumption) ?rest3x4
    case hi3x4 => (simp only [List.getElem?_toArray, List.getElem?_cons_succ, List.getElem?_cons_zero]; exact rfl)
    case hf3x4 => kernel_rfl
    case hr3x4 => kernel_rfl
    case hy3x4 => (refine Or.inl ⟨by rfl, ?_⟩; intro w hSw; (try dsimp only at hSw); go_simp; try with_reducible rfl)
    simp only [put_mk, List.set_cons_succ, List.set_cons_zero]
    refine wpAnyH_take (i := 5) (oi := ?o3x5) (v := ?v3x5) ?hi3x5 (by kernel_rfl) ?hf3x5 ?hr3x5 (fun _ _ _ h => h) ?hy3x5 (by assumption) ?rest3x5
    case hi3x5 => (simp only [List.getElem?_toArray, List.getElem?_cons_succ, List.getElem?_cons_zero]; exact rfl)
    case hf3x5 => kernel_rfl
    case hr3x5 => kernel_rfl
    case hy3x5 => (refine Or.inl ⟨by rfl, ?_⟩; intro w hSw; (try dsimp only at hSw); go_simp; try with_reducible rfl)
    simp only [put_mk, List.set_cons_succ, List.set_cons_zero]
    refine wpAnyH_take (i := 6) (oi := ?o3x6) (v := ?v3x6) ?hi3x6 (by kernel_rfl) ?hf3x6 ?hr3x6 (fun _ _ _ h => h) ?hy3x6 (by assumption) ?rest3x6
    case hi3x6 => (simp only [List.getElem?_toArray, List.getElem?_cons_succ, List.getElem?_cons_zero]; exact rfl)
    case hf3x6 => kernel_rfl
    case hr3x6 => kernel_rfl
    case hy3x6 => (refine Or.inl ⟨by rfl, ?_⟩; intro w hSw; (try dsimp only at hSw); go_simp; try with_reducible rfl)
    simp only [put_mk, List.set_cons_succ, List.set_cons_zero]
    refine wpAnyH_take (i := 7) (oi := ?o3x7) (v := ?v3x7) ?hi3x7 (by kernel_rfl) ?hf3x7 ?hr3x7 (fun _ _ _ h => h) ?hy3x7 (by assumption) ?rest3x7
    case hi3x7 => (simp only [List.getElem?_toArray, List.getElem?_cons_succ, List.getElem?_cons_zero]; exact rfl)
    case hf3x7 => kernel_rfl
    case hr3x7 => kernel_rfl
    case hy3x7 => (refine Or.inl ⟨by rfl, ?_⟩; intro w hSw; (try dsimp only at hSw); go_simp; try with_reducible rfl)
    simp only [put_mk, List.set_cons_succ, List.set_cons_zero]
    refine wpAnyH_take (i := 8) (oi := ?o3x8) (v := ?v3x8) ?hi3x8 (by kernel_rfl) ?hf3x8 ?hr3x8 (fun _ _ _ h => h) ?hy3x8 (by assumption) ?rest3x8
    case hi3x8 => (simp only [List.getElem?_toArray, List.getElem?_cons_succ, List.getElem?_cons_zero]; exact rfl)
    case hf3x8 => kernel_rfl
    case hr3x8 => kernel_rfl
    case hy3x8 => (refine Or.inl ⟨by rfl, ?_⟩; intro w hSw; (try dsimp only at hSw); go_simp; try with_reducible rfl)
    simp only [put_mk, List.set_cons_succ, List.set_cons_zero]
    refine wpAnyH_take (i := 9) (oi := ?o3x9) (v := ?v3x9) ?hi3x9 (by kernel_rfl) ?hf3x9 ?hr3x9 (fun _ _ _ h => h) ?hy3x9 (by assumption) ?rest3x9
    case hi3x9 => (simp only [List.getElem?_toArray, List.getElem?_cons_succ, List.getElem?_cons_zero]; exact rfl)
    case hf3x9 => kernel_rfl
    case hr3x9 => kernel_rfl
    case hy3x9 => (refine Or.inl ⟨by rfl, ?_⟩; intro w hSw; (try dsimp only at hSw); go_simp; try with_reducible rfl)
    simp only [put_mk, List.set_cons_succ, List.set_cons_zero]
    refine wpAnyH_take (i := 10) (oi := ?o3x10) (v := ?v3x10) ?hi3x10 (by kernel_rfl) ?hf3x10 ?hr3x10 (fun _ _ _ h => h) ?hy3x10 (by assumption) ?rest3x10
    case hi3x10 => (simp only [List.getElem?_toArray, List.getElem?_cons_succ, List.getElem?_cons_zero]; exact rfl)
    case hf3x10 => kernel_rfl
    case hr3x10 => kernel_rfl
    case hy3x10 => (refine Or.inl ⟨by rfl, ?_⟩; intro w hSw; (try dsimp only at hSw); go_simp; try with_reducible rfl)
    simp only [put_mk, List.set_cons_succ, List.set_cons_zero]
    refine wpAnyH_take (i := 11) (oi := ?o3x11) (v := ?v3x11) ?hi3x11 (by kernel_rfl) ?hf3x11 ?hr3x11 (fun _ _ _ h => h) ?hy3x11 (by assumption) ?rest3x11
    case hi3x11 => (simp only [List.getElem?_toArray, List.getElem?_cons_succ, List.getElem?_cons_zero]; exact rfl)
    case hf3x11 => kernel_rfl
    case hr3x11 => kernel_rfl
    case hy3x11 => (refine Or.inl ⟨by rfl, ?_⟩; intro w hSw; (try dsimp only at hSw); go_simp; try with_reducible rfl)
    simp only [put_mk, List.set_cons_succ, List.set_cons_zero]
    refine wpAnyH_take (i := 12) (oi := ?o3x12) (v := undef) ?hi3x12 (by kernel_rfl) ?hf3x12 ?hr3x12 (fun _ _ _ h => h) ?hy3x12 (by assumption) ?rest3x12
    case hi3x12 => (simp only [List.getElem?_toArray, List.getElem?_cons_succ, List.getElem?_cons_zero]; exact rfl)
    case hf3x12 => kernel_rfl
    case hr3x12 => kernel_rfl
    case hy3x12 => exact Or.inr ⟨by rfl, rfl⟩
    simp only [put_mk, List.set_cons_succ, List.set_cons_zero]
    refine wpAnyH_take (i := 13) (oi := ?o3x13) (v := undef) ?hi3x13 (by kernel_rfl) ?hf3x13 ?hr3x13 (fun _ _ _ h => h) ?hy3x13 (by assumption) ?rest3x13
    case hi3x13 => (simp only [List.getElem?_toArray, List.getElem?_cons_succ, List.getElem?_cons_zero]; exact rfl)
    case hf3x13 => kernel_rfl
    case hr3x13 => kernel_rfl
    case hy3x13 => exact Or.inr ⟨by rfl, rfl⟩
    simp only [put_mk, List.set_cons_succ, List.set_cons_zero]
    refine wpAnyH_take (i := 14) (oi := ?o3x14) (v := undef) ?hi3x14 (by kernel_rfl) ?hf3x14 ?hr3x14 (fun _ _ _ h => h) ?hy3x14 (by assumption) ?rest3x14
    case hi3x14 => (simp only [List.getElem?_toArray, List.getElem?_cons_succ, List.getElem?_cons_zero]; exact rfl)
    case hf3x14 => kernel_rfl
    case hr3x14 => kernel_rfl
    case hy3x14 => exact Or.inr ⟨by rfl, rfl⟩
    simp only [put_mk, List.set_cons_succ, List.set_cons_zero]
    refine wpAnyH_take (i := 15) (oi := ?o3x15) (v := undef) ?hi3x15 (by kernel_rfl) ?hf3x15 ?hr3x15 (fun _ _ _ h => h) ?hy3x15 (by assumption) ?rest3x15
    case hi3x15 => (simp only [List.getElem?_toArray, List.getElem?_cons_succ, List.getElem?_cons_zero]; exact rfl)
    case hf3x15 => kernel_rfl
    case hr3x15 => kernel_rfl
    case hy3x15 => exact Or.inr ⟨by rfl, rfl⟩
    simp only [put_mk, List.set_cons_succ, List.set_cons_zero]
    refine wpAnyH_take (i := 16) (oi := ?o3x16) (v := undef) ?hi3x16 (by kernel_rfl) ?hf3x16 ?hr3x16 (fun _ _ _ h => h) ?hy3x16 (by assumption) ?rest3x16
    case hi3x16 => (simp only [List.getElem?_toArray, List.getElem?_cons_succ, List.getElem?_cons_zero]; exact rfl)
    case hf3x16 => kernel_rfl
    case hr3x16 => kernel_rfl
    case hy3x16 => exact Or.inr ⟨by rfl, rfl⟩
    simp only [put_mk, List.set_cons_succ, List.set_cons_zero]
    refine wpAnyH_take (i := 17) (oi := ?o3x17) (v := undef) ?hi3x17 (by kernel_rfl) ?hf3x17 ?hr3x17 (fun _ _ _ h => h) ?hy3x17 (by assumption) ?rest3x17
    case hi3x17 => (simp only [List.getElem?_toArray, List.getElem?_cons_succ, List.getElem?_cons_zero]; exact rfl)
    case hf3x17 => kernel_rfl
    case hr3x17 => kernel_rfl
    case hy3x17 => exact Or.inr ⟨by rfl, rfl⟩
    simp only [put_mk, List.set_cons_succ, List.set_cons_zero]
    refine wpAnyH_take (i := 18) (oi := ?o3x18) (v := ?v3x18) ?hi3x18 (by kernel_rfl) ?hf3x18 ?hr3x18 (fun _ _ _ h => h) ?hy3x18 (by assumption) ?rest3x18
    case hi3x18 => (simp only [List.getElem?_toArray, List.getElem?_cons_succ, List.getElem?_cons_zero]; exact rfl)
    case hf3x18 => kernel_rfl
    case hr3x18 => kernel_rfl
    case hy3x18 => (refine Or.inl ⟨by rfl, ?_⟩; intro w hSw; (try dsimp only at hSw); go_simp; try with_reducible rfl)
    simp only [put_mk, List.set_cons_succ, List.set_cons_zero]
    refine wpAnyH_done (by kernel_rfl) ?_ _
    refine NoPanic.normal ?_
    clear c4 a1 a2 r1 g1 g2 e1 hfe hHeld k0 s0 d0 l0
    go_wp2_with fail
    refine bodyPost_end (results_none Try.results44 _ _ _) rfl ?_
    exact ⟨rfl, fun g cs hb => Bk.drew hb, .inr ⟨fun h => He.out h.1, HF.out.step (Ext.drew (Ext.refl _))⟩⟩
end Go.Proofs.Ytepgfplbkmhgbaa

namespace Go.Proofs.Ytepgfplbkmhgbaa
open Go.RowKit

theorem BQ.init {Wn Hn N : Nat} {V : Nat → Int} {S : Nat → Bool} {K o : Nat → Int} {L : List Nat} (hR : Rk Wn Hn N V S K) (ho : ∀ k, k < N → o k = if S k = true then 0 else (N : Int)) (hL : ∀ k, k ∈ L ↔ k < N ∧ S k = true) : BQ Wn Hn N V K o L none := by
  have h0 : ∀ k ∈ L, k < N ∧ S k = true ∧ K k = 0 ∧ o k = 0 := fun k hk => by
    obtain ⟨h1, h2⟩ := (hL k).1 hk
    exact ⟨h1, h2, (hR.src k h1).2 h2, by rw [ho k h1, if_pos h2]⟩
  refine ⟨fun k hk => ?_, fun k hk => ?_, ?_, fun a ha b hb => ?_, fun p d he => (by cases he), fun p hp hop => ?_, fun k hk hK => ?_⟩
  · rw [ho k hk]
    split
    · rename_i h
      right
      exact ((hR.src k hk).2 h).symm
    · left
      rfl
  · obtain ⟨h1, h2, h3, h4⟩ := h0 k hk
    exact ⟨h1, by rw [h3, h4]⟩
  · rw [List.pairwise_iff_forall_sublist]
    intro a b hab
    have ha := h0 a (hab.subset (by simp))
    have hb := h0 b (hab.subset (by simp))
    rw [ha.2.2.1, hb.2.2.1]
    exact Int.le_refl _
  · rw [(h0 a ha).2.2.1, (h0 b hb).2.2.1]
    omega
  · left
    by_cases hS : S p = true
    · exact (hL p).2 ⟨hp, hS⟩
    · rw [ho p hp, if_neg hS] at hop
      have := (hR.pos p hp).2
      omega
  · rw [ho k hk, if_pos ((hR.src k hk).1 hK), hK]

/-- what ranks holds in memory between its rounds -/
structure RN (W0 w : World) (hf hr hd hq gr : Nat) (X Y : Int) (Wn Hn N : Nat) (A : Option Addr) (c : Nat) (D : Option Addr) (cD : Nat) (o : Nat → Int) (L : List Nat) (Q : Option Addr) (cap : Nat) : Prop where
  fb : Bk w hf 26 #[.int .i64 X, .int .i64 Y, .int .i64 (Wn : Int), .int .i64 (Hn : Int), .slice A N c]
  rb : Bk w hr 32 #[.slice (some ⟨gr, 0, none⟩) N N]
  db : Bk w hd 32 #[.slice D N cD]
  gb : Bk w gr 3 (intB N o)
  qb : Bk w hq 32 #[.slice Q L.length cap]
  qs : Qs w W0.heap.size 3 Q L.length cap (inq L)
  qr : some gr ≠ Q.map (·.block)
  ext : Ext W0 w
  b1 : W0.heap.size ≤ gr
  b2 : W0.heap.size ≤ hq
  n2 : hr ≠ hq
  n3 : hd ≠ hq
section
variable {W0 w : World} {hf hr hd hq gr : Nat} {X Y : Int} {Wn Hn N : Nat} {A : Option Addr} {c : Nat} {D : Option Addr} {cD : Nat} {o : Nat → Int} {L : List Nat} {Q : Option Addr} {cap : Nat}
theorem RN.step (h : RN W0 w hf hr hd hq gr X Y Wn Hn N A c D cD o L Q cap) {w' : World} (hx : Ext w w') : RN W0 w' hf hr hd hq gr X Y Wn Hn N A c D cD o L Q cap :=
  ⟨h.fb.ext hx, h.rb.ext hx, h.db.ext hx, h.gb.ext hx, h.qb.ext hx, h.qs.kept fun a _ ha => hx.block a.block ha, h.qr, h.ext.trans hx, h.b1, h.b2, h.n2, h.n3⟩
theorem RM.less {hk p : Nat} (h : RM W0 w hf hk hr hd hq gr X Y Wn Hn N A c D cD p o L Q cap) : RN W0 w hf hr hd hq gr X Y Wn Hn N A c D cD o L Q cap :=
  ⟨h.fb, h.rb, h.db, h.gb, h.qb, h.qs, h.qr, h.ext, h.b1, h.b2, h.n2, h.n3⟩
theorem RN.more (h : RN W0 w hf hr hd hq gr X Y Wn Hn N A c D cD o L Q cap) (p : Nat) : RM W0 (w.alloc (.cells #[.int .i64 (p : Int)] 3)) hf w.heap.size hr hd hq gr X Y Wn Hn N A c D cD p o L Q cap := by
  have h1 := h.step ((Ext.refl w).alloc (.cells #[.int .i64 (p : Int)] 3))
  refine ⟨h1.fb, Bk.new' rfl, h1.rb, h1.db, h1.gb, h1.qb, h1.qs, ?_, h1.qr, h1.ext, h1.b1, h1.b2, ?_, h1.n2, h1.n3⟩
  · intro e
    cases hQ : Q with
    | none => rw [hQ] at e; cases e
    | some a =>
      rw [hQ] at e
      simp only [Option.map_some, Option.some.injEq] at e
      have := (h.qs.lt hQ).2.1
      omega
  · have := h.gb.lt
    omega
theorem RN.join (h : RN W0 w hf hr hd hq gr X Y Wn Hn N A c D cD o L Q cap) {hk p : Nat} (h1 : Bk w hk 3 #[.int .i64 (p : Int)]) (h2 : some hk ≠ Q.map (·.block)) (h3 : hk ≠ gr) : RM W0 w hf hk hr hd hq gr X Y Wn Hn N A c D cD p o L Q cap :=
  ⟨h.fb, h1, h.rb, h.db, h.gb, h.qb, h.qs, h2, h.qr, h.ext, h.b1, h.b2, h3, h.n2, h.n3⟩
theorem RN.put (h : RN W0 w hf hr hd hq gr X Y Wn Hn N A c D cD o L Q cap) (n : Nat) (x : Int) : RN W0 (w.setCell ⟨gr, n, none⟩ (.int .i64 x)) hf hr hd hq gr X Y Wn Hn N A c D cD (updF o n x) L Q cap := by
  have e1 := Bk.set h.gb n (.int .i64 x)
  rw [intB_set] at e1
  exact ⟨h.fb.far (Bk.ne h.fb h.gb (by decide)) _, h.rb.far (Bk.ne h.rb h.gb (by decide)) _, h.db.far (Bk.ne h.db h.gb (by decide)) _, e1, h.qb.far (Bk.ne h.qb h.gb (by decide)) _,
    h.qs.kept (fun a ha _ => Below.heap_setCell w _ _ _ (fun e => h.qr (by subst ha; simp only [Option.map_some]; exact congrArg some e.symm))), h.qr, h.ext.setCell h.b1 _, h.b1, h.b2, h.n2, h.n3⟩
theorem RN.app (h : RN W0 w hf hr hd hq gr X Y Wn Hn N A c D cD o L Q cap) {w' : World} {n : Nat} {Q' : Option Addr} {cap' : Nat} (hq' : Qs w' W0.heap.size 3 Q' (L.length + 1) cap' (inq L ++ [.int .i64 (n : Int)])) (hg : w.grownBy w' (Q.map (·.block)))
    (ho : ∀ b, Q'.map (·.block) = some b → Q.map (·.block) = some b ∨ w.heap.size ≤ b) :
    RN W0 (w'.setCell ⟨hq, 0, none⟩ (.slice Q' (L.length + 1) cap')) hf hr hd hq gr X Y Wn Hn N A c D cD o (L ++ [n]) Q' cap' := by
  have hx : Ext W0 w' := h.ext.grown hg (fun k hk => by
    cases hQ : Q with
    | none => rw [hQ] at hk; cases hk
    | some a => rw [hQ] at hk; cases hk; exact (h.qs.lt hQ).1)
  have f1 := h.fb.grown hg (h.qs.ne h.fb (by decide))
  have r1 := h.rb.grown hg (h.qs.ne h.rb (by decide))
  have d1 := h.db.grown hg (h.qs.ne h.db (by decide))
  have g1 := h.gb.grown hg h.qr
  have q1 := h.qb.grown hg (h.qs.ne h.qb (by decide))
  have e1 := Bk.set q1 0 (.slice Q' (L.length + 1) cap')
  have hl : (L ++ [n]).length = L.length + 1 := by simp
  refine ⟨f1.far (Bk.ne f1 q1 (by decide)) _, r1.far h.n2 _, d1.far h.n3 _, g1.far (Bk.ne g1 q1 (by decide)) _, ?_, ?_, ?_, hx.setCell h.b2 _, h.b1, h.b2, h.n2, h.n3⟩
  · rw [hl]; exact e1
  · rw [hl, inq_snoc]
    exact hq'.kept (fun a ha _ => Below.heap_setCell w' _ _ _ (fun e => hq'.ne q1 (by decide) (by subst ha; simp only [Option.map_some]; exact congrArg some e.symm)))
  · intro e
    rcases ho gr e.symm with e2 | e2
    · exact h.qr e2.symm
    · have := h.gb.lt
      omega
theorem RN.cut {p : Nat} {M : List Nat} (h : RN W0 w hf hr hd hq gr X Y Wn Hn N A c D cD o (p :: M) Q cap) : ∃ Q', sliced Q 1 (M.length + 1) cap 1 = .slice Q' M.length (cap - 1) ∧ Q'.map (·.block) = Q.map (·.block) ∧
    RN W0 (w.setCell ⟨hq, 0, none⟩ (.slice Q' M.length (cap - 1))) hf hr hd hq gr X Y Wn Hn N A c D cD o M Q' (cap - 1) := by
  have h1 : Qs w W0.heap.size 3 Q (M.length + 1) cap (.int .i64 (p : Int) :: inq M) := h.qs
  obtain ⟨Q', e1, e2, e3⟩ := h1.cut
  rw [Nat.add_sub_cancel] at e1 e2
  have q1 := Bk.set h.qb 0 (.slice Q' M.length (cap - 1))
  refine ⟨Q', e1, e3, h.fb.far (Bk.ne h.fb h.qb (by decide)) _, h.rb.far h.n2 _, h.db.far h.n3 _, h.gb.far (Bk.ne h.gb h.qb (by decide)) _, q1, ?_, by rw [e3]; exact h.qr, h.ext.setCell h.b2 _, h.b1, h.b2, h.n2, h.n3⟩
  exact e2.kept (fun a ha _ => Below.heap_setCell w _ _ _ (fun e => e2.ne h.qb (by decide) (by subst ha; simp only [Option.map_some]; exact congrArg some e.symm)))
end
end Go.Proofs.Ytepgfplbkmhgbaa

namespace Go.Proofs.Ytepgfplbkmhgbaa
open Go.RowKit
attribute [local go_sem ↓] Go.wp_at_zero Go.wp_at_succ
attribute [local go_sem] run_store_float

set_option maxRecDepth 100000 in
set_option maxHeartbeats 3200000 in
theorem steepA_any (X Y : Int) (Wn Hn N : Nat) (A : Option Addr) (c : Nat) (l : List Nat) (w : World) (hr : Reg X Y Wn Hn) (hN : N = Wn * Hn) (hl : l.length = N) (hV : Rd w A (flt l)) (hh : ∀ j, j < N → Bd 20 (l.getD j 0)) :
    Calls Try.prog 42 #[.agg #[.int .i64 X, .int .i64 Y, .int .i64 (Wn : Int), .int .i64 (Hn : Int), .slice A N c]] w fun e w' => ∃ gi, e = .returned (.slice (some ⟨gi, 0, none⟩) N N) ∧ Bk w' gi 3 (intB N fun k => (stp (fun j => l.getD j 0) Wn Hn k 8).1) ∧ w.heap.size ≤ gi ∧ Ext w w' := by
  have hN6 : N ≤ 65536 := by rw [hN]; exact hr.n
  have HS := fun (k : Nat) (w : World) (h : Rd w A (flt l)) (hk : k < N) => hidA (steepest_any X Y Wn Hn N k A c l w hr hN hl h hh hk)
  have mi := mk_int N (by omega)
  clear hr hN hl hh
  obtain ⟨w1, hw1⟩ : ∃ w1, w1 = (w.alloc (.cells #[.int .i64 X, .int .i64 Y, .int .i64 (Wn : Int), .int .i64 (Hn : Int), .slice A N c] 26)).alloc (.cells (intB N fun _ => 0) 3) := ⟨_, rfl⟩
  have kF : Bk w1 w.heap.size 26 #[.int .i64 X, .int .i64 Y, .int .i64 (Wn : Int), .int .i64 (Hn : Int), .slice A N c] := by rw [hw1]; exact (Bk.new' rfl).alloc _
  have kI : Bk w1 (w.heap.size + 1) 3 (intB N fun _ => 0) := by rw [hw1]; exact Bk.new' (by simp)
  have hx1 : Ext w w1 := by rw [hw1]; exact ((Ext.refl w).alloc _).alloc _
  have f4' := (show Bk (w.alloc (.cells #[.int .i64 X, .int .i64 Y, .int .i64 (Wn : Int), .int .i64 (Hn : Int), .slice A N c] 26)) w.heap.size 26 #[.int .i64 X, .int .i64 Y, .int .i64 (Wn : Int), .int .i64 (Hn : Int), .slice A N c] from Bk.new' rfl).cell 4
  go_enter Try.func42, Try.ntmps42
  go_upto_region 2 with fail
  rw [← hw1]
  clear hw1 mi f4'
  have hg : w.heap.size ≤ w.heap.size + 1 := Nat.le_succ _
  have hne : w.heap.size ≠ w.heap.size + 1 := by omega
  generalize w.heap.size + 1 = gi at *
  generalize hhf : w.heap.size = hf at kF ⊢ hne
  have Hhf := hidA hhf
  clear hhf
  go_wp2_with fail
  go_loopw [11] (fun s11 wr => ∃ (k : Nat) (I : Nat → Int), k ≤ N ∧ s11 = .int .i64 k ∧ Bk wr hf 26 #[.int .i64 X, .int .i64 Y, .int .i64 (Wn : Int), .int .i64 (Hn : Int), .slice A N c] ∧ Bk wr gi 3 (intB N I) ∧ Ext w wr ∧ (∀ j, j < k → I j = (stp (fun j => l.getD j 0) Wn Hn j 8).1)) (fun s11 _ => N - (intOf s11).toNat)
  case atStart => exact ⟨0, _, Nat.zero_le _, rfl, kF, kI, hx1, fun j h => by omega⟩
  case round =>
    clear kF kI hx1
    obtain ⟨k, I, hk, rfl, kF, kI, hx, hI⟩ := hrel
    have HI := hidA hI
    clear hI
    by_cases hkN : k < N
    · have i0 : (0 : Int) ≤ k := by omega
      have i1 : (k : Int) < N := by omega
      have b0 := kF.cell 0
      have b1 := kF.cell 1
      have b2 := kF.cell 2
      have b3 := kF.cell 3
      have b4 := kF.cell 4
      have HSk := HS k wr (hV.ext hx) hkN
      have Hfin := hidA (show ∀ j, j < k + 1 → updF I k (stp (fun j => l.getD j 0) Wn Hn k 8).1 j = (stp (fun j => l.getD j 0) Wn Hn j 8).1 from fun j hj => by
        by_cases e : j = k
        · subst e
          rw [updF_same]
        · rw [updF_ne _ _ e]
          exact HI.out j (by omega))
      clear HS
      generalize stp (fun j => l.getD j 0) Wn Hn k 8 = r at *
      go_wp2_with (go_at_call 51; refine (HSk.out).mono ?_; rintro e w5 ⟨rfl, hx5⟩; have q0 := (kI.ext hx5).cell k; rw [intB_get _ hkN] at q0; have q1 := (kI.ext hx5).frozen k)
      have e1 := Bk.set (kI.ext hx5) k (.int .i64 r.1)
      rw [intB_set] at e1
      go_roundw
      case rel => exact ⟨k + 1, _, by omega, by go_num, (kF.ext hx5).far (p := ⟨gi, k, none⟩) hne _, e1, (hx.trans hx5).setCell (p := ⟨gi, k, none⟩) hg _, Hfin.out⟩
      case measure => simp [intOf]; omega
    · obtain rfl : N = k := by omega
      go_wp2_with fail
      go_ret
      refine ⟨gi, rfl, ?_, hg, hx⟩
      rw [← intB_congr fun j hj => HI.out j hj]
      exact kI
end Go.Proofs.Ytepgfplbkmhgbaa
