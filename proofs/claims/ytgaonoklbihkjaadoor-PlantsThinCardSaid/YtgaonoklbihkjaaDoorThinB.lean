/- Contracts: tarnref2.Close, the closure of plant.apart, tarnref2.Stands. -/
import Derived.Test.YtgaonoklbihkjaaDoorThinQ
import Derived.Test.YtgaonoklbihkjaaDoorCrowdB
namespace Go.Proofs.YtgaonoklbihkjaaDoor
open Go.RowKit
attribute [local go_sem ↓] Go.wp_at_zero Go.wp_at_succ
attribute [local go_sem] run_store_float

/-- what holds of a plant that is accepted -/
theorem plant_good {l : List KindR} {a : PlantR} (ha : plantE l a = 0) (hl : ∀ x ∈ l, x.err = 0) : ∃ ka : Nat, ∃ h : ka < l.length, a.kind = (ka : Int) ∧ l[ka].p = spaceOf l a.kind ∧ 0 ≤ l[ka].p ∧ l[ka].p ≤ 32 ∧ a.farB = false ∧ Bd 20 a.size := by
  obtain ⟨u1, u2, u3, u4, _⟩ := plantE_zero ha
  have e1 : a.kind = ((a.kind.toNat : Nat) : Int) := by omega
  have hk : a.kind.toNat < l.length := by omega
  have sa := kind_space (hl _ (List.getElem_mem hk))
  exact ⟨a.kind.toNat, hk, e1, by unfold spaceOf; simp [hk], sa.1, sa.2, u3, num_bd' u4 _ (by simp)⟩

set_option maxRecDepth 100000 in
set_option maxHeartbeats 3200000 in
theorem Close_any (A : Option Addr) (n c : Nat) (l : List KindR) (a b : PlantR) (w : World) (hn : l.length = n) (hd : Rd w A (kcells l)) (ha : plantE l a = 0) (hb : plantE l b = 0) (hl : ∀ x ∈ l, x.err = 0) :
    Calls Tryd.prog 59 #[.slice A n c, a.v, b.v] w fun e w' => e = .returned (.bool (cloB l a b)) ∧ Ext w w' := by
  obtain ⟨ka, hka, ea, sa1, sa2, sa3, fa, _⟩ := plant_good ha hl
  obtain ⟨kb, hkb, eb, sb1, sb2, sb3, fb, _⟩ := plant_good hb hl
  have hcl : cloB l a b = decide ((sqD a b : Int) < max l[ka].p l[kb].p * max l[ka].p l[kb].p) := by unfold cloB; rw [sa1, sb1]
  have k0 : (0 : Int) ≤ ka := by omega
  have k1 : (ka : Int) < n := by omega
  have m0 : (0 : Int) ≤ kb := by omega
  have m1 : (kb : Int) < n := by omega
  have d60 : sqD a b < 2 ^ 60 := (sq_int fa fb).2.1
  obtain ⟨ad, rfl, hbk, _⟩ := hd.at (k := ka) (by rw [kcells_length]; omega)
  have g1 := hd.space hka
  have g2 := hd.space hkb
  have HSQ := fun (w : World) => hidA (refSquare_any a b w fa fb)
  generalize hsa : l[ka].p = sa at *
  generalize hsb : l[kb].p = sb at *
  obtain ⟨s, hs⟩ : ∃ s, s = max sa sb := ⟨_, rfl⟩
  have hs1 : 0 ≤ s ∧ s ≤ 32 := by omega
  have hss : 0 ≤ s * s ∧ s * s ≤ 1024 := ⟨Int.mul_nonneg hs1.1 hs1.1, by have := Int.mul_le_mul hs1.2 hs1.2 hs1.1 (by omega : (0 : Int) ≤ 32); omega⟩
  have W1 : wrap64 (s * s) = s * s := IntWalk.wrap64_in _ ⟨by omega, by omega⟩
  rw [← hs] at hcl
  clear ha hb hl fa fb sa1 sb1
  generalize hc2 : cloB l a b = cl at *
  generalize sqD a b = q at *
  obtain ⟨kd, px, py, sz, ag⟩ := a
  obtain ⟨kd2, px2, py2, sz2, ag2⟩ := b
  dsimp only at ea eb HSQ
  subst ea
  subst eb
  have Hcl := hidA hcl
  have Hs := hidA hs
  clear hcl hsa hsb hc2 hs
  simp only [PlantR.v]
  go_enter Tryd.func59, Tryd.ntmps59
  go_upto_region 1 with fail
  obtain ⟨w2, hw2⟩ : ∃ w2, w2 = (w.alloc (.cells #[.int .i64 (ka : Int), .int .i64 px, .int .i64 py, .float .f32 sz, .int .i64 ag] 46)).alloc (.cells #[.int .i64 (kb : Int), .int .i64 px2, .int .i64 py2, .float .f32 sz2, .int .i64 ag2] 46) := ⟨_, rfl⟩
  have hA : Bk w2 w.heap.size 46 #[.int .i64 (ka : Int), .int .i64 px, .int .i64 py, .float .f32 sz, .int .i64 ag] := by rw [hw2]; exact (Bk.new' rfl).alloc _
  have hB : Bk w2 (w.heap.size + 1) 46 #[.int .i64 (kb : Int), .int .i64 px2, .int .i64 py2, .float .f32 sz2, .int .i64 ag2] := by rw [hw2]; exact Bk.new' (by simp)
  have hx2 : Ext w w2 := by rw [hw2]; exact ((Ext.refl w).alloc _).alloc _
  have a0 : ∀ w', Ext w2 w' → w'.cell? ⟨w.heap.size, 0, none⟩ = some (.int .i64 (ka : Int)) := fun w' h => (hA.ext h).cell 0
  have a1 : ∀ w', Ext w2 w' → w'.cell? ⟨w.heap.size, 1, none⟩ = some (.int .i64 px) := fun w' h => (hA.ext h).cell 1
  have a2 : ∀ w', Ext w2 w' → w'.cell? ⟨w.heap.size, 2, none⟩ = some (.int .i64 py) := fun w' h => (hA.ext h).cell 2
  have b0 : ∀ w', Ext w2 w' → w'.cell? ⟨w.heap.size + 1, 0, none⟩ = some (.int .i64 (kb : Int)) := fun w' h => (hB.ext h).cell 0
  have b1 : ∀ w', Ext w2 w' → w'.cell? ⟨w.heap.size + 1, 1, none⟩ = some (.int .i64 px2) := fun w' h => (hB.ext h).cell 1
  have b2 : ∀ w', Ext w2 w' → w'.cell? ⟨w.heap.size + 1, 2, none⟩ = some (.int .i64 py2) := fun w' h => (hB.ext h).cell 2
  have G1 : ∀ w', Ext w2 w' → w'.cell? ⟨(ad.add (ka * 13)).block, (ad.add (ka * 13)).off + 11, none⟩ = some (.int .i64 sa) := fun w' h => ((hx2.trans h).cell _ (by show (ad.add (ka * 13)).block < _; rw [add_block]; exact hbk)).trans g1
  have G2 : ∀ w', Ext w2 w' → w'.cell? ⟨(ad.add (kb * 13)).block, (ad.add (kb * 13)).off + 11, none⟩ = some (.int .i64 sb) := fun w' h => ((hx2.trans h).cell _ (by show (ad.add (kb * 13)).block < _; rw [add_block]; exact hbk)).trans g2
  rw [← hw2]
  clear hA hB hw2 g1 g2 hd
  refine wp_region_noPanic ?_
  refine wp_region_held_drew (S := fun w' => Ext w2 w') (by kernel_rfl) ?_ (fun hHeld => ?_)
  · (repeat (first | exact Ext.refl _ | assumption | refine Ext.setCell ?_ (by first | (simp; done) | (simp; omega)) _ | refine Ext.drewN ?_ _ | refine Ext.alloc ?_ _ | refine Ext.drew ?_ | refine Ext.trans ?_ (by assumption)))
  refine wpAnyH_take (i := 0) (oi := ?o1x0) (v := ?v1x0) ?hi1x0 (by kernel_rfl) ?hf1x0 ?hr1x0 (fun _ _ _ h => h) ?hy1x0 (by assumption) ?rest1x0
  case hi1x0 => (simp only [List.getElem?_toArray, List.getElem?_cons_zero]; exact rfl)
  case hf1x0 => kernel_rfl
  case hr1x0 => kernel_rfl
  case hy1x0 => (refine Or.inl ⟨by rfl, ?_⟩; intro w hSw; (try dsimp only at hSw); go_simp; try with_reducible rfl)
  simp only [put_mk, List.set_cons_succ, List.set_cons_zero]
  refine wpAnyH_take (i := 1) (oi := ?o1x1) (v := ?v1x1) ?hi1x1 (by kernel_rfl) ?hf1x1 ?hr1x1 (fun _ _ _ h => h) ?hy1x1 (by assumption) ?rest1x1
  case hi1x1 => (simp only [List.getElem?_toArray, List.getElem?_cons_succ, List.getElem?_cons_zero]; exact rfl)
  case hf1x1 => kernel_rfl
  case hr1x1 => kernel_rfl
  case hy1x1 => (refine Or.inl ⟨by rfl, ?_⟩; intro w hSw; (try dsimp only at hSw); go_simp; try with_reducible rfl)
  simp only [put_mk, List.set_cons_succ, List.set_cons_zero]
  refine wpAnyH_take (i := 2) (oi := ?o1x2) (v := ?v1x2) ?hi1x2 (by kernel_rfl) ?hf1x2 ?hr1x2 (fun _ _ _ h => h) ?hy1x2 (by assumption) ?rest1x2
  case hi1x2 => (simp only [List.getElem?_toArray, List.getElem?_cons_succ, List.getElem?_cons_zero]; exact rfl)
  case hf1x2 => kernel_rfl
  case hr1x2 => kernel_rfl
  case hy1x2 => (refine Or.inl ⟨by rfl, ?_⟩; intro w hSw; (try dsimp only at hSw); go_simp; try with_reducible rfl)
  simp only [put_mk, List.set_cons_succ, List.set_cons_zero]
  refine wpAnyH_take (i := 3) (oi := ?o1x3) (v := ?v1x3) ?hi1x3 (by kernel_rfl) ?hf1x3 ?hr1x3 (fun _ _ _ h => h) ?hy1x3 (by assumption) ?rest1x3
  case hi1x3 => (simp only [List.getElem?_toArray, List.getElem?_cons_succ, List.getElem?_cons_zero]; exact rfl)
  case hf1x3 => kernel_rfl
  case hr1x3 => kernel_rfl
  case hy1x3 => (refine Or.inl ⟨by rfl, ?_⟩; intro w hSw; (try dsimp only at hSw); go_simp; try with_reducible rfl)
  simp only [put_mk, List.set_cons_succ, List.set_cons_zero]
  refine wpAnyH_take (i := 4) (oi := ?o1x4) (v := ?v1x4) ?hi1x4 (by kernel_rfl) ?hf1x4 ?hr1x4 (fun _ _ _ h => h) ?hy1x4 (by assumption) ?rest1x4
  case hi1x4 => (simp only [List.getElem?_toArray, List.getElem?_cons_succ, List.getElem?_cons_zero]; exact rfl)
  case hf1x4 => kernel_rfl
  case hr1x4 => kernel_rfl
  case hy1x4 => (refine Or.inl ⟨by rfl, ?_⟩; intro w hSw; (try dsimp only at hSw); go_simp; try with_reducible rfl)
  simp only [put_mk, List.set_cons_succ, List.set_cons_zero]
  refine wpAnyH_take (i := 5) (oi := ?o1x5) (v := ?v1x5) ?hi1x5 (by kernel_rfl) ?hf1x5 ?hr1x5 (fun _ _ _ h => h) ?hy1x5 (by assumption) ?rest1x5
  case hi1x5 => (simp only [List.getElem?_toArray, List.getElem?_cons_succ, List.getElem?_cons_zero]; exact rfl)
  case hf1x5 => kernel_rfl
  case hr1x5 => kernel_rfl
  case hy1x5 => (refine Or.inl ⟨by rfl, ?_⟩; intro w hSw; (try dsimp only at hSw); go_simp; try with_reducible rfl)
  simp only [put_mk, List.set_cons_succ, List.set_cons_zero]
  refine wpAnyH_take (i := 6) (oi := ?o1x6) (v := ?v1x6) ?hi1x6 (by kernel_rfl) ?hf1x6 ?hr1x6 (fun _ _ _ h => h) ?hy1x6 (by assumption) ?rest1x6
  case hi1x6 => (simp only [List.getElem?_toArray, List.getElem?_cons_succ, List.getElem?_cons_zero]; exact rfl)
  case hf1x6 => kernel_rfl
  case hr1x6 => kernel_rfl
  case hy1x6 => (refine Or.inl ⟨by rfl, ?_⟩; intro w hSw; (try dsimp only at hSw); go_simp; try with_reducible rfl)
  simp only [put_mk, List.set_cons_succ, List.set_cons_zero]
  refine wpAnyH_take (i := 7) (oi := ?o1x7) (v := ?v1x7) ?hi1x7 (by kernel_rfl) ?hf1x7 ?hr1x7 (fun _ _ _ h => h) ?hy1x7 (by assumption) ?rest1x7
  case hi1x7 => (simp only [List.getElem?_toArray, List.getElem?_cons_succ, List.getElem?_cons_zero]; exact rfl)
  case hf1x7 => kernel_rfl
  case hr1x7 => kernel_rfl
  case hy1x7 => (refine Or.inl ⟨by rfl, ?_⟩; intro w hSw; (try dsimp only at hSw); go_simp; try with_reducible rfl)
  simp only [put_mk, List.set_cons_succ, List.set_cons_zero]
  refine wpAnyH_take (i := 8) (oi := ?o1x8) (v := ?v1x8) ?hi1x8 (by kernel_rfl) ?hf1x8 ?hr1x8 (fun _ _ _ h => h) ?hy1x8 (by assumption) ?rest1x8
  case hi1x8 => (simp only [List.getElem?_toArray, List.getElem?_cons_succ, List.getElem?_cons_zero]; exact rfl)
  case hf1x8 => kernel_rfl
  case hr1x8 => kernel_rfl
  case hy1x8 => (refine Or.inl ⟨by rfl, ?_⟩; intro w hSw; (try dsimp only at hSw); go_simp; try with_reducible rfl)
  simp only [put_mk, List.set_cons_succ, List.set_cons_zero]
  refine wpAnyH_take (i := 9) (oi := ?o1x9) (v := ?v1x9) ?hi1x9 (by kernel_rfl) ?hf1x9 ?hr1x9 (fun _ _ _ h => h) ?hy1x9 (by assumption) ?rest1x9
  case hi1x9 => (simp only [List.getElem?_toArray, List.getElem?_cons_succ, List.getElem?_cons_zero]; exact rfl)
  case hf1x9 => kernel_rfl
  case hr1x9 => kernel_rfl
  case hy1x9 => (refine Or.inl ⟨by rfl, ?_⟩; intro w hSw; (try dsimp only at hSw); go_simp; try with_reducible rfl)
  simp only [put_mk, List.set_cons_succ, List.set_cons_zero]
  refine wpAnyH_take (i := 10) (oi := ?o1x10) (v := ?v1x10) ?hi1x10 (by kernel_rfl) ?hf1x10 ?hr1x10 (fun _ _ _ h => h) ?hy1x10 (by assumption) ?rest1x10
  case hi1x10 => (simp only [List.getElem?_toArray, List.getElem?_cons_succ, List.getElem?_cons_zero]; exact rfl)
  case hf1x10 => kernel_rfl
  case hr1x10 => kernel_rfl
  case hy1x10 => (refine Or.inl ⟨by rfl, ?_⟩; intro w hSw; (try dsimp only at hSw); go_simp; try with_reducible rfl)
  simp only [put_mk, List.set_cons_succ, List.set_cons_zero]
  refine wpAnyH_take (i := 11) (oi := ?o1x11) (v := ?v1x11) ?hi1x11 (by kernel_rfl) ?hf1x11 ?hr1x11 (fun _ _ _ h => h) ?hy1x11 (by assumption) ?rest1x11
  case hi1x11 => (simp only [List.getElem?_toArray, List.getElem?_cons_succ, List.getElem?_cons_zero]; exact rfl)
  case hf1x11 => kernel_rfl
  case hr1x11 => kernel_rfl
  case hy1x11 => (refine Or.inl ⟨by rfl, ?_⟩; intro w hSw; (try dsimp only at hSw); go_simp; try with_reducible rfl)
  simp only [put_mk, List.set_cons_succ, List.set_cons_zero]
  refine wpAnyH_take (i := 12) (oi := ?o1x12) (v := ?v1x12) ?hi1x12 (by kernel_rfl) ?hf1x12 ?hr1x12 (fun _ _ _ h => h) ?hy1x12 (by assumption) ?rest1x12
  case hi1x12 => (simp only [List.getElem?_toArray, List.getElem?_cons_succ, List.getElem?_cons_zero]; exact rfl)
  case hf1x12 => kernel_rfl
  case hr1x12 => kernel_rfl
  case hy1x12 => (refine Or.inl ⟨by rfl, ?_⟩; intro w hSw; (try dsimp only at hSw); go_simp; try with_reducible rfl)
  simp only [put_mk, List.set_cons_succ, List.set_cons_zero]
  refine wpAnyH_take (i := 13) (oi := ?o1x13) (v := ?v1x13) ?hi1x13 (by kernel_rfl) ?hf1x13 ?hr1x13 (fun _ _ _ h => h) ?hy1x13 (by assumption) ?rest1x13
  case hi1x13 => (simp only [List.getElem?_toArray, List.getElem?_cons_succ, List.getElem?_cons_zero]; exact rfl)
  case hf1x13 => kernel_rfl
  case hr1x13 => kernel_rfl
  case hy1x13 => (refine Or.inl ⟨by rfl, ?_⟩; intro w hSw; (try dsimp only at hSw); go_simp; try with_reducible rfl)
  simp only [put_mk, List.set_cons_succ, List.set_cons_zero]
  refine wpAnyH_done (by kernel_rfl) ?_ _
  refine NoPanic.normal ?_
  rw [← Hs.out]
  go_wp2_with fail
  refine ((HSQ _).out).mono ?_
  rintro e w6 ⟨rfl, hw6⟩
  subst hw6
  go_wp2_with fail
  go_ret
  exact ⟨ret_b Hcl.out.symm, hx2.trans (by repeat (first | exact Ext.refl _ | assumption | refine Ext.setCell ?_ (by first | (simp; done) | (simp; omega)) _ | refine Ext.drewN ?_ _ | refine Ext.alloc ?_ _ | refine Ext.drew ?_ | refine Ext.trans ?_ (by assumption)))⟩

set_option maxRecDepth 100000 in
set_option maxHeartbeats 3200000 in
theorem apart1_any (A : Option Addr) (n c : Nat) (l : List KindR) (a b : PlantR) (hq hx : Nat) (w : World) (hn : l.length = n) (hd : Rd w A (kcells l)) (hQ : Bk w hq 22 #[.slice A n c]) (hX : Bk w hx 46 #[.int .i64 a.kind, .int .i64 a.x, .int .i64 a.y, .float .f32 a.size, .int .i64 a.age]) (ha : plantE l a = 0) (hb : plantE l b = 0) (hl : ∀ x ∈ l, x.err = 0) :
    Calls Tryd.prog 72 #[b.v, .pointer (some ⟨hq, 0, none⟩), .pointer (some ⟨hx, 0, none⟩)] w fun e w' => e = .returned (.bool (cloB l a b)) ∧ Ext w w' := by
  obtain ⟨ka, hka, ea, sa1, sa2, sa3, fa, _⟩ := plant_good ha hl
  obtain ⟨kb, hkb, eb, sb1, sb2, sb3, fb, _⟩ := plant_good hb hl
  have hcl : cloB l a b = decide ((sqD a b : Int) < max l[ka].p l[kb].p * max l[ka].p l[kb].p) := by unfold cloB; rw [sa1, sb1]
  have k0 : (0 : Int) ≤ ka := by omega
  have k1 : (ka : Int) < n := by omega
  have m0 : (0 : Int) ≤ kb := by omega
  have m1 : (kb : Int) < n := by omega
  have d60 : sqD a b < 2 ^ 60 := (sq_int fa fb).2.1
  obtain ⟨ad, rfl, hbk, _⟩ := hd.at (k := ka) (by rw [kcells_length]; omega)
  have g1 := hd.space hka
  have g2 := hd.space hkb
  have HSQ := fun (w : World) => hidA (square_any a b w fa fb)
  generalize hsa : l[ka].p = sa at *
  generalize hsb : l[kb].p = sb at *
  obtain ⟨s, hs⟩ : ∃ s, s = max sa sb := ⟨_, rfl⟩
  have hs1 : 0 ≤ s ∧ s ≤ 32 := by omega
  have hss : 0 ≤ s * s ∧ s * s ≤ 1024 := ⟨Int.mul_nonneg hs1.1 hs1.1, by have := Int.mul_le_mul hs1.2 hs1.2 hs1.1 (by omega : (0 : Int) ≤ 32); omega⟩
  have W1 : wrap64 (s * s) = s * s := IntWalk.wrap64_in _ ⟨by omega, by omega⟩
  rw [← hs] at hcl
  clear ha hb hl fa fb sa1 sb1
  generalize hc2 : cloB l a b = cl at *
  generalize sqD a b = q at *
  obtain ⟨kd, px, py, sz, ag⟩ := a
  obtain ⟨kd2, px2, py2, sz2, ag2⟩ := b
  dsimp only at ea eb HSQ hX
  subst ea
  subst eb
  have Hcl := hidA hcl
  have Hs := hidA hs
  clear hcl hsa hsb hc2 hs
  simp only [PlantR.v] at HSQ ⊢
  go_enter Tryd.func72, Tryd.ntmps72
  go_upto_region 1 with fail
  obtain ⟨w2, hw2⟩ : ∃ w2, w2 = w.alloc (.cells #[.int .i64 (kb : Int), .int .i64 px2, .int .i64 py2, .float .f32 sz2, .int .i64 ag2] 46) := ⟨_, rfl⟩
  have hB : Bk w2 w.heap.size 46 #[.int .i64 (kb : Int), .int .i64 px2, .int .i64 py2, .float .f32 sz2, .int .i64 ag2] := by rw [hw2]; exact Bk.new' rfl
  have hx2 : Ext w w2 := by rw [hw2]; exact (Ext.refl w).alloc _
  have hA := hX.ext hx2
  have hQ2 := hQ.ext hx2
  have a0 : ∀ w', Ext w2 w' → w'.cell? ⟨hx, 0, none⟩ = some (.int .i64 (ka : Int)) := fun w' h => (hA.ext h).cell 0
  have a1 : ∀ w', Ext w2 w' → w'.cell? ⟨hx, 1, none⟩ = some (.int .i64 px) := fun w' h => (hA.ext h).cell 1
  have a2 : ∀ w', Ext w2 w' → w'.cell? ⟨hx, 2, none⟩ = some (.int .i64 py) := fun w' h => (hA.ext h).cell 2
  have a3 : ∀ w', Ext w2 w' → w'.cell? ⟨hx, 3, none⟩ = some (.float .f32 sz) := fun w' h => (hA.ext h).cell 3
  have a4 : ∀ w', Ext w2 w' → w'.cell? ⟨hx, 4, none⟩ = some (.int .i64 ag) := fun w' h => (hA.ext h).cell 4
  have b0 : ∀ w', Ext w2 w' → w'.cell? ⟨w.heap.size, 0, none⟩ = some (.int .i64 (kb : Int)) := fun w' h => (hB.ext h).cell 0
  have b1 : ∀ w', Ext w2 w' → w'.cell? ⟨w.heap.size, 1, none⟩ = some (.int .i64 px2) := fun w' h => (hB.ext h).cell 1
  have b2 : ∀ w', Ext w2 w' → w'.cell? ⟨w.heap.size, 2, none⟩ = some (.int .i64 py2) := fun w' h => (hB.ext h).cell 2
  have b3 : ∀ w', Ext w2 w' → w'.cell? ⟨w.heap.size, 3, none⟩ = some (.float .f32 sz2) := fun w' h => (hB.ext h).cell 3
  have b4 : ∀ w', Ext w2 w' → w'.cell? ⟨w.heap.size, 4, none⟩ = some (.int .i64 ag2) := fun w' h => (hB.ext h).cell 4
  have q0 : ∀ w', Ext w2 w' → w'.cell? ⟨hq, 0, none⟩ = some (.slice (some ad) n c) := fun w' h => (hQ2.ext h).cell 0
  have G1 : ∀ w', Ext w2 w' → w'.cell? ⟨(ad.add (ka * 13)).block, (ad.add (ka * 13)).off + 11, none⟩ = some (.int .i64 sa) := fun w' h => ((hx2.trans h).cell _ (by show (ad.add (ka * 13)).block < _; rw [add_block]; exact hbk)).trans g1
  have G2 : ∀ w', Ext w2 w' → w'.cell? ⟨(ad.add (kb * 13)).block, (ad.add (kb * 13)).off + 11, none⟩ = some (.int .i64 sb) := fun w' h => ((hx2.trans h).cell _ (by show (ad.add (kb * 13)).block < _; rw [add_block]; exact hbk)).trans g2
  rw [← hw2]
  clear hA hB hw2 g1 g2 hd hX hQ hQ2
  refine wp_region_noPanic ?_
  refine wp_region_held_drew (S := fun w' => Ext w2 w') (by kernel_rfl) ?_ (fun hHeld => ?_)
  · (repeat (first | exact Ext.refl _ | assumption | refine Ext.setCell ?_ (by first | (simp; done) | (simp; omega)) _ | refine Ext.drewN ?_ _ | refine Ext.alloc ?_ _ | refine Ext.drew ?_ | refine Ext.trans ?_ (by assumption)))
  refine wpAnyH_take (i := 0) (oi := ?o2x0) (v := ?v2x0) ?hi2x0 (by kernel_rfl) ?hf2x0 ?hr2x0 (fun _ _ _ h => h) ?hy2x0 (by assumption) ?rest2x0
  case hi2x0 => (simp only [List.getElem?_toArray, List.getElem?_cons_zero]; exact rfl)
  case hf2x0 => kernel_rfl
  case hr2x0 => kernel_rfl
  case hy2x0 => (refine Or.inl ⟨by rfl, ?_⟩; intro w hSw; (try dsimp only at hSw); go_simp; try with_reducible rfl)
  simp only [put_mk, List.set_cons_succ, List.set_cons_zero]
  refine wpAnyH_take (i := 1) (oi := ?o2x1) (v := ?v2x1) ?hi2x1 (by kernel_rfl) ?hf2x1 ?hr2x1 (fun _ _ _ h => h) ?hy2x1 (by assumption) ?rest2x1
  case hi2x1 => (simp only [List.getElem?_toArray, List.getElem?_cons_succ, List.getElem?_cons_zero]; exact rfl)
  case hf2x1 => kernel_rfl
  case hr2x1 => kernel_rfl
  case hy2x1 => (refine Or.inl ⟨by rfl, ?_⟩; intro w hSw; (try dsimp only at hSw); go_simp; try with_reducible rfl)
  simp only [put_mk, List.set_cons_succ, List.set_cons_zero]
  refine wpAnyH_take (i := 2) (oi := ?o2x2) (v := ?v2x2) ?hi2x2 (by kernel_rfl) ?hf2x2 ?hr2x2 (fun _ _ _ h => h) ?hy2x2 (by assumption) ?rest2x2
  case hi2x2 => (simp only [List.getElem?_toArray, List.getElem?_cons_succ, List.getElem?_cons_zero]; exact rfl)
  case hf2x2 => kernel_rfl
  case hr2x2 => kernel_rfl
  case hy2x2 => (refine Or.inl ⟨by rfl, ?_⟩; intro w hSw; (try dsimp only at hSw); go_simp; try with_reducible rfl)
  simp only [put_mk, List.set_cons_succ, List.set_cons_zero]
  refine wpAnyH_take (i := 3) (oi := ?o2x3) (v := ?v2x3) ?hi2x3 (by kernel_rfl) ?hf2x3 ?hr2x3 (fun _ _ _ h => h) ?hy2x3 (by assumption) ?rest2x3
  case hi2x3 => (simp only [List.getElem?_toArray, List.getElem?_cons_succ, List.getElem?_cons_zero]; exact rfl)
  case hf2x3 => kernel_rfl
  case hr2x3 => kernel_rfl
  case hy2x3 => (refine Or.inl ⟨by rfl, ?_⟩; intro w hSw; (try dsimp only at hSw); go_simp; try with_reducible rfl)
  simp only [put_mk, List.set_cons_succ, List.set_cons_zero]
  refine wpAnyH_take (i := 4) (oi := ?o2x4) (v := ?v2x4) ?hi2x4 (by kernel_rfl) ?hf2x4 ?hr2x4 (fun _ _ _ h => h) ?hy2x4 (by assumption) ?rest2x4
  case hi2x4 => (simp only [List.getElem?_toArray, List.getElem?_cons_succ, List.getElem?_cons_zero]; exact rfl)
  case hf2x4 => kernel_rfl
  case hr2x4 => kernel_rfl
  case hy2x4 => (refine Or.inl ⟨by rfl, ?_⟩; intro w hSw; (try dsimp only at hSw); go_simp; try with_reducible rfl)
  simp only [put_mk, List.set_cons_succ, List.set_cons_zero]
  refine wpAnyH_take (i := 5) (oi := ?o2x5) (v := ?v2x5) ?hi2x5 (by kernel_rfl) ?hf2x5 ?hr2x5 (fun _ _ _ h => h) ?hy2x5 (by assumption) ?rest2x5
  case hi2x5 => (simp only [List.getElem?_toArray, List.getElem?_cons_succ, List.getElem?_cons_zero]; exact rfl)
  case hf2x5 => kernel_rfl
  case hr2x5 => kernel_rfl
  case hy2x5 => (refine Or.inl ⟨by rfl, ?_⟩; intro w hSw; (try dsimp only at hSw); go_simp; try with_reducible rfl)
  simp only [put_mk, List.set_cons_succ, List.set_cons_zero]
  refine wpAnyH_take (i := 6) (oi := ?o2x6) (v := ?v2x6) ?hi2x6 (by kernel_rfl) ?hf2x6 ?hr2x6 (fun _ _ _ h => h) ?hy2x6 (by assumption) ?rest2x6
  case hi2x6 => (simp only [List.getElem?_toArray, List.getElem?_cons_succ, List.getElem?_cons_zero]; exact rfl)
  case hf2x6 => kernel_rfl
  case hr2x6 => kernel_rfl
  case hy2x6 => (refine Or.inl ⟨by rfl, ?_⟩; intro w hSw; (try dsimp only at hSw); go_simp; try with_reducible rfl)
  simp only [put_mk, List.set_cons_succ, List.set_cons_zero]
  refine wpAnyH_take (i := 7) (oi := ?o2x7) (v := ?v2x7) ?hi2x7 (by kernel_rfl) ?hf2x7 ?hr2x7 (fun _ _ _ h => h) ?hy2x7 (by assumption) ?rest2x7
  case hi2x7 => (simp only [List.getElem?_toArray, List.getElem?_cons_succ, List.getElem?_cons_zero]; exact rfl)
  case hf2x7 => kernel_rfl
  case hr2x7 => kernel_rfl
  case hy2x7 => (refine Or.inl ⟨by rfl, ?_⟩; intro w hSw; (try dsimp only at hSw); go_simp; try with_reducible rfl)
  simp only [put_mk, List.set_cons_succ, List.set_cons_zero]
  refine wpAnyH_take (i := 8) (oi := ?o2x8) (v := ?v2x8) ?hi2x8 (by kernel_rfl) ?hf2x8 ?hr2x8 (fun _ _ _ h => h) ?hy2x8 (by assumption) ?rest2x8
  case hi2x8 => (simp only [List.getElem?_toArray, List.getElem?_cons_succ, List.getElem?_cons_zero]; exact rfl)
  case hf2x8 => kernel_rfl
  case hr2x8 => kernel_rfl
  case hy2x8 => (refine Or.inl ⟨by rfl, ?_⟩; intro w hSw; (try dsimp only at hSw); go_simp; try with_reducible rfl)
  simp only [put_mk, List.set_cons_succ, List.set_cons_zero]
  refine wpAnyH_take (i := 9) (oi := ?o2x9) (v := ?v2x9) ?hi2x9 (by kernel_rfl) ?hf2x9 ?hr2x9 (fun _ _ _ h => h) ?hy2x9 (by assumption) ?rest2x9
  case hi2x9 => (simp only [List.getElem?_toArray, List.getElem?_cons_succ, List.getElem?_cons_zero]; exact rfl)
  case hf2x9 => kernel_rfl
  case hr2x9 => kernel_rfl
  case hy2x9 => (refine Or.inl ⟨by rfl, ?_⟩; intro w hSw; (try dsimp only at hSw); go_simp; try with_reducible rfl)
  simp only [put_mk, List.set_cons_succ, List.set_cons_zero]
  refine wpAnyH_take (i := 10) (oi := ?o2x10) (v := ?v2x10) ?hi2x10 (by kernel_rfl) ?hf2x10 ?hr2x10 (fun _ _ _ h => h) ?hy2x10 (by assumption) ?rest2x10
  case hi2x10 => (simp only [List.getElem?_toArray, List.getElem?_cons_succ, List.getElem?_cons_zero]; exact rfl)
  case hf2x10 => kernel_rfl
  case hr2x10 => kernel_rfl
  case hy2x10 => (refine Or.inl ⟨by rfl, ?_⟩; intro w hSw; (try dsimp only at hSw); go_simp; try with_reducible rfl)
  simp only [put_mk, List.set_cons_succ, List.set_cons_zero]
  refine wpAnyH_take (i := 11) (oi := ?o2x11) (v := ?v2x11) ?hi2x11 (by kernel_rfl) ?hf2x11 ?hr2x11 (fun _ _ _ h => h) ?hy2x11 (by assumption) ?rest2x11
  case hi2x11 => (simp only [List.getElem?_toArray, List.getElem?_cons_succ, List.getElem?_cons_zero]; exact rfl)
  case hf2x11 => kernel_rfl
  case hr2x11 => kernel_rfl
  case hy2x11 => (refine Or.inl ⟨by rfl, ?_⟩; intro w hSw; (try dsimp only at hSw); go_simp; try with_reducible rfl)
  simp only [put_mk, List.set_cons_succ, List.set_cons_zero]
  refine wpAnyH_take (i := 12) (oi := ?o2x12) (v := ?v2x12) ?hi2x12 (by kernel_rfl) ?hf2x12 ?hr2x12 (fun _ _ _ h => h) ?hy2x12 (by assumption) ?rest2x12
  case hi2x12 => (simp only [List.getElem?_toArray, List.getElem?_cons_succ, List.getElem?_cons_zero]; exact rfl)
  case hf2x12 => kernel_rfl
  case hr2x12 => kernel_rfl
  case hy2x12 => (refine Or.inl ⟨by rfl, ?_⟩; intro w hSw; (try dsimp only at hSw); go_simp; try with_reducible rfl)
  simp only [put_mk, List.set_cons_succ, List.set_cons_zero]
  refine wpAnyH_take (i := 13) (oi := ?o2x13) (v := ?v2x13) ?hi2x13 (by kernel_rfl) ?hf2x13 ?hr2x13 (fun _ _ _ h => h) ?hy2x13 (by assumption) ?rest2x13
  case hi2x13 => (simp only [List.getElem?_toArray, List.getElem?_cons_succ, List.getElem?_cons_zero]; exact rfl)
  case hf2x13 => kernel_rfl
  case hr2x13 => kernel_rfl
  case hy2x13 => (refine Or.inl ⟨by rfl, ?_⟩; intro w hSw; (try dsimp only at hSw); go_simp; try with_reducible rfl)
  simp only [put_mk, List.set_cons_succ, List.set_cons_zero]
  refine wpAnyH_done (by kernel_rfl) ?_ _
  refine NoPanic.normal ?_
  rw [← Hs.out]
  go_wp2_with fail
  refine ((HSQ _).out).mono ?_
  rintro e w6 ⟨rfl, hb6⟩
  go_wp2_with fail
  go_ret
  exact ⟨ret_b Hcl.out.symm, hx2.trans (by repeat (first | exact Ext.refl _ | assumption | refine Ext.setCell ?_ (by first | (simp; done) | (simp; omega)) _ | refine Ext.drewN ?_ _ | refine Ext.alloc ?_ _ | refine Ext.drew ?_ | refine Ext.trans ?_ (by assumption)))⟩

theorem ltS_iff (a b : PlantR) : ltS a b = true ↔ valF b.size < valF a.size ∨ valF a.size = valF b.size ∧ (b.age < a.age ∨ a.age = b.age ∧ (mixK 0 a.x a.y 4 3 < mixK 0 b.x b.y 4 3 ∨ mixK 0 a.x a.y 4 3 = mixK 0 b.x b.y 4 3 ∧ aheadB a b = true)) := by
  unfold ltS keyS aheadB
  rw [decide_eq_true_eq, decide_eq_true_eq, lex_lt, lex_lt, lex_lt, lex_lt, lex_lt]
  have h0 : lexC [] [] = 0 := rfl
  rw [h0]
  generalize mixK 0 a.x a.y 4 3 = u
  generalize mixK 0 b.x b.y 4 3 = v
  omega
theorem stand_no {a b : PlantR} (h : ¬ (valF b.size < valF a.size ∨ valF a.size = valF b.size ∧ (b.age < a.age ∨ a.age = b.age ∧ (mixK 0 a.x a.y 4 3 < mixK 0 b.x b.y 4 3 ∨ mixK 0 a.x a.y 4 3 = mixK 0 b.x b.y 4 3 ∧ aheadB a b = true)))) : ltS a b = false := by
  rw [← ltS_iff] at h
  simpa using h

set_option maxRecDepth 100000 in
set_option maxHeartbeats 3200000 in
theorem Stands_any (a b : PlantR) (w : World) (ha : Bd 20 a.size) (hb : Bd 20 b.size) :
    Calls Tryd.prog 58 #[a.v, b.v] w fun e w' => e = .returned (.bool (ltS a b)) ∧ Ext w w' := by
  have ho := ord_valF ha hb (by omega) (by omega)
  have hc : compare (valF a.size) (valF b.size) = if valF a.size < valF b.size then .lt else if valF a.size = valF b.size then .eq else .gt := rfl
  have Hy := hidA (ltS_iff a b).2
  have Hn := hidA (@stand_no a b)
  have HAh := fun (w : World) => hidA (ahead_any a b w)
  have HM1 := fun (w : World) => hidA (mixed_any 0 a.x a.y 4 w)
  have HM2 := fun (w : World) => hidA (mixed_any 0 b.x b.y 4 w)
  clear ha hb
  generalize aheadB a b = ah at *
  generalize ltS a b = r at *
  generalize mixK 0 a.x a.y 4 3 = h1 at *
  generalize mixK 0 b.x b.y 4 3 = h2 at *
  obtain ⟨kd, px, py, sz, ag⟩ := a
  obtain ⟨kd2, px2, py2, sz2, ag2⟩ := b
  dsimp only at ho hc Hy Hn HM1 HM2
  simp only [PlantR.v] at HAh ⊢
  generalize valF sz = va at *
  generalize valF sz2 = vb at *
  rcases Int.lt_trichotomy va vb with h | h | h
  · have C0 : FloatKind.f32.format.order sz sz2 = some .lt := by rw [ord_def, ho, hc, if_pos h]
    have e := hidA (Hn.out (by omega))
    clear ho hc Hy Hn HM1 HM2 HAh h
    go_enter Tryd.func58, Tryd.ntmps58
    go_wp2_with fail
    go_ret
    exact ⟨ret_b e.out.symm, (by repeat (first | exact Ext.refl _ | assumption | refine Ext.setCell ?_ (by first | (simp; done) | (simp; omega)) _ | refine Ext.drewN ?_ _ | refine Ext.alloc ?_ _ | refine Ext.drew ?_ | refine Ext.trans ?_ (by assumption)))⟩
  · have C0 : FloatKind.f32.format.order sz sz2 = some .eq := by rw [ord_def, ho, hc, if_neg (by omega), if_pos h]
    by_cases hag : ag = ag2
    · have C1 : (ag != ag2) = false := by simpa using hag
      have Hag := hidA hag
      clear ho hc hag
      go_enter Tryd.func58, Tryd.ntmps58
      go_upto_region 5 with fail
      obtain ⟨w2, hw2⟩ : ∃ w2, w2 = (w.alloc (.cells #[.int .i64 kd, .int .i64 px, .int .i64 py, .float .f32 sz, .int .i64 ag] 46)).alloc (.cells #[.int .i64 kd2, .int .i64 px2, .int .i64 py2, .float .f32 sz2, .int .i64 ag2] 46) := ⟨_, rfl⟩
      have hA : Bk w2 w.heap.size 46 #[.int .i64 kd, .int .i64 px, .int .i64 py, .float .f32 sz, .int .i64 ag] := by rw [hw2]; exact (Bk.new' rfl).alloc _
      have hB : Bk w2 (w.heap.size + 1) 46 #[.int .i64 kd2, .int .i64 px2, .int .i64 py2, .float .f32 sz2, .int .i64 ag2] := by rw [hw2]; exact Bk.new' (by simp)
      have hx2 : Ext w w2 := by rw [hw2]; exact ((Ext.refl w).alloc _).alloc _
      have a0 : ∀ w', Ext w2 w' → w'.cell? ⟨w.heap.size, 0, none⟩ = some (.int .i64 kd) := fun w' h => (hA.ext h).cell 0
      have a1 : ∀ w', Ext w2 w' → w'.cell? ⟨w.heap.size, 1, none⟩ = some (.int .i64 px) := fun w' h => (hA.ext h).cell 1
      have a2 : ∀ w', Ext w2 w' → w'.cell? ⟨w.heap.size, 2, none⟩ = some (.int .i64 py) := fun w' h => (hA.ext h).cell 2
      have a3 : ∀ w', Ext w2 w' → w'.cell? ⟨w.heap.size, 3, none⟩ = some (.float .f32 sz) := fun w' h => (hA.ext h).cell 3
      have a4 : ∀ w', Ext w2 w' → w'.cell? ⟨w.heap.size, 4, none⟩ = some (.int .i64 ag) := fun w' h => (hA.ext h).cell 4
      have b0 : ∀ w', Ext w2 w' → w'.cell? ⟨w.heap.size + 1, 0, none⟩ = some (.int .i64 kd2) := fun w' h => (hB.ext h).cell 0
      have b1 : ∀ w', Ext w2 w' → w'.cell? ⟨w.heap.size + 1, 1, none⟩ = some (.int .i64 px2) := fun w' h => (hB.ext h).cell 1
      have b2 : ∀ w', Ext w2 w' → w'.cell? ⟨w.heap.size + 1, 2, none⟩ = some (.int .i64 py2) := fun w' h => (hB.ext h).cell 2
      have b3 : ∀ w', Ext w2 w' → w'.cell? ⟨w.heap.size + 1, 3, none⟩ = some (.float .f32 sz2) := fun w' h => (hB.ext h).cell 3
      have b4 : ∀ w', Ext w2 w' → w'.cell? ⟨w.heap.size + 1, 4, none⟩ = some (.int .i64 ag2) := fun w' h => (hB.ext h).cell 4
      rw [← hw2]
      clear hA hB hw2
      refine wp_region_noPanic ?_
      refine wp_region_held_drew (S := fun w' => Ext w2 w') (by kernel_rfl) ?_ (fun hHeld => ?_)
      · (repeat (first | exact Ext.refl _ | assumption | refine Ext.setCell ?_ (by first | (simp; done) | (simp; omega)) _ | refine Ext.drewN ?_ _ | refine Ext.alloc ?_ _ | refine Ext.drew ?_ | refine Ext.trans ?_ (by assumption)))
      refine wpAnyH_take (i := 0) (oi := ?o3x0) (v := ?v3x0) ?hi3x0 (by kernel_rfl) ?hf3x0 ?hr3x0 (fun _ _ _ h => h) ?hy3x0 (by assumption) ?rest3x0
      case hi3x0 => (simp only [List.getElem?_toArray, List.getElem?_cons_zero]; exact rfl)
      case hf3x0 => kernel_rfl
      case hr3x0 => kernel_rfl
      case hy3x0 => (refine Or.inl ⟨by rfl, ?_⟩; intro w hSw; (try dsimp only at hSw); go_simp; try with_reducible rfl)
      simp only [put_mk, List.set_cons_succ, List.set_cons_zero]
      refine wpAnyH_take (i := 1) (oi := ?o3x1) (v := ?v3x1) ?hi3x1 (by kernel_rfl) ?hf3x1 ?hr3x1 (fun _ _ _ h => h) ?hy3x1 (by assumption) ?rest3x1
      case hi3x1 => (simp only [List.getElem?_toArray, List.getElem?_cons_succ, List.getElem?_cons_zero]; exact rfl)
      case hf3x1 => kernel_rfl
      case hr3x1 => kernel_rfl
      case hy3x1 => (refine Or.inl ⟨by rfl, ?_⟩; intro w hSw; (try dsimp only at hSw); go_simp; try with_reducible rfl)
      simp only [put_mk, List.set_cons_succ, List.set_cons_zero]
      refine wpAnyH_take (i := 2) (oi := ?o3x2) (v := ?v3x2) ?hi3x2 (by kernel_rfl) ?hf3x2 ?hr3x2 (fun _ _ _ h => h) ?hy3x2 (by assumption) ?rest3x2
      case hi3x2 => (simp only [List.getElem?_toArray, List.getElem?_cons_succ, List.getElem?_cons_zero]; exact rfl)
      case hf3x2 => kernel_rfl
      case hr3x2 => kernel_rfl
      case hy3x2 => (refine Or.inl ⟨by rfl, ?_⟩; intro w hSw; (try dsimp only at hSw); go_simp; try with_reducible rfl)
      simp only [put_mk, List.set_cons_succ, List.set_cons_zero]
      refine wpAnyH_take (i := 3) (oi := ?o3x3) (v := ?v3x3) ?hi3x3 (by kernel_rfl) ?hf3x3 ?hr3x3 (fun _ _ _ h => h) ?hy3x3 (by assumption) ?rest3x3
      case hi3x3 => (simp only [List.getElem?_toArray, List.getElem?_cons_succ, List.getElem?_cons_zero]; exact rfl)
      case hf3x3 => kernel_rfl
      case hr3x3 => kernel_rfl
      case hy3x3 => (refine Or.inl ⟨by rfl, ?_⟩; intro w hSw; (try dsimp only at hSw); go_simp; try with_reducible rfl)
      simp only [put_mk, List.set_cons_succ, List.set_cons_zero]
      refine wpAnyH_take (i := 5) (oi := ?o3x5) (v := ?v3x5) ?hi3x5 (by kernel_rfl) ?hf3x5 ?hr3x5 (fun _ _ _ h => h) ?hy3x5 (by assumption) ?rest3x5
      case hi3x5 => (simp only [List.getElem?_toArray, List.getElem?_cons_succ, List.getElem?_cons_zero]; exact rfl)
      case hf3x5 => kernel_rfl
      case hr3x5 => kernel_rfl
      case hy3x5 => (refine Or.inl ⟨by rfl, ?_⟩; intro w hSw; (try dsimp only at hSw); go_simp; try with_reducible rfl)
      simp only [put_mk, List.set_cons_succ, List.set_cons_zero]
      refine wpAnyH_take (i := 6) (oi := ?o3x6) (v := ?v3x6) ?hi3x6 (by kernel_rfl) ?hf3x6 ?hr3x6 (fun _ _ _ h => h) ?hy3x6 (by assumption) ?rest3x6
      case hi3x6 => (simp only [List.getElem?_toArray, List.getElem?_cons_succ, List.getElem?_cons_zero]; exact rfl)
      case hf3x6 => kernel_rfl
      case hr3x6 => kernel_rfl
      case hy3x6 => (refine Or.inl ⟨by rfl, ?_⟩; intro w hSw; (try dsimp only at hSw); go_simp; try with_reducible rfl)
      simp only [put_mk, List.set_cons_succ, List.set_cons_zero]
      refine wpAnyH_take (i := 7) (oi := ?o3x7) (v := ?v3x7) ?hi3x7 (by kernel_rfl) ?hf3x7 ?hr3x7 (fun _ _ _ h => h) ?hy3x7 (by assumption) ?rest3x7
      case hi3x7 => (simp only [List.getElem?_toArray, List.getElem?_cons_succ, List.getElem?_cons_zero]; exact rfl)
      case hf3x7 => kernel_rfl
      case hr3x7 => kernel_rfl
      case hy3x7 => (refine Or.inl ⟨by rfl, ?_⟩; intro w hSw; (try dsimp only at hSw); go_simp; try with_reducible rfl)
      simp only [put_mk, List.set_cons_succ, List.set_cons_zero]
      refine wpAnyH_take (i := 8) (oi := ?o3x8) (v := ?v3x8) ?hi3x8 (by kernel_rfl) ?hf3x8 ?hr3x8 (fun _ _ _ h => h) ?hy3x8 (by assumption) ?rest3x8
      case hi3x8 => (simp only [List.getElem?_toArray, List.getElem?_cons_succ, List.getElem?_cons_zero]; exact rfl)
      case hf3x8 => kernel_rfl
      case hr3x8 => kernel_rfl
      case hy3x8 => (refine Or.inl ⟨by rfl, ?_⟩; intro w hSw; (try dsimp only at hSw); go_simp; try with_reducible rfl)
      simp only [put_mk, List.set_cons_succ, List.set_cons_zero]
      refine wpAnyH_ready (rs := [4]) (by kernel_rfl) (by simp) ?_
      refine AllReadyH.cons (o := ?o3x4) ?hi3x4 (fun K hK => ?_) AllReadyH.nil
      case hi3x4 => (simp only [List.getElem?_toArray, List.getElem?_cons_succ, List.getElem?_cons_zero]; exact rfl)
      go_simp
      refine ((HM1 _).out).mono ?_
      rintro e w6 ⟨rfl, hb6⟩
      refine hK.out _ _ ?_ (fun hHeld => ?_)
      · (repeat (first | exact Ext.refl _ | assumption | refine Ext.setCell ?_ (by first | (simp; done) | (simp; omega)) _ | refine Ext.drewN ?_ _ | refine Ext.alloc ?_ _ | refine Ext.drew ?_ | refine Ext.trans ?_ (by assumption)))
      clear hK K
      refine wpAnyH_ready (rs := [9]) (by kernel_rfl) (by simp) ?_
      refine AllReadyH.cons (o := ?o3x9) ?hi3x9 (fun K hK => ?_) AllReadyH.nil
      case hi3x9 => (simp only [List.getElem?_toArray, List.getElem?_cons_succ, List.getElem?_cons_zero]; exact rfl)
      go_simp
      refine ((HM2 _).out).mono ?_
      rintro e w6 ⟨rfl, hb6⟩
      refine hK.out _ _ ?_ (fun hHeld => ?_)
      · (repeat (first | exact Ext.refl _ | assumption | refine Ext.setCell ?_ (by first | (simp; done) | (simp; omega)) _ | refine Ext.drewN ?_ _ | refine Ext.alloc ?_ _ | refine Ext.drew ?_ | refine Ext.trans ?_ (by assumption)))
      clear hK K
      refine wpAnyH_take (i := 10) (oi := ?o3x10) (v := ?v3x10) ?hi3x10 (by kernel_rfl) ?hf3x10 ?hr3x10 (fun _ _ _ h => h) ?hy3x10 (by assumption) ?rest3x10
      case hi3x10 => (simp only [List.getElem?_toArray, List.getElem?_cons_succ, List.getElem?_cons_zero]; exact rfl)
      case hf3x10 => kernel_rfl
      case hr3x10 => kernel_rfl
      case hy3x10 => (refine Or.inl ⟨by rfl, ?_⟩; intro w hSw; (try dsimp only at hSw); go_simp; try with_reducible rfl)
      simp only [put_mk, List.set_cons_succ, List.set_cons_zero]
      refine wpAnyH_take (i := 11) (oi := ?o3x11) (v := ?v3x11) ?hi3x11 (by kernel_rfl) ?hf3x11 ?hr3x11 (fun _ _ _ h => h) ?hy3x11 (by assumption) ?rest3x11
      case hi3x11 => (simp only [List.getElem?_toArray, List.getElem?_cons_succ, List.getElem?_cons_zero]; exact rfl)
      case hf3x11 => kernel_rfl
      case hr3x11 => kernel_rfl
      case hy3x11 => (refine Or.inl ⟨by rfl, ?_⟩; intro w hSw; (try dsimp only at hSw); go_simp; try with_reducible rfl)
      simp only [put_mk, List.set_cons_succ, List.set_cons_zero]
      refine wpAnyH_done (by kernel_rfl) ?_ _
      refine NoPanic.normal ?_
      have hag := Hag.out
      by_cases hh : h1 = h2
      · have C2 : (h1 != h2) = false := by simpa using hh
        have e : r = ah := by
          rw [Bool.eq_iff_iff]
          constructor
          · intro hr
            cases hah : ah
            · have := Hn.out (by rw [hah]; simp; omega)
              rw [this] at hr
              cases hr
            · rfl
          · intro hah
            exact Hy.out (.inr ⟨h, .inr ⟨hag, .inr ⟨hh, hah⟩⟩⟩)
        have e := hidA e
        clear Hy Hn hag hh h HM1 HM2
        go_wp2_with fail
        refine ((HAh _).out).mono ?_
        rintro e w6 ⟨rfl, hb6⟩
        go_wp2_with fail
        go_ret
        exact ⟨ret_b (Eq.symm (by assumption : Hid _).out), hx2.trans (by repeat (first | exact Ext.refl _ | assumption | refine Ext.setCell ?_ (by first | (simp; done) | (simp; omega)) _ | refine Ext.drewN ?_ _ | refine Ext.alloc ?_ _ | refine Ext.drew ?_ | refine Ext.trans ?_ (by assumption)))⟩
      · have C2 : (h1 != h2) = true := by simpa using hh
        have e : r = decide (h1 < h2) := by
          rw [Bool.eq_iff_iff]
          constructor
          · intro hr
            by_cases hlt : h1 < h2
            · simpa using hlt
            · have := Hn.out (by rintro (q | ⟨_, q | ⟨_, q | ⟨q, _⟩⟩⟩) <;> omega)
              rw [this] at hr
              cases hr
          · intro hlt
            exact Hy.out (.inr ⟨h, .inr ⟨hag, .inl (by simpa using hlt)⟩⟩)
        have e := hidA e
        clear Hy Hn hag hh h HM1 HM2 HAh
        go_wp2_with fail
        go_ret
        exact ⟨ret_b (Eq.symm (by assumption : Hid _).out), hx2.trans (by repeat (first | exact Ext.refl _ | assumption | refine Ext.setCell ?_ (by first | (simp; done) | (simp; omega)) _ | refine Ext.drewN ?_ _ | refine Ext.alloc ?_ _ | refine Ext.drew ?_ | refine Ext.trans ?_ (by assumption)))⟩
    · have C1 : (ag != ag2) = true := by simpa using hag
      have e : r = decide (ag2 < ag) := by
        rw [Bool.eq_iff_iff]
        constructor
        · intro hr
          by_cases hlt : ag2 < ag
          · simpa using hlt
          · have := Hn.out (by rintro (q | ⟨_, q | ⟨q, _⟩⟩) <;> omega)
            rw [this] at hr
            cases hr
        · intro hlt
          exact Hy.out (.inr ⟨h, .inl (by simpa using hlt)⟩)
      have e := hidA e
      clear ho hc Hy Hn HM1 HM2 HAh h hag
      go_enter Tryd.func58, Tryd.ntmps58
      go_wp2_with fail
      go_ret
      exact ⟨ret_b e.out.symm, (by repeat (first | exact Ext.refl _ | assumption | refine Ext.setCell ?_ (by first | (simp; done) | (simp; omega)) _ | refine Ext.drewN ?_ _ | refine Ext.alloc ?_ _ | refine Ext.drew ?_ | refine Ext.trans ?_ (by assumption)))⟩
  · have C0 : FloatKind.f32.format.order sz sz2 = some .gt := by rw [ord_def, ho, hc, if_neg (by omega), if_neg (by omega)]
    have e := hidA (Hy.out (.inl h))
    clear ho hc Hy Hn HM1 HM2 HAh h
    go_enter Tryd.func58, Tryd.ntmps58
    go_wp2_with fail
    go_ret
    exact ⟨ret_b e.out.symm, (by repeat (first | exact Ext.refl _ | assumption | refine Ext.setCell ?_ (by first | (simp; done) | (simp; omega)) _ | refine Ext.drewN ?_ _ | refine Ext.alloc ?_ _ | refine Ext.drew ?_ | refine Ext.trans ?_ (by assumption)))⟩
end Go.Proofs.YtgaonoklbihkjaaDoor
