/- Contract: plant.Nearest. -/
import Derived.Test.YtgaonoklbihkjaaDoorCrowdB
import Derived.Deep.RegionLawGrows
import Derived.Lib.SmallJoins
import Derived.Deep.DeepCutAuto
import Derived.Deep.AppendLies
namespace Go.Proofs.YtgaonoklbihkjaaDoor
open Go.RowKit
attribute [local go_sem ↓] Go.wp_at_zero Go.wp_at_succ
attribute [local go_sem] run_store_float

theorem infoPlant : (Tryd.prog.info? 46).map (fun i => (i.zero, i.size, i.bytes)) = some (some (.agg #[.int .i64 0, .int .i64 0, .int .i64 0, .float .f32 0, .int .i64 0]), 5, 40) := by kernel_rfl
def sqAt (p : List PlantR) (z : PlantR) (k : Nat) : Nat := sqD (p.getD k z) z
def nearK (p : List PlantR) (z : PlantR) : Nat → Nat
  | 0 => 0
  | k + 1 => if sqAt p z k < sqAt p z (nearK p z k) then k else nearK p z k
theorem nearK_lt (p : List PlantR) (z : PlantR) : ∀ k, 0 < k → nearK p z k < k
  | 0, h => absurd h (by omega)
  | 1, _ => by
    unfold nearK
    split <;> simp [nearK]
  | k + 2, _ => by
    have := nearK_lt p z (k + 1) (by omega)
    rw [nearK]
    split <;> omega
def nearV (p : List PlantR) (z : PlantR) (m : Nat) : Int := if z.farB = true then 0 else nearK p z m
def nearE (z : PlantR) : Int := if z.farB = true then 5 else 0
theorem nearV_far {p : List PlantR} {z : PlantR} {m : Nat} (h : z.farB = true) : nearV p z m = 0 := if_pos h
theorem nearE_far {z : PlantR} (h : z.farB = true) : nearE z = 5 := if_pos h
theorem nearV_in {p : List PlantR} {z : PlantR} {m : Nat} (h : z.farB = false) : nearV p z m = nearK p z m := if_neg (by rw [h]; decide)
theorem nearE_in {z : PlantR} (h : z.farB = false) : nearE z = 0 := if_neg (by rw [h]; decide)
def spot (x y : Int) : PlantR := ⟨0, x, y, 0, 0⟩

theorem Rd.reads {w : World} {ad : Addr} {xs : List Value} (h : Rd w (some ad) xs) : ∀ j u, xs[j]? = some u → w.cell? (ad.add j) = some u := fun j u hu => by
  obtain ⟨ad', e, _, hc⟩ := h (by rintro e; rw [e] at hu; simp at hu)
  injection e with e
  subst e
  exact hc j u hu
theorem cells_one (a : PlantR) : ∀ u ∈ a.cells, u.oneCell' = true := by
  intro u hu
  simp [PlantR.cells] at hu
  rcases hu with rfl | rfl | rfl | rfl | rfl <;> rfl
theorem pcells_snoc (p : List PlantR) (a : PlantR) : pcells (p ++ [a]) = pcells p ++ a.cells := by
  unfold pcells
  rw [List.flatMap_append]
  simp
theorem pcells_one (p : List PlantR) : ∀ u ∈ pcells p, u.oneCell' = true := by
  intro u hu
  obtain ⟨a, _, h⟩ := List.mem_flatMap.1 hu
  exact cells_one a u h

set_option maxRecDepth 100000 in
set_option maxHeartbeats 3200000 in
theorem Nearest_some (B : Option Addr) (m d : Nat) (p : List PlantR) (x y : Int) (w : World) (hm : p.length = m) (hp : Rd w B (pcells p)) (h4 : m ≤ 4000) (hmd : m ≤ d) (h1 : 0 < m) (hf : ∀ a ∈ p, a.farB = false) :
    Calls Tryd.prog 17 #[.slice B m d, .agg #[.int .i64 x, .int .i64 y]] w fun e w' => e = .returned (.tuple #[.int .i64 (nearV p (spot x y) m), .int .i64 (nearE (spot x y))]) ∧ Ext w w' := by
  obtain ⟨ad, rfl, hbk, _⟩ := hp.at (k := 0) (by rw [pcells_length]; omega)
  have hpl := hidA (show (pcells p).length = m * 5 by rw [pcells_length, hm])
  have hpc : ∀ w', Ext w w' → Hid (∀ j u, (pcells p)[j]? = some u → w'.cell? (ad.add j) = some u) := fun w' h j u hu => by
    obtain ⟨ad', e, _, hc⟩ := (hp.ext h) (by rintro e; rw [e] at hu; simp at hu)
    injection e with e
    subst e
    exact hc j u hu
  obtain ⟨i0, hi0, hz0, hz1, hz2⟩ := info_parts infoPlant
  have z1 := cells_one (spot x y)
  have zz : ∀ u ∈ pcells p ++ (spot x y).cells, u.oneCell' = true := fun u hu => (List.mem_append.1 hu).elim (pcells_one p u) (z1 u)
  have Hf := hidA hf
  have Hm := hidA hm
  clear hf hm
  go_enter Tryd.func17, Tryd.ntmps17
  go_upto_region 5 with fail
  obtain ⟨w1, hw1⟩ : ∃ w1, w1 = w.alloc (.cells #[.int .i64 x, .int .i64 y] 36) := ⟨_, rfl⟩
  rw [← hw1]
  have hX : Bk w1 w.heap.size 36 #[.int .i64 x, .int .i64 y] := by rw [hw1]; exact Bk.new' rfl
  have hx1 : Ext w w1 := by rw [hw1]; exact (Ext.refl w).alloc _
  have hs1 : w.heap.size < w1.heap.size := hX.lt
  clear hw1
  have p0 : ∀ w', Ext w1 w' → w'.cell? ⟨w.heap.size, 0, none⟩ = some (.int .i64 x) := fun w' h => (hX.ext h).cell 0
  have p1 : ∀ w', Ext w1 w' → w'.cell? ⟨w.heap.size, 1, none⟩ = some (.int .i64 y) := fun w' h => (hX.ext h).cell 1
  go_cut [12, 34, 35, 36] (fun _ s34 s35 s36 wx => ∃ g cap, s34 = Value.slice (some ⟨g, 0, none⟩) (m + 1) cap ∧ s35 = Value.int .i64 ((m : Int) + 1) ∧ s36 = Value.int .i64 0 ∧ Rd wx (some ⟨g, 0, none⟩) (pcells (p ++ [spot x y])) ∧ Ext w1 wx)
  case first =>
    refine wp_region_noPanic ?_
    refine wp_region_held_drew (S := fun w' => Ext w1 w') (by kernel_rfl) ?_ (fun hHeld => ?_)
    · (repeat (first | exact Ext.refl _ | assumption | refine Ext.setCell ?_ (by first | (simp; done) | (simp; omega)) _ | refine Ext.drewN ?_ _ | refine Ext.alloc ?_ _ | refine Ext.drew ?_ | refine Ext.trans ?_ (by assumption)))
    refine wpAnyH_take (i := 1) (oi := ?o2x1) (v := ?v2x1) ?hi2x1 (by kernel_rfl) ?hf2x1 ?hr2x1 (fun _ _ _ h => h) ?hy2x1 (by assumption) ?rest2x1
    case hi2x1 => (simp only [List.getElem?_toArray, List.getElem?_cons_succ, List.getElem?_cons_zero]; exact rfl)
    case hf2x1 => kernel_rfl
    case hr2x1 => kernel_rfl
    case hy2x1 => (refine Or.inl ⟨by rfl, ?_⟩; intro w hSw; (try dsimp only at hSw); go_simp; try with_reducible rfl)
    simp only [put_mk, List.set_cons_succ, List.set_cons_zero]
    refine wpAnyH_take (i := 2) (oi := ?o3x2) (v := ?v3x2) ?hi3x2 (by kernel_rfl) ?hf3x2 ?hr3x2 (fun _ _ _ h => h) ?hy3x2 (by assumption) ?rest3x2
    case hi3x2 => (simp only [List.getElem?_toArray, List.getElem?_cons_succ, List.getElem?_cons_zero]; exact rfl)
    case hf3x2 => kernel_rfl
    case hr3x2 => kernel_rfl
    case hy3x2 => (refine Or.inl ⟨by rfl, ?_⟩; intro w hSw; (try dsimp only at hSw); go_simp; try with_reducible rfl)
    simp only [put_mk, List.set_cons_succ, List.set_cons_zero]
    refine wpAnyH_take (i := 3) (oi := ?o4x3) (v := ?v4x3) ?hi4x3 (by kernel_rfl) ?hf4x3 ?hr4x3 (fun _ _ _ h => h) ?hy4x3 (by assumption) ?rest4x3
    case hi4x3 => (simp only [List.getElem?_toArray, List.getElem?_cons_succ, List.getElem?_cons_zero]; exact rfl)
    case hf4x3 => kernel_rfl
    case hr4x3 => kernel_rfl
    case hy4x3 => (refine Or.inl ⟨by rfl, ?_⟩; intro w hSw; (try dsimp only at hSw); go_simp; try with_reducible rfl)
    simp only [put_mk, List.set_cons_succ, List.set_cons_zero]
    refine wpAnyH_take (i := 4) (oi := ?o5x4) (v := ?v5x4) ?hi5x4 (by kernel_rfl) ?hf5x4 ?hr5x4 (fun _ _ _ h => h) ?hy5x4 (by assumption) ?rest5x4
    case hi5x4 => (simp only [List.getElem?_toArray, List.getElem?_cons_succ, List.getElem?_cons_zero]; exact rfl)
    case hf5x4 => kernel_rfl
    case hr5x4 => kernel_rfl
    case hy5x4 => (refine Or.inl ⟨by rfl, ?_⟩; intro w hSw; (try dsimp only at hSw); go_simp; try with_reducible rfl)
    simp only [put_mk, List.set_cons_succ, List.set_cons_zero]
    refine wpAnyH_take (i := 5) (oi := ?o6x5) (v := ?v6x5) ?hi6x5 (by kernel_rfl) ?hf6x5 ?hr6x5 (fun _ _ _ h => h) ?hy6x5 (by assumption) ?rest6x5
    case hi6x5 => (simp only [List.getElem?_toArray, List.getElem?_cons_succ, List.getElem?_cons_zero]; exact rfl)
    case hf6x5 => kernel_rfl
    case hr6x5 => kernel_rfl
    case hy6x5 => (refine Or.inl ⟨by rfl, ?_⟩; intro w hSw; (try dsimp only at hSw); go_simp; try with_reducible rfl)
    simp only [put_mk, List.set_cons_succ, List.set_cons_zero]
    refine wpAnyH_take (i := 6) (oi := ?o7x6) (v := ?v7x6) ?hi7x6 (by kernel_rfl) ?hf7x6 ?hr7x6 (fun _ _ _ h => h) ?hy7x6 (by assumption) ?rest7x6
    case hi7x6 => (simp only [List.getElem?_toArray, List.getElem?_cons_succ, List.getElem?_cons_zero]; exact rfl)
    case hf7x6 => kernel_rfl
    case hr7x6 => kernel_rfl
    case hy7x6 => (refine Or.inl ⟨by rfl, ?_⟩; intro w hSw; (try dsimp only at hSw); go_simp; try with_reducible rfl)
    simp only [put_mk, List.set_cons_succ, List.set_cons_zero]
    refine wpAnyH_take (i := 7) (oi := ?o8x7) (v := ?v8x7) ?hi8x7 (by kernel_rfl) ?hf8x7 ?hr8x7 (fun _ _ _ h => h) ?hy8x7 (by assumption) ?rest8x7
    case hi8x7 => (simp only [List.getElem?_toArray, List.getElem?_cons_succ, List.getElem?_cons_zero]; exact rfl)
    case hf8x7 => kernel_rfl
    case hr8x7 => kernel_rfl
    case hy8x7 => (refine Or.inl ⟨by rfl, ?_⟩; intro w hSw; (try dsimp only at hSw); go_simp; try with_reducible rfl)
    simp only [put_mk, List.set_cons_succ, List.set_cons_zero]
    refine wpAnyH_take (i := 8) (oi := ?o9x8) (v := ?v9x8) ?hi9x8 (by kernel_rfl) ?hf9x8 ?hr9x8 (fun _ _ _ h => h) ?hy9x8 (by assumption) ?rest9x8
    case hi9x8 => (simp only [List.getElem?_toArray, List.getElem?_cons_succ, List.getElem?_cons_zero]; exact rfl)
    case hf9x8 => kernel_rfl
    case hr9x8 => kernel_rfl
    case hy9x8 => (refine Or.inl ⟨by rfl, ?_⟩; intro w hSw; (try dsimp only at hSw); go_simp; try with_reducible rfl)
    simp only [put_mk, List.set_cons_succ, List.set_cons_zero]
    refine wpAnyH_take (i := 9) (oi := ?o10x9) (v := ?v10x9) ?hi10x9 (by kernel_rfl) ?hf10x9 ?hr10x9 (fun _ _ _ h => h) ?hy10x9 (by assumption) ?rest10x9
    case hi10x9 => (simp only [List.getElem?_toArray, List.getElem?_cons_succ, List.getElem?_cons_zero]; exact rfl)
    case hf10x9 => kernel_rfl
    case hr10x9 => kernel_rfl
    case hy10x9 => (refine Or.inl ⟨by rfl, ?_⟩; intro w hSw; (try dsimp only at hSw); go_simp; try with_reducible rfl)
    simp only [put_mk, List.set_cons_succ, List.set_cons_zero]
    refine wpAnyH_take (i := 10) (oi := ?o11x10) (v := ?v11x10) ?hi11x10 (by kernel_rfl) ?hf11x10 ?hr11x10 (fun _ _ _ h => h) ?hy11x10 (by assumption) ?rest11x10
    case hi11x10 => (simp only [List.getElem?_toArray, List.getElem?_cons_succ, List.getElem?_cons_zero]; exact rfl)
    case hf11x10 => kernel_rfl
    case hr11x10 => kernel_rfl
    case hy11x10 => (refine Or.inl ⟨by rfl, ?_⟩; intro w hSw; (try dsimp only at hSw); go_simp; try with_reducible rfl)
    simp only [put_mk, List.set_cons_succ, List.set_cons_zero]
    refine wpAnyH_take (i := 11) (oi := ?o12x11) (v := ?v12x11) ?hi12x11 (by kernel_rfl) ?hf12x11 ?hr12x11 (fun _ _ _ h => h) ?hy12x11 (by assumption) ?rest12x11
    case hi12x11 => (simp only [List.getElem?_toArray, List.getElem?_cons_succ, List.getElem?_cons_zero]; exact rfl)
    case hf12x11 => kernel_rfl
    case hr12x11 => kernel_rfl
    case hy12x11 => (refine Or.inl ⟨by rfl, ?_⟩; intro w hSw; (try dsimp only at hSw); go_simp; try with_reducible rfl)
    simp only [put_mk, List.set_cons_succ, List.set_cons_zero]
    refine wpAnyH_take (i := 16) (oi := ?o13x16) (v := ?v13x16) ?hi13x16 (by kernel_rfl) ?hf13x16 ?hr13x16 (fun _ _ _ h => h) ?hy13x16 (by assumption) ?rest13x16
    case hi13x16 => (simp only [List.getElem?_toArray, List.getElem?_cons_succ, List.getElem?_cons_zero]; exact rfl)
    case hf13x16 => kernel_rfl
    case hr13x16 => kernel_rfl
    case hy13x16 => (refine Or.inl ⟨by rfl, ?_⟩; intro w hSw; (try dsimp only at hSw); go_simp; try with_reducible rfl)
    simp only [put_mk, List.set_cons_succ, List.set_cons_zero]
    refine wpAnyH_ready (rs := [0, 12]) (by kernel_rfl) (by simp) ?_
    refine (AllReadyH.cons (o := ?o14x0) ?hi14x0 (fun K hK => ?_) (AllReadyH.cons (o := ?o14x12) ?hi14x12 (fun K hK => ?_) AllReadyH.nil))
    case hi14x0 => (simp only [List.getElem?_toArray, List.getElem?_cons_zero]; exact rfl)
    case hi14x12 => (simp only [List.getElem?_toArray, List.getElem?_cons_succ, List.getElem?_cons_zero]; exact rfl)
    · go_simp
      refine hK.out _ _ ?_ (fun hHeld => ?_)
      · (repeat (first | exact Ext.refl _ | assumption | refine Ext.setCell ?_ (by first | (simp; done) | (simp; omega)) _ | refine Ext.drewN ?_ _ | refine Ext.alloc ?_ _ | refine Ext.drew ?_ | refine Ext.trans ?_ (by assumption)))
      clear hK K
      refine wpAnyH_ready (rs := [12]) (by kernel_rfl) (by simp) ?_
      refine AllReadyH.cons (o := ?o15x12) ?hi15x12 (fun K hK => ?_) AllReadyH.nil
      case hi15x12 => (simp only [List.getElem?_toArray, List.getElem?_cons_succ, List.getElem?_cons_zero]; exact rfl)
      go_simp
      refine hK.out _ _ ?_ (fun hHeld => ?_)
      · (repeat (first | exact Ext.refl _ | assumption | refine Ext.setCell ?_ (by first | (simp; done) | (simp; omega)) _ | refine Ext.drewN ?_ _ | refine Ext.alloc ?_ _ | refine Ext.drew ?_ | refine Ext.trans ?_ (by assumption)))
      clear hK K
      refine wpAnyH_ready (rs := [13]) (by kernel_rfl) (by simp) ?_
      refine AllReadyH.cons (o := ?o16x13) ?hi16x13 (fun K hK => ?_) AllReadyH.nil
      case hi16x13 => (simp only [List.getElem?_toArray, List.getElem?_cons_succ, List.getElem?_cons_zero]; exact rfl)
      refine step_append_grows rfl (.tmp 26) (.tmp 32) 23 rfl 46 i0 _ 5 40 Tryd.underlying23 hi0 hz0 hz1 hz2 (by rfl) (by decide) (some ad) m m (pcells p) (by rfl) (by intro h; cases h) hpl.out (by intro b hb; injection hb with hb; subst hb; exact (hpc _ (by repeat (first | exact Ext.refl _ | assumption | refine Ext.setCell ?_ (by first | (simp; done) | (simp; omega)) _ | refine Ext.drewN ?_ _ | refine Ext.alloc ?_ _ | refine Ext.drew ?_ | refine Ext.trans ?_ (by assumption)))).out) ⟨w1.heap.size + 1, 0, none⟩ 1 1 (spot x y).cells (by rfl) (by rfl) (World.news_of_block (cs := (spot x y).cells.toArray) (t := 46) (fr := (0, 0)) ?_) z1 (by omega) (by unfold maxLen; omega) (by omega) ?_
      · first | exact (Bk.new' (by simp)).drew | exact ((Below.heap_alloc _ _ _ (by simp)).trans (heap_alloc_new _ _)) | exact Bk.new' (by simp) | exact (Below.heap_alloc _ _ _ (by simp)).trans (heap_alloc_new _ _)
      intro v13 w13 hown1 hgr1
      obtain ⟨g1, cap1, rfl, _, hgb1⟩ := World.ownsRow.form hown1 (by omega)
      have hx13 := ext_grown hgr1
      have hr13 := Rd.of_own hown1
      clear hown1 hgr1
      refine hK.out _ _ ?_ (fun hHeld => ?_)
      · (repeat (first | exact Ext.refl _ | assumption | refine Ext.setCell ?_ (by first | (simp; done) | (simp; omega)) _ | refine Ext.drewN ?_ _ | refine Ext.alloc ?_ _ | refine Ext.drew ?_ | refine Ext.trans ?_ (by assumption)))
      clear hK K
      simp only [put_mk, List.set_cons_succ, List.set_cons_zero]
      refine wpAnyH_ready (rs := [14]) (by kernel_rfl) (by simp) ?_
      refine AllReadyH.cons (o := ?o17x14) ?hi17x14 (fun K hK => ?_) AllReadyH.nil
      case hi17x14 => (simp only [List.getElem?_toArray, List.getElem?_cons_succ, List.getElem?_cons_zero]; exact rfl)
      refine step_append_grows rfl (.tmp 20) (.tmp 33) 23 rfl 46 i0 _ 5 40 Tryd.underlying23 hi0 hz0 hz1 hz2 (by rfl) (by decide) (some ⟨w1.heap.size, 0, none⟩) 0 0 [] (by rfl) (by intro h; cases h) rfl (by intro b hb j u hu; cases hu) ⟨g1, 0, none⟩ (m + 1) cap1 (pcells p ++ (spot x y).cells) (by rfl) (by rw [List.length_append, hpl.out]; show m * 5 + 5 = _; omega) (hr13.ext (by repeat (first | exact Ext.refl _ | assumption | refine Ext.setCell ?_ (by first | (simp; done) | (simp; omega)) _ | refine Ext.drewN ?_ _ | refine Ext.alloc ?_ _ | refine Ext.drew ?_ | refine Ext.trans ?_ (by assumption)))).reads zz (by omega) (by unfold maxLen; omega) (by omega) ?_
      intro v14 w14 hown2 hgr2
      rw [Nat.zero_add, List.nil_append] at hown2
      obtain ⟨g2, cap2, rfl, _, hgb2⟩ := World.ownsRow.form hown2 (by omega)
      have hx14 := ext_grown hgr2
      have hr14 := Rd.of_own hown2
      clear hown2 hgr2
      refine hK.out _ _ ?_ (fun hHeld => ?_)
      · (repeat (first | exact Ext.refl _ | assumption | refine Ext.setCell ?_ (by first | (simp; done) | (simp; omega)) _ | refine Ext.drewN ?_ _ | refine Ext.alloc ?_ _ | refine Ext.drew ?_ | refine Ext.trans ?_ (by assumption)))
      clear hK K
      simp only [put_mk, List.set_cons_succ, List.set_cons_zero]
      refine wpAnyH_take (i := 15) (oi := ?o18x15) (v := ?v18x15) ?hi18x15 (by kernel_rfl) ?hf18x15 ?hr18x15 (fun _ _ _ h => h) ?hy18x15 (by assumption) ?rest18x15
      case hi18x15 => (simp only [List.getElem?_toArray, List.getElem?_cons_succ, List.getElem?_cons_zero]; exact rfl)
      case hf18x15 => kernel_rfl
      case hr18x15 => kernel_rfl
      case hy18x15 => (refine Or.inl ⟨by rfl, ?_⟩; intro w hSw; (try dsimp only at hSw); go_simp; try with_reducible rfl)
      simp only [put_mk, List.set_cons_succ, List.set_cons_zero]
      refine wpAnyH_done (by kernel_rfl) ?_ _
      refine NoPanic.normal ?_
      go_wp2_with fail
      go_meet
      case rel => exact ⟨g2, cap2, rfl, by first | rfl | go_num, rfl, by rw [pcells_snoc]; exact hr14, (by repeat (first | exact Ext.refl _ | assumption | refine Ext.setCell ?_ (by first | (simp; done) | (simp; omega)) _ | refine Ext.drewN ?_ _ | refine Ext.alloc ?_ _ | refine Ext.drew ?_ | refine Ext.trans ?_ (by assumption)))⟩
    · go_simp
      refine hK.out _ _ ?_ (fun hHeld => ?_)
      · (repeat (first | exact Ext.refl _ | assumption | refine Ext.setCell ?_ (by first | (simp; done) | (simp; omega)) _ | refine Ext.drewN ?_ _ | refine Ext.alloc ?_ _ | refine Ext.drew ?_ | refine Ext.trans ?_ (by assumption)))
      clear hK K
      refine wpAnyH_ready (rs := [0, 13]) (by kernel_rfl) (by simp) ?_
      refine (AllReadyH.cons (o := ?o19x0) ?hi19x0 (fun K hK => ?_) (AllReadyH.cons (o := ?o19x13) ?hi19x13 (fun K hK => ?_) AllReadyH.nil))
      case hi19x0 => (simp only [List.getElem?_toArray, List.getElem?_cons_zero]; exact rfl)
      case hi19x13 => (simp only [List.getElem?_toArray, List.getElem?_cons_succ, List.getElem?_cons_zero]; exact rfl)
      · go_simp
        refine hK.out _ _ ?_ (fun hHeld => ?_)
        · (repeat (first | exact Ext.refl _ | assumption | refine Ext.setCell ?_ (by first | (simp; done) | (simp; omega)) _ | refine Ext.drewN ?_ _ | refine Ext.alloc ?_ _ | refine Ext.drew ?_ | refine Ext.trans ?_ (by assumption)))
        clear hK K
        refine wpAnyH_ready (rs := [13]) (by kernel_rfl) (by simp) ?_
        refine AllReadyH.cons (o := ?o20x13) ?hi20x13 (fun K hK => ?_) AllReadyH.nil
        case hi20x13 => (simp only [List.getElem?_toArray, List.getElem?_cons_succ, List.getElem?_cons_zero]; exact rfl)
        refine step_append_grows rfl (.tmp 26) (.tmp 32) 23 rfl 46 i0 _ 5 40 Tryd.underlying23 hi0 hz0 hz1 hz2 (by rfl) (by decide) (some ad) m m (pcells p) (by rfl) (by intro h; cases h) hpl.out (by intro b hb; injection hb with hb; subst hb; exact (hpc _ (by repeat (first | exact Ext.refl _ | assumption | refine Ext.setCell ?_ (by first | (simp; done) | (simp; omega)) _ | refine Ext.drewN ?_ _ | refine Ext.alloc ?_ _ | refine Ext.drew ?_ | refine Ext.trans ?_ (by assumption)))).out) ⟨w1.heap.size, 0, none⟩ 1 1 (spot x y).cells (by rfl) (by rfl) (World.news_of_block (cs := (spot x y).cells.toArray) (t := 46) (fr := (0, 0)) ?_) z1 (by omega) (by unfold maxLen; omega) (by omega) ?_
        · first | exact (Bk.new' (by simp)).drew | exact ((Below.heap_alloc _ _ _ (by simp)).trans (heap_alloc_new _ _)) | exact Bk.new' (by simp) | exact (Below.heap_alloc _ _ _ (by simp)).trans (heap_alloc_new _ _)
        intro v13 w13 hown1 hgr1
        obtain ⟨g1, cap1, rfl, _, hgb1⟩ := World.ownsRow.form hown1 (by omega)
        have hx13 := ext_grown hgr1
        have hr13 := Rd.of_own hown1
        clear hown1 hgr1
        refine hK.out _ _ ?_ (fun hHeld => ?_)
        · (repeat (first | exact Ext.refl _ | assumption | refine Ext.setCell ?_ (by first | (simp; done) | (simp; omega)) _ | refine Ext.drewN ?_ _ | refine Ext.alloc ?_ _ | refine Ext.drew ?_ | refine Ext.trans ?_ (by assumption)))
        clear hK K
        simp only [put_mk, List.set_cons_succ, List.set_cons_zero]
        refine wpAnyH_ready (rs := [14]) (by kernel_rfl) (by simp) ?_
        refine AllReadyH.cons (o := ?o21x14) ?hi21x14 (fun K hK => ?_) AllReadyH.nil
        case hi21x14 => (simp only [List.getElem?_toArray, List.getElem?_cons_succ, List.getElem?_cons_zero]; exact rfl)
        refine step_append_grows rfl (.tmp 20) (.tmp 33) 23 rfl 46 i0 _ 5 40 Tryd.underlying23 hi0 hz0 hz1 hz2 (by rfl) (by decide) (some ⟨w1.heap.size + 1, 0, none⟩) 0 0 [] (by rfl) (by intro h; cases h) rfl (by intro b hb j u hu; cases hu) ⟨g1, 0, none⟩ (m + 1) cap1 (pcells p ++ (spot x y).cells) (by rfl) (by rw [List.length_append, hpl.out]; show m * 5 + 5 = _; omega) (hr13.ext (by repeat (first | exact Ext.refl _ | assumption | refine Ext.setCell ?_ (by first | (simp; done) | (simp; omega)) _ | refine Ext.drewN ?_ _ | refine Ext.alloc ?_ _ | refine Ext.drew ?_ | refine Ext.trans ?_ (by assumption)))).reads zz (by omega) (by unfold maxLen; omega) (by omega) ?_
        intro v14 w14 hown2 hgr2
        rw [Nat.zero_add, List.nil_append] at hown2
        obtain ⟨g2, cap2, rfl, _, hgb2⟩ := World.ownsRow.form hown2 (by omega)
        have hx14 := ext_grown hgr2
        have hr14 := Rd.of_own hown2
        clear hown2 hgr2
        refine hK.out _ _ ?_ (fun hHeld => ?_)
        · (repeat (first | exact Ext.refl _ | assumption | refine Ext.setCell ?_ (by first | (simp; done) | (simp; omega)) _ | refine Ext.drewN ?_ _ | refine Ext.alloc ?_ _ | refine Ext.drew ?_ | refine Ext.trans ?_ (by assumption)))
        clear hK K
        simp only [put_mk, List.set_cons_succ, List.set_cons_zero]
        refine wpAnyH_take (i := 15) (oi := ?o22x15) (v := ?v22x15) ?hi22x15 (by kernel_rfl) ?hf22x15 ?hr22x15 (fun _ _ _ h => h) ?hy22x15 (by assumption) ?rest22x15
        case hi22x15 => (simp only [List.getElem?_toArray, List.getElem?_cons_succ, List.getElem?_cons_zero]; exact rfl)
        case hf22x15 => kernel_rfl
        case hr22x15 => kernel_rfl
        case hy22x15 => (refine Or.inl ⟨by rfl, ?_⟩; intro w hSw; (try dsimp only at hSw); go_simp; try with_reducible rfl)
        simp only [put_mk, List.set_cons_succ, List.set_cons_zero]
        refine wpAnyH_done (by kernel_rfl) ?_ _
        refine NoPanic.normal ?_
        go_wp2_with fail
        go_meet
        case rel => exact ⟨g2, cap2, rfl, by first | rfl | go_num, rfl, by rw [pcells_snoc]; exact hr14, (by repeat (first | exact Ext.refl _ | assumption | refine Ext.setCell ?_ (by first | (simp; done) | (simp; omega)) _ | refine Ext.drewN ?_ _ | refine Ext.alloc ?_ _ | refine Ext.drew ?_ | refine Ext.trans ?_ (by assumption)))⟩
      · refine step_append_grows rfl (.tmp 26) (.tmp 32) 23 rfl 46 i0 _ 5 40 Tryd.underlying23 hi0 hz0 hz1 hz2 (by rfl) (by decide) (some ad) m m (pcells p) (by rfl) (by intro h; cases h) hpl.out (by intro b hb; injection hb with hb; subst hb; exact (hpc _ (by repeat (first | exact Ext.refl _ | assumption | refine Ext.setCell ?_ (by first | (simp; done) | (simp; omega)) _ | refine Ext.drewN ?_ _ | refine Ext.alloc ?_ _ | refine Ext.drew ?_ | refine Ext.trans ?_ (by assumption)))).out) ⟨w1.heap.size, 0, none⟩ 1 1 (spot x y).cells (by rfl) (by rfl) (World.news_of_block (cs := (spot x y).cells.toArray) (t := 46) (fr := (0, 0)) ?_) z1 (by omega) (by unfold maxLen; omega) (by omega) ?_
        · first | exact (Bk.new' (by simp)).drew | exact ((Below.heap_alloc _ _ _ (by simp)).trans (heap_alloc_new _ _)) | exact Bk.new' (by simp) | exact (Below.heap_alloc _ _ _ (by simp)).trans (heap_alloc_new _ _)
        intro v13 w13 hown1 hgr1
        obtain ⟨g1, cap1, rfl, _, hgb1⟩ := World.ownsRow.form hown1 (by omega)
        have hx13 := ext_grown hgr1
        have hr13 := Rd.of_own hown1
        clear hown1 hgr1
        refine hK.out _ _ ?_ (fun hHeld => ?_)
        · (repeat (first | exact Ext.refl _ | assumption | refine Ext.setCell ?_ (by first | (simp; done) | (simp; omega)) _ | refine Ext.drewN ?_ _ | refine Ext.alloc ?_ _ | refine Ext.drew ?_ | refine Ext.trans ?_ (by assumption)))
        clear hK K
        simp only [put_mk, List.set_cons_succ, List.set_cons_zero]
        refine wpAnyH_ready (rs := [0]) (by kernel_rfl) (by simp) ?_
        refine AllReadyH.cons (o := ?o23x0) ?hi23x0 (fun K hK => ?_) AllReadyH.nil
        case hi23x0 => (simp only [List.getElem?_toArray, List.getElem?_cons_zero]; exact rfl)
        go_simp
        refine hK.out _ _ ?_ (fun hHeld => ?_)
        · (repeat (first | exact Ext.refl _ | assumption | refine Ext.setCell ?_ (by first | (simp; done) | (simp; omega)) _ | refine Ext.drewN ?_ _ | refine Ext.alloc ?_ _ | refine Ext.drew ?_ | refine Ext.trans ?_ (by assumption)))
        clear hK K
        refine wpAnyH_ready (rs := [14]) (by kernel_rfl) (by simp) ?_
        refine AllReadyH.cons (o := ?o24x14) ?hi24x14 (fun K hK => ?_) AllReadyH.nil
        case hi24x14 => (simp only [List.getElem?_toArray, List.getElem?_cons_succ, List.getElem?_cons_zero]; exact rfl)
        refine step_append_grows rfl (.tmp 20) (.tmp 33) 23 rfl 46 i0 _ 5 40 Tryd.underlying23 hi0 hz0 hz1 hz2 (by rfl) (by decide) (some ⟨w13.heap.size, 0, none⟩) 0 0 [] (by rfl) (by intro h; cases h) rfl (by intro b hb j u hu; cases hu) ⟨g1, 0, none⟩ (m + 1) cap1 (pcells p ++ (spot x y).cells) (by rfl) (by rw [List.length_append, hpl.out]; show m * 5 + 5 = _; omega) (hr13.ext (by repeat (first | exact Ext.refl _ | assumption | refine Ext.setCell ?_ (by first | (simp; done) | (simp; omega)) _ | refine Ext.drewN ?_ _ | refine Ext.alloc ?_ _ | refine Ext.drew ?_ | refine Ext.trans ?_ (by assumption)))).reads zz (by omega) (by unfold maxLen; omega) (by omega) ?_
        intro v14 w14 hown2 hgr2
        rw [Nat.zero_add, List.nil_append] at hown2
        obtain ⟨g2, cap2, rfl, _, hgb2⟩ := World.ownsRow.form hown2 (by omega)
        have hx14 := ext_grown hgr2
        have hr14 := Rd.of_own hown2
        clear hown2 hgr2
        refine hK.out _ _ ?_ (fun hHeld => ?_)
        · (repeat (first | exact Ext.refl _ | assumption | refine Ext.setCell ?_ (by first | (simp; done) | (simp; omega)) _ | refine Ext.drewN ?_ _ | refine Ext.alloc ?_ _ | refine Ext.drew ?_ | refine Ext.trans ?_ (by assumption)))
        clear hK K
        simp only [put_mk, List.set_cons_succ, List.set_cons_zero]
        refine wpAnyH_take (i := 15) (oi := ?o25x15) (v := ?v25x15) ?hi25x15 (by kernel_rfl) ?hf25x15 ?hr25x15 (fun _ _ _ h => h) ?hy25x15 (by assumption) ?rest25x15
        case hi25x15 => (simp only [List.getElem?_toArray, List.getElem?_cons_succ, List.getElem?_cons_zero]; exact rfl)
        case hf25x15 => kernel_rfl
        case hr25x15 => kernel_rfl
        case hy25x15 => (refine Or.inl ⟨by rfl, ?_⟩; intro w hSw; (try dsimp only at hSw); go_simp; try with_reducible rfl)
        simp only [put_mk, List.set_cons_succ, List.set_cons_zero]
        refine wpAnyH_done (by kernel_rfl) ?_ _
        refine NoPanic.normal ?_
        go_wp2_with fail
        go_meet
        case rel => exact ⟨g2, cap2, rfl, by first | rfl | go_num, rfl, by rw [pcells_snoc]; exact hr14, (by repeat (first | exact Ext.refl _ | assumption | refine Ext.setCell ?_ (by first | (simp; done) | (simp; omega)) _ | refine Ext.drewN ?_ _ | refine Ext.alloc ?_ _ | refine Ext.drew ?_ | refine Ext.trans ?_ (by assumption)))⟩

  case rest =>
    obtain ⟨g, cap, rfl, rfl, rfl, hR, hxc⟩ := hcut
    have hql : (p ++ [spot x y]).length = m + 1 := by rw [List.length_append, Hm.out]; rfl
    have hqa : ∀ k (h : k < (p ++ [spot x y]).length), k < m → ((p ++ [spot x y])[k]'h).farB = false := fun k h hk => by
      rw [List.getElem_append_left (by rw [Hm.out]; exact hk)]
      exact Hf.out _ (List.getElem_mem _)
    have hqb : ∀ (h : m < (p ++ [spot x y]).length), (p ++ [spot x y])[m]'h = spot x y := fun h => by
      rw [List.getElem_append_right (by rw [Hm.out]; omega)]
      simp [Hm.out]
    have Hql := hidA hql
    have Hqa := hidA hqa
    have Hqb := hidA hqb
    clear hql hqa hqb hi0 hz0 hz1 hz2 z1 zz hpc hpl
    generalize p ++ [spot x y] = q at *
    generalize (⟨g, 0, none⟩ : Addr) = A at *
    go_wp2_with fail
    go_loopw [36] (fun i wr => ∃ k : Nat, k ≤ m + 1 ∧ i = .int .i64 k ∧ (m < k → (spot x y).farB = false) ∧ Ext wc wr) (fun i _ => m + 1 - (intOf i).toNat)
    case atStart => exact ⟨0, Nat.zero_le _, rfl, fun h => absurd h (by omega), (by repeat (first | exact Ext.refl _ | assumption | refine Ext.setCell ?_ (by first | (simp; done) | (simp; omega)) _ | refine Ext.drewN ?_ _ | refine Ext.alloc ?_ _ | refine Ext.drew ?_ | refine Ext.trans ?_ (by assumption)))⟩
    case round =>
      obtain ⟨k, hk, rfl, hno, hx⟩ := hrel
      by_cases hlt : k < m + 1
      · have hkq : k < q.length := by have := Hql.out; omega
        have hfk : q[k].farB = false ∧ (m < k + 1 → (spot x y).farB = false) ∨ q[k].farB = true ∧ (spot x y).farB = true := by
          by_cases hkm : k < m
          · exact .inl ⟨Hqa.out k hkq hkm, fun h => absurd h (by omega)⟩
          · obtain rfl : k = m := by omega
            rw [Hqb.out hkq]
            cases (spot x y).farB
            · exact .inl ⟨rfl, fun _ => rfl⟩
            · exact .inr ⟨rfl, rfl⟩
        have k0 : (0 : Int) ≤ k := by omega
        have k1 : (k : Int) < m + 1 := by omega
        obtain ⟨d0, d1, d2, d3, d4⟩ := (hR.ext hx).plant hkq
        generalize q[k] = a at *
        obtain ⟨kd, px, py, sz, ag⟩ := a
        dsimp only at d0 d1 d2 d3 d4
        have HC := fun (w : World) => hidA (checkPlace_any px py w)
        rcases hfk with ⟨hfa, hfn⟩ | ⟨hfa, hfs⟩
        · have hfa : decide (px < -4194304 ∨ 4194304 < px ∨ py < -4194304 ∨ 4194304 < py) = false := hfa
          rw [hfa] at HC
          have Hfn := hidA hfn
          clear hfa hfn hno
          go_wp2_with fail
          refine ((HC _).out).mono ?_
          rintro e w6 ⟨rfl, rfl⟩
          go_wp2_with fail
          go_roundw
          case rel => exact ⟨k + 1, by omega, congrArg (Value.int .i64) (by omega), Hfn.out, (by repeat (first | exact Ext.refl _ | assumption | refine Ext.setCell ?_ (by first | (simp; done) | (simp; omega)) _ | refine Ext.drewN ?_ _ | refine Ext.alloc ?_ _ | refine Ext.drew ?_ | refine Ext.trans ?_ (by assumption)))⟩
          case measure => simp [intOf]; omega
        · have hfa : decide (px < -4194304 ∨ 4194304 < px ∨ py < -4194304 ∨ 4194304 < py) = true := hfa
          rw [hfa] at HC
          have Hfs := hidA hfs
          clear hfa hfs hno
          go_wp2_with fail
          refine ((HC _).out).mono ?_
          rintro e w6 ⟨rfl, rfl⟩
          go_wp2_with fail
          go_ret2
          exact ⟨by rw [nearV_far Hfs.out, nearE_far Hfs.out]; rfl, (by repeat (first | exact Ext.refl _ | assumption | refine Ext.setCell ?_ (by first | (simp; done) | (simp; omega)) _ | refine Ext.drewN ?_ _ | refine Ext.alloc ?_ _ | refine Ext.drew ?_ | refine Ext.trans ?_ (by assumption)))⟩
      · have hfs := hno (by omega)
        have Hfs := hidA hfs
        have hk1 : (k : Int) = (m : Int) + 1 := by omega
        rw [hk1]
        clear hno hfs hlt hR hk1
        have HN := hidA hp
        go_wp2_with fail
        go_loopw [9, 51] (fun b i wr2 => ∃ k : Nat, k ≤ m ∧ i = .int .i64 k ∧ b = .int .i64 (nearK p (spot x y) k) ∧ Ext w1 wr2) (fun _ i _ => m - (intOf i).toNat)
        case atStart => exact ⟨0, Nat.zero_le _, rfl, rfl, (by repeat (first | exact Ext.refl _ | assumption | refine Ext.setCell ?_ (by first | (simp; done) | (simp; omega)) _ | refine Ext.drewN ?_ _ | refine Ext.alloc ?_ _ | refine Ext.drew ?_ | refine Ext.trans ?_ (by assumption)))⟩
        case round =>
          clear hx
          obtain ⟨k, hk2, rfl, rfl, hx⟩ := hrel
          by_cases hlt : k < m
          · have hkl : k < p.length := by have := Hm.out; omega
            have hjm : nearK p (spot x y) k < m := by
              rcases Nat.eq_zero_or_pos k with h | h
              · subst h; exact h1
              · have := nearK_lt p (spot x y) k h; omega
            have HV : Hid (nearK p (spot x y) (k + 1) = if sqAt p (spot x y) k < sqAt p (spot x y) (nearK p (spot x y) k) then k else nearK p (spot x y) k) := rfl
            generalize nearK p (spot x y) k = j at *
            have hjl : j < p.length := by have := Hm.out; omega
            have hs1 : sqAt p (spot x y) k = sqD p[k] (spot x y) := by unfold sqAt; simp [List.getD, hkl]
            have hs2 : sqAt p (spot x y) j = sqD p[j] (spot x y) := by unfold sqAt; simp [List.getD, hjl]
            rw [hs1, hs2] at HV
            clear hs1 hs2
            have HS1 := fun (w : World) => hidA (square_any p[k] (spot x y) w (Hf.out _ (List.getElem_mem hkl)) Hfs.out)
            have HS2 := fun (w : World) => hidA (square_any p[j] (spot x y) w (Hf.out _ (List.getElem_mem hjl)) Hfs.out)
            generalize sqD p[k] (spot x y) = sa at *
            generalize sqD p[j] (spot x y) = sb at *
            obtain ⟨d0, d1, d2, d3, d4⟩ := ((hp.ext hx1).ext hx).plant hkl
            have Hd := fun (w' : World) (h : Ext w1 w') => hidA (((hp.ext hx1).ext h).plant hjl)
            generalize p[k] = a at *
            generalize p[j] = b at *
            obtain ⟨kd, px, py, sz, ag⟩ := a
            obtain ⟨kd2, px2, py2, sz2, ag2⟩ := b
            dsimp only [PlantR.v, spot] at HS1 HS2
            dsimp only at d0 d1 d2 d3 d4 Hd
            have k0 : (0 : Int) ≤ k := by omega
            have k1 : (k : Int) < m := by omega
            have j0 : (0 : Int) ≤ j := by omega
            have j1 : (j : Int) < m := by omega
            go_upto_region 16 with fail
            obtain ⟨w5, hw5⟩ : ∃ w5, w5 = wr.alloc (.cells #[.int .i64 kd, .int .i64 px, .int .i64 py, .float .f32 sz, .int .i64 ag] 46) := ⟨_, rfl⟩
            rw [← hw5]
            have hX5 : Bk w5 wr.heap.size 46 #[.int .i64 kd, .int .i64 px, .int .i64 py, .float .f32 sz, .int .i64 ag] := by rw [hw5]; exact Bk.new' rfl
            have hx5 : Ext w1 w5 := by rw [hw5]; exact hx.alloc _
            clear hw5 d0 d1 d2 d3 d4
            have e0 : ∀ w', Ext w5 w' → w'.cell? ⟨wr.heap.size, 0, none⟩ = some (.int .i64 kd) := fun w' h => (hX5.ext h).cell 0
            have e1 : ∀ w', Ext w5 w' → w'.cell? ⟨wr.heap.size, 1, none⟩ = some (.int .i64 px) := fun w' h => (hX5.ext h).cell 1
            have e2 : ∀ w', Ext w5 w' → w'.cell? ⟨wr.heap.size, 2, none⟩ = some (.int .i64 py) := fun w' h => (hX5.ext h).cell 2
            have e3 : ∀ w', Ext w5 w' → w'.cell? ⟨wr.heap.size, 3, none⟩ = some (.float .f32 sz) := fun w' h => (hX5.ext h).cell 3
            have e4 : ∀ w', Ext w5 w' → w'.cell? ⟨wr.heap.size, 4, none⟩ = some (.int .i64 ag) := fun w' h => (hX5.ext h).cell 4
            have f0 : ∀ w', Ext w5 w' → w'.cell? (ad.add (j * 5)) = some (.int .i64 kd2) := fun w' h => (Hd w' (hx5.trans h)).out.1
            have f1 : ∀ w', Ext w5 w' → w'.cell? ⟨(ad.add (j * 5)).block, (ad.add (j * 5)).off + 1, none⟩ = some (.int .i64 px2) := fun w' h => (Hd w' (hx5.trans h)).out.2.1
            have f2 : ∀ w', Ext w5 w' → w'.cell? ⟨(ad.add (j * 5)).block, (ad.add (j * 5)).off + 2, none⟩ = some (.int .i64 py2) := fun w' h => (Hd w' (hx5.trans h)).out.2.2.1
            have f3 : ∀ w', Ext w5 w' → w'.cell? ⟨(ad.add (j * 5)).block, (ad.add (j * 5)).off + 3, none⟩ = some (.float .f32 sz2) := fun w' h => (Hd w' (hx5.trans h)).out.2.2.2.1
            have f4 : ∀ w', Ext w5 w' → w'.cell? ⟨(ad.add (j * 5)).block, (ad.add (j * 5)).off + 4, none⟩ = some (.int .i64 ag2) := fun w' h => (Hd w' (hx5.trans h)).out.2.2.2.2
            have p05 : ∀ w', Ext w5 w' → w'.cell? ⟨w.heap.size, 0, none⟩ = some (.int .i64 x) := fun w' h => p0 w' (hx5.trans h)
            have p15 : ∀ w', Ext w5 w' → w'.cell? ⟨w.heap.size, 1, none⟩ = some (.int .i64 y) := fun w' h => p1 w' (hx5.trans h)
            clear Hd
            by_cases hlt2 : (sa : Int) < sb
            · have HV2 : Hid (nearK p (spot x y) (k + 1) = k) := by show _ = _; rw [HV.out, if_pos (Int.ofNat_lt.1 hlt2)]
              clear HV
              refine wp_region_noPanic ?_
              refine wp_region_held_drew (S := fun w' => Ext w5 w') (by kernel_rfl) ?_ (fun hHeld => ?_)
              · (repeat (first | exact Ext.refl _ | assumption | refine Ext.setCell ?_ (by first | (simp; done) | (simp; omega)) _ | refine Ext.drewN ?_ _ | refine Ext.alloc ?_ _ | refine Ext.drew ?_ | refine Ext.trans ?_ (by assumption)))
              refine wpAnyH_take (i := 0) (oi := ?o27x0) (v := ?v27x0) ?hi27x0 (by kernel_rfl) ?hf27x0 ?hr27x0 (fun _ _ _ h => h) ?hy27x0 (by assumption) ?rest27x0
              case hi27x0 => (simp only [List.getElem?_toArray, List.getElem?_cons_zero]; exact rfl)
              case hf27x0 => kernel_rfl
              case hr27x0 => kernel_rfl
              case hy27x0 => (refine Or.inl ⟨by rfl, ?_⟩; intro w hSw; (try dsimp only at hSw); go_simp; try with_reducible rfl)
              simp only [put_mk, List.set_cons_succ, List.set_cons_zero]
              refine wpAnyH_take (i := 1) (oi := ?o28x1) (v := ?v28x1) ?hi28x1 (by kernel_rfl) ?hf28x1 ?hr28x1 (fun _ _ _ h => h) ?hy28x1 (by assumption) ?rest28x1
              case hi28x1 => (simp only [List.getElem?_toArray, List.getElem?_cons_succ, List.getElem?_cons_zero]; exact rfl)
              case hf28x1 => kernel_rfl
              case hr28x1 => kernel_rfl
              case hy28x1 => (refine Or.inl ⟨by rfl, ?_⟩; intro w hSw; (try dsimp only at hSw); go_simp; try with_reducible rfl)
              simp only [put_mk, List.set_cons_succ, List.set_cons_zero]
              refine wpAnyH_take (i := 2) (oi := ?o29x2) (v := ?v29x2) ?hi29x2 (by kernel_rfl) ?hf29x2 ?hr29x2 (fun _ _ _ h => h) ?hy29x2 (by assumption) ?rest29x2
              case hi29x2 => (simp only [List.getElem?_toArray, List.getElem?_cons_succ, List.getElem?_cons_zero]; exact rfl)
              case hf29x2 => kernel_rfl
              case hr29x2 => kernel_rfl
              case hy29x2 => (refine Or.inl ⟨by rfl, ?_⟩; intro w hSw; (try dsimp only at hSw); go_simp; try with_reducible rfl)
              simp only [put_mk, List.set_cons_succ, List.set_cons_zero]
              refine wpAnyH_take (i := 3) (oi := ?o30x3) (v := ?v30x3) ?hi30x3 (by kernel_rfl) ?hf30x3 ?hr30x3 (fun _ _ _ h => h) ?hy30x3 (by assumption) ?rest30x3
              case hi30x3 => (simp only [List.getElem?_toArray, List.getElem?_cons_succ, List.getElem?_cons_zero]; exact rfl)
              case hf30x3 => kernel_rfl
              case hr30x3 => kernel_rfl
              case hy30x3 => (refine Or.inl ⟨by rfl, ?_⟩; intro w hSw; (try dsimp only at hSw); go_simp; try with_reducible rfl)
              simp only [put_mk, List.set_cons_succ, List.set_cons_zero]
              refine wpAnyH_take (i := 4) (oi := ?o31x4) (v := ?v31x4) ?hi31x4 (by kernel_rfl) ?hf31x4 ?hr31x4 (fun _ _ _ h => h) ?hy31x4 (by assumption) ?rest31x4
              case hi31x4 => (simp only [List.getElem?_toArray, List.getElem?_cons_succ, List.getElem?_cons_zero]; exact rfl)
              case hf31x4 => kernel_rfl
              case hr31x4 => kernel_rfl
              case hy31x4 => (refine Or.inl ⟨by rfl, ?_⟩; intro w hSw; (try dsimp only at hSw); go_simp; try with_reducible rfl)
              simp only [put_mk, List.set_cons_succ, List.set_cons_zero]
              refine wpAnyH_take (i := 5) (oi := ?o32x5) (v := ?v32x5) ?hi32x5 (by kernel_rfl) ?hf32x5 ?hr32x5 (fun _ _ _ h => h) ?hy32x5 (by assumption) ?rest32x5
              case hi32x5 => (simp only [List.getElem?_toArray, List.getElem?_cons_succ, List.getElem?_cons_zero]; exact rfl)
              case hf32x5 => kernel_rfl
              case hr32x5 => kernel_rfl
              case hy32x5 => (refine Or.inl ⟨by rfl, ?_⟩; intro w hSw; (try dsimp only at hSw); go_simp; try with_reducible rfl)
              simp only [put_mk, List.set_cons_succ, List.set_cons_zero]
              refine wpAnyH_take (i := 7) (oi := ?o33x7) (v := ?v33x7) ?hi33x7 (by kernel_rfl) ?hf33x7 ?hr33x7 (fun _ _ _ h => h) ?hy33x7 (by assumption) ?rest33x7
              case hi33x7 => (simp only [List.getElem?_toArray, List.getElem?_cons_succ, List.getElem?_cons_zero]; exact rfl)
              case hf33x7 => kernel_rfl
              case hr33x7 => kernel_rfl
              case hy33x7 => (refine Or.inl ⟨by rfl, ?_⟩; intro w hSw; (try dsimp only at hSw); go_simp; try with_reducible rfl)
              simp only [put_mk, List.set_cons_succ, List.set_cons_zero]
              refine wpAnyH_take (i := 8) (oi := ?o34x8) (v := ?v34x8) ?hi34x8 (by kernel_rfl) ?hf34x8 ?hr34x8 (fun _ _ _ h => h) ?hy34x8 (by assumption) ?rest34x8
              case hi34x8 => (simp only [List.getElem?_toArray, List.getElem?_cons_succ, List.getElem?_cons_zero]; exact rfl)
              case hf34x8 => kernel_rfl
              case hr34x8 => kernel_rfl
              case hy34x8 => (refine Or.inl ⟨by rfl, ?_⟩; intro w hSw; (try dsimp only at hSw); go_simp; try with_reducible rfl)
              simp only [put_mk, List.set_cons_succ, List.set_cons_zero]
              refine wpAnyH_take (i := 9) (oi := ?o35x9) (v := ?v35x9) ?hi35x9 (by kernel_rfl) ?hf35x9 ?hr35x9 (fun _ _ _ h => h) ?hy35x9 (by assumption) ?rest35x9
              case hi35x9 => (simp only [List.getElem?_toArray, List.getElem?_cons_succ, List.getElem?_cons_zero]; exact rfl)
              case hf35x9 => kernel_rfl
              case hr35x9 => kernel_rfl
              case hy35x9 => (refine Or.inl ⟨by rfl, ?_⟩; intro w hSw; (try dsimp only at hSw); go_simp; try with_reducible rfl)
              simp only [put_mk, List.set_cons_succ, List.set_cons_zero]
              refine wpAnyH_take (i := 10) (oi := ?o36x10) (v := ?v36x10) ?hi36x10 (by kernel_rfl) ?hf36x10 ?hr36x10 (fun _ _ _ h => h) ?hy36x10 (by assumption) ?rest36x10
              case hi36x10 => (simp only [List.getElem?_toArray, List.getElem?_cons_succ, List.getElem?_cons_zero]; exact rfl)
              case hf36x10 => kernel_rfl
              case hr36x10 => kernel_rfl
              case hy36x10 => (refine Or.inl ⟨by rfl, ?_⟩; intro w hSw; (try dsimp only at hSw); go_simp; try with_reducible rfl)
              simp only [put_mk, List.set_cons_succ, List.set_cons_zero]
              refine wpAnyH_take (i := 11) (oi := ?o37x11) (v := ?v37x11) ?hi37x11 (by kernel_rfl) ?hf37x11 ?hr37x11 (fun _ _ _ h => h) ?hy37x11 (by assumption) ?rest37x11
              case hi37x11 => (simp only [List.getElem?_toArray, List.getElem?_cons_succ, List.getElem?_cons_zero]; exact rfl)
              case hf37x11 => kernel_rfl
              case hr37x11 => kernel_rfl
              case hy37x11 => (refine Or.inl ⟨by rfl, ?_⟩; intro w hSw; (try dsimp only at hSw); go_simp; try with_reducible rfl)
              simp only [put_mk, List.set_cons_succ, List.set_cons_zero]
              refine wpAnyH_take (i := 12) (oi := ?o38x12) (v := ?v38x12) ?hi38x12 (by kernel_rfl) ?hf38x12 ?hr38x12 (fun _ _ _ h => h) ?hy38x12 (by assumption) ?rest38x12
              case hi38x12 => (simp only [List.getElem?_toArray, List.getElem?_cons_succ, List.getElem?_cons_zero]; exact rfl)
              case hf38x12 => kernel_rfl
              case hr38x12 => kernel_rfl
              case hy38x12 => (refine Or.inl ⟨by rfl, ?_⟩; intro w hSw; (try dsimp only at hSw); go_simp; try with_reducible rfl)
              simp only [put_mk, List.set_cons_succ, List.set_cons_zero]
              refine wpAnyH_take (i := 13) (oi := ?o39x13) (v := ?v39x13) ?hi39x13 (by kernel_rfl) ?hf39x13 ?hr39x13 (fun _ _ _ h => h) ?hy39x13 (by assumption) ?rest39x13
              case hi39x13 => (simp only [List.getElem?_toArray, List.getElem?_cons_succ, List.getElem?_cons_zero]; exact rfl)
              case hf39x13 => kernel_rfl
              case hr39x13 => kernel_rfl
              case hy39x13 => (refine Or.inl ⟨by rfl, ?_⟩; intro w hSw; (try dsimp only at hSw); go_simp; try with_reducible rfl)
              simp only [put_mk, List.set_cons_succ, List.set_cons_zero]
              refine wpAnyH_take (i := 14) (oi := ?o40x14) (v := ?v40x14) ?hi40x14 (by kernel_rfl) ?hf40x14 ?hr40x14 (fun _ _ _ h => h) ?hy40x14 (by assumption) ?rest40x14
              case hi40x14 => (simp only [List.getElem?_toArray, List.getElem?_cons_succ, List.getElem?_cons_zero]; exact rfl)
              case hf40x14 => kernel_rfl
              case hr40x14 => kernel_rfl
              case hy40x14 => (refine Or.inl ⟨by rfl, ?_⟩; intro w hSw; (try dsimp only at hSw); go_simp; try with_reducible rfl)
              simp only [put_mk, List.set_cons_succ, List.set_cons_zero]
              refine wpAnyH_take (i := 15) (oi := ?o41x15) (v := ?v41x15) ?hi41x15 (by kernel_rfl) ?hf41x15 ?hr41x15 (fun _ _ _ h => h) ?hy41x15 (by assumption) ?rest41x15
              case hi41x15 => (simp only [List.getElem?_toArray, List.getElem?_cons_succ, List.getElem?_cons_zero]; exact rfl)
              case hf41x15 => kernel_rfl
              case hr41x15 => kernel_rfl
              case hy41x15 => (refine Or.inl ⟨by rfl, ?_⟩; intro w hSw; (try dsimp only at hSw); go_simp; try with_reducible rfl)
              simp only [put_mk, List.set_cons_succ, List.set_cons_zero]
              refine wpAnyH_ready (rs := [6]) (by kernel_rfl) (by simp) ?_
              refine AllReadyH.cons (o := ?o42x6) ?hi42x6 (fun K hK => ?_) AllReadyH.nil
              case hi42x6 => (simp only [List.getElem?_toArray, List.getElem?_cons_succ, List.getElem?_cons_zero]; exact rfl)
              go_simp
              refine ((HS1 _).out).mono ?_
              rintro e w6 ⟨rfl, hb6⟩
              refine hK.out _ _ ?_ (fun hHeld => ?_)
              · (repeat (first | exact Ext.refl _ | assumption | refine Ext.setCell ?_ (by first | (simp; done) | (simp; omega)) _ | refine Ext.drewN ?_ _ | refine Ext.alloc ?_ _ | refine Ext.drew ?_ | refine Ext.trans ?_ (by assumption)))
              clear hK K
              refine wpAnyH_ready (rs := [16]) (by kernel_rfl) (by simp) ?_
              refine AllReadyH.cons (o := ?o43x16) ?hi43x16 (fun K hK => ?_) AllReadyH.nil
              case hi43x16 => (simp only [List.getElem?_toArray, List.getElem?_cons_succ, List.getElem?_cons_zero]; exact rfl)
              go_simp
              refine ((HS2 _).out).mono ?_
              rintro e w7 ⟨rfl, hb7⟩
              refine hK.out _ _ ?_ (fun hHeld => ?_)
              · (repeat (first | exact Ext.refl _ | assumption | refine Ext.setCell ?_ (by first | (simp; done) | (simp; omega)) _ | refine Ext.drewN ?_ _ | refine Ext.alloc ?_ _ | refine Ext.drew ?_ | refine Ext.trans ?_ (by assumption)))
              clear hK K
              refine wpAnyH_take (i := 17) (oi := ?o44x17) (v := ?v44x17) ?hi44x17 (by kernel_rfl) ?hf44x17 ?hr44x17 (fun _ _ _ h => h) ?hy44x17 (by assumption) ?rest44x17
              case hi44x17 => (simp only [List.getElem?_toArray, List.getElem?_cons_succ, List.getElem?_cons_zero]; exact rfl)
              case hf44x17 => kernel_rfl
              case hr44x17 => kernel_rfl
              case hy44x17 => (refine Or.inl ⟨by rfl, ?_⟩; intro w hSw; (try dsimp only at hSw); go_simp; try with_reducible rfl)
              simp only [put_mk, List.set_cons_succ, List.set_cons_zero]
              refine wpAnyH_done (by kernel_rfl) ?_ _
              refine NoPanic.normal ?_
              go_wp2_with fail
              go_roundw
              case rel => exact ⟨k + 1, by omega, congrArg (Value.int .i64) (by omega), congrArg (fun (q : Nat) => Value.int .i64 q) HV2.out.symm, (by repeat (first | exact Ext.refl _ | assumption | refine Ext.setCell ?_ (by first | (simp; done) | (simp; omega)) _ | refine Ext.drewN ?_ _ | refine Ext.alloc ?_ _ | refine Ext.drew ?_ | refine Ext.trans ?_ (by assumption)))⟩
              case measure => simp [intOf]; omega

            · have HV2 : Hid (nearK p (spot x y) (k + 1) = j) := by show _ = _; rw [HV.out, if_neg (fun h => hlt2 (Int.ofNat_lt.2 h))]
              clear HV
              refine wp_region_noPanic ?_
              refine wp_region_held_drew (S := fun w' => Ext w5 w') (by kernel_rfl) ?_ (fun hHeld => ?_)
              · (repeat (first | exact Ext.refl _ | assumption | refine Ext.setCell ?_ (by first | (simp; done) | (simp; omega)) _ | refine Ext.drewN ?_ _ | refine Ext.alloc ?_ _ | refine Ext.drew ?_ | refine Ext.trans ?_ (by assumption)))
              refine wpAnyH_take (i := 0) (oi := ?o46x0) (v := ?v46x0) ?hi46x0 (by kernel_rfl) ?hf46x0 ?hr46x0 (fun _ _ _ h => h) ?hy46x0 (by assumption) ?rest46x0
              case hi46x0 => (simp only [List.getElem?_toArray, List.getElem?_cons_zero]; exact rfl)
              case hf46x0 => kernel_rfl
              case hr46x0 => kernel_rfl
              case hy46x0 => (refine Or.inl ⟨by rfl, ?_⟩; intro w hSw; (try dsimp only at hSw); go_simp; try with_reducible rfl)
              simp only [put_mk, List.set_cons_succ, List.set_cons_zero]
              refine wpAnyH_take (i := 1) (oi := ?o47x1) (v := ?v47x1) ?hi47x1 (by kernel_rfl) ?hf47x1 ?hr47x1 (fun _ _ _ h => h) ?hy47x1 (by assumption) ?rest47x1
              case hi47x1 => (simp only [List.getElem?_toArray, List.getElem?_cons_succ, List.getElem?_cons_zero]; exact rfl)
              case hf47x1 => kernel_rfl
              case hr47x1 => kernel_rfl
              case hy47x1 => (refine Or.inl ⟨by rfl, ?_⟩; intro w hSw; (try dsimp only at hSw); go_simp; try with_reducible rfl)
              simp only [put_mk, List.set_cons_succ, List.set_cons_zero]
              refine wpAnyH_take (i := 2) (oi := ?o48x2) (v := ?v48x2) ?hi48x2 (by kernel_rfl) ?hf48x2 ?hr48x2 (fun _ _ _ h => h) ?hy48x2 (by assumption) ?rest48x2
              case hi48x2 => (simp only [List.getElem?_toArray, List.getElem?_cons_succ, List.getElem?_cons_zero]; exact rfl)
              case hf48x2 => kernel_rfl
              case hr48x2 => kernel_rfl
              case hy48x2 => (refine Or.inl ⟨by rfl, ?_⟩; intro w hSw; (try dsimp only at hSw); go_simp; try with_reducible rfl)
              simp only [put_mk, List.set_cons_succ, List.set_cons_zero]
              refine wpAnyH_take (i := 3) (oi := ?o49x3) (v := ?v49x3) ?hi49x3 (by kernel_rfl) ?hf49x3 ?hr49x3 (fun _ _ _ h => h) ?hy49x3 (by assumption) ?rest49x3
              case hi49x3 => (simp only [List.getElem?_toArray, List.getElem?_cons_succ, List.getElem?_cons_zero]; exact rfl)
              case hf49x3 => kernel_rfl
              case hr49x3 => kernel_rfl
              case hy49x3 => (refine Or.inl ⟨by rfl, ?_⟩; intro w hSw; (try dsimp only at hSw); go_simp; try with_reducible rfl)
              simp only [put_mk, List.set_cons_succ, List.set_cons_zero]
              refine wpAnyH_take (i := 4) (oi := ?o50x4) (v := ?v50x4) ?hi50x4 (by kernel_rfl) ?hf50x4 ?hr50x4 (fun _ _ _ h => h) ?hy50x4 (by assumption) ?rest50x4
              case hi50x4 => (simp only [List.getElem?_toArray, List.getElem?_cons_succ, List.getElem?_cons_zero]; exact rfl)
              case hf50x4 => kernel_rfl
              case hr50x4 => kernel_rfl
              case hy50x4 => (refine Or.inl ⟨by rfl, ?_⟩; intro w hSw; (try dsimp only at hSw); go_simp; try with_reducible rfl)
              simp only [put_mk, List.set_cons_succ, List.set_cons_zero]
              refine wpAnyH_take (i := 5) (oi := ?o51x5) (v := ?v51x5) ?hi51x5 (by kernel_rfl) ?hf51x5 ?hr51x5 (fun _ _ _ h => h) ?hy51x5 (by assumption) ?rest51x5
              case hi51x5 => (simp only [List.getElem?_toArray, List.getElem?_cons_succ, List.getElem?_cons_zero]; exact rfl)
              case hf51x5 => kernel_rfl
              case hr51x5 => kernel_rfl
              case hy51x5 => (refine Or.inl ⟨by rfl, ?_⟩; intro w hSw; (try dsimp only at hSw); go_simp; try with_reducible rfl)
              simp only [put_mk, List.set_cons_succ, List.set_cons_zero]
              refine wpAnyH_take (i := 7) (oi := ?o52x7) (v := ?v52x7) ?hi52x7 (by kernel_rfl) ?hf52x7 ?hr52x7 (fun _ _ _ h => h) ?hy52x7 (by assumption) ?rest52x7
              case hi52x7 => (simp only [List.getElem?_toArray, List.getElem?_cons_succ, List.getElem?_cons_zero]; exact rfl)
              case hf52x7 => kernel_rfl
              case hr52x7 => kernel_rfl
              case hy52x7 => (refine Or.inl ⟨by rfl, ?_⟩; intro w hSw; (try dsimp only at hSw); go_simp; try with_reducible rfl)
              simp only [put_mk, List.set_cons_succ, List.set_cons_zero]
              refine wpAnyH_take (i := 8) (oi := ?o53x8) (v := ?v53x8) ?hi53x8 (by kernel_rfl) ?hf53x8 ?hr53x8 (fun _ _ _ h => h) ?hy53x8 (by assumption) ?rest53x8
              case hi53x8 => (simp only [List.getElem?_toArray, List.getElem?_cons_succ, List.getElem?_cons_zero]; exact rfl)
              case hf53x8 => kernel_rfl
              case hr53x8 => kernel_rfl
              case hy53x8 => (refine Or.inl ⟨by rfl, ?_⟩; intro w hSw; (try dsimp only at hSw); go_simp; try with_reducible rfl)
              simp only [put_mk, List.set_cons_succ, List.set_cons_zero]
              refine wpAnyH_take (i := 9) (oi := ?o54x9) (v := ?v54x9) ?hi54x9 (by kernel_rfl) ?hf54x9 ?hr54x9 (fun _ _ _ h => h) ?hy54x9 (by assumption) ?rest54x9
              case hi54x9 => (simp only [List.getElem?_toArray, List.getElem?_cons_succ, List.getElem?_cons_zero]; exact rfl)
              case hf54x9 => kernel_rfl
              case hr54x9 => kernel_rfl
              case hy54x9 => (refine Or.inl ⟨by rfl, ?_⟩; intro w hSw; (try dsimp only at hSw); go_simp; try with_reducible rfl)
              simp only [put_mk, List.set_cons_succ, List.set_cons_zero]
              refine wpAnyH_take (i := 10) (oi := ?o55x10) (v := ?v55x10) ?hi55x10 (by kernel_rfl) ?hf55x10 ?hr55x10 (fun _ _ _ h => h) ?hy55x10 (by assumption) ?rest55x10
              case hi55x10 => (simp only [List.getElem?_toArray, List.getElem?_cons_succ, List.getElem?_cons_zero]; exact rfl)
              case hf55x10 => kernel_rfl
              case hr55x10 => kernel_rfl
              case hy55x10 => (refine Or.inl ⟨by rfl, ?_⟩; intro w hSw; (try dsimp only at hSw); go_simp; try with_reducible rfl)
              simp only [put_mk, List.set_cons_succ, List.set_cons_zero]
              refine wpAnyH_take (i := 11) (oi := ?o56x11) (v := ?v56x11) ?hi56x11 (by kernel_rfl) ?hf56x11 ?hr56x11 (fun _ _ _ h => h) ?hy56x11 (by assumption) ?rest56x11
              case hi56x11 => (simp only [List.getElem?_toArray, List.getElem?_cons_succ, List.getElem?_cons_zero]; exact rfl)
              case hf56x11 => kernel_rfl
              case hr56x11 => kernel_rfl
              case hy56x11 => (refine Or.inl ⟨by rfl, ?_⟩; intro w hSw; (try dsimp only at hSw); go_simp; try with_reducible rfl)
              simp only [put_mk, List.set_cons_succ, List.set_cons_zero]
              refine wpAnyH_take (i := 12) (oi := ?o57x12) (v := ?v57x12) ?hi57x12 (by kernel_rfl) ?hf57x12 ?hr57x12 (fun _ _ _ h => h) ?hy57x12 (by assumption) ?rest57x12
              case hi57x12 => (simp only [List.getElem?_toArray, List.getElem?_cons_succ, List.getElem?_cons_zero]; exact rfl)
              case hf57x12 => kernel_rfl
              case hr57x12 => kernel_rfl
              case hy57x12 => (refine Or.inl ⟨by rfl, ?_⟩; intro w hSw; (try dsimp only at hSw); go_simp; try with_reducible rfl)
              simp only [put_mk, List.set_cons_succ, List.set_cons_zero]
              refine wpAnyH_take (i := 13) (oi := ?o58x13) (v := ?v58x13) ?hi58x13 (by kernel_rfl) ?hf58x13 ?hr58x13 (fun _ _ _ h => h) ?hy58x13 (by assumption) ?rest58x13
              case hi58x13 => (simp only [List.getElem?_toArray, List.getElem?_cons_succ, List.getElem?_cons_zero]; exact rfl)
              case hf58x13 => kernel_rfl
              case hr58x13 => kernel_rfl
              case hy58x13 => (refine Or.inl ⟨by rfl, ?_⟩; intro w hSw; (try dsimp only at hSw); go_simp; try with_reducible rfl)
              simp only [put_mk, List.set_cons_succ, List.set_cons_zero]
              refine wpAnyH_take (i := 14) (oi := ?o59x14) (v := ?v59x14) ?hi59x14 (by kernel_rfl) ?hf59x14 ?hr59x14 (fun _ _ _ h => h) ?hy59x14 (by assumption) ?rest59x14
              case hi59x14 => (simp only [List.getElem?_toArray, List.getElem?_cons_succ, List.getElem?_cons_zero]; exact rfl)
              case hf59x14 => kernel_rfl
              case hr59x14 => kernel_rfl
              case hy59x14 => (refine Or.inl ⟨by rfl, ?_⟩; intro w hSw; (try dsimp only at hSw); go_simp; try with_reducible rfl)
              simp only [put_mk, List.set_cons_succ, List.set_cons_zero]
              refine wpAnyH_take (i := 15) (oi := ?o60x15) (v := ?v60x15) ?hi60x15 (by kernel_rfl) ?hf60x15 ?hr60x15 (fun _ _ _ h => h) ?hy60x15 (by assumption) ?rest60x15
              case hi60x15 => (simp only [List.getElem?_toArray, List.getElem?_cons_succ, List.getElem?_cons_zero]; exact rfl)
              case hf60x15 => kernel_rfl
              case hr60x15 => kernel_rfl
              case hy60x15 => (refine Or.inl ⟨by rfl, ?_⟩; intro w hSw; (try dsimp only at hSw); go_simp; try with_reducible rfl)
              simp only [put_mk, List.set_cons_succ, List.set_cons_zero]
              refine wpAnyH_ready (rs := [6]) (by kernel_rfl) (by simp) ?_
              refine AllReadyH.cons (o := ?o61x6) ?hi61x6 (fun K hK => ?_) AllReadyH.nil
              case hi61x6 => (simp only [List.getElem?_toArray, List.getElem?_cons_succ, List.getElem?_cons_zero]; exact rfl)
              go_simp
              refine ((HS1 _).out).mono ?_
              rintro e w6 ⟨rfl, hb6⟩
              refine hK.out _ _ ?_ (fun hHeld => ?_)
              · (repeat (first | exact Ext.refl _ | assumption | refine Ext.setCell ?_ (by first | (simp; done) | (simp; omega)) _ | refine Ext.drewN ?_ _ | refine Ext.alloc ?_ _ | refine Ext.drew ?_ | refine Ext.trans ?_ (by assumption)))
              clear hK K
              refine wpAnyH_ready (rs := [16]) (by kernel_rfl) (by simp) ?_
              refine AllReadyH.cons (o := ?o62x16) ?hi62x16 (fun K hK => ?_) AllReadyH.nil
              case hi62x16 => (simp only [List.getElem?_toArray, List.getElem?_cons_succ, List.getElem?_cons_zero]; exact rfl)
              go_simp
              refine ((HS2 _).out).mono ?_
              rintro e w7 ⟨rfl, hb7⟩
              refine hK.out _ _ ?_ (fun hHeld => ?_)
              · (repeat (first | exact Ext.refl _ | assumption | refine Ext.setCell ?_ (by first | (simp; done) | (simp; omega)) _ | refine Ext.drewN ?_ _ | refine Ext.alloc ?_ _ | refine Ext.drew ?_ | refine Ext.trans ?_ (by assumption)))
              clear hK K
              refine wpAnyH_take (i := 17) (oi := ?o63x17) (v := ?v63x17) ?hi63x17 (by kernel_rfl) ?hf63x17 ?hr63x17 (fun _ _ _ h => h) ?hy63x17 (by assumption) ?rest63x17
              case hi63x17 => (simp only [List.getElem?_toArray, List.getElem?_cons_succ, List.getElem?_cons_zero]; exact rfl)
              case hf63x17 => kernel_rfl
              case hr63x17 => kernel_rfl
              case hy63x17 => (refine Or.inl ⟨by rfl, ?_⟩; intro w hSw; (try dsimp only at hSw); go_simp; try with_reducible rfl)
              simp only [put_mk, List.set_cons_succ, List.set_cons_zero]
              refine wpAnyH_done (by kernel_rfl) ?_ _
              refine NoPanic.normal ?_
              go_wp2_with fail
              go_roundw
              case rel => exact ⟨k + 1, by omega, congrArg (Value.int .i64) (by omega), congrArg (fun (q : Nat) => Value.int .i64 q) HV2.out.symm, (by repeat (first | exact Ext.refl _ | assumption | refine Ext.setCell ?_ (by first | (simp; done) | (simp; omega)) _ | refine Ext.drewN ?_ _ | refine Ext.alloc ?_ _ | refine Ext.drew ?_ | refine Ext.trans ?_ (by assumption)))⟩
              case measure => simp [intOf]; omega

          · obtain rfl : k = m := by omega
            go_wp2_with fail
            go_ret2
            exact ⟨by rw [nearV_in Hfs.out, nearE_in Hfs.out]; rfl, (by repeat (first | exact Ext.refl _ | assumption | refine Ext.setCell ?_ (by first | (simp; done) | (simp; omega)) _ | refine Ext.drewN ?_ _ | refine Ext.alloc ?_ _ | refine Ext.drew ?_ | refine Ext.trans ?_ (by assumption)))⟩
theorem Nearest_none (B : Option Addr) (d : Nat) (x y : Int) (w : World) :
    Calls Tryd.prog 17 #[.slice B 0 d, .agg #[.int .i64 x, .int .i64 y]] w fun e w' => e = .returned (.tuple #[.int .i64 0, .int .i64 11]) ∧ Ext w w' := by
  go_enter Tryd.func17, Tryd.ntmps17
  go_wp2_with fail
  go_ret2
  exact ⟨rfl, (by repeat (first | exact Ext.refl _ | assumption | refine Ext.setCell ?_ (by first | (simp; done) | (simp; omega)) _ | refine Ext.drewN ?_ _ | refine Ext.alloc ?_ _ | refine Ext.drew ?_ | refine Ext.trans ?_ (by assumption)))⟩
end Go.Proofs.YtgaonoklbihkjaaDoor
