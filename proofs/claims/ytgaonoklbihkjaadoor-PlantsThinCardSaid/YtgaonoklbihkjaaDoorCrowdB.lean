/- Contracts: plant.crowd and tarnref2.CrowdOf. -/
import Derived.Test.YtgaonoklbihkjaaDoorCrowdA
namespace Go.Proofs.YtgaonoklbihkjaaDoor
open Go.RowKit
attribute [local go_sem ↓] Go.wp_at_zero Go.wp_at_succ
attribute [local go_sem] run_store_float

theorem near_no {p : List PlantR} {l : List KindR} {i k : Nat} (h : k = i ∨ ¬ sqK p i k < spR l p i k * spR l p i k) : nearB l p i k = false := by
  unfold nearB
  rw [decide_eq_false]
  rintro ⟨h1, h2⟩
  rcases h with h | h
  · exact h1 h
  · exact h h2
theorem near_yes {p : List PlantR} {l : List KindR} {i k : Nat} (h : k ≠ i) (h2 : sqK p i k < spR l p i k * spR l p i k) : nearB l p i k = true := by
  unfold nearB
  rw [decide_eq_true ⟨h, h2⟩]
theorem crowdG_step (l : List KindR) (p : List PlantR) (i k : Nat) : crowdG l p i (k + 1) = if nearB l p i k = true then (if (crowdG l p i k).2 = true then (wgt (szK p k) (sqK p i k) (spR l p i k), false) else (fadd (crowdG l p i k).1 (wgt (szK p k) (sqK p i k) (spR l p i k)), false)) else crowdG l p i k := rfl
theorem Rd.space {w : World} {ad : Addr} {l : List KindR} (h : Rd w (some ad) (kcells l)) {k : Nat} (hk : k < l.length) : w.cell? ⟨(ad.add (k * 13)).block, (ad.add (k * 13)).off + 11, none⟩ = some (.int .i64 l[k].p) := (h.kind hk).2.2.2.2.2.2.2.2.2.2.2.1

set_option maxRecDepth 100000 in
set_option maxHeartbeats 3200000 in
theorem crowd_any (A : Option Addr) (n c : Nat) (l : List KindR) (B : Option Addr) (m d : Nat) (p : List PlantR) (i : Nat) (w : World) (hn : l.length = n) (hd : Rd w A (kcells l)) (hm : p.length = m) (hp : Rd w B (pcells p)) (hbm : m ≤ 4000000000000) (hi : i < m) (he : ∀ x ∈ p, plantE l x = 0) (hl : ∀ x ∈ l, x.err = 0) :
    Calls Tryd.prog 33 #[.slice A n c, .slice B m d, .int .i64 i] w fun e w' => e = .returned (.float .f32 (crowdF l p i m)) ∧ Ext w w' := by
  have Hm := hidA hm
  have Hn := hidA hn
  have HE := hidA he
  have HL := hidA hl
  clear hm hn he hl
  go_enter Tryd.func33, Tryd.ntmps33
  go_wp2_with fail
  go_loopw [7, 14] (fun v j wr => ∃ k : Nat, k ≤ m ∧ j = .int .i64 k ∧ v = .float .f32 (crowdF l p i k) ∧ Ext w wr) (fun _ j _ => m - (intOf j).toNat)
  case atStart => exact ⟨0, Nat.zero_le _, rfl, rfl, (by repeat (first | exact Ext.refl _ | assumption | refine Ext.setCell ?_ (by first | (simp; done) | (simp; omega)) _ | refine Ext.drewN ?_ _ | refine Ext.alloc ?_ _ | refine Ext.drew ?_ | refine Ext.trans ?_ (by assumption)))⟩
  case round =>
    obtain ⟨k, hk, rfl, rfl, hx⟩ := hrel
    by_cases hlt : k < m
    · have HN := hidA (crowd_nan (by have := Hm.out; omega : i < p.length) HE.out HL.out k (by have := Hm.out; omega))
      have Hst := hidA (crowd_step (l := l) (p := p) (i := i) k)
      have Hno := fun h => hidA (near_no (l := l) (p := p) (i := i) (k := k) h)
      have Hye := fun h h2 => hidA (near_yes (l := l) (p := p) (i := i) (k := k) h h2)
      have hkl : k < p.length := by have := Hm.out; omega
      have hil : i < p.length := by have := Hm.out; omega
      obtain ⟨a, b, hr, hs⟩ := round_facts hkl hil HE.out HL.out
      obtain ⟨ad, rfl, hbk, _⟩ := hp.at (k := k) (by rw [pcells_length]; omega)
      obtain ⟨ak, rfl, hka, _⟩ := hd.at (k := a) (by rw [kcells_length]; have := hr.ha; omega)
      have hpw := hp.ext hx
      have hdw := hd.ext hx
      obtain ⟨d0, d1, d2, d3, d4⟩ := hpw.plant hkl
      obtain ⟨f0, f1, f2, f3, f4⟩ := hpw.plant hil
      have g1 := hdw.space hr.ha
      have g2 := hdw.space hr.hb
      have k0 : (0 : Int) ≤ k := by omega
      have k1 : (k : Int) < m := by omega
      have i0 : (0 : Int) ≤ i := by omega
      have i1 : (i : Int) < m := by omega
      have a0 : (0 : Int) ≤ a := by omega
      have a1 : (a : Int) < n := by have := hr.ha; have := Hn.out; omega
      have b0 : (0 : Int) ≤ b := by omega
      have b1 : (b : Int) < n := by have := hr.hb; have := Hn.out; omega
      rw [hs] at Hst
      generalize spR l p i k = r at *
      generalize sqK p i k = q at *
      clear hs
      generalize p[k] = x at *
      generalize p[i] = y at *
      obtain ⟨kd, px, py, sz, ag⟩ := x
      obtain ⟨kd2, px2, py2, sz2, ag2⟩ := y
      have hxk := hr.xk
      have hyk := hr.yk
      dsimp only at hxk hyk d0 d1 d2 d3 d4 f0 f1 f2 f3 f4 Hst
      subst hxk
      subst hyk
      have hla := hr.ha
      have hlb := hr.hb
      have sum := hr.sum
      have ha0 := hr.a0
      have hb0 := hr.b0
      have ha1 := hr.a1
      have hb1 := hr.b1
      generalize l[a].p = sa at *
      generalize l[b].p = sb at *
      have r64 := hr.r64
      have d60 := hr.d60
      have hsz := hr.size
      have W1 : wrap64 (sa + sb) = (r : Int) := by rw [sum]; exact IntWalk.wrap64_in _ ⟨by omega, by omega⟩
      have W2 : wrap64 (sb + sa) = (r : Int) := by rw [Int.add_comm]; exact W1
      have W5 : sb + sa = (r : Int) := by omega
      have W6 : IntKind.i64.wrap (r : Int) = r := IntWalk.i64_in _ (by omega)
      have W7 : IntKind.i64.wrap (q : Int) = q := IntWalk.i64_in _ ⟨by omega, by have : q < 1152921504606846976 := d60; omega⟩
      have HSQ := fun (w : World) => hidA (square_any ⟨(b : Int), px2, py2, sz2, ag2⟩ ⟨(a : Int), px, py, sz, ag⟩ w hr.fary hr.farx)
      rw [hr.dyx] at HSQ
      simp only [PlantR.v] at HSQ
      generalize hv1 : crowdF l p i (k + 1) = v1 at *
      have Hv1 := hidA hv1
      clear hv1
      generalize crowdF l p i k = v0 at *
      clear hr HE HL
      obtain ⟨w5, hw5⟩ : ∃ w5, w5 = wr.alloc (.cells #[.int .i64 a, .int .i64 px, .int .i64 py, .float .f32 sz, .int .i64 ag] 46) := ⟨_, rfl⟩
      have hX : Bk w5 wr.heap.size 46 #[.int .i64 a, .int .i64 px, .int .i64 py, .float .f32 sz, .int .i64 ag] := by rw [hw5]; exact Bk.new' rfl
      have hx5 : Ext wr w5 := by rw [hw5]; exact (Ext.refl wr).alloc _
      go_wp2_with fail
      rw [← hw5]
      have hlX := hX.lt
      have P0 : ∀ w', Ext w5 w' → w'.cell? ⟨wr.heap.size, 0, none⟩ = some (.int .i64 a) := fun w' h => (hX.ext h).cell 0
      have P1 : ∀ w', Ext w5 w' → w'.cell? ⟨wr.heap.size, 1, none⟩ = some (.int .i64 px) := fun w' h => (hX.ext h).cell 1
      have P2 : ∀ w', Ext w5 w' → w'.cell? ⟨wr.heap.size, 2, none⟩ = some (.int .i64 py) := fun w' h => (hX.ext h).cell 2
      have P3 : ∀ w', Ext w5 w' → w'.cell? ⟨wr.heap.size, 3, none⟩ = some (.float .f32 sz) := fun w' h => (hX.ext h).cell 3
      have P4 : ∀ w', Ext w5 w' → w'.cell? ⟨wr.heap.size, 4, none⟩ = some (.int .i64 ag) := fun w' h => (hX.ext h).cell 4
      have hbk5 : ad.block < wr.heap.size := by have := hx.size; omega
      have hka5 : ak.block < wr.heap.size := by have := hx.size; omega
      have F0 : ∀ w', Ext w5 w' → w'.cell? (ad.add (i * 5)) = some (.int .i64 b) := fun w' h => ((hx5.trans h).cell _ (by rw [add_block]; exact hbk5)).trans f0
      have F1 : ∀ w', Ext w5 w' → w'.cell? ⟨(ad.add (i * 5)).block, (ad.add (i * 5)).off + 1, none⟩ = some (.int .i64 px2) := fun w' h => ((hx5.trans h).cell _ (by show (ad.add (i * 5)).block < _; rw [add_block]; exact hbk5)).trans f1
      have F2 : ∀ w', Ext w5 w' → w'.cell? ⟨(ad.add (i * 5)).block, (ad.add (i * 5)).off + 2, none⟩ = some (.int .i64 py2) := fun w' h => ((hx5.trans h).cell _ (by show (ad.add (i * 5)).block < _; rw [add_block]; exact hbk5)).trans f2
      have F3 : ∀ w', Ext w5 w' → w'.cell? ⟨(ad.add (i * 5)).block, (ad.add (i * 5)).off + 3, none⟩ = some (.float .f32 sz2) := fun w' h => ((hx5.trans h).cell _ (by show (ad.add (i * 5)).block < _; rw [add_block]; exact hbk5)).trans f3
      have F4 : ∀ w', Ext w5 w' → w'.cell? ⟨(ad.add (i * 5)).block, (ad.add (i * 5)).off + 4, none⟩ = some (.int .i64 ag2) := fun w' h => ((hx5.trans h).cell _ (by show (ad.add (i * 5)).block < _; rw [add_block]; exact hbk5)).trans f4
      have G1 : ∀ w', Ext w5 w' → w'.cell? ⟨(ak.add (a * 13)).block, (ak.add (a * 13)).off + 11, none⟩ = some (.int .i64 sa) := fun w' h => ((hx5.trans h).cell _ (by show (ak.add (a * 13)).block < _; rw [add_block]; exact hka5)).trans g1
      have G2 : ∀ w', Ext w5 w' → w'.cell? ⟨(ak.add (b * 13)).block, (ak.add (b * 13)).off + 11, none⟩ = some (.int .i64 sb) := fun w' h => ((hx5.trans h).cell _ (by show (ak.add (b * 13)).block < _; rw [add_block]; exact hka5)).trans g2
      clear hw5 hX d0 d1 d2 d3 d4 f0 f1 f2 f3 f4 g1 g2 hpw hdw
      refine wp_region_noPanic ?_
      refine wp_region_held_drew (S := fun w' => Ext w5 w') (by kernel_rfl) ?_ (fun hHeld => ?_)
      · (repeat (first | exact Ext.refl _ | assumption | refine Ext.setCell ?_ (by first | (simp; done) | (simp; omega)) _ | refine Ext.drewN ?_ _ | refine Ext.alloc ?_ _ | refine Ext.drew ?_ | refine Ext.trans ?_ (by assumption)))
      refine wpAnyH_take (i := 0) (oi := ?o1x0) (v := ?v1x0) ?hi1x0 (by kernel_rfl) ?hf1x0 ?hr1x0 (fun _ _ _ h => h) ?hy1x0 (by assumption) ?rest1x0
      case hi1x0 => (simp only [List.getElem?_toArray, List.getElem?_cons_zero]; exact rfl)
      case hf1x0 => kernel_rfl
      case hr1x0 => kernel_rfl
      case hy1x0 => (refine Or.inl ⟨by rfl, ?_⟩; intro w hSw; (try dsimp only at hSw); go_simp; try with_reducible rfl)
      simp only [put_mk, List.set_cons_succ, List.set_cons_zero]
      refine wpAnyH_take (i := 1) (oi := ?o1x1) (v := ?v1x1) ?hi1x1 (by kernel_rfl) ?hf1x1 ?hr1x1 (fun _ _ _ h => h) ?hy1x1 (by assumption) ?rest1x1
      case hi1x1 => (simp only [List.getElem?_toArray, List.getElem?_cons_succ, List.getElem?_cons_zero]; exact rfl)
      case hf1x1 => kernel_rfl
      case hr1x1 => kernel_rfl
      case hy1x1 => (refine Or.inl ⟨by rfl, ?_⟩; intro w hSw; (try dsimp only at hSw); go_simp; try with_reducible rfl)
      simp only [put_mk, List.set_cons_succ, List.set_cons_zero]
      refine wpAnyH_take (i := 2) (oi := ?o1x2) (v := ?v1x2) ?hi1x2 (by kernel_rfl) ?hf1x2 ?hr1x2 (fun _ _ _ h => h) ?hy1x2 (by assumption) ?rest1x2
      case hi1x2 => (simp only [List.getElem?_toArray, List.getElem?_cons_succ, List.getElem?_cons_zero]; exact rfl)
      case hf1x2 => kernel_rfl
      case hr1x2 => kernel_rfl
      case hy1x2 => (refine Or.inl ⟨by rfl, ?_⟩; intro w hSw; (try dsimp only at hSw); go_simp; try with_reducible rfl)
      simp only [put_mk, List.set_cons_succ, List.set_cons_zero]
      refine wpAnyH_take (i := 3) (oi := ?o1x3) (v := ?v1x3) ?hi1x3 (by kernel_rfl) ?hf1x3 ?hr1x3 (fun _ _ _ h => h) ?hy1x3 (by assumption) ?rest1x3
      case hi1x3 => (simp only [List.getElem?_toArray, List.getElem?_cons_succ, List.getElem?_cons_zero]; exact rfl)
      case hf1x3 => kernel_rfl
      case hr1x3 => kernel_rfl
      case hy1x3 => (refine Or.inl ⟨by rfl, ?_⟩; intro w hSw; (try dsimp only at hSw); go_simp; try with_reducible rfl)
      simp only [put_mk, List.set_cons_succ, List.set_cons_zero]
      refine wpAnyH_take (i := 4) (oi := ?o1x4) (v := ?v1x4) ?hi1x4 (by kernel_rfl) ?hf1x4 ?hr1x4 (fun _ _ _ h => h) ?hy1x4 (by assumption) ?rest1x4
      case hi1x4 => (simp only [List.getElem?_toArray, List.getElem?_cons_succ, List.getElem?_cons_zero]; exact rfl)
      case hf1x4 => kernel_rfl
      case hr1x4 => kernel_rfl
      case hy1x4 => (refine Or.inl ⟨by rfl, ?_⟩; intro w hSw; (try dsimp only at hSw); go_simp; try with_reducible rfl)
      simp only [put_mk, List.set_cons_succ, List.set_cons_zero]
      refine wpAnyH_take (i := 5) (oi := ?o1x5) (v := ?v1x5) ?hi1x5 (by kernel_rfl) ?hf1x5 ?hr1x5 (fun _ _ _ h => h) ?hy1x5 (by assumption) ?rest1x5
      case hi1x5 => (simp only [List.getElem?_toArray, List.getElem?_cons_succ, List.getElem?_cons_zero]; exact rfl)
      case hf1x5 => kernel_rfl
      case hr1x5 => kernel_rfl
      case hy1x5 => (refine Or.inl ⟨by rfl, ?_⟩; intro w hSw; (try dsimp only at hSw); go_simp; try with_reducible rfl)
      simp only [put_mk, List.set_cons_succ, List.set_cons_zero]
      refine wpAnyH_take (i := 6) (oi := ?o1x6) (v := ?v1x6) ?hi1x6 (by kernel_rfl) ?hf1x6 ?hr1x6 (fun _ _ _ h => h) ?hy1x6 (by assumption) ?rest1x6
      case hi1x6 => (simp only [List.getElem?_toArray, List.getElem?_cons_succ, List.getElem?_cons_zero]; exact rfl)
      case hf1x6 => kernel_rfl
      case hr1x6 => kernel_rfl
      case hy1x6 => (refine Or.inl ⟨by rfl, ?_⟩; intro w hSw; (try dsimp only at hSw); go_simp; try with_reducible rfl)
      simp only [put_mk, List.set_cons_succ, List.set_cons_zero]
      refine wpAnyH_take (i := 7) (oi := ?o1x7) (v := ?v1x7) ?hi1x7 (by kernel_rfl) ?hf1x7 ?hr1x7 (fun _ _ _ h => h) ?hy1x7 (by assumption) ?rest1x7
      case hi1x7 => (simp only [List.getElem?_toArray, List.getElem?_cons_succ, List.getElem?_cons_zero]; exact rfl)
      case hf1x7 => kernel_rfl
      case hr1x7 => kernel_rfl
      case hy1x7 => (refine Or.inl ⟨by rfl, ?_⟩; intro w hSw; (try dsimp only at hSw); go_simp; try with_reducible rfl)
      simp only [put_mk, List.set_cons_succ, List.set_cons_zero]
      refine wpAnyH_take (i := 8) (oi := ?o1x8) (v := ?v1x8) ?hi1x8 (by kernel_rfl) ?hf1x8 ?hr1x8 (fun _ _ _ h => h) ?hy1x8 (by assumption) ?rest1x8
      case hi1x8 => (simp only [List.getElem?_toArray, List.getElem?_cons_succ, List.getElem?_cons_zero]; exact rfl)
      case hf1x8 => kernel_rfl
      case hr1x8 => kernel_rfl
      case hy1x8 => (refine Or.inl ⟨by rfl, ?_⟩; intro w hSw; (try dsimp only at hSw); go_simp; try with_reducible rfl)
      simp only [put_mk, List.set_cons_succ, List.set_cons_zero]
      refine wpAnyH_take (i := 9) (oi := ?o1x9) (v := ?v1x9) ?hi1x9 (by kernel_rfl) ?hf1x9 ?hr1x9 (fun _ _ _ h => h) ?hy1x9 (by assumption) ?rest1x9
      case hi1x9 => (simp only [List.getElem?_toArray, List.getElem?_cons_succ, List.getElem?_cons_zero]; exact rfl)
      case hf1x9 => kernel_rfl
      case hr1x9 => kernel_rfl
      case hy1x9 => (refine Or.inl ⟨by rfl, ?_⟩; intro w hSw; (try dsimp only at hSw); go_simp; try with_reducible rfl)
      simp only [put_mk, List.set_cons_succ, List.set_cons_zero]
      refine wpAnyH_take (i := 10) (oi := ?o1x10) (v := ?v1x10) ?hi1x10 (by kernel_rfl) ?hf1x10 ?hr1x10 (fun _ _ _ h => h) ?hy1x10 (by assumption) ?rest1x10
      case hi1x10 => (simp only [List.getElem?_toArray, List.getElem?_cons_succ, List.getElem?_cons_zero]; exact rfl)
      case hf1x10 => kernel_rfl
      case hr1x10 => kernel_rfl
      case hy1x10 => (refine Or.inl ⟨by rfl, ?_⟩; intro w hSw; (try dsimp only at hSw); go_simp; try with_reducible rfl)
      simp only [put_mk, List.set_cons_succ, List.set_cons_zero]
      refine wpAnyH_take (i := 11) (oi := ?o1x11) (v := ?v1x11) ?hi1x11 (by kernel_rfl) ?hf1x11 ?hr1x11 (fun _ _ _ h => h) ?hy1x11 (by assumption) ?rest1x11
      case hi1x11 => (simp only [List.getElem?_toArray, List.getElem?_cons_succ, List.getElem?_cons_zero]; exact rfl)
      case hf1x11 => kernel_rfl
      case hr1x11 => kernel_rfl
      case hy1x11 => (refine Or.inl ⟨by rfl, ?_⟩; intro w hSw; (try dsimp only at hSw); go_simp; try with_reducible rfl)
      simp only [put_mk, List.set_cons_succ, List.set_cons_zero]
      refine wpAnyH_take (i := 12) (oi := ?o1x12) (v := ?v1x12) ?hi1x12 (by kernel_rfl) ?hf1x12 ?hr1x12 (fun _ _ _ h => h) ?hy1x12 (by assumption) ?rest1x12
      case hi1x12 => (simp only [List.getElem?_toArray, List.getElem?_cons_succ, List.getElem?_cons_zero]; exact rfl)
      case hf1x12 => kernel_rfl
      case hr1x12 => kernel_rfl
      case hy1x12 => (refine Or.inl ⟨by rfl, ?_⟩; intro w hSw; (try dsimp only at hSw); go_simp; try with_reducible rfl)
      simp only [put_mk, List.set_cons_succ, List.set_cons_zero]
      refine wpAnyH_take (i := 13) (oi := ?o1x13) (v := ?v1x13) ?hi1x13 (by kernel_rfl) ?hf1x13 ?hr1x13 (fun _ _ _ h => h) ?hy1x13 (by assumption) ?rest1x13
      case hi1x13 => (simp only [List.getElem?_toArray, List.getElem?_cons_succ, List.getElem?_cons_zero]; exact rfl)
      case hf1x13 => kernel_rfl
      case hr1x13 => kernel_rfl
      case hy1x13 => (refine Or.inl ⟨by rfl, ?_⟩; intro w hSw; (try dsimp only at hSw); go_simp; try with_reducible rfl)
      simp only [put_mk, List.set_cons_succ, List.set_cons_zero]
      refine wpAnyH_take (i := 14) (oi := ?o1x14) (v := ?v1x14) ?hi1x14 (by kernel_rfl) ?hf1x14 ?hr1x14 (fun _ _ _ h => h) ?hy1x14 (by assumption) ?rest1x14
      case hi1x14 => (simp only [List.getElem?_toArray, List.getElem?_cons_succ, List.getElem?_cons_zero]; exact rfl)
      case hf1x14 => kernel_rfl
      case hr1x14 => kernel_rfl
      case hy1x14 => (refine Or.inl ⟨by rfl, ?_⟩; intro w hSw; (try dsimp only at hSw); go_simp; try with_reducible rfl)
      simp only [put_mk, List.set_cons_succ, List.set_cons_zero]
      refine wpAnyH_take (i := 15) (oi := ?o1x15) (v := ?v1x15) ?hi1x15 (by kernel_rfl) ?hf1x15 ?hr1x15 (fun _ _ _ h => h) ?hy1x15 (by assumption) ?rest1x15
      case hi1x15 => (simp only [List.getElem?_toArray, List.getElem?_cons_succ, List.getElem?_cons_zero]; exact rfl)
      case hf1x15 => kernel_rfl
      case hr1x15 => kernel_rfl
      case hy1x15 => (refine Or.inl ⟨by rfl, ?_⟩; intro w hSw; (try dsimp only at hSw); go_simp; try with_reducible rfl)
      simp only [put_mk, List.set_cons_succ, List.set_cons_zero]
      refine wpAnyH_take (i := 16) (oi := ?o1x16) (v := ?v1x16) ?hi1x16 (by kernel_rfl) ?hf1x16 ?hr1x16 (fun _ _ _ h => h) ?hy1x16 (by assumption) ?rest1x16
      case hi1x16 => (simp only [List.getElem?_toArray, List.getElem?_cons_succ, List.getElem?_cons_zero]; exact rfl)
      case hf1x16 => kernel_rfl
      case hr1x16 => kernel_rfl
      case hy1x16 => (refine Or.inl ⟨by rfl, ?_⟩; intro w hSw; (try dsimp only at hSw); go_simp; try with_reducible rfl)
      simp only [put_mk, List.set_cons_succ, List.set_cons_zero]
      refine wpAnyH_done (by kernel_rfl) ?_ _
      refine NoPanic.normal ?_
      go_wp2_with fail
      refine wp_region_noPanic ?_
      refine wp_region_held_drew (S := fun w' => Ext w5 w') (by kernel_rfl) ?_ (fun hHeld => ?_)
      · (repeat (first | exact Ext.refl _ | assumption | refine Ext.setCell ?_ (by first | (simp; done) | (simp; omega)) _ | refine Ext.drewN ?_ _ | refine Ext.alloc ?_ _ | refine Ext.drew ?_ | refine Ext.trans ?_ (by assumption)))
      refine wpAnyH_take (i := 0) (oi := ?o2x0) (v := ?v2x0) ?hi2x0 (by kernel_rfl) ?hf2x0 ?hr2x0 (fun _ _ _ h => h) ?hy2x0 (by assumption) ?rest2x0
      case hi2x0 => (simp only [List.getElem?_toArray, List.getElem?_cons_zero]; exact rfl)
      case hf2x0 => kernel_rfl
      case hr2x0 => kernel_rfl
      case hy2x0 => (refine Or.inl ⟨by rfl, ?_⟩; intro w hSw; (try dsimp only at hSw); go_simp; try with_reducible rfl)
      simp only [put_mk, List.set_cons_succ, List.set_cons_zero]
      refine wpAnyH_take (i := 1) (oi := ?o2x1) (v := ?v2x1) ?hi2x1 (by kernel_rfl) ?hf2x1 ?hr2x1 (fun _ _ _ h => h) ?hy2x1 (by assumption) ?rest2x1
      case hi2x1 => (simp only [List.getElem?_toArray, List.getElem?_cons_succ, List.getElem?_cons_zero]; exact rfl)
      case hf2x1 => kernel_rfl
      case hr2x1 => kernel_rfl
      case hy2x1 => (refine Or.inl ⟨by rfl, ?_⟩; intro w hSw; (try dsimp only at hSw); go_simp; try with_reducible rfl)
      simp only [put_mk, List.set_cons_succ, List.set_cons_zero]
      refine wpAnyH_take (i := 2) (oi := ?o2x2) (v := ?v2x2) ?hi2x2 (by kernel_rfl) ?hf2x2 ?hr2x2 (fun _ _ _ h => h) ?hy2x2 (by assumption) ?rest2x2
      case hi2x2 => (simp only [List.getElem?_toArray, List.getElem?_cons_succ, List.getElem?_cons_zero]; exact rfl)
      case hf2x2 => kernel_rfl
      case hr2x2 => kernel_rfl
      case hy2x2 => (refine Or.inl ⟨by rfl, ?_⟩; intro w hSw; (try dsimp only at hSw); go_simp; try with_reducible rfl)
      simp only [put_mk, List.set_cons_succ, List.set_cons_zero]
      refine wpAnyH_take (i := 3) (oi := ?o2x3) (v := ?v2x3) ?hi2x3 (by kernel_rfl) ?hf2x3 ?hr2x3 (fun _ _ _ h => h) ?hy2x3 (by assumption) ?rest2x3
      case hi2x3 => (simp only [List.getElem?_toArray, List.getElem?_cons_succ, List.getElem?_cons_zero]; exact rfl)
      case hf2x3 => kernel_rfl
      case hr2x3 => kernel_rfl
      case hy2x3 => (refine Or.inl ⟨by rfl, ?_⟩; intro w hSw; (try dsimp only at hSw); go_simp; try with_reducible rfl)
      simp only [put_mk, List.set_cons_succ, List.set_cons_zero]
      refine wpAnyH_take (i := 4) (oi := ?o2x4) (v := ?v2x4) ?hi2x4 (by kernel_rfl) ?hf2x4 ?hr2x4 (fun _ _ _ h => h) ?hy2x4 (by assumption) ?rest2x4
      case hi2x4 => (simp only [List.getElem?_toArray, List.getElem?_cons_succ, List.getElem?_cons_zero]; exact rfl)
      case hf2x4 => kernel_rfl
      case hr2x4 => kernel_rfl
      case hy2x4 => (refine Or.inl ⟨by rfl, ?_⟩; intro w hSw; (try dsimp only at hSw); go_simp; try with_reducible rfl)
      simp only [put_mk, List.set_cons_succ, List.set_cons_zero]
      refine wpAnyH_ready (rs := [5]) (by kernel_rfl) (by simp) ?_
      refine AllReadyH.cons (o := ?o2x5) ?hi2x5 (fun K hK => ?_) AllReadyH.nil
      case hi2x5 => (simp only [List.getElem?_toArray, List.getElem?_cons_succ, List.getElem?_cons_zero]; exact rfl)
      go_simp
      refine ((HSQ _).out).mono ?_
      rintro e w6 ⟨rfl, hb6⟩
      refine hK.out _ _ ?_ (fun hHeld => ?_)
      · (repeat (first | exact Ext.refl _ | assumption | refine Ext.setCell ?_ (by first | (simp; done) | (simp; omega)) _ | refine Ext.drewN ?_ _ | refine Ext.alloc ?_ _ | refine Ext.drew ?_ | refine Ext.trans ?_ (by assumption)))
      clear hK K
      refine wpAnyH_take (i := 6) (oi := ?o2x6) (v := ?v2x6) ?hi2x6 (by kernel_rfl) ?hf2x6 ?hr2x6 (fun _ _ _ h => h) ?hy2x6 (by assumption) ?rest2x6
      case hi2x6 => (simp only [List.getElem?_toArray, List.getElem?_cons_succ, List.getElem?_cons_zero]; exact rfl)
      case hf2x6 => kernel_rfl
      case hr2x6 => kernel_rfl
      case hy2x6 => (refine Or.inl ⟨by rfl, ?_⟩; intro w hSw; (try dsimp only at hSw); go_simp; try with_reducible rfl)
      simp only [put_mk, List.set_cons_succ, List.set_cons_zero]
      refine wpAnyH_done (by kernel_rfl) ?_ _
      refine NoPanic.normal ?_
      by_cases hki : k = i
      · have HV : Hid (v1 = v0) := by show _ = _; rw [Hst.out, (Hno (.inl hki)).out, if_neg (by decide)]
        clear Hno Hye Hst
        have e1 : (k : Int) = i := by omega
        have e2 : ((k : Int) != i) = false := by simp; omega
        clear hki
        go_wp2_with fail
        go_roundw
        case rel => exact ⟨k + 1, by omega, by go_num, by rw [Hv1.out, HV.out], (by repeat (first | exact Ext.refl _ | assumption | refine Ext.setCell ?_ (by first | (simp; done) | (simp; omega)) _ | refine Ext.drewN ?_ _ | refine Ext.alloc ?_ _ | refine Ext.drew ?_ | refine Ext.trans ?_ (by assumption)))⟩
        case measure => simp [intOf]; omega
      · have e1 : ¬ (k : Int) = i := by omega
        have e2 : ((k : Int) != i) = true := by simp; omega
        obtain ⟨rr, hrr⟩ : ∃ rr : Nat, rr = r * r := ⟨_, rfl⟩
        have hr4 : rr ≤ 4096 := by rw [hrr]; exact Nat.le_trans (Nat.mul_le_mul r64 r64) (by decide)
        have W3 : wrap64 ((r : Int) * (r : Int)) = (rr : Int) := by rw [← Int.natCast_mul, ← hrr]; exact IntWalk.wrap64_in _ ⟨by omega, by omega⟩
        by_cases hq : q < rr
        · have HV : Hid (v1 = fadd v0 (wgt sz q r)) := by show _ = _; rw [Hst.out, (Hye hki (by rw [← hrr]; exact hq)).out, if_pos rfl]
          have hq' : (q : Int) < rr := Int.ofNat_lt.2 hq
          have HR := fun (w : World) => hidA (noiseRoot_any (K := 60) (int_bd' d60) (int_pos q) (by decide) w)
          obtain ⟨p1, p2, p3, ⟨_, _, _, p4⟩, _⟩ := wgt_ok (size := sz) hsz (by rw [← hrr]; exact hq) r64
          have p5 := (add_any HN.out p4).1
          have q1 := fun (w : World) => run_float_arith (P := Tryd.prog) w .quo 24 .f32 _ _ _ p1
          have q2 := fun (w : World) => run_float_arith (P := Tryd.prog) w .sub 24 .f32 _ _ _ p2
          have q3 := fun (w : World) => run_float_arith (P := Tryd.prog) w .mul 24 .f32 _ _ _ p3
          have q4 := fun (w : World) => run_float_arith (P := Tryd.prog) w .add 24 .f32 _ _ _ p5
          clear Hno Hye Hst p1 p2 p3 p4 p5 hki hq hrr d60
          generalize fadd v0 (wgt sz q r) = v2 at *
          generalize wgt sz q r = v3 at *
          generalize fsub 1065353216 (fdiv (rootB (floatOfInt .f32 (q : Int))) (floatOfInt .f32 (r : Int))) = v4 at *
          generalize fdiv (rootB (floatOfInt .f32 (q : Int))) (floatOfInt .f32 (r : Int)) = v5 at *
          generalize rootB (floatOfInt .f32 (q : Int)) = v6 at *
          go_wp2_with fail
          refine wp_region_noPanic ?_
          refine wp_region_held_drew (S := fun w' => Ext w5 w') (by kernel_rfl) ?_ (fun hHeld => ?_)
          · (repeat (first | exact Ext.refl _ | assumption | refine Ext.setCell ?_ (by first | (simp; done) | (simp; omega)) _ | refine Ext.drewN ?_ _ | refine Ext.alloc ?_ _ | refine Ext.drew ?_ | refine Ext.trans ?_ (by assumption)))
          refine wpAnyH_take (i := 0) (oi := ?o3x0) (v := ?v3x0) ?hi3x0 (by kernel_rfl) ?hf3x0 ?hr3x0 (fun _ _ _ h => h) ?hy3x0 (by assumption) ?rest3x0
          case hi3x0 => (simp only [List.getElem?_toArray, List.getElem?_cons_zero]; exact rfl)
          case hf3x0 => kernel_rfl
          case hr3x0 => kernel_rfl
          case hy3x0 => (refine Or.inl ⟨by rfl, ?_⟩; intro w hSw; (try dsimp only at hSw); go_simp; try with_reducible rfl)
          simp only [put_mk, List.set_cons_succ, List.set_cons_zero]
          refine wpAnyH_take (i := 1) (oi := ?o3x1) (v := ?v3x1) ?hi3x1 (by kernel_rfl) ?hf3x1 ?hr3x1 (fun _ _ _ h => h) ?hy3x1 (by assumption) ?rest3x1
          case hi3x1 => (simp only [List.getElem?_toArray, List.getElem?_cons_succ, List.getElem?_cons_zero]; exact rfl)
          case hf3x1 => kernel_rfl
          case hr3x1 => kernel_rfl
          case hy3x1 => (refine Or.inl ⟨by rfl, ?_⟩; intro w hSw; (try dsimp only at hSw); go_simp; try with_reducible rfl)
          simp only [put_mk, List.set_cons_succ, List.set_cons_zero]
          refine wpAnyH_take (i := 2) (oi := ?o3x2) (v := ?v3x2) ?hi3x2 (by kernel_rfl) ?hf3x2 ?hr3x2 (fun _ _ _ h => h) ?hy3x2 (by assumption) ?rest3x2
          case hi3x2 => (simp only [List.getElem?_toArray, List.getElem?_cons_succ, List.getElem?_cons_zero]; exact rfl)
          case hf3x2 => kernel_rfl
          case hr3x2 => kernel_rfl
          case hy3x2 => (refine Or.inl ⟨by rfl, ?_⟩; intro w hSw; (try dsimp only at hSw); go_simp; try with_reducible rfl)
          simp only [put_mk, List.set_cons_succ, List.set_cons_zero]
          refine wpAnyH_take (i := 3) (oi := ?o3x3) (v := ?v3x3) ?hi3x3 (by kernel_rfl) ?hf3x3 ?hr3x3 (fun _ _ _ h => h) ?hy3x3 (by assumption) ?rest3x3
          case hi3x3 => (simp only [List.getElem?_toArray, List.getElem?_cons_succ, List.getElem?_cons_zero]; exact rfl)
          case hf3x3 => kernel_rfl
          case hr3x3 => kernel_rfl
          case hy3x3 => (refine Or.inl ⟨by rfl, ?_⟩; intro w hSw; (try dsimp only at hSw); go_simp; try with_reducible rfl)
          simp only [put_mk, List.set_cons_succ, List.set_cons_zero]
          refine wpAnyH_take (i := 4) (oi := ?o3x4) (v := ?v3x4) ?hi3x4 (by kernel_rfl) ?hf3x4 ?hr3x4 (fun _ _ _ h => h) ?hy3x4 (by assumption) ?rest3x4
          case hi3x4 => (simp only [List.getElem?_toArray, List.getElem?_cons_succ, List.getElem?_cons_zero]; exact rfl)
          case hf3x4 => kernel_rfl
          case hr3x4 => kernel_rfl
          case hy3x4 => (refine Or.inl ⟨by rfl, ?_⟩; intro w hSw; (try dsimp only at hSw); go_simp; try with_reducible rfl)
          simp only [put_mk, List.set_cons_succ, List.set_cons_zero]
          refine wpAnyH_take (i := 6) (oi := ?o3x6) (v := ?v3x6) ?hi3x6 (by kernel_rfl) ?hf3x6 ?hr3x6 (fun _ _ _ h => h) ?hy3x6 (by assumption) ?rest3x6
          case hi3x6 => (simp only [List.getElem?_toArray, List.getElem?_cons_succ, List.getElem?_cons_zero]; exact rfl)
          case hf3x6 => kernel_rfl
          case hr3x6 => kernel_rfl
          case hy3x6 => (refine Or.inl ⟨by rfl, ?_⟩; intro w hSw; (try dsimp only at hSw); go_simp; try with_reducible rfl)
          simp only [put_mk, List.set_cons_succ, List.set_cons_zero]
          refine wpAnyH_take (i := 7) (oi := ?o3x7) (v := ?v3x7) ?hi3x7 (by kernel_rfl) ?hf3x7 ?hr3x7 (fun _ _ _ h => h) ?hy3x7 (by assumption) ?rest3x7
          case hi3x7 => (simp only [List.getElem?_toArray, List.getElem?_cons_succ, List.getElem?_cons_zero]; exact rfl)
          case hf3x7 => kernel_rfl
          case hr3x7 => kernel_rfl
          case hy3x7 => (refine Or.inl ⟨by rfl, ?_⟩; intro w hSw; (try dsimp only at hSw); go_simp; try with_reducible rfl)
          simp only [put_mk, List.set_cons_succ, List.set_cons_zero]
          refine wpAnyH_ready (rs := [5]) (by kernel_rfl) (by simp) ?_
          refine AllReadyH.cons (o := ?o3x5) ?hi3x5 (fun K hK => ?_) AllReadyH.nil
          case hi3x5 => (simp only [List.getElem?_toArray, List.getElem?_cons_succ, List.getElem?_cons_zero]; exact rfl)
          go_simp
          refine ((HR _).out).mono ?_
          rintro e w' ⟨rfl, hw'⟩
          subst hw'
          refine hK.out _ _ ?_ (fun hHeld => ?_)
          · (repeat (first | exact Ext.refl _ | assumption | refine Ext.setCell ?_ (by first | (simp; done) | (simp; omega)) _ | refine Ext.drewN ?_ _ | refine Ext.alloc ?_ _ | refine Ext.drew ?_ | refine Ext.trans ?_ (by assumption)))
          clear hK K
          refine wpAnyH_take (i := 8) (oi := ?o3x8) (v := ?v3x8) ?hi3x8 (by kernel_rfl) ?hf3x8 ?hr3x8 (fun _ _ _ h => h) ?hy3x8 (by assumption) ?rest3x8
          case hi3x8 => (simp only [List.getElem?_toArray, List.getElem?_cons_succ, List.getElem?_cons_zero]; exact rfl)
          case hf3x8 => kernel_rfl
          case hr3x8 => kernel_rfl
          case hy3x8 => (refine Or.inl ⟨by rfl, ?_⟩; intro w hSw; (try dsimp only at hSw); go_simp; try with_reducible rfl)
          simp only [put_mk, List.set_cons_succ, List.set_cons_zero]
          refine wpAnyH_take (i := 9) (oi := ?o3x9) (v := ?v3x9) ?hi3x9 (by kernel_rfl) ?hf3x9 ?hr3x9 (fun _ _ _ h => h) ?hy3x9 (by assumption) ?rest3x9
          case hi3x9 => (simp only [List.getElem?_toArray, List.getElem?_cons_succ, List.getElem?_cons_zero]; exact rfl)
          case hf3x9 => kernel_rfl
          case hr3x9 => kernel_rfl
          case hy3x9 => (refine Or.inl ⟨by rfl, ?_⟩; intro w hSw; (try dsimp only at hSw); go_simp; try with_reducible rfl)
          simp only [put_mk, List.set_cons_succ, List.set_cons_zero]
          refine wpAnyH_take (i := 10) (oi := ?o3x10) (v := ?v3x10) ?hi3x10 (by kernel_rfl) ?hf3x10 ?hr3x10 (fun _ _ _ h => h) ?hy3x10 (by assumption) ?rest3x10
          case hi3x10 => (simp only [List.getElem?_toArray, List.getElem?_cons_succ, List.getElem?_cons_zero]; exact rfl)
          case hf3x10 => kernel_rfl
          case hr3x10 => kernel_rfl
          case hy3x10 => (refine Or.inl ⟨by rfl, ?_⟩; intro w hSw; (try dsimp only at hSw); go_simp; try with_reducible rfl)
          simp only [put_mk, List.set_cons_succ, List.set_cons_zero]
          refine wpAnyH_take (i := 11) (oi := ?o3x11) (v := ?v3x11) ?hi3x11 (by kernel_rfl) ?hf3x11 ?hr3x11 (fun _ _ _ h => h) ?hy3x11 (by assumption) ?rest3x11
          case hi3x11 => (simp only [List.getElem?_toArray, List.getElem?_cons_succ, List.getElem?_cons_zero]; exact rfl)
          case hf3x11 => kernel_rfl
          case hr3x11 => kernel_rfl
          case hy3x11 => (refine Or.inl ⟨by rfl, ?_⟩; intro w hSw; (try dsimp only at hSw); go_simp; try with_reducible rfl)
          simp only [put_mk, List.set_cons_succ, List.set_cons_zero]
          refine wpAnyH_take (i := 12) (oi := ?o3x12) (v := ?v3x12) ?hi3x12 (by kernel_rfl) ?hf3x12 ?hr3x12 (fun _ _ _ h => h) ?hy3x12 (by assumption) ?rest3x12
          case hi3x12 => (simp only [List.getElem?_toArray, List.getElem?_cons_succ, List.getElem?_cons_zero]; exact rfl)
          case hf3x12 => kernel_rfl
          case hr3x12 => kernel_rfl
          case hy3x12 => (refine Or.inl ⟨by rfl, ?_⟩; intro w hSw; (try dsimp only at hSw); go_simp; try with_reducible rfl)
          simp only [put_mk, List.set_cons_succ, List.set_cons_zero]
          refine wpAnyH_done (by kernel_rfl) ?_ _
          refine NoPanic.normal ?_
          go_wp2_with fail
          go_roundw
          case rel => exact ⟨k + 1, by omega, by go_num, by rw [Hv1.out, HV.out], (by repeat (first | exact Ext.refl _ | assumption | refine Ext.setCell ?_ (by first | (simp; done) | (simp; omega)) _ | refine Ext.drewN ?_ _ | refine Ext.alloc ?_ _ | refine Ext.drew ?_ | refine Ext.trans ?_ (by assumption)))⟩
          case measure => simp [intOf]; omega
        · have HV : Hid (v1 = v0) := by show _ = _; rw [Hst.out, (Hno (.inr (by rw [← hrr]; exact hq))).out, if_neg (by decide)]
          have hq' : ¬ (q : Int) < rr := fun h => hq (Int.ofNat_lt.1 h)
          clear Hno Hye Hst hki hq hrr
          go_wp2_with fail
          go_roundw
          case rel => exact ⟨k + 1, by omega, by go_num, by rw [Hv1.out, HV.out], (by repeat (first | exact Ext.refl _ | assumption | refine Ext.setCell ?_ (by first | (simp; done) | (simp; omega)) _ | refine Ext.drewN ?_ _ | refine Ext.alloc ?_ _ | refine Ext.drew ?_ | refine Ext.trans ?_ (by assumption)))⟩
          case measure => simp [intOf]; omega
    · obtain rfl : k = m := by omega
      go_wp2
      go_ret
      exact ⟨rfl, (by repeat (first | exact Ext.refl _ | assumption | refine Ext.setCell ?_ (by first | (simp; done) | (simp; omega)) _ | refine Ext.drewN ?_ _ | refine Ext.alloc ?_ _ | refine Ext.drew ?_ | refine Ext.trans ?_ (by assumption)))⟩
set_option maxRecDepth 100000 in
set_option maxHeartbeats 3200000 in
theorem crowdOf_any (A : Option Addr) (n c : Nat) (l : List KindR) (B : Option Addr) (m d : Nat) (p : List PlantR) (i : Nat) (w : World) (hn : l.length = n) (hd : Rd w A (kcells l)) (hm : p.length = m) (hp : Rd w B (pcells p)) (hbm : m ≤ 4000000000000) (hi : i < m) (he : ∀ x ∈ p, plantE l x = 0) (hl : ∀ x ∈ l, x.err = 0) :
    Calls Tryd.prog 14 #[.slice A n c, .slice B m d, .int .i64 i] w fun e w' => e = .returned (.float .f32 (crowdG l p i m).1) ∧ Ext w w' := by
  have Hm := hidA hm
  have Hn := hidA hn
  have HE := hidA he
  have HL := hidA hl
  clear hm hn he hl
  go_enter Tryd.func14, Tryd.ntmps14
  go_wp2_with fail
  go_loopw [7, 8, 16] (fun v f j wr => ∃ k : Nat, k ≤ m ∧ j = .int .i64 k ∧ v = .float .f32 (crowdG l p i k).1 ∧ f = .bool (crowdG l p i k).2 ∧ Ext w wr) (fun _ _ j _ => m - (intOf j).toNat)
  case atStart => exact ⟨0, Nat.zero_le _, rfl, rfl, rfl, (by repeat (first | exact Ext.refl _ | assumption | refine Ext.setCell ?_ (by first | (simp; done) | (simp; omega)) _ | refine Ext.drewN ?_ _ | refine Ext.alloc ?_ _ | refine Ext.drew ?_ | refine Ext.trans ?_ (by assumption)))⟩
  case round =>
    obtain ⟨k, hk, rfl, rfl, rfl, hx⟩ := hrel
    by_cases hlt : k < m
    · have HN := hidA (crowdG_nan (by have := Hm.out; omega : i < p.length) HE.out HL.out (show k ≤ p.length by have := Hm.out; omega))
      have Hst := hidA (crowdG_step l p i k)
      have Hno := fun h => hidA (near_no (l := l) (p := p) (i := i) (k := k) h)
      have Hye := fun h h2 => hidA (near_yes (l := l) (p := p) (i := i) (k := k) h h2)
      have hkl : k < p.length := by have := Hm.out; omega
      have hil : i < p.length := by have := Hm.out; omega
      obtain ⟨a, b, hr, hs⟩ := round_facts hkl hil HE.out HL.out
      obtain ⟨ad, rfl, hbk, _⟩ := hp.at (k := k) (by rw [pcells_length]; omega)
      obtain ⟨ak, rfl, hka, _⟩ := hd.at (k := a) (by rw [kcells_length]; have := hr.ha; omega)
      have hpw := hp.ext hx
      have hdw := hd.ext hx
      obtain ⟨d0, d1, d2, d3, d4⟩ := hpw.plant hkl
      obtain ⟨f0, f1, f2, f3, f4⟩ := hpw.plant hil
      have g1 := hdw.space hr.ha
      have g2 := hdw.space hr.hb
      have k0 : (0 : Int) ≤ k := by omega
      have k1 : (k : Int) < m := by omega
      have i0 : (0 : Int) ≤ i := by omega
      have i1 : (i : Int) < m := by omega
      have a0 : (0 : Int) ≤ a := by omega
      have a1 : (a : Int) < n := by have := hr.ha; have := Hn.out; omega
      have b0 : (0 : Int) ≤ b := by omega
      have b1 : (b : Int) < n := by have := hr.hb; have := Hn.out; omega
      rw [hs] at Hst
      generalize spR l p i k = r at *
      generalize sqK p i k = q at *
      clear hs
      generalize p[k] = x at *
      generalize p[i] = y at *
      obtain ⟨kd, px, py, sz, ag⟩ := x
      obtain ⟨kd2, px2, py2, sz2, ag2⟩ := y
      have hxk := hr.xk
      have hyk := hr.yk
      dsimp only at hxk hyk d0 d1 d2 d3 d4 f0 f1 f2 f3 f4 Hst
      subst hxk
      subst hyk
      have hla := hr.ha
      have hlb := hr.hb
      have sum := hr.sum
      have ha0 := hr.a0
      have hb0 := hr.b0
      have ha1 := hr.a1
      have hb1 := hr.b1
      generalize l[a].p = sa at *
      generalize l[b].p = sb at *
      have r64 := hr.r64
      have d60 := hr.d60
      have hsz := hr.size
      have W1 : wrap64 (sa + sb) = (r : Int) := by rw [sum]; exact IntWalk.wrap64_in _ ⟨by omega, by omega⟩
      have W2 : wrap64 (sb + sa) = (r : Int) := by rw [Int.add_comm]; exact W1
      have W5 : sb + sa = (r : Int) := by omega
      have W6 : IntKind.i64.wrap (r : Int) = r := IntWalk.i64_in _ (by omega)
      have W7 : IntKind.i64.wrap (q : Int) = q := IntWalk.i64_in _ ⟨by omega, by have : q < 1152921504606846976 := d60; omega⟩
      have HSQ := fun (w : World) => hidA (refSquare_any ⟨(a : Int), px, py, sz, ag⟩ ⟨(b : Int), px2, py2, sz2, ag2⟩ w hr.farx hr.fary)
      rw [hr.dxy] at HSQ
      dsimp only at HSQ
      have HW := fun (w : World) => hidA (weighed_any sz q r w hsz d60 r64)
      generalize hv1 : crowdG l p i (k + 1) = v1 at *
      have Hv1 := hidA hv1
      clear hv1
      generalize crowdG l p i k = v0 at *
      obtain ⟨v0, f0'⟩ := v0
      obtain ⟨v1, f1'⟩ := v1
      dsimp only at HN Hst ⊢
      have hp4 : q < r * r → ∃ (s : Bool) (mm kk : Nat), Ieee.single.read (wgt sz q r) = .number s mm ((kk : Int) - 149) := fun h => (wgt_ok (size := sz) hsz h r64).2.2.2.1
      clear hr HE HL
      obtain ⟨w5, hw5⟩ : ∃ w5, w5 = wr.alloc (.cells #[.int .i64 a, .int .i64 px, .int .i64 py, .float .f32 sz, .int .i64 ag] 46) := ⟨_, rfl⟩
      have hX : Bk w5 wr.heap.size 46 #[.int .i64 a, .int .i64 px, .int .i64 py, .float .f32 sz, .int .i64 ag] := by rw [hw5]; exact Bk.new' rfl
      have hx5 : Ext wr w5 := by rw [hw5]; exact (Ext.refl wr).alloc _
      go_wp2_with fail
      rw [← hw5]
      have hlX := hX.lt
      have P0 : ∀ w', Ext w5 w' → w'.cell? ⟨wr.heap.size, 0, none⟩ = some (.int .i64 a) := fun w' h => (hX.ext h).cell 0
      have P1 : ∀ w', Ext w5 w' → w'.cell? ⟨wr.heap.size, 1, none⟩ = some (.int .i64 px) := fun w' h => (hX.ext h).cell 1
      have P2 : ∀ w', Ext w5 w' → w'.cell? ⟨wr.heap.size, 2, none⟩ = some (.int .i64 py) := fun w' h => (hX.ext h).cell 2
      have P3 : ∀ w', Ext w5 w' → w'.cell? ⟨wr.heap.size, 3, none⟩ = some (.float .f32 sz) := fun w' h => (hX.ext h).cell 3
      have P4 : ∀ w', Ext w5 w' → w'.cell? ⟨wr.heap.size, 4, none⟩ = some (.int .i64 ag) := fun w' h => (hX.ext h).cell 4
      have hbk5 : ad.block < wr.heap.size := by have := hx.size; omega
      have hka5 : ak.block < wr.heap.size := by have := hx.size; omega
      have F0 : ∀ w', Ext w5 w' → w'.cell? (ad.add (i * 5)) = some (.int .i64 b) := fun w' h => ((hx5.trans h).cell _ (by rw [add_block]; exact hbk5)).trans f0
      have F1 : ∀ w', Ext w5 w' → w'.cell? ⟨(ad.add (i * 5)).block, (ad.add (i * 5)).off + 1, none⟩ = some (.int .i64 px2) := fun w' h => ((hx5.trans h).cell _ (by show (ad.add (i * 5)).block < _; rw [add_block]; exact hbk5)).trans f1
      have F2 : ∀ w', Ext w5 w' → w'.cell? ⟨(ad.add (i * 5)).block, (ad.add (i * 5)).off + 2, none⟩ = some (.int .i64 py2) := fun w' h => ((hx5.trans h).cell _ (by show (ad.add (i * 5)).block < _; rw [add_block]; exact hbk5)).trans f2
      have F3 : ∀ w', Ext w5 w' → w'.cell? ⟨(ad.add (i * 5)).block, (ad.add (i * 5)).off + 3, none⟩ = some (.float .f32 sz2) := fun w' h => ((hx5.trans h).cell _ (by show (ad.add (i * 5)).block < _; rw [add_block]; exact hbk5)).trans f3
      have F4 : ∀ w', Ext w5 w' → w'.cell? ⟨(ad.add (i * 5)).block, (ad.add (i * 5)).off + 4, none⟩ = some (.int .i64 ag2) := fun w' h => ((hx5.trans h).cell _ (by show (ad.add (i * 5)).block < _; rw [add_block]; exact hbk5)).trans f4
      have G1 : ∀ w', Ext w5 w' → w'.cell? ⟨(ak.add (a * 13)).block, (ak.add (a * 13)).off + 11, none⟩ = some (.int .i64 sa) := fun w' h => ((hx5.trans h).cell _ (by show (ak.add (a * 13)).block < _; rw [add_block]; exact hka5)).trans g1
      have G2 : ∀ w', Ext w5 w' → w'.cell? ⟨(ak.add (b * 13)).block, (ak.add (b * 13)).off + 11, none⟩ = some (.int .i64 sb) := fun w' h => ((hx5.trans h).cell _ (by show (ak.add (b * 13)).block < _; rw [add_block]; exact hka5)).trans g2
      clear hw5 hX d0 d1 d2 d3 d4 f0 f1 f2 f3 f4 g1 g2 hpw hdw
      refine wp_region_noPanic ?_
      refine wp_region_held_drew (S := fun w' => Ext w5 w') (by kernel_rfl) ?_ (fun hHeld => ?_)
      · (repeat (first | exact Ext.refl _ | assumption | refine Ext.setCell ?_ (by first | (simp; done) | (simp; omega)) _ | refine Ext.drewN ?_ _ | refine Ext.alloc ?_ _ | refine Ext.drew ?_ | refine Ext.trans ?_ (by assumption)))
      refine wpAnyH_take (i := 0) (oi := ?o4x0) (v := ?v4x0) ?hi4x0 (by kernel_rfl) ?hf4x0 ?hr4x0 (fun _ _ _ h => h) ?hy4x0 (by assumption) ?rest4x0
      case hi4x0 => (simp only [List.getElem?_toArray, List.getElem?_cons_zero]; exact rfl)
      case hf4x0 => kernel_rfl
      case hr4x0 => kernel_rfl
      case hy4x0 => (refine Or.inl ⟨by rfl, ?_⟩; intro w hSw; (try dsimp only at hSw); go_simp; try with_reducible rfl)
      simp only [put_mk, List.set_cons_succ, List.set_cons_zero]
      refine wpAnyH_take (i := 1) (oi := ?o4x1) (v := ?v4x1) ?hi4x1 (by kernel_rfl) ?hf4x1 ?hr4x1 (fun _ _ _ h => h) ?hy4x1 (by assumption) ?rest4x1
      case hi4x1 => (simp only [List.getElem?_toArray, List.getElem?_cons_succ, List.getElem?_cons_zero]; exact rfl)
      case hf4x1 => kernel_rfl
      case hr4x1 => kernel_rfl
      case hy4x1 => (refine Or.inl ⟨by rfl, ?_⟩; intro w hSw; (try dsimp only at hSw); go_simp; try with_reducible rfl)
      simp only [put_mk, List.set_cons_succ, List.set_cons_zero]
      refine wpAnyH_take (i := 2) (oi := ?o4x2) (v := ?v4x2) ?hi4x2 (by kernel_rfl) ?hf4x2 ?hr4x2 (fun _ _ _ h => h) ?hy4x2 (by assumption) ?rest4x2
      case hi4x2 => (simp only [List.getElem?_toArray, List.getElem?_cons_succ, List.getElem?_cons_zero]; exact rfl)
      case hf4x2 => kernel_rfl
      case hr4x2 => kernel_rfl
      case hy4x2 => (refine Or.inl ⟨by rfl, ?_⟩; intro w hSw; (try dsimp only at hSw); go_simp; try with_reducible rfl)
      simp only [put_mk, List.set_cons_succ, List.set_cons_zero]
      refine wpAnyH_take (i := 3) (oi := ?o4x3) (v := ?v4x3) ?hi4x3 (by kernel_rfl) ?hf4x3 ?hr4x3 (fun _ _ _ h => h) ?hy4x3 (by assumption) ?rest4x3
      case hi4x3 => (simp only [List.getElem?_toArray, List.getElem?_cons_succ, List.getElem?_cons_zero]; exact rfl)
      case hf4x3 => kernel_rfl
      case hr4x3 => kernel_rfl
      case hy4x3 => (refine Or.inl ⟨by rfl, ?_⟩; intro w hSw; (try dsimp only at hSw); go_simp; try with_reducible rfl)
      simp only [put_mk, List.set_cons_succ, List.set_cons_zero]
      refine wpAnyH_take (i := 4) (oi := ?o4x4) (v := ?v4x4) ?hi4x4 (by kernel_rfl) ?hf4x4 ?hr4x4 (fun _ _ _ h => h) ?hy4x4 (by assumption) ?rest4x4
      case hi4x4 => (simp only [List.getElem?_toArray, List.getElem?_cons_succ, List.getElem?_cons_zero]; exact rfl)
      case hf4x4 => kernel_rfl
      case hr4x4 => kernel_rfl
      case hy4x4 => (refine Or.inl ⟨by rfl, ?_⟩; intro w hSw; (try dsimp only at hSw); go_simp; try with_reducible rfl)
      simp only [put_mk, List.set_cons_succ, List.set_cons_zero]
      refine wpAnyH_take (i := 5) (oi := ?o4x5) (v := ?v4x5) ?hi4x5 (by kernel_rfl) ?hf4x5 ?hr4x5 (fun _ _ _ h => h) ?hy4x5 (by assumption) ?rest4x5
      case hi4x5 => (simp only [List.getElem?_toArray, List.getElem?_cons_succ, List.getElem?_cons_zero]; exact rfl)
      case hf4x5 => kernel_rfl
      case hr4x5 => kernel_rfl
      case hy4x5 => (refine Or.inl ⟨by rfl, ?_⟩; intro w hSw; (try dsimp only at hSw); go_simp; try with_reducible rfl)
      simp only [put_mk, List.set_cons_succ, List.set_cons_zero]
      refine wpAnyH_take (i := 6) (oi := ?o4x6) (v := ?v4x6) ?hi4x6 (by kernel_rfl) ?hf4x6 ?hr4x6 (fun _ _ _ h => h) ?hy4x6 (by assumption) ?rest4x6
      case hi4x6 => (simp only [List.getElem?_toArray, List.getElem?_cons_succ, List.getElem?_cons_zero]; exact rfl)
      case hf4x6 => kernel_rfl
      case hr4x6 => kernel_rfl
      case hy4x6 => (refine Or.inl ⟨by rfl, ?_⟩; intro w hSw; (try dsimp only at hSw); go_simp; try with_reducible rfl)
      simp only [put_mk, List.set_cons_succ, List.set_cons_zero]
      refine wpAnyH_take (i := 7) (oi := ?o4x7) (v := ?v4x7) ?hi4x7 (by kernel_rfl) ?hf4x7 ?hr4x7 (fun _ _ _ h => h) ?hy4x7 (by assumption) ?rest4x7
      case hi4x7 => (simp only [List.getElem?_toArray, List.getElem?_cons_succ, List.getElem?_cons_zero]; exact rfl)
      case hf4x7 => kernel_rfl
      case hr4x7 => kernel_rfl
      case hy4x7 => (refine Or.inl ⟨by rfl, ?_⟩; intro w hSw; (try dsimp only at hSw); go_simp; try with_reducible rfl)
      simp only [put_mk, List.set_cons_succ, List.set_cons_zero]
      refine wpAnyH_take (i := 8) (oi := ?o4x8) (v := ?v4x8) ?hi4x8 (by kernel_rfl) ?hf4x8 ?hr4x8 (fun _ _ _ h => h) ?hy4x8 (by assumption) ?rest4x8
      case hi4x8 => (simp only [List.getElem?_toArray, List.getElem?_cons_succ, List.getElem?_cons_zero]; exact rfl)
      case hf4x8 => kernel_rfl
      case hr4x8 => kernel_rfl
      case hy4x8 => (refine Or.inl ⟨by rfl, ?_⟩; intro w hSw; (try dsimp only at hSw); go_simp; try with_reducible rfl)
      simp only [put_mk, List.set_cons_succ, List.set_cons_zero]
      refine wpAnyH_take (i := 9) (oi := ?o4x9) (v := ?v4x9) ?hi4x9 (by kernel_rfl) ?hf4x9 ?hr4x9 (fun _ _ _ h => h) ?hy4x9 (by assumption) ?rest4x9
      case hi4x9 => (simp only [List.getElem?_toArray, List.getElem?_cons_succ, List.getElem?_cons_zero]; exact rfl)
      case hf4x9 => kernel_rfl
      case hr4x9 => kernel_rfl
      case hy4x9 => (refine Or.inl ⟨by rfl, ?_⟩; intro w hSw; (try dsimp only at hSw); go_simp; try with_reducible rfl)
      simp only [put_mk, List.set_cons_succ, List.set_cons_zero]
      refine wpAnyH_take (i := 10) (oi := ?o4x10) (v := ?v4x10) ?hi4x10 (by kernel_rfl) ?hf4x10 ?hr4x10 (fun _ _ _ h => h) ?hy4x10 (by assumption) ?rest4x10
      case hi4x10 => (simp only [List.getElem?_toArray, List.getElem?_cons_succ, List.getElem?_cons_zero]; exact rfl)
      case hf4x10 => kernel_rfl
      case hr4x10 => kernel_rfl
      case hy4x10 => (refine Or.inl ⟨by rfl, ?_⟩; intro w hSw; (try dsimp only at hSw); go_simp; try with_reducible rfl)
      simp only [put_mk, List.set_cons_succ, List.set_cons_zero]
      refine wpAnyH_take (i := 11) (oi := ?o4x11) (v := ?v4x11) ?hi4x11 (by kernel_rfl) ?hf4x11 ?hr4x11 (fun _ _ _ h => h) ?hy4x11 (by assumption) ?rest4x11
      case hi4x11 => (simp only [List.getElem?_toArray, List.getElem?_cons_succ, List.getElem?_cons_zero]; exact rfl)
      case hf4x11 => kernel_rfl
      case hr4x11 => kernel_rfl
      case hy4x11 => (refine Or.inl ⟨by rfl, ?_⟩; intro w hSw; (try dsimp only at hSw); go_simp; try with_reducible rfl)
      simp only [put_mk, List.set_cons_succ, List.set_cons_zero]
      refine wpAnyH_take (i := 12) (oi := ?o4x12) (v := ?v4x12) ?hi4x12 (by kernel_rfl) ?hf4x12 ?hr4x12 (fun _ _ _ h => h) ?hy4x12 (by assumption) ?rest4x12
      case hi4x12 => (simp only [List.getElem?_toArray, List.getElem?_cons_succ, List.getElem?_cons_zero]; exact rfl)
      case hf4x12 => kernel_rfl
      case hr4x12 => kernel_rfl
      case hy4x12 => (refine Or.inl ⟨by rfl, ?_⟩; intro w hSw; (try dsimp only at hSw); go_simp; try with_reducible rfl)
      simp only [put_mk, List.set_cons_succ, List.set_cons_zero]
      refine wpAnyH_take (i := 13) (oi := ?o4x13) (v := ?v4x13) ?hi4x13 (by kernel_rfl) ?hf4x13 ?hr4x13 (fun _ _ _ h => h) ?hy4x13 (by assumption) ?rest4x13
      case hi4x13 => (simp only [List.getElem?_toArray, List.getElem?_cons_succ, List.getElem?_cons_zero]; exact rfl)
      case hf4x13 => kernel_rfl
      case hr4x13 => kernel_rfl
      case hy4x13 => (refine Or.inl ⟨by rfl, ?_⟩; intro w hSw; (try dsimp only at hSw); go_simp; try with_reducible rfl)
      simp only [put_mk, List.set_cons_succ, List.set_cons_zero]
      refine wpAnyH_take (i := 14) (oi := ?o4x14) (v := ?v4x14) ?hi4x14 (by kernel_rfl) ?hf4x14 ?hr4x14 (fun _ _ _ h => h) ?hy4x14 (by assumption) ?rest4x14
      case hi4x14 => (simp only [List.getElem?_toArray, List.getElem?_cons_succ, List.getElem?_cons_zero]; exact rfl)
      case hf4x14 => kernel_rfl
      case hr4x14 => kernel_rfl
      case hy4x14 => (refine Or.inl ⟨by rfl, ?_⟩; intro w hSw; (try dsimp only at hSw); go_simp; try with_reducible rfl)
      simp only [put_mk, List.set_cons_succ, List.set_cons_zero]
      refine wpAnyH_take (i := 15) (oi := ?o4x15) (v := ?v4x15) ?hi4x15 (by kernel_rfl) ?hf4x15 ?hr4x15 (fun _ _ _ h => h) ?hy4x15 (by assumption) ?rest4x15
      case hi4x15 => (simp only [List.getElem?_toArray, List.getElem?_cons_succ, List.getElem?_cons_zero]; exact rfl)
      case hf4x15 => kernel_rfl
      case hr4x15 => kernel_rfl
      case hy4x15 => (refine Or.inl ⟨by rfl, ?_⟩; intro w hSw; (try dsimp only at hSw); go_simp; try with_reducible rfl)
      simp only [put_mk, List.set_cons_succ, List.set_cons_zero]
      refine wpAnyH_take (i := 16) (oi := ?o4x16) (v := ?v4x16) ?hi4x16 (by kernel_rfl) ?hf4x16 ?hr4x16 (fun _ _ _ h => h) ?hy4x16 (by assumption) ?rest4x16
      case hi4x16 => (simp only [List.getElem?_toArray, List.getElem?_cons_succ, List.getElem?_cons_zero]; exact rfl)
      case hf4x16 => kernel_rfl
      case hr4x16 => kernel_rfl
      case hy4x16 => (refine Or.inl ⟨by rfl, ?_⟩; intro w hSw; (try dsimp only at hSw); go_simp; try with_reducible rfl)
      simp only [put_mk, List.set_cons_succ, List.set_cons_zero]
      refine wpAnyH_take (i := 17) (oi := ?o4x17) (v := ?v4x17) ?hi4x17 (by kernel_rfl) ?hf4x17 ?hr4x17 (fun _ _ _ h => h) ?hy4x17 (by assumption) ?rest4x17
      case hi4x17 => (simp only [List.getElem?_toArray, List.getElem?_cons_succ, List.getElem?_cons_zero]; exact rfl)
      case hf4x17 => kernel_rfl
      case hr4x17 => kernel_rfl
      case hy4x17 => (refine Or.inl ⟨by rfl, ?_⟩; intro w hSw; (try dsimp only at hSw); go_simp; try with_reducible rfl)
      simp only [put_mk, List.set_cons_succ, List.set_cons_zero]
      refine wpAnyH_done (by kernel_rfl) ?_ _
      refine NoPanic.normal ?_
      obtain ⟨nb, hnb⟩ : ∃ nb : Bool, nb = decide (q < r * r) := ⟨_, rfl⟩
      obtain ⟨wv, hwv⟩ : ∃ wv : Nat, wv = if q < r * r then wgt sz q r else 0 := ⟨_, rfl⟩
      rw [← hnb, ← hwv] at HW
      have Hwv := hidA hwv
      have Hnb := hidA hnb
      clear hwv hnb
      go_wp2_with fail
      refine wp_region_noPanic ?_
      refine wp_region_held_drew (S := fun w' => Ext w5 w') (by kernel_rfl) ?_ (fun hHeld => ?_)
      · (repeat (first | exact Ext.refl _ | assumption | refine Ext.setCell ?_ (by first | (simp; done) | (simp; omega)) _ | refine Ext.drewN ?_ _ | refine Ext.alloc ?_ _ | refine Ext.drew ?_ | refine Ext.trans ?_ (by assumption)))
      refine wpAnyH_take (i := 0) (oi := ?o5x0) (v := ?v5x0) ?hi5x0 (by kernel_rfl) ?hf5x0 ?hr5x0 (fun _ _ _ h => h) ?hy5x0 (by assumption) ?rest5x0
      case hi5x0 => (simp only [List.getElem?_toArray, List.getElem?_cons_zero]; exact rfl)
      case hf5x0 => kernel_rfl
      case hr5x0 => kernel_rfl
      case hy5x0 => (refine Or.inl ⟨by rfl, ?_⟩; intro w hSw; (try dsimp only at hSw); go_simp; try with_reducible rfl)
      simp only [put_mk, List.set_cons_succ, List.set_cons_zero]
      refine wpAnyH_take (i := 1) (oi := ?o5x1) (v := ?v5x1) ?hi5x1 (by kernel_rfl) ?hf5x1 ?hr5x1 (fun _ _ _ h => h) ?hy5x1 (by assumption) ?rest5x1
      case hi5x1 => (simp only [List.getElem?_toArray, List.getElem?_cons_succ, List.getElem?_cons_zero]; exact rfl)
      case hf5x1 => kernel_rfl
      case hr5x1 => kernel_rfl
      case hy5x1 => (refine Or.inl ⟨by rfl, ?_⟩; intro w hSw; (try dsimp only at hSw); go_simp; try with_reducible rfl)
      simp only [put_mk, List.set_cons_succ, List.set_cons_zero]
      refine wpAnyH_take (i := 2) (oi := ?o5x2) (v := ?v5x2) ?hi5x2 (by kernel_rfl) ?hf5x2 ?hr5x2 (fun _ _ _ h => h) ?hy5x2 (by assumption) ?rest5x2
      case hi5x2 => (simp only [List.getElem?_toArray, List.getElem?_cons_succ, List.getElem?_cons_zero]; exact rfl)
      case hf5x2 => kernel_rfl
      case hr5x2 => kernel_rfl
      case hy5x2 => (refine Or.inl ⟨by rfl, ?_⟩; intro w hSw; (try dsimp only at hSw); go_simp; try with_reducible rfl)
      simp only [put_mk, List.set_cons_succ, List.set_cons_zero]
      refine wpAnyH_take (i := 3) (oi := ?o5x3) (v := ?v5x3) ?hi5x3 (by kernel_rfl) ?hf5x3 ?hr5x3 (fun _ _ _ h => h) ?hy5x3 (by assumption) ?rest5x3
      case hi5x3 => (simp only [List.getElem?_toArray, List.getElem?_cons_succ, List.getElem?_cons_zero]; exact rfl)
      case hf5x3 => kernel_rfl
      case hr5x3 => kernel_rfl
      case hy5x3 => (refine Or.inl ⟨by rfl, ?_⟩; intro w hSw; (try dsimp only at hSw); go_simp; try with_reducible rfl)
      simp only [put_mk, List.set_cons_succ, List.set_cons_zero]
      refine wpAnyH_take (i := 4) (oi := ?o5x4) (v := ?v5x4) ?hi5x4 (by kernel_rfl) ?hf5x4 ?hr5x4 (fun _ _ _ h => h) ?hy5x4 (by assumption) ?rest5x4
      case hi5x4 => (simp only [List.getElem?_toArray, List.getElem?_cons_succ, List.getElem?_cons_zero]; exact rfl)
      case hf5x4 => kernel_rfl
      case hr5x4 => kernel_rfl
      case hy5x4 => (refine Or.inl ⟨by rfl, ?_⟩; intro w hSw; (try dsimp only at hSw); go_simp; try with_reducible rfl)
      simp only [put_mk, List.set_cons_succ, List.set_cons_zero]
      refine wpAnyH_take (i := 5) (oi := ?o5x5) (v := ?v5x5) ?hi5x5 (by kernel_rfl) ?hf5x5 ?hr5x5 (fun _ _ _ h => h) ?hy5x5 (by assumption) ?rest5x5
      case hi5x5 => (simp only [List.getElem?_toArray, List.getElem?_cons_succ, List.getElem?_cons_zero]; exact rfl)
      case hf5x5 => kernel_rfl
      case hr5x5 => kernel_rfl
      case hy5x5 => (refine Or.inl ⟨by rfl, ?_⟩; intro w hSw; (try dsimp only at hSw); go_simp; try with_reducible rfl)
      simp only [put_mk, List.set_cons_succ, List.set_cons_zero]
      refine wpAnyH_take (i := 6) (oi := ?o5x6) (v := ?v5x6) ?hi5x6 (by kernel_rfl) ?hf5x6 ?hr5x6 (fun _ _ _ h => h) ?hy5x6 (by assumption) ?rest5x6
      case hi5x6 => (simp only [List.getElem?_toArray, List.getElem?_cons_succ, List.getElem?_cons_zero]; exact rfl)
      case hf5x6 => kernel_rfl
      case hr5x6 => kernel_rfl
      case hy5x6 => (refine Or.inl ⟨by rfl, ?_⟩; intro w hSw; (try dsimp only at hSw); go_simp; try with_reducible rfl)
      simp only [put_mk, List.set_cons_succ, List.set_cons_zero]
      refine wpAnyH_take (i := 7) (oi := ?o5x7) (v := ?v5x7) ?hi5x7 (by kernel_rfl) ?hf5x7 ?hr5x7 (fun _ _ _ h => h) ?hy5x7 (by assumption) ?rest5x7
      case hi5x7 => (simp only [List.getElem?_toArray, List.getElem?_cons_succ, List.getElem?_cons_zero]; exact rfl)
      case hf5x7 => kernel_rfl
      case hr5x7 => kernel_rfl
      case hy5x7 => (refine Or.inl ⟨by rfl, ?_⟩; intro w hSw; (try dsimp only at hSw); go_simp; try with_reducible rfl)
      simp only [put_mk, List.set_cons_succ, List.set_cons_zero]
      refine wpAnyH_take (i := 8) (oi := ?o5x8) (v := ?v5x8) ?hi5x8 (by kernel_rfl) ?hf5x8 ?hr5x8 (fun _ _ _ h => h) ?hy5x8 (by assumption) ?rest5x8
      case hi5x8 => (simp only [List.getElem?_toArray, List.getElem?_cons_succ, List.getElem?_cons_zero]; exact rfl)
      case hf5x8 => kernel_rfl
      case hr5x8 => kernel_rfl
      case hy5x8 => (refine Or.inl ⟨by rfl, ?_⟩; intro w hSw; (try dsimp only at hSw); go_simp; try with_reducible rfl)
      simp only [put_mk, List.set_cons_succ, List.set_cons_zero]
      refine wpAnyH_take (i := 9) (oi := ?o5x9) (v := ?v5x9) ?hi5x9 (by kernel_rfl) ?hf5x9 ?hr5x9 (fun _ _ _ h => h) ?hy5x9 (by assumption) ?rest5x9
      case hi5x9 => (simp only [List.getElem?_toArray, List.getElem?_cons_succ, List.getElem?_cons_zero]; exact rfl)
      case hf5x9 => kernel_rfl
      case hr5x9 => kernel_rfl
      case hy5x9 => (refine Or.inl ⟨by rfl, ?_⟩; intro w hSw; (try dsimp only at hSw); go_simp; try with_reducible rfl)
      simp only [put_mk, List.set_cons_succ, List.set_cons_zero]
      refine wpAnyH_take (i := 10) (oi := ?o5x10) (v := ?v5x10) ?hi5x10 (by kernel_rfl) ?hf5x10 ?hr5x10 (fun _ _ _ h => h) ?hy5x10 (by assumption) ?rest5x10
      case hi5x10 => (simp only [List.getElem?_toArray, List.getElem?_cons_succ, List.getElem?_cons_zero]; exact rfl)
      case hf5x10 => kernel_rfl
      case hr5x10 => kernel_rfl
      case hy5x10 => (refine Or.inl ⟨by rfl, ?_⟩; intro w hSw; (try dsimp only at hSw); go_simp; try with_reducible rfl)
      simp only [put_mk, List.set_cons_succ, List.set_cons_zero]
      refine wpAnyH_take (i := 11) (oi := ?o5x11) (v := ?v5x11) ?hi5x11 (by kernel_rfl) ?hf5x11 ?hr5x11 (fun _ _ _ h => h) ?hy5x11 (by assumption) ?rest5x11
      case hi5x11 => (simp only [List.getElem?_toArray, List.getElem?_cons_succ, List.getElem?_cons_zero]; exact rfl)
      case hf5x11 => kernel_rfl
      case hr5x11 => kernel_rfl
      case hy5x11 => (refine Or.inl ⟨by rfl, ?_⟩; intro w hSw; (try dsimp only at hSw); go_simp; try with_reducible rfl)
      simp only [put_mk, List.set_cons_succ, List.set_cons_zero]
      refine wpAnyH_take (i := 12) (oi := ?o5x12) (v := ?v5x12) ?hi5x12 (by kernel_rfl) ?hf5x12 ?hr5x12 (fun _ _ _ h => h) ?hy5x12 (by assumption) ?rest5x12
      case hi5x12 => (simp only [List.getElem?_toArray, List.getElem?_cons_succ, List.getElem?_cons_zero]; exact rfl)
      case hf5x12 => kernel_rfl
      case hr5x12 => kernel_rfl
      case hy5x12 => (refine Or.inl ⟨by rfl, ?_⟩; intro w hSw; (try dsimp only at hSw); go_simp; try with_reducible rfl)
      simp only [put_mk, List.set_cons_succ, List.set_cons_zero]
      refine wpAnyH_take (i := 13) (oi := ?o5x13) (v := ?v5x13) ?hi5x13 (by kernel_rfl) ?hf5x13 ?hr5x13 (fun _ _ _ h => h) ?hy5x13 (by assumption) ?rest5x13
      case hi5x13 => (simp only [List.getElem?_toArray, List.getElem?_cons_succ, List.getElem?_cons_zero]; exact rfl)
      case hf5x13 => kernel_rfl
      case hr5x13 => kernel_rfl
      case hy5x13 => (refine Or.inl ⟨by rfl, ?_⟩; intro w hSw; (try dsimp only at hSw); go_simp; try with_reducible rfl)
      simp only [put_mk, List.set_cons_succ, List.set_cons_zero]
      refine wpAnyH_take (i := 14) (oi := ?o5x14) (v := ?v5x14) ?hi5x14 (by kernel_rfl) ?hf5x14 ?hr5x14 (fun _ _ _ h => h) ?hy5x14 (by assumption) ?rest5x14
      case hi5x14 => (simp only [List.getElem?_toArray, List.getElem?_cons_succ, List.getElem?_cons_zero]; exact rfl)
      case hf5x14 => kernel_rfl
      case hr5x14 => kernel_rfl
      case hy5x14 => (refine Or.inl ⟨by rfl, ?_⟩; intro w hSw; (try dsimp only at hSw); go_simp; try with_reducible rfl)
      simp only [put_mk, List.set_cons_succ, List.set_cons_zero]
      refine wpAnyH_take (i := 15) (oi := ?o5x15) (v := ?v5x15) ?hi5x15 (by kernel_rfl) ?hf5x15 ?hr5x15 (fun _ _ _ h => h) ?hy5x15 (by assumption) ?rest5x15
      case hi5x15 => (simp only [List.getElem?_toArray, List.getElem?_cons_succ, List.getElem?_cons_zero]; exact rfl)
      case hf5x15 => kernel_rfl
      case hr5x15 => kernel_rfl
      case hy5x15 => (refine Or.inl ⟨by rfl, ?_⟩; intro w hSw; (try dsimp only at hSw); go_simp; try with_reducible rfl)
      simp only [put_mk, List.set_cons_succ, List.set_cons_zero]
      refine wpAnyH_take (i := 17) (oi := ?o5x17) (v := ?v5x17) ?hi5x17 (by kernel_rfl) ?hf5x17 ?hr5x17 (fun _ _ _ h => h) ?hy5x17 (by assumption) ?rest5x17
      case hi5x17 => (simp only [List.getElem?_toArray, List.getElem?_cons_succ, List.getElem?_cons_zero]; exact rfl)
      case hf5x17 => kernel_rfl
      case hr5x17 => kernel_rfl
      case hy5x17 => (refine Or.inl ⟨by rfl, ?_⟩; intro w hSw; (try dsimp only at hSw); go_simp; try with_reducible rfl)
      simp only [put_mk, List.set_cons_succ, List.set_cons_zero]
      refine wpAnyH_ready (rs := [16]) (by kernel_rfl) (by simp) ?_
      refine AllReadyH.cons (o := ?o5x16) ?hi5x16 (fun K hK => ?_) AllReadyH.nil
      case hi5x16 => (simp only [List.getElem?_toArray, List.getElem?_cons_succ, List.getElem?_cons_zero]; exact rfl)
      go_simp
      refine ((HSQ _).out).mono ?_
      rintro e w' ⟨rfl, hw'⟩
      subst hw'
      refine hK.out _ _ ?_ (fun hHeld => ?_)
      · (repeat (first | exact Ext.refl _ | assumption | refine Ext.setCell ?_ (by first | (simp; done) | (simp; omega)) _ | refine Ext.drewN ?_ _ | refine Ext.alloc ?_ _ | refine Ext.drew ?_ | refine Ext.trans ?_ (by assumption)))
      clear hK K
      refine wpAnyH_ready (rs := [18]) (by kernel_rfl) (by simp) ?_
      refine AllReadyH.cons (o := ?o5x18) ?hi5x18 (fun K hK => ?_) AllReadyH.nil
      case hi5x18 => (simp only [List.getElem?_toArray, List.getElem?_cons_succ, List.getElem?_cons_zero]; exact rfl)
      go_simp
      refine ((HW _).out).mono ?_
      rintro e w' ⟨rfl, hw'⟩
      subst hw'
      refine hK.out _ _ ?_ (fun hHeld => ?_)
      · (repeat (first | exact Ext.refl _ | assumption | refine Ext.setCell ?_ (by first | (simp; done) | (simp; omega)) _ | refine Ext.drewN ?_ _ | refine Ext.alloc ?_ _ | refine Ext.drew ?_ | refine Ext.trans ?_ (by assumption)))
      clear hK K
      refine wpAnyH_take (i := 19) (oi := ?o5x19) (v := ?v5x19) ?hi5x19 (by kernel_rfl) ?hf5x19 ?hr5x19 (fun _ _ _ h => h) ?hy5x19 (by assumption) ?rest5x19
      case hi5x19 => (simp only [List.getElem?_toArray, List.getElem?_cons_succ, List.getElem?_cons_zero]; exact rfl)
      case hf5x19 => kernel_rfl
      case hr5x19 => kernel_rfl
      case hy5x19 => (refine Or.inl ⟨by rfl, ?_⟩; intro w hSw; (try dsimp only at hSw); go_simp; try with_reducible rfl)
      simp only [put_mk, List.set_cons_succ, List.set_cons_zero]
      refine wpAnyH_take (i := 20) (oi := ?o5x20) (v := ?v5x20) ?hi5x20 (by kernel_rfl) ?hf5x20 ?hr5x20 (fun _ _ _ h => h) ?hy5x20 (by assumption) ?rest5x20
      case hi5x20 => (simp only [List.getElem?_toArray, List.getElem?_cons_succ, List.getElem?_cons_zero]; exact rfl)
      case hf5x20 => kernel_rfl
      case hr5x20 => kernel_rfl
      case hy5x20 => (refine Or.inl ⟨by rfl, ?_⟩; intro w hSw; (try dsimp only at hSw); go_simp; try with_reducible rfl)
      simp only [put_mk, List.set_cons_succ, List.set_cons_zero]
      refine wpAnyH_take (i := 21) (oi := ?o5x21) (v := ?v5x21) ?hi5x21 (by kernel_rfl) ?hf5x21 ?hr5x21 (fun _ _ _ h => h) ?hy5x21 (by assumption) ?rest5x21
      case hi5x21 => (simp only [List.getElem?_toArray, List.getElem?_cons_succ, List.getElem?_cons_zero]; exact rfl)
      case hf5x21 => kernel_rfl
      case hr5x21 => kernel_rfl
      case hy5x21 => (refine Or.inl ⟨by rfl, ?_⟩; intro w hSw; (try dsimp only at hSw); go_simp; try with_reducible rfl)
      simp only [put_mk, List.set_cons_succ, List.set_cons_zero]
      refine wpAnyH_take (i := 22) (oi := ?o5x22) (v := ?v5x22) ?hi5x22 (by kernel_rfl) ?hf5x22 ?hr5x22 (fun _ _ _ h => h) ?hy5x22 (by assumption) ?rest5x22
      case hi5x22 => (simp only [List.getElem?_toArray, List.getElem?_cons_succ, List.getElem?_cons_zero]; exact rfl)
      case hf5x22 => kernel_rfl
      case hr5x22 => kernel_rfl
      case hy5x22 => (refine Or.inl ⟨by rfl, ?_⟩; intro w hSw; (try dsimp only at hSw); go_simp; try with_reducible rfl)
      simp only [put_mk, List.set_cons_succ, List.set_cons_zero]
      refine wpAnyH_take (i := 23) (oi := ?o5x23) (v := ?v5x23) ?hi5x23 (by kernel_rfl) ?hf5x23 ?hr5x23 (fun _ _ _ h => h) ?hy5x23 (by assumption) ?rest5x23
      case hi5x23 => (simp only [List.getElem?_toArray, List.getElem?_cons_succ, List.getElem?_cons_zero]; exact rfl)
      case hf5x23 => kernel_rfl
      case hr5x23 => kernel_rfl
      case hy5x23 => (refine Or.inl ⟨by rfl, ?_⟩; intro w hSw; (try dsimp only at hSw); go_simp; try with_reducible rfl)
      simp only [put_mk, List.set_cons_succ, List.set_cons_zero]
      refine wpAnyH_done (by kernel_rfl) ?_ _
      refine NoPanic.normal ?_
      by_cases hki : k = i
      · have HV : Hid ((v1, f1') = (v0, f0')) := by show _ = _; rw [Hst.out, (Hno (.inl hki)).out, if_neg (by decide)]
        clear Hno Hye Hst
        have e1 : (k : Int) = i := by omega
        have e2 : ((k : Int) == i) = true := by simp; omega
        clear hki
        go_wp2_with fail
        go_roundw
        case rel => exact ⟨k + 1, by omega, by go_num, by rw [Hv1.out, (Prod.mk.inj HV.out).1], by rw [Hv1.out, (Prod.mk.inj HV.out).2], (by repeat (first | exact Ext.refl _ | assumption | refine Ext.setCell ?_ (by first | (simp; done) | (simp; omega)) _ | refine Ext.drewN ?_ _ | refine Ext.alloc ?_ _ | refine Ext.drew ?_ | refine Ext.trans ?_ (by assumption)))⟩
        case measure => simp [intOf]; omega
      · have e1 : ¬ (k : Int) = i := by omega
        have e2 : ((k : Int) == i) = false := by simp; omega
        cases nb with
        | false =>
          have hq : ¬ q < r * r := by simpa using Hnb.out
          have HV : Hid ((v1, f1') = (v0, f0')) := by show _ = _; rw [Hst.out, (Hno (.inr hq)).out, if_neg (by decide)]
          clear Hno Hye Hst hki hq
          go_wp2_with fail
          go_roundw
          case rel => exact ⟨k + 1, by omega, by go_num, by rw [Hv1.out, (Prod.mk.inj HV.out).1], by rw [Hv1.out, (Prod.mk.inj HV.out).2], (by repeat (first | exact Ext.refl _ | assumption | refine Ext.setCell ?_ (by first | (simp; done) | (simp; omega)) _ | refine Ext.drewN ?_ _ | refine Ext.alloc ?_ _ | refine Ext.drew ?_ | refine Ext.trans ?_ (by assumption)))⟩
          case measure => simp [intOf]; omega
        | true =>
          have hq : q < r * r := by simpa using Hnb.out
          have hwg : Hid (wgt sz q r = wv) := by show _ = _; rw [Hwv.out, if_pos hq]
          obtain ⟨_, _, _, p4⟩ := hp4 hq
          rw [hwg.out] at p4
          have p5 := (add_any HN.out p4).1
          have q4 := fun (w : World) => run_float_arith (P := Tryd.prog) w .add 24 .f32 _ _ _ p5
          cases f0' with
          | true =>
            have HV : Hid ((v1, f1') = (wv, false)) := by show _ = _; rw [Hst.out, (Hye hki hq).out, if_pos rfl, if_pos rfl, hwg.out]
            clear Hno Hye Hst hki hq p5 p4 hp4 hwg
            go_wp2_with fail
            go_roundw
            case rel => exact ⟨k + 1, by omega, by go_num, by rw [Hv1.out, (Prod.mk.inj HV.out).1], by rw [Hv1.out, (Prod.mk.inj HV.out).2], (by repeat (first | exact Ext.refl _ | assumption | refine Ext.setCell ?_ (by first | (simp; done) | (simp; omega)) _ | refine Ext.drewN ?_ _ | refine Ext.alloc ?_ _ | refine Ext.drew ?_ | refine Ext.trans ?_ (by assumption)))⟩
            case measure => simp [intOf]; omega
          | false =>
            have HV : Hid ((v1, f1') = (fadd v0 wv, false)) := by show _ = _; rw [Hst.out, (Hye hki hq).out, if_pos rfl, if_neg (by decide), hwg.out]
            clear Hno Hye Hst hki hq p5 p4 hp4 hwg
            go_wp2_with fail
            go_roundw
            case rel => exact ⟨k + 1, by omega, by go_num, by rw [Hv1.out, (Prod.mk.inj HV.out).1], by rw [Hv1.out, (Prod.mk.inj HV.out).2], (by repeat (first | exact Ext.refl _ | assumption | refine Ext.setCell ?_ (by first | (simp; done) | (simp; omega)) _ | refine Ext.drewN ?_ _ | refine Ext.alloc ?_ _ | refine Ext.drew ?_ | refine Ext.trans ?_ (by assumption)))⟩
            case measure => simp [intOf]; omega
    · obtain rfl : k = m := by omega
      go_wp2
      go_ret
      exact ⟨rfl, (by repeat (first | exact Ext.refl _ | assumption | refine Ext.setCell ?_ (by first | (simp; done) | (simp; omega)) _ | refine Ext.drewN ?_ _ | refine Ext.alloc ?_ _ | refine Ext.drew ?_ | refine Ext.trans ?_ (by assumption)))⟩
end Go.Proofs.YtgaonoklbihkjaaDoor
