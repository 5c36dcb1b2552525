/- The walk of the law KindsMatch. -/
import Derived.Test.YtjkalnboijkikaaDoorKindsD
import Derived.BigRegion
import Derived.BigQuiet
namespace Go.Proofs.YtjkalnboijkikaaDoor
open Go.RowKit
attribute [local go_sem ↓] Go.wp_at_zero Go.wp_at_succ
attribute [local go_sem] run_store_float

set_option maxRecDepth 100000 in
set_option maxHeartbeats 3200000 in
theorem kinds_walk (A : Option Addr) (n c : Nat) (l : List KindR) (w : World) (hn : l.length = n) (hd : Rd w A (kcells l)) (hb : n ≤ 4000000000000) (hc : n ≤ c) (hsz : ∀ x ∈ l, x.s.size ≤ 9223372036854775807) :
    Calls Tryd.prog 3 #[.slice A n c] w fun e w' => e = .returned (.bool true) ∧ Ext w w' := by
  have Hn := hidA hn
  have Hsz := hidA hsz
  clear hn hsz
  go_enter Tryd.func3, Tryd.ntmps3
  go_wp2_with (first
    | (go_at_call 6; refine (grows_any _).mono ?_; rintro e w1 ⟨rfl, hb1⟩)
    | (go_at_call 7; refine (checkKinds_any A n c l _ Hn.out (hd.ext hb1) hb hc Hsz.out).mono ?_; rintro e w2 ⟨rfl, hb2⟩)
    | (go_at_call 8; refine (kindsError_any A n c l _ Hn.out ((hd.ext hb1).ext hb2) hb hc Hsz.out).mono ?_; rintro e w3 ⟨rfl, hb3⟩))
  have hx3 : Ext w w3 := (hb1.trans hb2).trans hb3
  clear hb1 hb2 hb3
  go_loopw [16] (fun i wr => ∃ k : Nat, k ≤ n ∧ i = .int .i64 k ∧ Ext w wr) (fun i _ => n - (intOf i).toNat)
  case atStart => exact ⟨0, Nat.zero_le _, rfl, hx3⟩
  case round =>
    obtain ⟨k, hk, rfl, hx⟩ := hrel
    by_cases hlt : k < n
    · have hkl : k < l.length := by have := Hn.out; omega
      have hsx := Hsz.out l[k] (List.getElem_mem hkl)
      obtain ⟨ad, rfl, hbk, _⟩ := hd.at (k := k) (by rw [kcells_length]; omega)
      have hk13 := (hd.ext hx).kind hkl
      have d0 := hk13.1
      have d1 := hk13.2.1
      have d2 := hk13.2.2.1
      have d3 := hk13.2.2.2.1
      have d4 := hk13.2.2.2.2.1
      have d5 := hk13.2.2.2.2.2.1
      have d6 := hk13.2.2.2.2.2.2.1
      have d7 := hk13.2.2.2.2.2.2.2.1
      have d8 := hk13.2.2.2.2.2.2.2.2.1
      have d9 := hk13.2.2.2.2.2.2.2.2.2.1
      have d10 := hk13.2.2.2.2.2.2.2.2.2.2.1
      have d11 := hk13.2.2.2.2.2.2.2.2.2.2.2.1
      have d12 := hk13.2.2.2.2.2.2.2.2.2.2.2.2
      have k0 : (0 : Int) ≤ k := by omega
      have k1 : (k : Int) < n := by omega
      clear hk13
      generalize hxe : l[k] = x at *
      clear hxe
      go_upto_region 6 with fail
      have hP : Bk (wr.alloc (.cells #[.string x.s, .float .f32 x.a0, .float .f32 x.a1, .float .f32 x.a2, .float .f32 x.a3, .float .f32 x.a4, .float .f32 x.a5, .float .f32 x.a6, .float .f32 x.a7, .float .f32 x.a8, .float .f32 x.a9, .int .i64 x.p, .int .i64 x.q] 28)) wr.heap.size 28 #[.string x.s, .float .f32 x.a0, .float .f32 x.a1, .float .f32 x.a2, .float .f32 x.a3, .float .f32 x.a4, .float .f32 x.a5, .float .f32 x.a6, .float .f32 x.a7, .float .f32 x.a8, .float .f32 x.a9, .int .i64 x.p, .int .i64 x.q] := Bk.new _ _ _
      have hx5 : Ext w (wr.alloc (.cells #[.string x.s, .float .f32 x.a0, .float .f32 x.a1, .float .f32 x.a2, .float .f32 x.a3, .float .f32 x.a4, .float .f32 x.a5, .float .f32 x.a6, .float .f32 x.a7, .float .f32 x.a8, .float .f32 x.a9, .int .i64 x.p, .int .i64 x.q] 28)) := hx.alloc _
      generalize wr.alloc (.cells #[.string x.s, .float .f32 x.a0, .float .f32 x.a1, .float .f32 x.a2, .float .f32 x.a3, .float .f32 x.a4, .float .f32 x.a5, .float .f32 x.a6, .float .f32 x.a7, .float .f32 x.a8, .float .f32 x.a9, .int .i64 x.p, .int .i64 x.q] 28) = w5 at *
      have p0 : ∀ w', Ext w5 w' → w'.cell? ⟨wr.heap.size, 0, none⟩ = some (.string x.s) := fun w' h => (hP.ext h).cell 0
      have p1 : ∀ w', Ext w5 w' → w'.cell? ⟨wr.heap.size, 1, none⟩ = some (.float .f32 x.a0) := fun w' h => (hP.ext h).cell 1
      have p2 : ∀ w', Ext w5 w' → w'.cell? ⟨wr.heap.size, 2, none⟩ = some (.float .f32 x.a1) := fun w' h => (hP.ext h).cell 2
      have p3 : ∀ w', Ext w5 w' → w'.cell? ⟨wr.heap.size, 3, none⟩ = some (.float .f32 x.a2) := fun w' h => (hP.ext h).cell 3
      have p4 : ∀ w', Ext w5 w' → w'.cell? ⟨wr.heap.size, 4, none⟩ = some (.float .f32 x.a3) := fun w' h => (hP.ext h).cell 4
      have p5 : ∀ w', Ext w5 w' → w'.cell? ⟨wr.heap.size, 5, none⟩ = some (.float .f32 x.a4) := fun w' h => (hP.ext h).cell 5
      have p6 : ∀ w', Ext w5 w' → w'.cell? ⟨wr.heap.size, 6, none⟩ = some (.float .f32 x.a5) := fun w' h => (hP.ext h).cell 6
      have p7 : ∀ w', Ext w5 w' → w'.cell? ⟨wr.heap.size, 7, none⟩ = some (.float .f32 x.a6) := fun w' h => (hP.ext h).cell 7
      have p8 : ∀ w', Ext w5 w' → w'.cell? ⟨wr.heap.size, 8, none⟩ = some (.float .f32 x.a7) := fun w' h => (hP.ext h).cell 8
      have p9 : ∀ w', Ext w5 w' → w'.cell? ⟨wr.heap.size, 9, none⟩ = some (.float .f32 x.a8) := fun w' h => (hP.ext h).cell 9
      have p10 : ∀ w', Ext w5 w' → w'.cell? ⟨wr.heap.size, 10, none⟩ = some (.float .f32 x.a9) := fun w' h => (hP.ext h).cell 10
      have p11 : ∀ w', Ext w5 w' → w'.cell? ⟨wr.heap.size, 11, none⟩ = some (.int .i64 x.p) := fun w' h => (hP.ext h).cell 11
      have p12 : ∀ w', Ext w5 w' → w'.cell? ⟨wr.heap.size, 12, none⟩ = some (.int .i64 x.q) := fun w' h => (hP.ext h).cell 12
      clear d0 d1 d2 d3 d4 d5 d6 d7 d8 d9 d10 d11 d12
      refine wp_region_noPanic ?_
      refine wp_region_held_drew (S := fun w' => Ext w5 w') (by kernel_rfl) ?_ (fun hHeld => ?_)
      · (repeat (first | exact Ext.refl _ | assumption | refine Ext.setCell ?_ (by first | (simp; done) | (simp; omega)) _ | refine Ext.drewN ?_ _ | refine Ext.alloc ?_ _ | refine Ext.drew ?_ | refine Ext.trans ?_ (by assumption)))
      refine wpAnyH_take (i := 0) (oi := ?o10x0) (v := ?v10x0) ?hi10x0 (by kernel_rfl) ?hf10x0 ?hr10x0 (fun _ _ _ h => h) ?hy10x0 (by assumption) ?rest10x0
      case hi10x0 => (simp only [List.getElem?_toArray, List.getElem?_cons_zero]; exact rfl)
      case hf10x0 => kernel_rfl
      case hr10x0 => kernel_rfl
      case hy10x0 => (refine Or.inl ⟨by rfl, ?_⟩; intro w hSw; (try dsimp only at hSw); go_simp; try with_reducible rfl)
      simp only [put_mk, List.set_cons_succ, List.set_cons_zero]
      refine wpAnyH_take (i := 2) (oi := ?o11x2) (v := ?v11x2) ?hi11x2 (by kernel_rfl) ?hf11x2 ?hr11x2 (fun _ _ _ h => h) ?hy11x2 (by assumption) ?rest11x2
      case hi11x2 => (simp only [List.getElem?_toArray, List.getElem?_cons_succ, List.getElem?_cons_zero]; exact rfl)
      case hf11x2 => kernel_rfl
      case hr11x2 => kernel_rfl
      case hy11x2 => (refine Or.inl ⟨by rfl, ?_⟩; intro w hSw; (try dsimp only at hSw); go_simp; try with_reducible rfl)
      simp only [put_mk, List.set_cons_succ, List.set_cons_zero]
      refine wpAnyH_ready (rs := [1]) (by kernel_rfl) (by simp) ?_
      refine AllReadyH.cons (o := ?o12x1) ?hi12x1 (fun K hK => ?_) AllReadyH.nil
      case hi12x1 => (simp only [List.getElem?_toArray, List.getElem?_cons_succ, List.getElem?_cons_zero]; exact rfl)
      go_simp
      refine (checkKindR x _ hsx).mono ?_
      rintro e w6 ⟨rfl, hb6⟩
      refine hK.out _ _ ?_ (fun hHeld => ?_)
      · (repeat (first | exact Ext.refl _ | assumption | refine Ext.setCell ?_ (by first | (simp; done) | (simp; omega)) _ | refine Ext.drewN ?_ _ | refine Ext.alloc ?_ _ | refine Ext.drew ?_ | refine Ext.trans ?_ (by assumption)))
      clear hK K
      refine wpAnyH_ready (rs := [3]) (by kernel_rfl) (by simp) ?_
      refine AllReadyH.cons (o := ?o13x3) ?hi13x3 (fun K hK => ?_) AllReadyH.nil
      case hi13x3 => (simp only [List.getElem?_toArray, List.getElem?_cons_succ, List.getElem?_cons_zero]; exact rfl)
      go_simp
      refine (kindErrorR x _ hsx).mono ?_
      rintro e w7 ⟨rfl, hb7⟩
      refine hK.out _ _ ?_ (fun hHeld => ?_)
      · (repeat (first | exact Ext.refl _ | assumption | refine Ext.setCell ?_ (by first | (simp; done) | (simp; omega)) _ | refine Ext.drewN ?_ _ | refine Ext.alloc ?_ _ | refine Ext.drew ?_ | refine Ext.trans ?_ (by assumption)))
      clear hK K
      refine wpAnyH_take (i := 4) (oi := ?o14x4) (v := ?v14x4) ?hi14x4 (by kernel_rfl) ?hf14x4 ?hr14x4 (fun _ _ _ h => h) ?hy14x4 (by assumption) ?rest14x4
      case hi14x4 => (simp only [List.getElem?_toArray, List.getElem?_cons_succ, List.getElem?_cons_zero]; exact rfl)
      case hf14x4 => kernel_rfl
      case hr14x4 => kernel_rfl
      case hy14x4 => (refine Or.inl ⟨by rfl, ?_⟩; intro w hSw; (try dsimp only at hSw); go_simp; try with_reducible rfl)
      simp only [put_mk, List.set_cons_succ, List.set_cons_zero]
      refine wpAnyH_done (by kernel_rfl) ?_ _
      refine NoPanic.normal ?_
      have hx7 : Ext w w7 := hx5.trans hHeld
      go_wp2_with fail
      go_roundw
      case rel => exact ⟨k + 1, by omega, by go_num, hx7⟩
      case measure => simp [intOf]; omega
    · obtain rfl : k = n := by omega
      go_wp2
      go_ret
      exact ⟨rfl, hx⟩
end Go.Proofs.YtjkalnboijkikaaDoor
