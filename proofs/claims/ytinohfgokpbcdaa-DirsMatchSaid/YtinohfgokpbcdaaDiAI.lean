/- Contract: water.Far where the directions lead downward. -/
import Derived.Test.YtinohfgokpbcdaaDiAD
import Derived.Test.YtinohfgokpbcdaaSteepC
import Derived.Test.YtinohfgokpbcdaaGridB
import Derived.Test.YtinohfgokpbcdaaDiAF
import Derived.Test.YtinohfgokpbcdaaFillB
import Derived.RegionTactic
import Derived.ChangeAlike
namespace Go.Proofs.Ytinohfgokpbcdaa
open Go.RowKit Ieee
attribute [local go_sem ↓] Go.wp_at_zero Go.wp_at_succ
attribute [local go_sem] run_store_float

theorem add_nn {x y : Nat} (hx : Fin x) (hy : NN y) : floatBits .add .f32 x y = some (fadd x y) ∧ NN (fadd x y) := by
  have hd : floatBits .add .f32 x y = single.add x y := rfl
  unfold fadd
  rw [hd]
  unfold Format.add
  obtain ⟨s, m, k, e, _⟩ := read_val hx
  rw [e]
  unfold NN at hy
  cases hr : single.read y with
  | number t n p =>
    simp only [Datum.sum, Option.map_some, Option.getD_some]
    exact ⟨trivial, nn_write rfl⟩
  | infinity t =>
    simp only [Datum.sum, Option.map_some, Option.getD_some]
    exact ⟨trivial, nn_write rfl⟩
  | nan t f =>
    rw [hr] at hy
    cases hy
theorem longN_fin (d : Nat) : Fin (longN d) := by
  unfold longN
  split <;> (unfold Fin; omega)
theorem zero_nn : NN 0 := nn_fin (by unfold Fin; omega)
/-- the length of a way -/
def farT (D : Nat → Int) : Nat → List Nat → Nat
  | _, [] => 0
  | k, c :: t => fadd (longN (D k).toNat) (farT D c t)
theorem farT_nn (D : Nat → Int) : ∀ (t : List Nat) (k : Nat), NN (farT D k t)
  | [], _ => zero_nn
  | c :: t, _ => (add_nn (longN_fin _) (farT_nn D t c)).2
theorem farT_add (D : Nat → Int) (k c : Nat) (t : List Nat) : floatBits .add .f32 (longN (D k).toNat) (farT D c t) = some (farT D k (c :: t)) := (add_nn (longN_fin _) (farT_nn D t c)).1
set_option maxRecDepth 100000 in
set_option maxHeartbeats 6400000 in
theorem FarOf_any (X Y : Int) (Wn Hn N c : Nat) (A : Option Addr) (D : Nat → Int) (hr : Reg X Y Wn Hn) (hN : N = Wn * Hn) (hv : Valid Wn Hn N D) : ∀ (t : List Nat) (k : Nat) (w : World), k < N → IsTr D Wn Hn k t → DirsAt w A N D →
    Calls Try.prog 54 #[rgv X Y Wn Hn, .slice A N c, .int .i64 (k : Int)] w fun e w' => e = .returned (.float .f32 (farT D k t)) ∧ Ext w w' := by
  intro t
  induction t with
  | nil =>
    intro k w hk ht hD
    have hN6 : N ≤ 65536 := by rw [hN]; exact hr.n
    have hneg : D k < 0 := by
      have h1 : nxtD D Wn Hn k = none := ht
      by_cases h0 : D k < 0
      · exact h0
      · obtain ⟨n, hn⟩ := hv.into k hk (by omega)
        unfold nxtD at h1
        rw [if_neg h0, hn] at h1
        cases h1
    obtain ⟨ad, rfl, _, q0⟩ := hD.cell hk
    have i1 : (0 : Int) ≤ k := by omega
    have i2 : (k : Int) < N := by omega
    have q1 : (w.alloc (.cells #[.int .i64 X, .int .i64 Y, .int .i64 (Wn : Int), .int .i64 (Hn : Int)] 23)).cell? (ad.add k) = some (.int .i64 (D k)) := by
      obtain ⟨ad', e, hb, _⟩ := hD.cell hk
      injection e with e
      subst e
      rw [((Ext.refl w).alloc (.cells #[.int .i64 X, .int .i64 Y, .int .i64 (Wn : Int), .int .i64 (Hn : Int)] 23)).cell _ (by rw [add_block]; exact hb)]
      exact q0
    clear q0 ht hD hr hN hv
    generalize D k = z at *
    unfold rgv
    go_enter Try.func54, Try.ntmps54
    go_upto_region 1 with fail
    have hx0 : Ext w (w.alloc (.cells #[.int .i64 X, .int .i64 Y, .int .i64 (Wn : Int), .int .i64 (Hn : Int)] 23)) := (Ext.refl w).alloc _
    generalize w.alloc (.cells #[.int .i64 X, .int .i64 Y, .int .i64 (Wn : Int), .int .i64 (Hn : Int)] 23) = w1 at *
    go_wp2_with fail
    go_ret
    exact ⟨by first | rfl | simp [farT], hx0⟩
  | cons n t ih =>
    intro k w hk ht hD
    have hN6 : N ≤ 65536 := by rw [hN]; exact hr.n
    have hx := ht.1
    have hd0 : 0 ≤ D k ∧ nbr Wn Hn k (D k).toNat = some n := by
      unfold nxtD at hx
      split at hx
      · cases hx
      · exact ⟨by omega, hx⟩
    have hnN : n < N := by rw [hN]; exact nxt_lt hx
    have h8 := hv.hi k hk
    have HL := hidA (fun (w : World) => longR_any (D k).toNat w (by omega))
    have HNb := hidA (fun (w : World) => nb_any X Y Wn Hn k (D k).toNat w hr (by rw [← hN]; exact hk) (by omega))
    have HF := hidA (fun (w' : World) (h : Ext w w') => ih n w' hnN ht.2 (hD.ext h))
    rw [hd0.2, show nbI (some n) = (n : Int) from rfl, Int.toNat_of_nonneg hd0.1] at HNb
    rw [Int.toNat_of_nonneg hd0.1] at HL
    have Hadd := hidA (farT_add D k n t)
    have HD := hidA hD
    obtain ⟨ad, rfl, _, _⟩ := hD.cell hk
    have i1 : (0 : Int) ≤ k := by omega
    have i2 : (k : Int) < N := by omega
    have hdd := hd0.1
    clear ht hr hN hv hd0 hx hD ih
    unfold rgv at HNb HF ⊢
    generalize farT D k (n :: t) = r at *
    generalize farT D n t = f at *
    generalize hlg : longN (D k).toNat = lg at *
    clear hlg
    have hq := hidA (fun (w' : World) (h : Ext w w') => show w'.cell? (ad.add k) = some (.int .i64 (D k)) from by
      obtain ⟨ad', e, _, q0⟩ := (HD.out.ext h).cell hk
      injection e with e
      subst e
      exact q0)
    generalize D k = z at *
    go_enter Try.func54, Try.ntmps54
    go_upto_region 1 with fail
    have kR : Bk (w.alloc (.cells #[.int .i64 X, .int .i64 Y, .int .i64 (Wn : Int), .int .i64 (Hn : Int)] 23)) w.heap.size 23 #[.int .i64 X, .int .i64 Y, .int .i64 (Wn : Int), .int .i64 (Hn : Int)] := Bk.new' rfl
    have hx0 : Ext w (w.alloc (.cells #[.int .i64 X, .int .i64 Y, .int .i64 (Wn : Int), .int .i64 (Hn : Int)] 23)) := (Ext.refl w).alloc _
    generalize w.alloc (.cells #[.int .i64 X, .int .i64 Y, .int .i64 (Wn : Int), .int .i64 (Hn : Int)] 23) = w1 at *
    generalize w.heap.size = h0 at kR
    have q1 := hq.out w1 hx0
    go_upto_region 3 with fail
    clear q1
    have e0 : ∀ w', Ext w1 w' → w'.cell? ⟨h0, 0, none⟩ = some (.int .i64 X) := fun w' h => (kR.ext h).cell 0
    have e1 : ∀ w', Ext w1 w' → w'.cell? ⟨h0, 1, none⟩ = some (.int .i64 Y) := fun w' h => (kR.ext h).cell 1
    have e2 : ∀ w', Ext w1 w' → w'.cell? ⟨h0, 2, none⟩ = some (.int .i64 (Wn : Int)) := fun w' h => (kR.ext h).cell 2
    have e3 : ∀ w', Ext w1 w' → w'.cell? ⟨h0, 3, none⟩ = some (.int .i64 (Hn : Int)) := fun w' h => (kR.ext h).cell 3
    have q2 : ∀ w', Ext w1 w' → w'.cell? (ad.add k) = some (.int .i64 z) := fun w' h => hq.out w' (hx0.trans h)
    have q3 := fun (w : World) => run_float_arith (P := Try.prog) w .add 27 .f32 _ _ _ Hadd.out
    refine wp_region_noPanic ?_
    refine wp_region_held_drew (S := fun w' => Ext w1 w') (by kernel_rfl) ?_ (fun hHeld => ?_)
    · (repeat (first | exact Ext.refl _ | assumption | refine Ext.setCell ?_ (by first | (simp; done) | (simp; omega)) _ | refine Ext.drewN ?_ _ | refine Ext.alloc ?_ _ | refine Ext.drew ?_ | refine Ext.trans ?_ (by assumption)))
    refine wpAnyH_take (i := 0) (oi := ?o1x0) (v := ?v1x0) ?hi1x0 (by kernel_rfl) ?hf1x0 ?hr1x0 (fun _ _ _ h => h) ?hy1x0 (by assumption) ?rest1x0
    case hi1x0 => (simp only [List.getElem?_toArray, List.getElem?_cons_zero]; exact rfl)
    case hf1x0 => kernel_rfl
    case hr1x0 => kernel_rfl
    case hy1x0 => (refine Or.inl ⟨by rfl, ?_⟩; intro w hSw; (try dsimp only at hSw); go_simp; try with_reducible rfl)
    simp only [put_mk, List.set_cons_succ, List.set_cons_zero]
    refine wpAnyH_take (i := 1) (oi := ?o1x1) (v := ?v1x1) ?hi1x1 (by kernel_rfl) ?hf1x1 ?hr1x1 (fun _ _ _ h => h) ?hy1x1 (by assumption) ?rest1x1
    case hi1x1 => (simp only [List.getElem?_toArray, List.getElem?_cons_succ, List.getElem?_cons_zero]; exact rfl)
    case hf1x1 => kernel_rfl
    case hr1x1 => kernel_rfl
    case hy1x1 => (refine Or.inl ⟨by rfl, ?_⟩; intro w hSw; (try dsimp only at hSw); go_simp; try with_reducible rfl)
    simp only [put_mk, List.set_cons_succ, List.set_cons_zero]
    refine wpAnyH_take (i := 2) (oi := ?o1x2) (v := ?v1x2) ?hi1x2 (by kernel_rfl) ?hf1x2 ?hr1x2 (fun _ _ _ h => h) ?hy1x2 (by assumption) ?rest1x2
    case hi1x2 => (simp only [List.getElem?_toArray, List.getElem?_cons_succ, List.getElem?_cons_zero]; exact rfl)
    case hf1x2 => kernel_rfl
    case hr1x2 => kernel_rfl
    case hy1x2 => (refine Or.inl ⟨by rfl, ?_⟩; intro w hSw; (try dsimp only at hSw); go_simp; try with_reducible rfl)
    simp only [put_mk, List.set_cons_succ, List.set_cons_zero]
    refine wpAnyH_take (i := 3) (oi := ?o1x3) (v := ?v1x3) ?hi1x3 (by kernel_rfl) ?hf1x3 ?hr1x3 (fun _ _ _ h => h) ?hy1x3 (by assumption) ?rest1x3
    case hi1x3 => (simp only [List.getElem?_toArray, List.getElem?_cons_succ, List.getElem?_cons_zero]; exact rfl)
    case hf1x3 => kernel_rfl
    case hr1x3 => kernel_rfl
    case hy1x3 => (refine Or.inl ⟨by rfl, ?_⟩; intro w hSw; (try dsimp only at hSw); go_simp; try with_reducible rfl)
    simp only [put_mk, List.set_cons_succ, List.set_cons_zero]
    refine wpAnyH_take (i := 5) (oi := ?o1x5) (v := ?v1x5) ?hi1x5 (by kernel_rfl) ?hf1x5 ?hr1x5 (fun _ _ _ h => h) ?hy1x5 (by assumption) ?rest1x5
    case hi1x5 => (simp only [List.getElem?_toArray, List.getElem?_cons_succ, List.getElem?_cons_zero]; exact rfl)
    case hf1x5 => kernel_rfl
    case hr1x5 => kernel_rfl
    case hy1x5 => (refine Or.inl ⟨by rfl, ?_⟩; intro w hSw; (try dsimp only at hSw); go_simp; try with_reducible rfl)
    simp only [put_mk, List.set_cons_succ, List.set_cons_zero]
    refine wpAnyH_take (i := 6) (oi := ?o1x6) (v := ?v1x6) ?hi1x6 (by kernel_rfl) ?hf1x6 ?hr1x6 (fun _ _ _ h => h) ?hy1x6 (by assumption) ?rest1x6
    case hi1x6 => (simp only [List.getElem?_toArray, List.getElem?_cons_succ, List.getElem?_cons_zero]; exact rfl)
    case hf1x6 => kernel_rfl
    case hr1x6 => kernel_rfl
    case hy1x6 => (refine Or.inl ⟨by rfl, ?_⟩; intro w hSw; (try dsimp only at hSw); go_simp; try with_reducible rfl)
    simp only [put_mk, List.set_cons_succ, List.set_cons_zero]
    refine wpAnyH_take (i := 7) (oi := ?o1x7) (v := ?v1x7) ?hi1x7 (by kernel_rfl) ?hf1x7 ?hr1x7 (fun _ _ _ h => h) ?hy1x7 (by assumption) ?rest1x7
    case hi1x7 => (simp only [List.getElem?_toArray, List.getElem?_cons_succ, List.getElem?_cons_zero]; exact rfl)
    case hf1x7 => kernel_rfl
    case hr1x7 => kernel_rfl
    case hy1x7 => (refine Or.inl ⟨by rfl, ?_⟩; intro w hSw; (try dsimp only at hSw); go_simp; try with_reducible rfl)
    simp only [put_mk, List.set_cons_succ, List.set_cons_zero]
    refine wpAnyH_take (i := 8) (oi := ?o1x8) (v := ?v1x8) ?hi1x8 (by kernel_rfl) ?hf1x8 ?hr1x8 (fun _ _ _ h => h) ?hy1x8 (by assumption) ?rest1x8
    case hi1x8 => (simp only [List.getElem?_toArray, List.getElem?_cons_succ, List.getElem?_cons_zero]; exact rfl)
    case hf1x8 => kernel_rfl
    case hr1x8 => kernel_rfl
    case hy1x8 => (refine Or.inl ⟨by rfl, ?_⟩; intro w hSw; (try dsimp only at hSw); go_simp; try with_reducible rfl)
    simp only [put_mk, List.set_cons_succ, List.set_cons_zero]
    refine wpAnyH_take (i := 9) (oi := ?o1x9) (v := ?v1x9) ?hi1x9 (by kernel_rfl) ?hf1x9 ?hr1x9 (fun _ _ _ h => h) ?hy1x9 (by assumption) ?rest1x9
    case hi1x9 => (simp only [List.getElem?_toArray, List.getElem?_cons_succ, List.getElem?_cons_zero]; exact rfl)
    case hf1x9 => kernel_rfl
    case hr1x9 => kernel_rfl
    case hy1x9 => (refine Or.inl ⟨by rfl, ?_⟩; intro w hSw; (try dsimp only at hSw); go_simp; try with_reducible rfl)
    simp only [put_mk, List.set_cons_succ, List.set_cons_zero]
    refine wpAnyH_take (i := 10) (oi := ?o1x10) (v := ?v1x10) ?hi1x10 (by kernel_rfl) ?hf1x10 ?hr1x10 (fun _ _ _ h => h) ?hy1x10 (by assumption) ?rest1x10
    case hi1x10 => (simp only [List.getElem?_toArray, List.getElem?_cons_succ, List.getElem?_cons_zero]; exact rfl)
    case hf1x10 => kernel_rfl
    case hr1x10 => kernel_rfl
    case hy1x10 => (refine Or.inl ⟨by rfl, ?_⟩; intro w hSw; (try dsimp only at hSw); go_simp; try with_reducible rfl)
    simp only [put_mk, List.set_cons_succ, List.set_cons_zero]
    refine wpAnyH_take (i := 11) (oi := ?o1x11) (v := ?v1x11) ?hi1x11 (by kernel_rfl) ?hf1x11 ?hr1x11 (fun _ _ _ h => h) ?hy1x11 (by assumption) ?rest1x11
    case hi1x11 => (simp only [List.getElem?_toArray, List.getElem?_cons_succ, List.getElem?_cons_zero]; exact rfl)
    case hf1x11 => kernel_rfl
    case hr1x11 => kernel_rfl
    case hy1x11 => (refine Or.inl ⟨by rfl, ?_⟩; intro w hSw; (try dsimp only at hSw); go_simp; try with_reducible rfl)
    simp only [put_mk, List.set_cons_succ, List.set_cons_zero]
    refine wpAnyH_take (i := 12) (oi := ?o1x12) (v := ?v1x12) ?hi1x12 (by kernel_rfl) ?hf1x12 ?hr1x12 (fun _ _ _ h => h) ?hy1x12 (by assumption) ?rest1x12
    case hi1x12 => (simp only [List.getElem?_toArray, List.getElem?_cons_succ, List.getElem?_cons_zero]; exact rfl)
    case hf1x12 => kernel_rfl
    case hr1x12 => kernel_rfl
    case hy1x12 => (refine Or.inl ⟨by rfl, ?_⟩; intro w hSw; (try dsimp only at hSw); go_simp; try with_reducible rfl)
    simp only [put_mk, List.set_cons_succ, List.set_cons_zero]
    refine wpAnyH_ready (rs := [4]) (by kernel_rfl) (by simp) ?_
    refine AllReadyH.cons (o := ?o1x4) ?hi1x4 (fun K hK => ?_) AllReadyH.nil
    case hi1x4 => (simp only [List.getElem?_toArray, List.getElem?_cons_succ, List.getElem?_cons_zero]; exact rfl)
    go_simp
    refine (HL.out _).mono ?_
    rintro e w3 ⟨rfl, hx3⟩
    rw [hx3]
    clear hx3 w3
    refine hK.out _ _ ?_ (fun hHeld => ?_)
    · (repeat (first | exact Ext.refl _ | assumption | refine Ext.setCell ?_ (by first | (simp; done) | (simp; omega)) _ | refine Ext.drewN ?_ _ | refine Ext.alloc ?_ _ | refine Ext.drew ?_ | refine Ext.trans ?_ (by assumption)))
    clear hK K
    refine wpAnyH_ready (rs := [13]) (by kernel_rfl) (by simp) ?_
    refine AllReadyH.cons (o := ?o1x13) ?hi1x13 (fun K hK => ?_) AllReadyH.nil
    case hi1x13 => (simp only [List.getElem?_toArray, List.getElem?_cons_succ, List.getElem?_cons_zero]; exact rfl)
    go_simp
    refine (HNb.out _).mono ?_
    rintro e w4 ⟨rfl, hx4⟩
    refine hK.out _ _ ?_ (fun hHeld => ?_)
    · (repeat (first | exact Ext.refl _ | assumption | refine Ext.setCell ?_ (by first | (simp; done) | (simp; omega)) _ | refine Ext.drewN ?_ _ | refine Ext.alloc ?_ _ | refine Ext.drew ?_ | refine Ext.trans ?_ (by assumption)))
    clear hK K
    refine wpAnyH_ready (rs := [14]) (by kernel_rfl) (by simp) ?_
    refine AllReadyH.cons (o := ?o1x14) ?hi1x14 (fun K hK => ?_) AllReadyH.nil
    case hi1x14 => (simp only [List.getElem?_toArray, List.getElem?_cons_succ, List.getElem?_cons_zero]; exact rfl)
    go_simp
    refine (HF.out _ (hx0.trans (by (repeat (first | exact Ext.refl _ | assumption | refine Ext.setCell ?_ (by first | (simp; done) | (simp; omega)) _ | refine Ext.drewN ?_ _ | refine Ext.alloc ?_ _ | refine Ext.drew ?_ | refine Ext.trans ?_ (by assumption)))))).mono ?_
    rintro e w5 ⟨rfl, hx5⟩
    refine hK.out _ _ ?_ (fun hHeld => ?_)
    · (repeat (first | exact Ext.refl _ | assumption | refine Ext.setCell ?_ (by first | (simp; done) | (simp; omega)) _ | refine Ext.drewN ?_ _ | refine Ext.alloc ?_ _ | refine Ext.drew ?_ | refine Ext.trans ?_ (by assumption)))
    clear hK K
    refine wpAnyH_take (i := 15) (oi := ?o1x15) (v := ?v1x15) ?hi1x15 (by kernel_rfl) ?hf1x15 ?hr1x15 (fun _ _ _ h => h) ?hy1x15 (by assumption) ?rest1x15
    case hi1x15 => (simp only [List.getElem?_toArray, List.getElem?_cons_succ, List.getElem?_cons_zero]; exact rfl)
    case hf1x15 => kernel_rfl
    case hr1x15 => kernel_rfl
    case hy1x15 => (refine Or.inl ⟨by rfl, ?_⟩; intro w hSw; (try dsimp only at hSw); go_simp; try with_reducible rfl)
    simp only [put_mk, List.set_cons_succ, List.set_cons_zero]
    refine wpAnyH_take (i := 16) (oi := ?o1x16) (v := ?v1x16) ?hi1x16 (by kernel_rfl) ?hf1x16 ?hr1x16 (fun _ _ _ h => h) ?hy1x16 (by assumption) ?rest1x16
    case hi1x16 => (simp only [List.getElem?_toArray, List.getElem?_cons_succ, List.getElem?_cons_zero]; exact rfl)
    case hf1x16 => kernel_rfl
    case hr1x16 => kernel_rfl
    case hy1x16 => (refine Or.inl ⟨by rfl, ?_⟩; intro w hSw; (try dsimp only at hSw); go_simp; try with_reducible rfl)
    simp only [put_mk, List.set_cons_succ, List.set_cons_zero]
    refine wpAnyH_done (by kernel_rfl) ?_ _
    refine NoPanic.normal ?_
    go_wp2_with fail
    go_ret
    exact ⟨by first | rfl | simp, hx0.trans (by repeat (first | exact Ext.refl _ | assumption | refine Ext.setCell ?_ (by first | (simp; done) | (simp; omega)) _ | refine Ext.drewN ?_ _ | refine Ext.alloc ?_ _ | refine Ext.drew ?_ | refine Ext.trans ?_ (by assumption)))⟩
end Go.Proofs.Ytinohfgokpbcdaa

namespace Go.Proofs.Ytinohfgokpbcdaa
open Go.RowKit

/-- the last cell of a way -/
def endC (tr : Nat → List Nat) (k : Nat) : Nat := (k :: tr k).getLast (by simp)
/-- is a cell a mouth? -/
def mouB (D : Nat → Int) (k : Nat) : Bool := decide (D k < 0)
/-- the number of the mouth of a cell -/
def basV (D : Nat → Int) (tr : Nat → List Nat) (k : Nat) : Nat := cntB (mouB D) (endC tr k)
section
variable {D : Nat → Int} {Wn Hn N : Nat} {tr : Nat → List Nat} {m : Nat → Nat}
theorem end_none {k : Nat} (h : IsTr D Wn Hn k (tr k)) (hn : nxtD D Wn Hn k = none) : endC tr k = k := by
  have e : tr k = [] := tr_one h (show IsTr D Wn Hn k [] from hn)
  unfold endC
  simp [e]
theorem end_some {k n : Nat} (h : IsTr D Wn Hn k (tr k)) (h' : IsTr D Wn Hn n (tr n)) (hn : nxtD D Wn Hn k = some n) : endC tr k = endC tr n := by
  have e : tr k = n :: tr n := tr_one h (show IsTr D Wn Hn k (n :: tr n) from ⟨hn, h'⟩)
  unfold endC
  simp [e]
theorem mou_nxt (hL : Lead Wn Hn N D m) {k : Nat} (hk : k < N) : mouB D k = (nxtD D Wn Hn k).isNone := by
  unfold mouB
  cases hn : nxtD D Wn Hn k with
  | none => simpa using hL.nxt_none hk hn
  | some n =>
    unfold nxtD at hn
    split at hn
    · cases hn
    · simpa using ‹¬ D k < 0›
/-- what Basins has when the cells from i on (in the order) are done -/
structure BZ (D : Nat → Int) (tr : Nat → List Nat) (N : Nat) (L : List Nat) (i : Nat) (O : Nat → Int) : Prop where
  mou : ∀ k, k < N → mouB D k = true → O k = basV D tr k
  done : ∀ k, k < N → k ∉ L.take i → O k = basV D tr k
end
end Go.Proofs.Ytinohfgokpbcdaa

namespace Go.Proofs.Ytinohfgokpbcdaa
open Go.RowKit
attribute [local go_sem ↓] Go.wp_at_zero Go.wp_at_succ
attribute [local go_sem] run_store_float

/-- what Far holds -/
structure FW (W0 w : World) (hr go : Nat) (X Y : Int) (Wn Hn N : Nat) (F : Nat → Nat) : Prop where
  rb : Bk w hr 23 #[.int .i64 X, .int .i64 Y, .int .i64 (Wn : Int), .int .i64 (Hn : Int)]
  ob : Bk w go 27 (flo N F)
  ext : Ext W0 w
  b1 : W0.heap.size ≤ go
theorem FW.step {W0 w : World} {hr go : Nat} {X Y : Int} {Wn Hn N : Nat} {F : Nat → Nat} (h : FW W0 w hr go X Y Wn Hn N F) {w' : World} (hx : Ext w w') : FW W0 w' hr go X Y Wn Hn N F := ⟨h.rb.ext hx, h.ob.ext hx, h.ext.trans hx, h.b1⟩
theorem FW.put {W0 w : World} {hr go : Nat} {X Y : Int} {Wn Hn N : Nat} {F : Nat → Nat} (h : FW W0 w hr go X Y Wn Hn N F) (k x : Nat) : FW W0 (w.setCell ⟨go, k, none⟩ (.float .f32 x)) hr go X Y Wn Hn N (updF F k x) := by
  have e1 := Bk.set h.ob k (.float .f32 x)
  rw [flo_set] at e1
  exact ⟨h.rb.far (Bk.ne h.rb h.ob (by decide)) _, e1, h.ext.setCell h.b1 _, h.b1⟩
def cellX (w : World) (a : Addr) : Nat := match w.cell? a with
  | some (.float .f32 b) => b
  | _ => 0
theorem cellX_of {w : World} {a : Addr} {b : Nat} (h : w.cell? a = some (.float .f32 b)) : w.cell? a = some (.float .f32 (cellX w a)) := by
  unfold cellX
  rw [h]
/-- what it holds within a region that stores one cell -/
def FQ (W0 : World) (hr go : Nat) (X Y : Int) (Wn Hn N : Nat) (F : Nat → Nat) (q : Nat) (w : World) : Prop := ∃ x, FW W0 w hr go X Y Wn Hn N (updF F q x)
theorem FQ.ext {W0 w w' : World} {hr go : Nat} {X Y : Int} {Wn Hn N : Nat} {F : Nat → Nat} {q : Nat} (h : FQ W0 hr go X Y Wn Hn N F q w) (hx : Ext w w') : FQ W0 hr go X Y Wn Hn N F q w' := let ⟨x, h⟩ := h; ⟨x, h.step hx⟩
theorem FQ.set {W0 w : World} {hr go : Nat} {X Y : Int} {Wn Hn N : Nat} {F : Nat → Nat} {q : Nat} (h : FQ W0 hr go X Y Wn Hn N F q w) (y : Nat) : FQ W0 hr go X Y Wn Hn N F q (w.setCell ⟨go, q, none⟩ (.float .f32 y)) := by
  obtain ⟨x, h⟩ := h
  have h1 := h.put q y
  have e : updF (updF F q x) q y = updF F q y := by
    funext j
    by_cases e : j = q
    · subst e; rw [updF_same, updF_same]
    · rw [updF_ne _ _ e, updF_ne _ _ e, updF_ne _ _ e]
  rw [e] at h1
  exact ⟨y, h1⟩
/-- what it holds when the cells from i on (in the order) are done -/
structure FZ (D : Nat → Int) (tr : Nat → List Nat) (N : Nat) (L : List Nat) (i : Nat) (F : Nat → Nat) : Prop where
  old : ∀ k, k ∈ L.take i → F k = 0
  done : ∀ k, k < N → k ∉ L.take i → F k = farT D k (tr k)
set_option maxRecDepth 100000 in
set_option maxHeartbeats 6400000 in
theorem Far_ok (X Y : Int) (Wn Hn N c : Nat) (A : Option Addr) (D : Nat → Int) (m : Nat → Nat) (tr : Nat → List Nat) (w : World) (hr : Reg X Y Wn Hn) (hr0 : regE X Y Wn Hn = 0) (hN : N = Wn * Hn) (hD : DirsAt w A N D) (hL : Lead Wn Hn N D m) (htr : ∀ k, k < N → IsTr D Wn Hn k (tr k)) :
    Calls Try.prog 50 #[rgv X Y Wn Hn, .slice A N c] w fun e w' => ∃ go, e = .returned (.tuple #[.slice (some ⟨go, 0, none⟩) N N, .int .i64 0]) ∧ Bk w' go 27 (flo N fun k => farT D k (tr k)) ∧ w.heap.size ≤ go ∧ Ext w w' := by
  have hN6 : N ≤ 65536 := by rw [hN]; exact hr.n
  have HC := hidA (fun (w' : World) (h : Ext w w') => CheckDirs_ok X Y Wn Hn N c A D m w' hr hr0 hN (hD.ext h) hL)
  have HDn := hidA (fun (w' : World) (h : Ext w w') => downward_any X Y Wn Hn N c A D w' hr hN (hD.ext h) hL.valid)
  have HNx := hidA (fun (k : Nat) (w' : World) (hk : k < N) (h : Ext w w') => next_any X Y Wn Hn N k c A D w' hr hN (hD.ext h) hk (hL.rng k hk).1 (hL.rng k hk).2 (hL.valid.into k hk))
  unfold rgv at HC HDn HNx ⊢
  have HSt := hidA (fun (k : Nat) (w : World) (hk : k < N) (h0 : 0 ≤ D k) => show Calls Try.prog 109 #[.int .i64 (D k)] w fun e w' => e = .returned (.float .f32 (longN (D k).toNat)) ∧ w' = w from by
    have h := longE_any (D k).toNat w (by have := (hL.rng k hk).2; omega)
    rwa [Int.toNat_of_nonneg h0] at h)
  have Hall := hidA (fun (L : List Nat) (h : Topo (nxtD D Wn Hn) N L) => h.all m (fun p n hp hn => (hL.nxt hN hp hn).2))
  have Hno := hidA (fun (k : Nat) (hk : k < N) (hn : nxtD D Wn Hn k = none) => show farT D k (tr k) = 0 from by rw [tr_one (htr k hk) (show IsTr D Wn Hn k [] from hn)]; rfl)
  have Hso := hidA (fun (k n : Nat) (hk : k < N) (hn : nxtD D Wn Hn k = some n) => show floatBits .add .f32 (longN (D k).toNat) (farT D n (tr n)) = some (farT D k (tr k)) ∧ 0 ≤ D k from by
    have hnN : n < N := by rw [hN]; exact nxt_lt hn
    rw [tr_one (htr k hk) (show IsTr D Wn Hn k (n :: tr n) from ⟨hn, htr n hnN⟩)]
    refine ⟨farT_add D k n (tr n), ?_⟩
    unfold nxtD at hn
    split at hn
    · cases hn
    · omega)
  have Hlt := hidA (fun (k n : Nat) (hn : nxtD D Wn Hn k = some n) => show n < N from by rw [hN]; exact nxt_lt hn)
  have HD := hidA hD
  have mf := mk_flo N (by omega)
  have kR : Bk (w.alloc (.cells #[.int .i64 X, .int .i64 Y, .int .i64 (Wn : Int), .int .i64 (Hn : Int)] 23)) w.heap.size 23 #[.int .i64 X, .int .i64 Y, .int .i64 (Wn : Int), .int .i64 (Hn : Int)] := Bk.new' rfl
  have hx0 : Ext w (w.alloc (.cells #[.int .i64 X, .int .i64 Y, .int .i64 (Wn : Int), .int .i64 (Hn : Int)] 23)) := (Ext.refl w).alloc _
  clear hr hr0 hN hD hL htr
  go_enter Try.func50, Try.ntmps50
  go_upto_region 1 with fail
  generalize w.alloc (.cells #[.int .i64 X, .int .i64 Y, .int .i64 (Wn : Int), .int .i64 (Hn : Int)] 23) = w1 at *
  generalize hh0 : w.heap.size = h0 at kR ⊢
  have Hh0 := hidA hh0
  clear hh0
  have c0 := kR.cell 0
  have c1 := kR.cell 1
  have c2 := kR.cell 2
  have c3 := kR.cell 3
  go_upto_region 4 with (go_at_call 45; refine (HC.out _ (hx0.trans (by repeat (first | exact Ext.refl _ | assumption | refine Ext.setCell ?_ (by first | (simp; done) | (simp; omega)) _ | refine Ext.drewN ?_ _ | refine Ext.alloc ?_ _ | refine Ext.drew ?_ | refine Ext.trans ?_ (by assumption))))).mono ?_; rintro e w2 ⟨rfl, hx2⟩)
  have kR2 := kR.ext hx2
  have hxw := hx0.trans hx2
  clear c0 c1 c2 c3 kR hx0 hx2 HC
  go_upto_region 5 with fail
  have hS : FW w (w2.alloc (.cells (flo N fun _ => 0) 27)) h0 w2.heap.size X Y Wn Hn N (fun _ => 0) :=
    ⟨kR2.alloc _, Bk.new' (by simp), hxw.alloc _, hxw.size⟩
  clear kR2 hxw mf
  generalize w2.alloc (.cells (flo N fun _ => 0) 27) = w3 at *
  generalize w2.heap.size = go at *
  have hgl := hS.ob.lt
  have c0 := hS.rb.cell 0
  have c1 := hS.rb.cell 1
  have c2 := hS.rb.cell 2
  have c3 := hS.rb.cell 3
  go_upto_region 6 with (go_at_call 105; refine (HDn.out _ (hS.ext.trans (by repeat (first | exact Ext.refl _ | assumption | refine Ext.setCell ?_ (by first | (simp; done) | (simp; omega)) _ | refine Ext.drewN ?_ _ | refine Ext.alloc ?_ _ | refine Ext.drew ?_ | refine Ext.trans ?_ (by assumption))))).mono ?_; rintro e w5 ⟨Q, qc, L, rfl, hQ, hT, hx5⟩)
  have hS5 := hS.step hx5
  have HT := hidA hT
  have hll := nodup_le hT.nd hT.lt
  have hFZ : FZ D tr N L L.length (fun _ => 0) := ⟨fun k _ => rfl, fun k hk hn => absurd (Hall.out L hT k hk) (by rwa [List.take_length] at hn)⟩
  have HFZ := hidA hFZ
  clear c0 c1 c2 c3 hS hT hx5 HDn hFZ
  generalize w3.heap.size = bs at *
  go_wp2_with fail
  go_loopw [9] (fun s9 wr => ∃ (i : Nat) (F : Nat → Nat), i ≤ L.length ∧ s9 = .int .i64 ((i : Int) - 1) ∧ FW w wr h0 go X Y Wn Hn N F ∧ Qs wr bs 3 Q L.length qc (inq L) ∧ FZ D tr N L i F) (fun s9 _ => (intOf s9 + 1).toNat)
  case atStart => exact ⟨L.length, _, Nat.le_refl _, rfl, hS5, hQ, HFZ.out⟩
  case round =>
    clear hS5 hQ HFZ
    obtain ⟨i, F, hi, rfl, hS, hQ, hB⟩ := hrel
    have HB := hidA hB
    clear hB
    cases i with
    | zero =>
      have hO : flo N F = flo N fun k => farT D k (tr k) := flo_congr fun k hk => HB.out.done k hk (by simp)
      have hob := hidA (show Bk wr go 27 (flo N fun k => farT D k (tr k)) from by rw [← hO]; exact hS.ob)
      have HS := hidA hS
      clear hO hS hQ
      go_wp2_with fail
      refine bodyPost_ret (v := .tuple #[.slice (some ⟨go, 0, none⟩) N N, .int .i64 0]) (by simp [results, Try.results50, go_sem]) rfl ?_
      exact ⟨go, rfl, hob.out, by first | exact HS.out.b1 | (rw [← Hh0.out]; exact HS.out.b1) | (have := HS.out.b1; have := Hh0.out; omega), HS.out.ext⟩
    | succ i =>
      have hiL : i < L.length := by omega
      have hq := HT.out.lt _ (List.getElem_mem hiL)
      have hah := hidA (fun n h => HT.out.ahead (n := n) hiL h)
      have htk := hidA (fun p => take_more hiL p)
      obtain ⟨aq, rfl, _, hcv⟩ := hQ.rd.at (k := i) (by rw [inq_length]; exact hiL)
      have q9 : wr.cell? (aq.add i) = some (.int .i64 (L[i] : Nat)) := hcv i _ (inq_get hiL)
      have hnd := hidA (nd_take HT.out.nd hiL)
      clear hcv
      have ei : ((i + 1 : Nat) : Int) - 1 = (i : Int) := by omega
      rw [ei]
      have j1 : (0 : Int) ≤ i := by omega
      have j2 : (i : Int) < L.length := by omega
      generalize L[i] = q at *
      have HNk := hidA (fun w' h => HNx.out q w' hq h)
      have c0 := hS.rb.cell 0
      have c1 := hS.rb.cell 1
      have c2 := hS.rb.cell 2
      have c3 := hS.rb.cell 3
      have hxS := hS.ext
      cases hn : nxtD D Wn Hn q with
      | none =>
        have HNk := HNk.out
        rw [hn, show nbI none = -1 from rfl] at HNk
        have HNk := hidA HNk
        have hB2 := hidA (show FZ D tr N L i F from ⟨fun k hk => HB.out.old k ((htk.out k).2 (.inl hk)), fun k hk hkn => by
          by_cases e : k = q
          · subst e
            rw [Hno.out k hq hn]
            exact HB.out.old k ((htk.out k).2 (.inr rfl))
          · exact HB.out.done k hk (fun h => by rcases (htk.out k).1 h with h | h <;> contradiction)⟩)
        clear hn HB
        go_wp2_with (go_at_call 107; refine (HNk.out _ (hxS.trans (by repeat (first | exact Ext.refl _ | assumption | refine Ext.setCell ?_ (by first | (simp; done) | (simp; omega)) _ | refine Ext.drewN ?_ _ | refine Ext.alloc ?_ _ | refine Ext.drew ?_ | refine Ext.trans ?_ (by assumption))))).mono ?_; rintro e w6 ⟨rfl, hx6⟩)
        go_roundw
        case rel => exact ⟨i, F, by omega, by go_num, hS.step hx6, hQ.kept (fun _ _ hl => hx6.block _ hl), hB2.out⟩
        case measure => simp [intOf] <;> omega
      | some n =>
        have HNk := HNk.out
        have hnN := Hlt.out q n hn
        have hna := hah.out n hn
        rw [hn, show nbI (some n) = (n : Int) from rfl] at HNk
        have HNk := hidA HNk
        obtain ⟨hadd, hd0⟩ := Hso.out q n hq hn
        have hFn := HB.out.done n hnN hna
        rw [← hFn] at hadd
        have hB2 := hidA (show FZ D tr N L i (updF F q (farT D q (tr q))) from ⟨fun k hk => by
          have e : k ≠ q := fun e => by rw [e] at hk; exact hnd.out hk
          rw [updF_ne _ _ e]
          exact HB.out.old k ((htk.out k).2 (.inl hk)), fun k hk hkn => by
          by_cases e : k = q
          · subst e
            rw [updF_same]
          · rw [updF_ne _ _ e]
            exact HB.out.done k hk (fun h => by rcases (htk.out k).1 h with h | h <;> contradiction)⟩)
        have j3 : (0 : Int) ≤ n := by omega
        have j4 : (n : Int) < N := by omega
        have j5 : (0 : Int) ≤ q := by omega
        have j6 : (q : Int) < N := by omega
        have HSq := hidA (fun (w : World) => HSt.out q w hq hd0)
        have hne : ((n : Int) == -1) = false := by simp
        have hne2 : ¬ ((n : Int) = -1) := by omega
        have hna0 := hidA hna
        clear hn HB hFn hna
        go_upto_region 12 with (go_at_call 107; refine (HNk.out _ (hxS.trans (by repeat (first | exact Ext.refl _ | assumption | refine Ext.setCell ?_ (by first | (simp; done) | (simp; omega)) _ | refine Ext.drewN ?_ _ | refine Ext.alloc ?_ _ | refine Ext.drew ?_ | refine Ext.trans ?_ (by assumption))))).mono ?_; rintro e w6 ⟨rfl, hx6⟩)
        have hS6 := hS.step hx6
        have hQ6 := hQ.kept (fun _ _ hl => hx6.block _ hl)
        clear c0 c1 c2 c3 q9 HNk hS hQ hx6 hxS
        obtain ⟨ad, rfl, _, _⟩ := (HD.out.ext hS6.ext).cell hq
        have hnq : n ≠ q := fun e => hna0.out ((htk.out n).2 (.inr e))
        have hFQ : FQ w h0 go X Y Wn Hn N F q w6 := ⟨F q, by
          have e : updF F q (F q) = F := by
            funext j
            by_cases e : j = q
            · subst e; rw [updF_same]
            · rw [updF_ne _ _ e]
          rw [e]
          exact hS6⟩
        have e0 : ∀ w', FQ w h0 go X Y Wn Hn N F q w' → w'.cell? (ad.add q) = some (.int .i64 (D q)) := fun w' h => by
          obtain ⟨x, h⟩ := h
          obtain ⟨ad', e, _, q0⟩ := (HD.out.ext h.ext).cell hq
          injection e with e
          subst e
          exact q0
        have e1 : ∀ w', FQ w h0 go X Y Wn Hn N F q w' → w'.cell? ⟨go, n, none⟩ = some (.float .f32 (F n)) := fun w' h => by
          obtain ⟨x, h⟩ := h
          rw [h.ob.cell, flo_get _ hnN, updF_ne _ _ hnq]
        have e2 : ∀ w', FQ w h0 go X Y Wn Hn N F q w' → w'.cell? ⟨go, q, none⟩ = some (.float .f32 (cellX w' ⟨go, q, none⟩)) := fun w' h => by
          obtain ⟨x, h⟩ := h
          exact cellX_of (b := x) (by rw [h.ob.cell, flo_get _ hq, updF_same])
        have e3 : ∀ w', FQ w h0 go X Y Wn Hn N F q w' → w'.frozen? ⟨go, q, none⟩ = false := fun w' h => by
          obtain ⟨x, h⟩ := h
          exact h.ob.frozen q
        have HS7 := hidA (fun (w' : World) (h : Ext w6 w') => (hS6.step h).put q (farT D q (tr q)))
        have HQ7 := hidA (fun (w' : World) (h : Ext w6 w') => (hQ6.kept (fun _ _ hl => h.block _ hl)).kept (w' := w'.setCell ⟨go, q, none⟩ (.float .f32 (farT D q (tr q)))) (fun a ha _ => Below.heap_setCell w' _ _ _ (fun e => by
          have := (hQ6.lt ha).1
          have e2 : a.block = go := e
          omega)))
        clear hS6 hQ6
        generalize farT D q (tr q) = y at *
        generalize hy1 : F n = y1 at e1 hadd
        generalize longN (D q).toNat = lg at *
        generalize D q = z at *
        have q3 := fun (w : World) => run_float_arith (P := Try.prog) w .add 27 .f32 _ _ _ hadd
        clear hadd
        refine wp_region_noPanic ?_
        refine wp_region_held_drew (S := fun w' => FQ w h0 go X Y Wn Hn N F q w') (by kernel_rfl) ?_ (fun hHeld => ?_)
        · repeat (first | assumption | refine FQ.set ?_ _ | refine FQ.ext ?_ (Ext.drew (Ext.refl _)))
        refine wpAnyH_take (i := 0) (oi := ?o1x0) (v := ?v1x0) ?hi1x0 (by kernel_rfl) ?hf1x0 ?hr1x0 (fun _ _ _ h => h) ?hy1x0 (by assumption) ?rest1x0
        case hi1x0 => (simp only [List.getElem?_toArray, List.getElem?_cons_zero]; exact rfl)
        case hf1x0 => kernel_rfl
        case hr1x0 => kernel_rfl
        case hy1x0 => (refine Or.inl ⟨by rfl, ?_⟩; intro w hSw; (try dsimp only at hSw); go_simp; try with_reducible rfl)
        simp only [put_mk, List.set_cons_succ, List.set_cons_zero]
        refine wpAnyH_take (i := 1) (oi := ?o1x1) (v := ?v1x1) ?hi1x1 (by kernel_rfl) ?hf1x1 ?hr1x1 (fun _ _ _ h => h) ?hy1x1 (by assumption) ?rest1x1
        case hi1x1 => (simp only [List.getElem?_toArray, List.getElem?_cons_succ, List.getElem?_cons_zero]; exact rfl)
        case hf1x1 => kernel_rfl
        case hr1x1 => kernel_rfl
        case hy1x1 => (refine Or.inl ⟨by rfl, ?_⟩; intro w hSw; (try dsimp only at hSw); go_simp; try with_reducible rfl)
        simp only [put_mk, List.set_cons_succ, List.set_cons_zero]
        refine wpAnyH_take (i := 2) (oi := ?o1x2) (v := ?v1x2) ?hi1x2 (by kernel_rfl) ?hf1x2 ?hr1x2 (fun _ _ _ h => h) ?hy1x2 (by assumption) ?rest1x2
        case hi1x2 => (simp only [List.getElem?_toArray, List.getElem?_cons_succ, List.getElem?_cons_zero]; exact rfl)
        case hf1x2 => kernel_rfl
        case hr1x2 => kernel_rfl
        case hy1x2 => (refine Or.inl ⟨by rfl, ?_⟩; intro w hSw; (try dsimp only at hSw); go_simp; try with_reducible rfl)
        simp only [put_mk, List.set_cons_succ, List.set_cons_zero]
        refine wpAnyH_take (i := 3) (oi := ?o1x3) (v := ?v1x3) ?hi1x3 (by kernel_rfl) ?hf1x3 ?hr1x3 (fun _ _ _ h => h) ?hy1x3 (by assumption) ?rest1x3
        case hi1x3 => (simp only [List.getElem?_toArray, List.getElem?_cons_succ, List.getElem?_cons_zero]; exact rfl)
        case hf1x3 => kernel_rfl
        case hr1x3 => kernel_rfl
        case hy1x3 => (refine Or.inl ⟨by rfl, ?_⟩; intro w hSw; (try dsimp only at hSw); go_simp; try with_reducible rfl)
        simp only [put_mk, List.set_cons_succ, List.set_cons_zero]
        refine wpAnyH_take (i := 4) (oi := ?o1x4) (v := ?v1x4) ?hi1x4 (by kernel_rfl) ?hf1x4 ?hr1x4 (fun _ _ _ h => h) ?hy1x4 (by assumption) ?rest1x4
        case hi1x4 => (simp only [List.getElem?_toArray, List.getElem?_cons_succ, List.getElem?_cons_zero]; exact rfl)
        case hf1x4 => kernel_rfl
        case hr1x4 => kernel_rfl
        case hy1x4 => (refine Or.inl ⟨by rfl, ?_⟩; intro w hSw; (try dsimp only at hSw); go_simp; try with_reducible rfl)
        simp only [put_mk, List.set_cons_succ, List.set_cons_zero]
        refine wpAnyH_take (i := 5) (oi := ?o1x5) (v := ?v1x5) ?hi1x5 (by kernel_rfl) ?hf1x5 ?hr1x5 (fun _ _ _ h => h) ?hy1x5 (by assumption) ?rest1x5
        case hi1x5 => (simp only [List.getElem?_toArray, List.getElem?_cons_succ, List.getElem?_cons_zero]; exact rfl)
        case hf1x5 => kernel_rfl
        case hr1x5 => kernel_rfl
        case hy1x5 => (refine Or.inl ⟨by rfl, ?_⟩; intro w hSw; (try dsimp only at hSw); go_simp; try with_reducible rfl)
        simp only [put_mk, List.set_cons_succ, List.set_cons_zero]
        refine wpAnyH_take (i := 7) (oi := ?o1x7) (v := ?v1x7) ?hi1x7 (by kernel_rfl) ?hf1x7 ?hr1x7 (fun _ _ _ h => h) ?hy1x7 (by assumption) ?rest1x7
        case hi1x7 => (simp only [List.getElem?_toArray, List.getElem?_cons_succ, List.getElem?_cons_zero]; exact rfl)
        case hf1x7 => kernel_rfl
        case hr1x7 => kernel_rfl
        case hy1x7 => (refine Or.inl ⟨by rfl, ?_⟩; intro w hSw; (try dsimp only at hSw); go_simp; try with_reducible rfl)
        simp only [put_mk, List.set_cons_succ, List.set_cons_zero]
        refine wpAnyH_take (i := 8) (oi := ?o1x8) (v := ?v1x8) ?hi1x8 (by kernel_rfl) ?hf1x8 ?hr1x8 (fun _ _ _ h => h) ?hy1x8 (by assumption) ?rest1x8
        case hi1x8 => (simp only [List.getElem?_toArray, List.getElem?_cons_succ, List.getElem?_cons_zero]; exact rfl)
        case hf1x8 => kernel_rfl
        case hr1x8 => kernel_rfl
        case hy1x8 => (refine Or.inl ⟨by rfl, ?_⟩; intro w hSw; (try dsimp only at hSw); go_simp; try with_reducible rfl)
        simp only [put_mk, List.set_cons_succ, List.set_cons_zero]
        refine wpAnyH_take (i := 9) (oi := ?o1x9) (v := ?v1x9) ?hi1x9 (by kernel_rfl) ?hf1x9 ?hr1x9 (fun _ _ _ h => h) ?hy1x9 (by assumption) ?rest1x9
        case hi1x9 => (simp only [List.getElem?_toArray, List.getElem?_cons_succ, List.getElem?_cons_zero]; exact rfl)
        case hf1x9 => kernel_rfl
        case hr1x9 => kernel_rfl
        case hy1x9 => (refine Or.inl ⟨by rfl, ?_⟩; intro w hSw; (try dsimp only at hSw); go_simp; try with_reducible rfl)
        simp only [put_mk, List.set_cons_succ, List.set_cons_zero]
        refine wpAnyH_take (i := 10) (oi := ?o1x10) (v := ?v1x10) ?hi1x10 (by kernel_rfl) ?hf1x10 ?hr1x10 (fun _ _ _ h => h) ?hy1x10 (by assumption) ?rest1x10
        case hi1x10 => (simp only [List.getElem?_toArray, List.getElem?_cons_succ, List.getElem?_cons_zero]; exact rfl)
        case hf1x10 => kernel_rfl
        case hr1x10 => kernel_rfl
        case hy1x10 => (refine Or.inl ⟨by rfl, ?_⟩; intro w hSw; (try dsimp only at hSw); go_simp; try with_reducible rfl)
        simp only [put_mk, List.set_cons_succ, List.set_cons_zero]
        refine wpAnyH_ready (rs := [6]) (by kernel_rfl) (by simp) ?_
        refine AllReadyH.cons (o := ?o1x6) ?hi1x6 (fun K hK => ?_) AllReadyH.nil
        case hi1x6 => (simp only [List.getElem?_toArray, List.getElem?_cons_succ, List.getElem?_cons_zero]; exact rfl)
        go_simp
        refine (HSq.out _).mono ?_
        rintro e w8 ⟨rfl, hx8⟩
        rw [hx8]
        clear hx8 w8
        refine hK.out _ _ ?_ (fun hHeld => ?_)
        · repeat (first | assumption | refine FQ.set ?_ _ | refine FQ.ext ?_ (Ext.drew (Ext.refl _)))
        clear hK K
        refine wpAnyH_take (i := 11) (oi := ?o1x11) (v := ?v1x11) ?hi1x11 (by kernel_rfl) ?hf1x11 ?hr1x11 (fun _ _ _ h => h) ?hy1x11 (by assumption) ?rest1x11
        case hi1x11 => (simp only [List.getElem?_toArray, List.getElem?_cons_succ, List.getElem?_cons_zero]; exact rfl)
        case hf1x11 => kernel_rfl
        case hr1x11 => kernel_rfl
        case hy1x11 => (refine Or.inl ⟨by rfl, ?_⟩; intro w hSw; (try dsimp only at hSw); go_simp; try with_reducible rfl)
        simp only [put_mk, List.set_cons_succ, List.set_cons_zero]
        refine wpAnyH_take (i := 12) (oi := ?o1x12) (v := ?v1x12) ?hi1x12 (by kernel_rfl) ?hf1x12 ?hr1x12 (fun _ _ _ h => h) ?hy1x12 (by assumption) ?rest1x12
        case hi1x12 => (simp only [List.getElem?_toArray, List.getElem?_cons_succ, List.getElem?_cons_zero]; exact rfl)
        case hf1x12 => kernel_rfl
        case hr1x12 => kernel_rfl
        case hy1x12 => (refine Or.inl ⟨by rfl, ?_⟩; intro w hSw; (try dsimp only at hSw); go_simp; try with_reducible rfl)
        simp only [put_mk, List.set_cons_succ, List.set_cons_zero]
        refine wpAnyH_ready (rs := [13]) (by kernel_rfl) (by simp) ?_
        refine AllReadyH.cons (o := ?o1x13) ?hi1x13 (fun K hK => ?_) AllReadyH.nil
        case hi1x13 => (simp only [List.getElem?_toArray, List.getElem?_cons_succ, List.getElem?_cons_zero]; exact rfl)
        go_simp
        refine hK.out _ _ ?_ (fun hHeld => ?_)
        · repeat (first | assumption | refine FQ.set ?_ _ | refine FQ.ext ?_ (Ext.drew (Ext.refl _)))
        clear hK K
        refine wpAnyH_done (by kernel_rfl) ?_ _
        refine NoPanic.normal ?_
        go_wp2_with fail
        go_roundw
        case rel => exact ⟨i, _, by omega, by go_num, HS7.out _ (Ext.drew (Ext.refl _)), HQ7.out _ (Ext.drew (Ext.refl _)), hB2.out⟩
        case measure => simp [intOf] <;> omega
end Go.Proofs.Ytinohfgokpbcdaa
