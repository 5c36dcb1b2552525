/- Contracts: tarnref2.Long, Drop, SteepOf. -/
import Derived.Test.YtinohfgokpbcdaaSteepA
import Derived.Test.YtinohfgokpbcdaaFillR
namespace Go.Proofs.Ytinohfgokpbcdaa
open Go.RowKit
attribute [local go_sem ↓] Go.wp_at_zero Go.wp_at_succ
attribute [local go_sem] run_store_float

theorem sqrt_two (w : World) : (callFunc 143 #[.float .f64 4611686018427387904]).run Try.prog w = .ok (.value (.float .f64 4609047870845172685)) w := by kernel_rfl
theorem Sqrt_two (w : World) :
    Calls Try.prog 94 #[.float .f64 4611686018427387904] w fun e w' => e = .returned (.float .f64 4609047870845172685) ∧ w' = w := by
  have h := sqrt_two
  go_enter Try.func94, Try.ntmps94
  go_wp2
  go_ret
  exact ⟨rfl, rfl⟩
set_option maxRecDepth 100000 in
theorem root_two (w : World) :
    Calls Try.prog 38 #[.float .f32 1073741824] w fun e w' => e = .returned (.float .f32 1068827891) ∧ w' = w := by
  have c1 := fun (w : World) => run_convert_float_float (P := Try.prog) w 27 72 .f32 .f64 1073741824 4611686018427387904 (by kernel_rfl) Try.underlying72 (by decide +kernel)
  have c2 := fun (w : World) => run_convert_float_float (P := Try.prog) w 72 27 .f64 .f32 4609047870845172685 1068827891 (by kernel_rfl) Try.underlying27 (by decide +kernel)
  go_enter Try.func38, Try.ntmps38
  go_wp2_with fail
  refine (Sqrt_two _).mono ?_
  rintro e w' ⟨rfl, rfl⟩
  go_wp2
  go_ret
  exact ⟨rfl, rfl⟩
theorem longR_any (d : Nat) (w : World) (h : d < 8) :
    Calls Try.prog 111 #[.int .i64 d] w fun e w' => e = .returned (.float .f32 (longN d)) ∧ w' = w := by
  have hd : d = 0 ∨ d = 1 ∨ d = 2 ∨ d = 3 ∨ d = 4 ∨ d = 5 ∨ d = 6 ∨ d = 7 := by omega
  have HR := fun (w : World) => hidA (root_two w)
  rcases hd with rfl | rfl | rfl | rfl | rfl | rfl | rfl | rfl
  all_goals
    go_enter Try.func111, Try.ntmps111
    go_wp2_with (go_at_call 38; refine ((HR _).out).mono ?_; rintro e w' ⟨rfl, hw'⟩; subst hw')
    go_ret
    exact ⟨rfl, rfl⟩

/-- what Drop answers -/
def dropV (v : Nat → Nat) (Wn Hn k d : Nat) : Value := match nbr Wn Hn k d with
  | none => .tuple #[.float .f32 0, .bool false]
  | some n => .tuple #[.float .f32 (dropF v k n d), .bool true]
set_option maxRecDepth 100000 in
set_option maxHeartbeats 3200000 in
theorem drop_any (X Y : Int) (Wn Hn N k d : Nat) (A : Option Addr) (c : Nat) (l : List Nat) (w : World) (hr : Reg X Y Wn Hn) (hN : N = Wn * Hn) (hl : l.length = N) (hV : Rd w A (flt l)) (hh : ∀ j, j < N → Bd 20 (l.getD j 0)) (hk : k < N) (hd : d < 8) :
    Calls Try.prog 93 #[rgv X Y Wn Hn, .slice A N c, .int .i64 (k : Int), .int .i64 (d : Int)] w fun e w' =>
      e = .returned (dropV (fun j => l.getD j 0) Wn Hn k d) ∧ Ext w w' := by
  have HN := fun (w : World) => hidA (nb_any X Y Wn Hn k d w hr (by rw [← hN]; exact hk) hd)
  have hL := fun (w : World) => hidA (longR_any d w hd)
  unfold dropV
  cases hn : nbr Wn Hn k d with
  | none =>
    rw [hn] at HN
    clear hn hr hN hl hV hh hk hd
    simp only [nbI] at HN
    unfold rgv at HN ⊢
    go_enter Try.func93, Try.ntmps93
    go_wp2_with (go_at_call 63; refine ((HN _).out).mono ?_; rintro e w1 ⟨rfl, hx1⟩)
    go_ret2
    exact ⟨rfl, (by repeat (first | (with_reducible exact Ext.refl _) | (with_reducible assumption) | (with_reducible refine Ext.setCell ?_ (by first | (simp; done) | (simp; omega)) _) | (with_reducible refine Ext.drewN ?_ _) | (with_reducible refine Ext.alloc ?_ _) | (with_reducible refine Ext.drew ?_) | (with_reducible refine Ext.trans ?_ (by assumption))))⟩
  | some n =>
    have hnN : n < N := by rw [hN]; exact nbr_lt hn
    rw [hn] at HN
    simp only [nbI] at HN
    have hnl : n < l.length := by omega
    have hkl : k < l.length := by omega
    obtain ⟨ad, rfl, hbk, hcv⟩ := hV.at (k := n) (by rw [flt_length]; exact hnl)
    have cn := hcv n _ (flt_get hnl)
    have ck := hcv k _ (flt_get hkl)
    have en : l.getD n 0 = l[n] := by simp [List.getD_eq_getElem?_getD, hnl]
    have ek : l.getD k 0 = l[k] := by simp [List.getD_eq_getElem?_getD, hkl]
    obtain ⟨r1, r2, r3⟩ := drop_ok (v := fun j => l.getD j 0) (k := k) (n := n) d (hh k hk) (hh n hnN)
    rw [← en] at cn
    rw [← ek] at ck
    replace r1 : floatBits .sub .f32 (l.getD k 0) (l.getD n 0) = some (fsub (l.getD k 0) (l.getD n 0)) := r1
    replace r2 : floatBits .quo .f32 (fsub (l.getD k 0) (l.getD n 0)) (longN d) = some (dropF (fun j => l.getD j 0) k n d) := r2
    simp only []
    clear hn hr hN hh hcv en ek r3
    generalize dropF (fun j => l.getD j 0) k n d = x at *
    generalize l.getD n 0 = a at *
    generalize l.getD k 0 = b at *
    have q1 := fun (w : World) => run_float_arith (P := Try.prog) w .sub 27 .f32 _ _ _ r1
    have q2 := fun (w : World) => run_float_arith (P := Try.prog) w .quo 27 .f32 _ _ _ r2
    clear r1 r2
    have Hl := hidA hl
    clear hl hnl hkl hV
    generalize longN d = y at *
    have i0 : (0 : Int) ≤ n := by omega
    have i1 : (n : Int) < N := by omega
    have i2 : (0 : Int) ≤ k := by omega
    have i3 : (k : Int) < N := by omega
    have i4 : ¬ (n : Int) < 0 := by omega
    unfold rgv at HN ⊢
    go_enter Try.func93, Try.ntmps93
    go_upto_region 4 with (go_at_call 63; refine ((HN _).out).mono ?_; rintro e w1 ⟨rfl, hx1⟩)
    have hx2 : Ext w w1 := ((Ext.refl w).alloc _).trans hx1
    clear hx1 HN
    have a1 : ∀ w', Ext w1 w' → w'.cell? (ad.add n) = some (.float .f32 a) := fun w' h => by rw [(hx2.trans h).cell _ (by rw [add_block]; exact hbk)]; exact cn
    have a2 : ∀ w', Ext w1 w' → w'.cell? (ad.add k) = some (.float .f32 b) := fun w' h => by rw [(hx2.trans h).cell _ (by rw [add_block]; exact hbk)]; exact ck
    clear cn ck
    refine wp_region_noPanic ?_
    refine wp_region_held_drew (S := fun w' => Ext w1 w') (by kernel_rfl) ?_ (fun hHeld => ?_)
    · (repeat (first | exact Ext.refl _ | assumption | refine Ext.setCell ?_ (by first | (simp; done) | (simp; omega)) _ | refine Ext.drewN ?_ _ | refine Ext.alloc ?_ _ | refine Ext.drew ?_ | refine Ext.trans ?_ (by assumption)))
    refine wpAnyH_take (i := 0) (oi := ?o1x0) (v := ?v1x0) ?hi1x0 (by kernel_rfl) ?hf1x0 ?hr1x0 (fun _ _ _ h => h) ?hy1x0 (by assumption) ?rest1x0
    case hi1x0 => (simp only [List.getElem?_toArray, List.getElem?_cons_zero]; exact rfl)
    case hf1x0 => kernel_rfl
    case hr1x0 => kernel_rfl
    case hy1x0 => (refine Or.inl ⟨by rfl, ?_⟩; intro w hSw; (try dsimp only at hSw); go_simp; try with_reducible rfl)
    simp only [put_mk, List.set_cons_succ, List.set_cons_zero]
    refine wpAnyH_take (i := 1) (oi := ?o1x1) (v := ?v1x1) ?hi1x1 (by kernel_rfl) ?hf1x1 ?hr1x1 (fun _ _ _ h => h) ?hy1x1 (by assumption) ?rest1x1
    case hi1x1 => (simp only [List.getElem?_toArray, List.getElem?_cons_succ, List.getElem?_cons_zero]; exact rfl)
    case hf1x1 => kernel_rfl
    case hr1x1 => kernel_rfl
    case hy1x1 => (refine Or.inl ⟨by rfl, ?_⟩; intro w hSw; (try dsimp only at hSw); go_simp; try with_reducible rfl)
    simp only [put_mk, List.set_cons_succ, List.set_cons_zero]
    refine wpAnyH_take (i := 2) (oi := ?o1x2) (v := ?v1x2) ?hi1x2 (by kernel_rfl) ?hf1x2 ?hr1x2 (fun _ _ _ h => h) ?hy1x2 (by assumption) ?rest1x2
    case hi1x2 => (simp only [List.getElem?_toArray, List.getElem?_cons_succ, List.getElem?_cons_zero]; exact rfl)
    case hf1x2 => kernel_rfl
    case hr1x2 => kernel_rfl
    case hy1x2 => (refine Or.inl ⟨by rfl, ?_⟩; intro w hSw; (try dsimp only at hSw); go_simp; try with_reducible rfl)
    simp only [put_mk, List.set_cons_succ, List.set_cons_zero]
    refine wpAnyH_take (i := 3) (oi := ?o1x3) (v := ?v1x3) ?hi1x3 (by kernel_rfl) ?hf1x3 ?hr1x3 (fun _ _ _ h => h) ?hy1x3 (by assumption) ?rest1x3
    case hi1x3 => (simp only [List.getElem?_toArray, List.getElem?_cons_succ, List.getElem?_cons_zero]; exact rfl)
    case hf1x3 => kernel_rfl
    case hr1x3 => kernel_rfl
    case hy1x3 => (refine Or.inl ⟨by rfl, ?_⟩; intro w hSw; (try dsimp only at hSw); go_simp; try with_reducible rfl)
    simp only [put_mk, List.set_cons_succ, List.set_cons_zero]
    refine wpAnyH_take (i := 4) (oi := ?o1x4) (v := ?v1x4) ?hi1x4 (by kernel_rfl) ?hf1x4 ?hr1x4 (fun _ _ _ h => h) ?hy1x4 (by assumption) ?rest1x4
    case hi1x4 => (simp only [List.getElem?_toArray, List.getElem?_cons_succ, List.getElem?_cons_zero]; exact rfl)
    case hf1x4 => kernel_rfl
    case hr1x4 => kernel_rfl
    case hy1x4 => (refine Or.inl ⟨by rfl, ?_⟩; intro w hSw; (try dsimp only at hSw); go_simp; try with_reducible rfl)
    simp only [put_mk, List.set_cons_succ, List.set_cons_zero]
    refine wpAnyH_take (i := 5) (oi := ?o1x5) (v := ?v1x5) ?hi1x5 (by kernel_rfl) ?hf1x5 ?hr1x5 (fun _ _ _ h => h) ?hy1x5 (by assumption) ?rest1x5
    case hi1x5 => (simp only [List.getElem?_toArray, List.getElem?_cons_succ, List.getElem?_cons_zero]; exact rfl)
    case hf1x5 => kernel_rfl
    case hr1x5 => kernel_rfl
    case hy1x5 => (refine Or.inl ⟨by rfl, ?_⟩; intro w hSw; (try dsimp only at hSw); go_simp; try with_reducible rfl)
    simp only [put_mk, List.set_cons_succ, List.set_cons_zero]
    refine wpAnyH_take (i := 6) (oi := ?o1x6) (v := ?v1x6) ?hi1x6 (by kernel_rfl) ?hf1x6 ?hr1x6 (fun _ _ _ h => h) ?hy1x6 (by assumption) ?rest1x6
    case hi1x6 => (simp only [List.getElem?_toArray, List.getElem?_cons_succ, List.getElem?_cons_zero]; exact rfl)
    case hf1x6 => kernel_rfl
    case hr1x6 => kernel_rfl
    case hy1x6 => (refine Or.inl ⟨by rfl, ?_⟩; intro w hSw; (try dsimp only at hSw); go_simp; try with_reducible rfl)
    simp only [put_mk, List.set_cons_succ, List.set_cons_zero]
    refine wpAnyH_take (i := 7) (oi := ?o1x7) (v := ?v1x7) ?hi1x7 (by kernel_rfl) ?hf1x7 ?hr1x7 (fun _ _ _ h => h) ?hy1x7 (by assumption) ?rest1x7
    case hi1x7 => (simp only [List.getElem?_toArray, List.getElem?_cons_succ, List.getElem?_cons_zero]; exact rfl)
    case hf1x7 => kernel_rfl
    case hr1x7 => kernel_rfl
    case hy1x7 => (refine Or.inl ⟨by rfl, ?_⟩; intro w hSw; (try dsimp only at hSw); go_simp; try with_reducible rfl)
    simp only [put_mk, List.set_cons_succ, List.set_cons_zero]
    refine wpAnyH_take (i := 8) (oi := ?o1x8) (v := ?v1x8) ?hi1x8 (by kernel_rfl) ?hf1x8 ?hr1x8 (fun _ _ _ h => h) ?hy1x8 (by assumption) ?rest1x8
    case hi1x8 => (simp only [List.getElem?_toArray, List.getElem?_cons_succ, List.getElem?_cons_zero]; exact rfl)
    case hf1x8 => kernel_rfl
    case hr1x8 => kernel_rfl
    case hy1x8 => (refine Or.inl ⟨by rfl, ?_⟩; intro w hSw; (try dsimp only at hSw); go_simp; try with_reducible rfl)
    simp only [put_mk, List.set_cons_succ, List.set_cons_zero]
    refine wpAnyH_take (i := 9) (oi := ?o1x9) (v := ?v1x9) ?hi1x9 (by kernel_rfl) ?hf1x9 ?hr1x9 (fun _ _ _ h => h) ?hy1x9 (by assumption) ?rest1x9
    case hi1x9 => (simp only [List.getElem?_toArray, List.getElem?_cons_succ, List.getElem?_cons_zero]; exact rfl)
    case hf1x9 => kernel_rfl
    case hr1x9 => kernel_rfl
    case hy1x9 => (refine Or.inl ⟨by rfl, ?_⟩; intro w hSw; (try dsimp only at hSw); go_simp; try with_reducible rfl)
    simp only [put_mk, List.set_cons_succ, List.set_cons_zero]
    refine wpAnyH_ready (rs := [10]) (by kernel_rfl) (by simp) ?_
    refine AllReadyH.cons (o := ?o1x10) ?hi1x10 (fun K hK => ?_) AllReadyH.nil
    case hi1x10 => (simp only [List.getElem?_toArray, List.getElem?_cons_succ, List.getElem?_cons_zero]; exact rfl)
    go_simp
    refine ((hL _).out).mono ?_
    rintro e w' ⟨rfl, hw'⟩
    subst hw'
    refine hK.out _ _ ?_ (fun hHeld => ?_)
    · (repeat (first | exact Ext.refl _ | assumption | refine Ext.setCell ?_ (by first | (simp; done) | (simp; omega)) _ | refine Ext.drewN ?_ _ | refine Ext.alloc ?_ _ | refine Ext.drew ?_ | refine Ext.trans ?_ (by assumption)))
    clear hK K
    refine wpAnyH_take (i := 11) (oi := ?o1x11) (v := ?v1x11) ?hi1x11 (by kernel_rfl) ?hf1x11 ?hr1x11 (fun _ _ _ h => h) ?hy1x11 (by assumption) ?rest1x11
    case hi1x11 => (simp only [List.getElem?_toArray, List.getElem?_cons_succ, List.getElem?_cons_zero]; exact rfl)
    case hf1x11 => kernel_rfl
    case hr1x11 => kernel_rfl
    case hy1x11 => (refine Or.inl ⟨by rfl, ?_⟩; intro w hSw; (try dsimp only at hSw); go_simp; try with_reducible rfl)
    simp only [put_mk, List.set_cons_succ, List.set_cons_zero]
    refine wpAnyH_take (i := 12) (oi := ?o1x12) (v := ?v1x12) ?hi1x12 (by kernel_rfl) ?hf1x12 ?hr1x12 (fun _ _ _ h => h) ?hy1x12 (by assumption) ?rest1x12
    case hi1x12 => (simp only [List.getElem?_toArray, List.getElem?_cons_succ, List.getElem?_cons_zero]; exact rfl)
    case hf1x12 => kernel_rfl
    case hr1x12 => kernel_rfl
    case hy1x12 => (refine Or.inl ⟨by rfl, ?_⟩; intro w hSw; (try dsimp only at hSw); go_simp; try with_reducible rfl)
    simp only [put_mk, List.set_cons_succ, List.set_cons_zero]
    refine wpAnyH_take (i := 13) (oi := ?o1x13) (v := ?v1x13) ?hi1x13 (by kernel_rfl) ?hf1x13 ?hr1x13 (fun _ _ _ h => h) ?hy1x13 (by assumption) ?rest1x13
    case hi1x13 => (simp only [List.getElem?_toArray, List.getElem?_cons_succ, List.getElem?_cons_zero]; exact rfl)
    case hf1x13 => kernel_rfl
    case hr1x13 => kernel_rfl
    case hy1x13 => (refine Or.inl ⟨by rfl, ?_⟩; intro w hSw; (try dsimp only at hSw); go_simp; try with_reducible rfl)
    simp only [put_mk, List.set_cons_succ, List.set_cons_zero]
    refine wpAnyH_done (by kernel_rfl) ?_ _
    refine NoPanic.normal ?_

    go_wp2
    go_ret2
    exact ⟨rfl, hx2.drew⟩
end Go.Proofs.Ytinohfgokpbcdaa
