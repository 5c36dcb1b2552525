/- Contracts: water.StepLength, water.steepest. -/
import Derived.Test.YtinohfgokpbcdaaShowA
import Derived.Test.YtinohfgokpbcdaaRootA
import Derived.StillTailTactics
import Derived.LoopTactic
import Derived.Shelf.Abstract
namespace Go.Proofs.Ytinohfgokpbcdaa
open Go.RowKit
attribute [local go_sem ↓] Go.wp_at_zero Go.wp_at_succ
attribute [local go_sem] run_store_float

/-- the length of a step -/
def longN (d : Nat) : Nat := if d % 2 = 1 then 1068827891 else 1065353216
theorem longN_ge (d : Nat) : Ge1 (longN d) := by unfold longN Ge1; split <;> decide
theorem longE_any (d : Nat) (w : World) (h : d < 8) :
    Calls Try.prog 109 #[.int .i64 d] w fun e w' => e = .returned (.float .f32 (longN d)) ∧ w' = w := by
  have hd : d = 0 ∨ d = 1 ∨ d = 2 ∨ d = 3 ∨ d = 4 ∨ d = 5 ∨ d = 6 ∨ d = 7 := by omega
  rcases hd with rfl | rfl | rfl | rfl | rfl | rfl | rfl | rfl
  all_goals
    go_enter Try.func109, Try.ntmps109
    go_wp2
    go_ret
    exact ⟨rfl, rfl⟩
/-- by how much a cell goes down -/
def dropF (v : Nat → Nat) (k n d : Nat) : Nat := fdiv (fsub (v k) (v n)) (longN d)
theorem drop_ok {v : Nat → Nat} {k n : Nat} (d : Nat) (hk : Bd 20 (v k)) (hn : Bd 20 (v n)) :
    floatBits .sub .f32 (v k) (v n) = some (fsub (v k) (v n)) ∧ floatBits .quo .f32 (fsub (v k) (v n)) (longN d) = some (dropF v k n d) ∧ Bd 24 (dropF v k n d) := by
  obtain ⟨h1, h2⟩ := fsub_ok hk hn (by omega)
  obtain ⟨r, h3, h4⟩ := fdiv_bd h2 (longN_ge d) (by omega)
  have h5 : floatBits .quo .f32 (fsub (v k) (v n)) (longN d) = some r := h3
  have h6 : dropF v k n d = r := by unfold dropF fdiv; rw [h5]; rfl
  exact ⟨h1, by rw [h6]; exact h5, by rw [h6]; exact h4⟩
/-- the direction of the greatest drop, and that drop, of the first d directions -/
def stp (v : Nat → Nat) (Wn Hn k : Nat) : Nat → Int × Nat
  | 0 => (-1, 0)
  | d + 1 => match nbr Wn Hn k d with
    | none => stp v Wn Hn k d
    | some n => if gt (dropF v k n d) (stp v Wn Hn k d).2 = true then ((d : Int), dropF v k n d) else stp v Wn Hn k d
theorem stp_none {v : Nat → Nat} {Wn Hn k d : Nat} (h : nbr Wn Hn k d = none) : stp v Wn Hn k (d + 1) = stp v Wn Hn k d := by simp [stp, h]
theorem stp_some {v : Nat → Nat} {Wn Hn k d n : Nat} (h : nbr Wn Hn k d = some n) : stp v Wn Hn k (d + 1) = if gt (dropF v k n d) (stp v Wn Hn k d).2 = true then ((d : Int), dropF v k n d) else stp v Wn Hn k d := by simp [stp, h]
theorem stp_bd {v : Nat → Nat} {Wn Hn k : Nat} (hv : ∀ j, j < Wn * Hn → Bd 20 (v j)) (hk : k < Wn * Hn) (hnb : ∀ d n, nbr Wn Hn k d = some n → n < Wn * Hn) (d : Nat) : Bd 24 (stp v Wn Hn k d).2 := by
  induction d with
  | zero => exact zero_bd.mono (by omega)
  | succ d ih =>
    cases h : nbr Wn Hn k d with
    | none => rw [stp_none h]; exact ih
    | some n =>
      rw [stp_some h]
      split
      · exact (drop_ok d (hv _ hk) (hv _ (hnb d n h))).2.2
      · exact ih

def upM (x most : Nat) : Nat := if gt x most = true then x else most
def upB (x most : Nat) (d best : Int) : Int := if gt x most = true then d else best
theorem stp_up {v : Nat → Nat} {Wn Hn k d n : Nat} (h : nbr Wn Hn k d = some n) : stp v Wn Hn k (d + 1) = (upB (dropF v k n d) (stp v Wn Hn k d).2 d (stp v Wn Hn k d).1, upM (dropF v k n d) (stp v Wn Hn k d).2) := by
  rw [stp_some h]
  unfold upB upM
  split <;> rfl

/-- what steepest holds in memory -/
structure SM (W0 w : World) (hf hk hm hb : Nat) (X Y : Int) (Wn Hn N : Nat) (A : Option Addr) (c k most : Nat) (best : Int) : Prop where
  fb : Bk w hf 26 #[.int .i64 X, .int .i64 Y, .int .i64 (Wn : Int), .int .i64 (Hn : Int), .slice A N c]
  kb : Bk w hk 3 #[.int .i64 (k : Int)]
  mb : Bk w hm 27 #[.float .f32 most]
  bb : Bk w hb 3 #[.int .i64 best]
  ext : Ext W0 w
  b1 : W0.heap.size ≤ hm
  b2 : W0.heap.size ≤ hb
  n1 : hk ≠ hb
section
variable {W0 w : World} {hf hk hm hb : Nat} {X Y : Int} {Wn Hn N : Nat} {A : Option Addr} {c k most : Nat} {best : Int}
theorem SM.step (h : SM W0 w hf hk hm hb X Y Wn Hn N A c k most best) {w' : World} (hx : Ext w w') : SM W0 w' hf hk hm hb X Y Wn Hn N A c k most best :=
  ⟨h.fb.ext hx, h.kb.ext hx, h.mb.ext hx, h.bb.ext hx, h.ext.trans hx, h.b1, h.b2, h.n1⟩
theorem SM.put (h : SM W0 w hf hk hm hb X Y Wn Hn N A c k most best) (m' : Nat) (b' : Int) : SM W0 ((w.setCell ⟨hb, 0, none⟩ (.int .i64 b')).setCell ⟨hm, 0, none⟩ (.float .f32 m')) hf hk hm hb X Y Wn Hn N A c k m' b' := by
  have e1 := Bk.set h.bb 0 (.int .i64 b')
  have m1 := h.mb.far (p := ⟨hb, 0, none⟩) (Bk.ne h.mb h.bb (by decide)) (.int .i64 b')
  have e2 := Bk.set m1 0 (.float .f32 m')
  exact ⟨(h.fb.far (Bk.ne h.fb h.bb (by decide)) _).far (Bk.ne h.fb h.mb (by decide)) _, (h.kb.far h.n1 _).far (Bk.ne h.kb h.mb (by decide)) _, e2, e1.far (Bk.ne h.bb h.mb (by decide)) _, (h.ext.setCell h.b2 _).setCell h.b1 _, h.b1, h.b2, h.n1⟩
end

set_option maxRecDepth 100000 in
set_option maxHeartbeats 3200000 in
theorem steep1_any (W0 w : World) (hf hk hm hb : Nat) (X Y : Int) (Wn Hn N : Nat) (A : Option Addr) (c k most : Nat) (best : Int) (l : List Nat) (n d : Nat)
    (hF : SM W0 w hf hk hm hb X Y Wn Hn N A c k most best) (hl : l.length = N) (hV : Rd W0 A (flt l)) (hkN : k < N) (hn : n < N) (hd : d < 8) (bk : Bd 20 (l.getD k 0)) (bn : Bd 20 (l.getD n 0)) :
    Calls Try.prog 141 #[.int .i64 n, .int .i64 d, .pointer (some ⟨hf, 0, none⟩), .pointer (some ⟨hk, 0, none⟩), .pointer (some ⟨hm, 0, none⟩), .pointer (some ⟨hb, 0, none⟩)] w fun e w' => e = .returned (.tuple #[]) ∧
      SM W0 w' hf hk hm hb X Y Wn Hn N A c k (upM (dropF (fun j => l.getD j 0) k n d) most) (upB (dropF (fun j => l.getD j 0) k n d) most d best) ∧ (∀ g cs, Bk w g 23 cs → Bk w' g 23 cs) := by
  have hnl : n < l.length := by omega
  have hkl : k < l.length := by omega
  obtain ⟨ad, rfl, hbk, hcv⟩ := (hV.ext hF.ext).at (k := n) (by rw [flt_length]; exact hnl)
  have cn := hcv n _ (flt_get hnl)
  have ck := hcv k _ (flt_get hkl)
  have en : l.getD n 0 = l[n] := by simp [List.getD_eq_getElem?_getD, hnl]
  have ek : l.getD k 0 = l[k] := by simp [List.getD_eq_getElem?_getD, hkl]
  obtain ⟨r1, r2, r3⟩ := drop_ok (v := fun j => l.getD j 0) (k := k) (n := n) d bk bn
  rw [← en] at cn
  rw [← ek] at ck
  replace r1 : floatBits .sub .f32 (l.getD k 0) (l.getD n 0) = some (fsub (l.getD k 0) (l.getD n 0)) := r1
  replace r2 : floatBits .quo .f32 (fsub (l.getD k 0) (l.getD n 0)) (longN d) = some (dropF (fun j => l.getD j 0) k n d) := r2
  generalize dropF (fun j => l.getD j 0) k n d = x at *
  generalize l.getD n 0 = a at *
  generalize l.getD k 0 = b at *
  have q1 := fun (w : World) => run_float_arith (P := Try.prog) w .sub 27 .f32 _ _ _ r1
  have q2 := fun (w : World) => run_float_arith (P := Try.prog) w .quo 27 .f32 _ _ _ r2
  clear r1 r2 r3 en ek hcv hV bk bn
  have Hl := hidA hl
  clear hl hnl hkl
  have hL := fun (w : World) => hidA (longE_any d w hd)
  generalize longN d = y at *
  have HF := hidA hF
  have c4 : ∀ w', Ext w w' → w'.cell? ⟨hf, 4, none⟩ = some (.slice (some ad) N c) := fun w' h => (HF.out.fb.ext h).cell 4
  have k0 : ∀ w', Ext w w' → w'.cell? ⟨hk, 0, none⟩ = some (.int .i64 (k : Int)) := fun w' h => (HF.out.kb.ext h).cell 0
  have a1 : ∀ w', Ext w w' → w'.cell? (ad.add n) = some (.float .f32 a) := fun w' h => by rw [h.cell _ (by rw [add_block]; exact hbk)]; exact cn
  have a2 : ∀ w', Ext w w' → w'.cell? (ad.add k) = some (.float .f32 b) := fun w' h => by rw [h.cell _ (by rw [add_block]; exact hbk)]; exact ck
  have m0 := hF.mb.cell 0
  have b0 := hF.bb.cell 0
  have i0 : (0 : Int) ≤ n := by omega
  have i1 : (n : Int) < N := by omega
  have i2 : (0 : Int) ≤ k := by omega
  have i3 : (k : Int) < N := by omega
  clear hF cn ck
  have hput := hidA (HF.out.put x (d : Int))
  have hR5 : ∀ g cs, Bk w g 23 cs → Bk ((w.setCell ⟨hb, 0, none⟩ (.int .i64 d)).setCell ⟨hm, 0, none⟩ (.float .f32 x)) g 23 cs := fun g cs h => (h.far (Bk.ne h HF.out.bb (by decide)) _).far (Bk.ne h HF.out.mb (by decide)) _
  have HR5 := hidA hR5
  clear hR5 hd
  go_enter Try.func141, Try.ntmps141
  go_wp2
  refine wp_region_noPanic ?_
  refine wp_region_held_drew (S := fun w' => Ext w w') (by kernel_rfl) ?_ (fun hHeld => ?_)
  · (repeat (first | exact Ext.refl _ | assumption | refine Ext.setCell ?_ (by first | (simp; done) | (simp; omega)) _ | refine Ext.drewN ?_ _ | refine Ext.alloc ?_ _ | refine Ext.drew ?_ | refine Ext.trans ?_ (by assumption)))
  refine wpAnyH_take (i := 0) (oi := ?o1x0) (v := ?v1x0) ?hi1x0 (by kernel_rfl) ?hf1x0 ?hr1x0 (fun _ _ _ h => h) ?hy1x0 (by assumption) ?rest1x0
  case hi1x0 => (simp only [List.getElem?_toArray, List.getElem?_cons_zero]; exact rfl)
  case hf1x0 => kernel_rfl
  case hr1x0 => kernel_rfl
  case hy1x0 => (refine Or.inl ⟨by rfl, ?_⟩; intro w hSw; (try dsimp only at hSw); go_simp; try with_reducible rfl)
  simp only [put_mk, List.set_cons_succ, List.set_cons_zero]
  refine wpAnyH_take (i := 1) (oi := ?o1x1) (v := ?v1x1) ?hi1x1 (by kernel_rfl) ?hf1x1 ?hr1x1 (fun _ _ _ h => h) ?hy1x1 (by assumption) ?rest1x1
  case hi1x1 => (simp only [List.getElem?_toArray, List.getElem?_cons_succ, List.getElem?_cons_zero]; exact rfl)
  case hf1x1 => kernel_rfl
  case hr1x1 => kernel_rfl
  case hy1x1 => (refine Or.inl ⟨by rfl, ?_⟩; intro w hSw; (try dsimp only at hSw); go_simp; try with_reducible rfl)
  simp only [put_mk, List.set_cons_succ, List.set_cons_zero]
  refine wpAnyH_take (i := 2) (oi := ?o1x2) (v := ?v1x2) ?hi1x2 (by kernel_rfl) ?hf1x2 ?hr1x2 (fun _ _ _ h => h) ?hy1x2 (by assumption) ?rest1x2
  case hi1x2 => (simp only [List.getElem?_toArray, List.getElem?_cons_succ, List.getElem?_cons_zero]; exact rfl)
  case hf1x2 => kernel_rfl
  case hr1x2 => kernel_rfl
  case hy1x2 => (refine Or.inl ⟨by rfl, ?_⟩; intro w hSw; (try dsimp only at hSw); go_simp; try with_reducible rfl)
  simp only [put_mk, List.set_cons_succ, List.set_cons_zero]
  refine wpAnyH_take (i := 3) (oi := ?o1x3) (v := ?v1x3) ?hi1x3 (by kernel_rfl) ?hf1x3 ?hr1x3 (fun _ _ _ h => h) ?hy1x3 (by assumption) ?rest1x3
  case hi1x3 => (simp only [List.getElem?_toArray, List.getElem?_cons_succ, List.getElem?_cons_zero]; exact rfl)
  case hf1x3 => kernel_rfl
  case hr1x3 => kernel_rfl
  case hy1x3 => (refine Or.inl ⟨by rfl, ?_⟩; intro w hSw; (try dsimp only at hSw); go_simp; try with_reducible rfl)
  simp only [put_mk, List.set_cons_succ, List.set_cons_zero]
  refine wpAnyH_take (i := 4) (oi := ?o1x4) (v := ?v1x4) ?hi1x4 (by kernel_rfl) ?hf1x4 ?hr1x4 (fun _ _ _ h => h) ?hy1x4 (by assumption) ?rest1x4
  case hi1x4 => (simp only [List.getElem?_toArray, List.getElem?_cons_succ, List.getElem?_cons_zero]; exact rfl)
  case hf1x4 => kernel_rfl
  case hr1x4 => kernel_rfl
  case hy1x4 => (refine Or.inl ⟨by rfl, ?_⟩; intro w hSw; (try dsimp only at hSw); go_simp; try with_reducible rfl)
  simp only [put_mk, List.set_cons_succ, List.set_cons_zero]
  refine wpAnyH_take (i := 5) (oi := ?o1x5) (v := ?v1x5) ?hi1x5 (by kernel_rfl) ?hf1x5 ?hr1x5 (fun _ _ _ h => h) ?hy1x5 (by assumption) ?rest1x5
  case hi1x5 => (simp only [List.getElem?_toArray, List.getElem?_cons_succ, List.getElem?_cons_zero]; exact rfl)
  case hf1x5 => kernel_rfl
  case hr1x5 => kernel_rfl
  case hy1x5 => (refine Or.inl ⟨by rfl, ?_⟩; intro w hSw; (try dsimp only at hSw); go_simp; try with_reducible rfl)
  simp only [put_mk, List.set_cons_succ, List.set_cons_zero]
  refine wpAnyH_take (i := 6) (oi := ?o1x6) (v := ?v1x6) ?hi1x6 (by kernel_rfl) ?hf1x6 ?hr1x6 (fun _ _ _ h => h) ?hy1x6 (by assumption) ?rest1x6
  case hi1x6 => (simp only [List.getElem?_toArray, List.getElem?_cons_succ, List.getElem?_cons_zero]; exact rfl)
  case hf1x6 => kernel_rfl
  case hr1x6 => kernel_rfl
  case hy1x6 => (refine Or.inl ⟨by rfl, ?_⟩; intro w hSw; (try dsimp only at hSw); go_simp; try with_reducible rfl)
  simp only [put_mk, List.set_cons_succ, List.set_cons_zero]
  refine wpAnyH_take (i := 7) (oi := ?o1x7) (v := ?v1x7) ?hi1x7 (by kernel_rfl) ?hf1x7 ?hr1x7 (fun _ _ _ h => h) ?hy1x7 (by assumption) ?rest1x7
  case hi1x7 => (simp only [List.getElem?_toArray, List.getElem?_cons_succ, List.getElem?_cons_zero]; exact rfl)
  case hf1x7 => kernel_rfl
  case hr1x7 => kernel_rfl
  case hy1x7 => (refine Or.inl ⟨by rfl, ?_⟩; intro w hSw; (try dsimp only at hSw); go_simp; try with_reducible rfl)
  simp only [put_mk, List.set_cons_succ, List.set_cons_zero]
  refine wpAnyH_take (i := 8) (oi := ?o1x8) (v := ?v1x8) ?hi1x8 (by kernel_rfl) ?hf1x8 ?hr1x8 (fun _ _ _ h => h) ?hy1x8 (by assumption) ?rest1x8
  case hi1x8 => (simp only [List.getElem?_toArray, List.getElem?_cons_succ, List.getElem?_cons_zero]; exact rfl)
  case hf1x8 => kernel_rfl
  case hr1x8 => kernel_rfl
  case hy1x8 => (refine Or.inl ⟨by rfl, ?_⟩; intro w hSw; (try dsimp only at hSw); go_simp; try with_reducible rfl)
  simp only [put_mk, List.set_cons_succ, List.set_cons_zero]
  refine wpAnyH_take (i := 9) (oi := ?o1x9) (v := ?v1x9) ?hi1x9 (by kernel_rfl) ?hf1x9 ?hr1x9 (fun _ _ _ h => h) ?hy1x9 (by assumption) ?rest1x9
  case hi1x9 => (simp only [List.getElem?_toArray, List.getElem?_cons_succ, List.getElem?_cons_zero]; exact rfl)
  case hf1x9 => kernel_rfl
  case hr1x9 => kernel_rfl
  case hy1x9 => (refine Or.inl ⟨by rfl, ?_⟩; intro w hSw; (try dsimp only at hSw); go_simp; try with_reducible rfl)
  simp only [put_mk, List.set_cons_succ, List.set_cons_zero]
  refine wpAnyH_take (i := 10) (oi := ?o1x10) (v := ?v1x10) ?hi1x10 (by kernel_rfl) ?hf1x10 ?hr1x10 (fun _ _ _ h => h) ?hy1x10 (by assumption) ?rest1x10
  case hi1x10 => (simp only [List.getElem?_toArray, List.getElem?_cons_succ, List.getElem?_cons_zero]; exact rfl)
  case hf1x10 => kernel_rfl
  case hr1x10 => kernel_rfl
  case hy1x10 => (refine Or.inl ⟨by rfl, ?_⟩; intro w hSw; (try dsimp only at hSw); go_simp; try with_reducible rfl)
  simp only [put_mk, List.set_cons_succ, List.set_cons_zero]
  refine wpAnyH_take (i := 11) (oi := ?o1x11) (v := ?v1x11) ?hi1x11 (by kernel_rfl) ?hf1x11 ?hr1x11 (fun _ _ _ h => h) ?hy1x11 (by assumption) ?rest1x11
  case hi1x11 => (simp only [List.getElem?_toArray, List.getElem?_cons_succ, List.getElem?_cons_zero]; exact rfl)
  case hf1x11 => kernel_rfl
  case hr1x11 => kernel_rfl
  case hy1x11 => (refine Or.inl ⟨by rfl, ?_⟩; intro w hSw; (try dsimp only at hSw); go_simp; try with_reducible rfl)
  simp only [put_mk, List.set_cons_succ, List.set_cons_zero]
  refine wpAnyH_ready (rs := [12]) (by kernel_rfl) (by simp) ?_
  refine AllReadyH.cons (o := ?o1x12) ?hi1x12 (fun K hK => ?_) AllReadyH.nil
  case hi1x12 => (simp only [List.getElem?_toArray, List.getElem?_cons_succ, List.getElem?_cons_zero]; exact rfl)
  go_simp
  refine ((hL _).out).mono ?_
  rintro e w' ⟨rfl, hw'⟩
  subst hw'
  refine hK.out _ _ ?_ (fun hHeld => ?_)
  · (repeat (first | exact Ext.refl _ | assumption | refine Ext.setCell ?_ (by first | (simp; done) | (simp; omega)) _ | refine Ext.drewN ?_ _ | refine Ext.alloc ?_ _ | refine Ext.drew ?_ | refine Ext.trans ?_ (by assumption)))
  clear hK K
  refine wpAnyH_take (i := 13) (oi := ?o1x13) (v := ?v1x13) ?hi1x13 (by kernel_rfl) ?hf1x13 ?hr1x13 (fun _ _ _ h => h) ?hy1x13 (by assumption) ?rest1x13
  case hi1x13 => (simp only [List.getElem?_toArray, List.getElem?_cons_succ, List.getElem?_cons_zero]; exact rfl)
  case hf1x13 => kernel_rfl
  case hr1x13 => kernel_rfl
  case hy1x13 => (refine Or.inl ⟨by rfl, ?_⟩; intro w hSw; (try dsimp only at hSw); go_simp; try with_reducible rfl)
  simp only [put_mk, List.set_cons_succ, List.set_cons_zero]
  refine wpAnyH_take (i := 14) (oi := ?o1x14) (v := ?v1x14) ?hi1x14 (by kernel_rfl) ?hf1x14 ?hr1x14 (fun _ _ _ h => h) ?hy1x14 (by assumption) ?rest1x14
  case hi1x14 => (simp only [List.getElem?_toArray, List.getElem?_cons_succ, List.getElem?_cons_zero]; exact rfl)
  case hf1x14 => kernel_rfl
  case hr1x14 => kernel_rfl
  case hy1x14 => (refine Or.inl ⟨by rfl, ?_⟩; intro w hSw; (try dsimp only at hSw); go_simp; try with_reducible rfl)
  simp only [put_mk, List.set_cons_succ, List.set_cons_zero]
  refine wpAnyH_done (by kernel_rfl) ?_ _
  refine NoPanic.normal ?_

  have g1 := HF.out.bb.frozen 0
  have g2 := HF.out.mb.frozen 0
  have hmb : hm ≠ hb := Bk.ne HF.out.mb HF.out.bb (by decide)
  have c5 : (w.setCell ⟨hb, 0, none⟩ (.int .i64 (d : Int))).cell? ⟨hm, 0, none⟩ = some (.float .f32 most) := (HF.out.mb.far (p := ⟨hb, 0, none⟩) hmb (.int .i64 d)).cell 0
  have g3 := (HF.out.mb.far (p := ⟨hb, 0, none⟩) hmb (.int .i64 d)).frozen 0
  clear c4 k0 a1 a2 q1 q2 hL i0 i1 i2 i3 hHeld
  cases hg : gt x most
  · have hg' : (FloatKind.f32.format.order x most == some .gt) = false := hg
    have e1 : upM x most = most := by unfold upM; rw [hg]; rfl
    have e2 : upB x most d best = best := by unfold upB; rw [hg]; rfl
    have E1 := hidA e1
    have E2 := hidA e2
    clear hg e1 e2
    go_wp2
    refine bodyPost_end (results_none Try.results141 _ _ _) rfl ?_
    rw [E1.out, E2.out]
    exact ⟨rfl, HF.out.step (Ext.drew (Ext.refl _)), fun g cs hb => Bk.drew hb⟩
  · have hg' : (FloatKind.f32.format.order x most == some .gt) = true := hg
    have e1 : upM x most = x := by unfold upM; rw [if_pos hg]
    have e2 : upB x most d best = d := by unfold upB; rw [if_pos hg]
    have E1 := hidA e1
    have E2 := hidA e2
    clear hg e1 e2
    go_wp2
    refine bodyPost_end (results_none Try.results141 _ _ _) rfl ?_
    rw [E1.out, E2.out]
    exact ⟨rfl, hput.out.step (Ext.drew (Ext.refl _)), fun g cs hb => Bk.drew (HR5.out g cs hb)⟩

theorem enters_steep : ∀ args w, (callFunc 141 args).run Try.prog w = .ok (.enter 141 args) w := enters_of Try.func141 (by kernel_rfl) rfl
set_option maxRecDepth 100000 in
set_option maxHeartbeats 3200000 in
theorem steepest_any (X Y : Int) (Wn Hn N k : Nat) (A : Option Addr) (c : Nat) (l : List Nat) (w : World) (hr : Reg X Y Wn Hn) (hN : N = Wn * Hn) (hl : l.length = N) (hV : Rd w A (flt l)) (hh : ∀ j, j < N → Bd 20 (l.getD j 0)) (hk : k < N) :
    Calls Try.prog 91 #[.agg #[.int .i64 X, .int .i64 Y, .int .i64 (Wn : Int), .int .i64 (Hn : Int), .slice A N c], .int .i64 (k : Int)] w fun e w' =>
      e = .returned (.tuple #[.int .i64 (stp (fun j => l.getD j 0) Wn Hn k 8).1, .float .f32 (stp (fun j => l.getD j 0) Wn Hn k 8).2]) ∧ Ext w w' := by
  obtain ⟨w1, hw1⟩ : ∃ w1, w1 = ((((w.alloc (.cells #[.int .i64 X, .int .i64 Y, .int .i64 (Wn : Int), .int .i64 (Hn : Int), .slice A N c] 26)).alloc (.cells #[.int .i64 (k : Int)] 3)).alloc (.cells #[.int .i64 (-1)] 3)).alloc (.cells #[.float .f32 0] 27)) := ⟨_, rfl⟩
  have hS : SM w w1 w.heap.size (w.heap.size + 1) (w.heap.size + 1 + 1 + 1) (w.heap.size + 1 + 1) X Y Wn Hn N A c k 0 (-1) := by
    rw [hw1]
    refine ⟨?_, ?_, ?_, ?_, ?_, by omega, by omega, by omega⟩
    · refine (((Bk.new' ?_).alloc _).alloc _).alloc _
      simp
    · refine ((Bk.new' ?_).alloc _).alloc _
      simp
    · refine Bk.new' ?_
      simp
    · refine (Bk.new' ?_).alloc _
      simp
    · exact ((((Ext.refl w).alloc _).alloc _).alloc _).alloc _
  have Hl := hidA hl
  have HN := hidA hN
  have Hh := hidA hh
  have HI := fun (hf hk' hm hb : Nat) (wa : World) (hS : SM w wa hf hk' hm hb X Y Wn Hn N A c k 0 (-1)) => hidA (nbs_any 141 #[.pointer (some ⟨hf, 0, none⟩), .pointer (some ⟨hk', 0, none⟩), .pointer (some ⟨hm, 0, none⟩), .pointer (some ⟨hb, 0, none⟩)] enters_steep X Y Wn Hn k hr (by rw [← hN]; exact hk)
    (fun d w' => SM w w' hf hk' hm hb X Y Wn Hn N A c k (stp (fun j => l.getD j 0) Wn Hn k d).2 (stp (fun j => l.getD j 0) Wn Hn k d).1)
    (fun d wa wb h hx => h.step hx)
    (fun d n wb hd8 hnb h => by
      have hnN : n < N := by rw [HN.out]; exact nbr_lt hnb
      refine (steep1_any w wb hf hk' hm hb X Y Wn Hn N A c k _ _ l n d h Hl.out hV hk hnN hd8 (Hh.out k hk) (Hh.out n hnN)).mono ?_
      rintro e wc ⟨rfl, h1, h2⟩
      refine ⟨rfl, ?_, h2⟩
      rw [stp_up hnb]
      exact h1)
    (fun d wb hd8 hnb h => by rw [stp_none hnb]; exact h) wa hS)
  clear hr hN hl hh hV hk
  unfold rgv at HI
  generalize stp (fun j => l.getD j 0) Wn Hn k 8 = r at *
  go_enter Try.func91, Try.ntmps91
  go_upto_region 2 with fail
  rw [← hw1]
  clear hw1
  generalize w.heap.size + 1 + 1 + 1 = hm at *
  generalize w.heap.size + 1 + 1 = hb at *
  generalize w.heap.size + 1 = hk' at *
  generalize w.heap.size = hf at *
  have c0 := hS.fb.cell 0
  have c1 := hS.fb.cell 1
  have c2 := hS.fb.cell 2
  have c3 := hS.fb.cell 3
  have k0 := hS.kb.cell 0
  have HS := hidA hS
  clear hS
  go_wp2_with (go_at_call 128; refine ((HI _ _ _ _ _ HS.out).out).mono ?_; rintro e w2 ⟨rfl, hS2⟩; have b0 := hS2.bb.cell 0; have m0 := hS2.mb.cell 0)
  go_region
  go_wp2
  go_ret2
  exact ⟨rfl, hS2.ext.drew⟩
end Go.Proofs.Ytinohfgokpbcdaa
