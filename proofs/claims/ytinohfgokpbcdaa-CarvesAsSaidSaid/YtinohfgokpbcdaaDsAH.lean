/- The least spills in the reference: rounds over all cells until nothing changes. No program in sight. -/
import Derived.Test.YtinohfgokpbcdaaDsAG
import Derived.StillTailTactics
import Derived.LoopTactic
import Derived.Shelf.Abstract
import Derived.Test.YtinohfgokpbcdaaDsAE
namespace Go.Proofs.Ytinohfgokpbcdaa
open Go.RowKit
attribute [local go_sem ↓] Go.wp_at_zero Go.wp_at_succ
attribute [local go_sem] run_store_float

/-- the length of a step -/
def longN (d : Nat) : Nat := if d % 2 = 1 then 1068827891 else 1065353216
theorem longN_ge (d : Nat) : Ge1 (longN d) := by unfold longN Ge1; split <;> decide
theorem longE_any (d : Nat) (w : World) (h : d < 8) :
    Calls Try.prog 109 #[.int .i64 d] w fun e w' => e = .returned (.float .f32 (longN d)) ∧ w' = w := by
  have hd : d = 0 ∨ d = 1 ∨ d = 2 ∨ d = 3 ∨ d = 4 ∨ d = 5 ∨ d = 6 ∨ d = 7 := by omega
  rcases hd with rfl | rfl | rfl | rfl | rfl | rfl | rfl | rfl
  all_goals
    go_enter Try.func109, Try.ntmps109
    go_wp2
    go_ret
    exact ⟨rfl, rfl⟩
/-- by how much a cell goes down -/
def dropF (v : Nat → Nat) (k n d : Nat) : Nat := fdiv (fsub (v k) (v n)) (longN d)
theorem drop_ok {v : Nat → Nat} {k n : Nat} (d : Nat) (hk : Bd 20 (v k)) (hn : Bd 20 (v n)) :
    floatBits .sub .f32 (v k) (v n) = some (fsub (v k) (v n)) ∧ floatBits .quo .f32 (fsub (v k) (v n)) (longN d) = some (dropF v k n d) ∧ Bd 24 (dropF v k n d) := by
  obtain ⟨h1, h2⟩ := fsub_ok hk hn (by omega)
  obtain ⟨r, h3, h4⟩ := fdiv_bd h2 (longN_ge d) (by omega)
  have h5 : floatBits .quo .f32 (fsub (v k) (v n)) (longN d) = some r := h3
  have h6 : dropF v k n d = r := by unfold dropF fdiv; rw [h5]; rfl
  exact ⟨h1, by rw [h6]; exact h5, by rw [h6]; exact h4⟩
/-- the direction of the greatest drop, and that drop, of the first d directions -/
def stp (v : Nat → Nat) (Wn Hn k : Nat) : Nat → Int × Nat
  | 0 => (-1, 0)
  | d + 1 => match nbr Wn Hn k d with
    | none => stp v Wn Hn k d
    | some n => if gt (dropF v k n d) (stp v Wn Hn k d).2 = true then ((d : Int), dropF v k n d) else stp v Wn Hn k d
theorem stp_none {v : Nat → Nat} {Wn Hn k d : Nat} (h : nbr Wn Hn k d = none) : stp v Wn Hn k (d + 1) = stp v Wn Hn k d := by simp [stp, h]
theorem stp_some {v : Nat → Nat} {Wn Hn k d n : Nat} (h : nbr Wn Hn k d = some n) : stp v Wn Hn k (d + 1) = if gt (dropF v k n d) (stp v Wn Hn k d).2 = true then ((d : Int), dropF v k n d) else stp v Wn Hn k d := by simp [stp, h]
theorem stp_bd {v : Nat → Nat} {Wn Hn k : Nat} (hv : ∀ j, j < Wn * Hn → Bd 20 (v j)) (hk : k < Wn * Hn) (hnb : ∀ d n, nbr Wn Hn k d = some n → n < Wn * Hn) (d : Nat) : Bd 24 (stp v Wn Hn k d).2 := by
  induction d with
  | zero => exact zero_bd.mono (by omega)
  | succ d ih =>
    cases h : nbr Wn Hn k d with
    | none => rw [stp_none h]; exact ih
    | some n =>
      rw [stp_some h]
      split
      · exact (drop_ok d (hv _ hk) (hv _ (hnb d n h))).2.2
      · exact ih

def upM (x most : Nat) : Nat := if gt x most = true then x else most
def upB (x most : Nat) (d best : Int) : Int := if gt x most = true then d else best
theorem stp_up {v : Nat → Nat} {Wn Hn k d n : Nat} (h : nbr Wn Hn k d = some n) : stp v Wn Hn k (d + 1) = (upB (dropF v k n d) (stp v Wn Hn k d).2 d (stp v Wn Hn k d).1, upM (dropF v k n d) (stp v Wn Hn k d).2) := by
  rw [stp_some h]
  unfold upB upM
  split <;> rfl

/-- what steepest holds in memory -/
structure SM (W0 w : World) (hf hk hm hb : Nat) (X Y : Int) (Wn Hn N : Nat) (A : Option Addr) (c k most : Nat) (best : Int) : Prop where
  fb : Bk w hf 26 #[.int .i64 X, .int .i64 Y, .int .i64 (Wn : Int), .int .i64 (Hn : Int), .slice A N c]
  kb : Bk w hk 3 #[.int .i64 (k : Int)]
  mb : Bk w hm 27 #[.float .f32 most]
  bb : Bk w hb 3 #[.int .i64 best]
  ext : Ext W0 w
  b1 : W0.heap.size ≤ hm
  b2 : W0.heap.size ≤ hb
  n1 : hk ≠ hb
section
variable {W0 w : World} {hf hk hm hb : Nat} {X Y : Int} {Wn Hn N : Nat} {A : Option Addr} {c k most : Nat} {best : Int}
theorem SM.step (h : SM W0 w hf hk hm hb X Y Wn Hn N A c k most best) {w' : World} (hx : Ext w w') : SM W0 w' hf hk hm hb X Y Wn Hn N A c k most best :=
  ⟨h.fb.ext hx, h.kb.ext hx, h.mb.ext hx, h.bb.ext hx, h.ext.trans hx, h.b1, h.b2, h.n1⟩
theorem SM.put (h : SM W0 w hf hk hm hb X Y Wn Hn N A c k most best) (m' : Nat) (b' : Int) : SM W0 ((w.setCell ⟨hb, 0, none⟩ (.int .i64 b')).setCell ⟨hm, 0, none⟩ (.float .f32 m')) hf hk hm hb X Y Wn Hn N A c k m' b' := by
  have e1 := Bk.set h.bb 0 (.int .i64 b')
  have m1 := h.mb.far (p := ⟨hb, 0, none⟩) (Bk.ne h.mb h.bb (by decide)) (.int .i64 b')
  have e2 := Bk.set m1 0 (.float .f32 m')
  exact ⟨(h.fb.far (Bk.ne h.fb h.bb (by decide)) _).far (Bk.ne h.fb h.mb (by decide)) _, (h.kb.far h.n1 _).far (Bk.ne h.kb h.mb (by decide)) _, e2, e1.far (Bk.ne h.bb h.mb (by decide)) _, (h.ext.setCell h.b2 _).setCell h.b1 _, h.b1, h.b2, h.n1⟩
end

set_option maxRecDepth 100000 in
set_option maxHeartbeats 3200000 in
theorem steep1_any (W0 w : World) (hf hk hm hb : Nat) (X Y : Int) (Wn Hn N : Nat) (A : Option Addr) (c k most : Nat) (best : Int) (l : List Nat) (n d : Nat)
    (hF : SM W0 w hf hk hm hb X Y Wn Hn N A c k most best) (hl : l.length = N) (hV : Rd W0 A (flt l)) (hkN : k < N) (hn : n < N) (hd : d < 8) (bk : Bd 20 (l.getD k 0)) (bn : Bd 20 (l.getD n 0)) :
    Calls Try.prog 141 #[.int .i64 n, .int .i64 d, .pointer (some ⟨hf, 0, none⟩), .pointer (some ⟨hk, 0, none⟩), .pointer (some ⟨hm, 0, none⟩), .pointer (some ⟨hb, 0, none⟩)] w fun e w' => e = .returned (.tuple #[]) ∧
      SM W0 w' hf hk hm hb X Y Wn Hn N A c k (upM (dropF (fun j => l.getD j 0) k n d) most) (upB (dropF (fun j => l.getD j 0) k n d) most d best) ∧ (∀ g cs, Bk w g 23 cs → Bk w' g 23 cs) := by
  have hnl : n < l.length := by omega
  have hkl : k < l.length := by omega
  obtain ⟨ad, rfl, hbk, hcv⟩ := (hV.ext hF.ext).at (k := n) (by rw [flt_length]; exact hnl)
  have cn := hcv n _ (flt_get hnl)
  have ck := hcv k _ (flt_get hkl)
  have en : l.getD n 0 = l[n] := by simp [List.getD_eq_getElem?_getD, hnl]
  have ek : l.getD k 0 = l[k] := by simp [List.getD_eq_getElem?_getD, hkl]
  obtain ⟨r1, r2, r3⟩ := drop_ok (v := fun j => l.getD j 0) (k := k) (n := n) d bk bn
  rw [← en] at cn
  rw [← ek] at ck
  replace r1 : floatBits .sub .f32 (l.getD k 0) (l.getD n 0) = some (fsub (l.getD k 0) (l.getD n 0)) := r1
  replace r2 : floatBits .quo .f32 (fsub (l.getD k 0) (l.getD n 0)) (longN d) = some (dropF (fun j => l.getD j 0) k n d) := r2
  generalize dropF (fun j => l.getD j 0) k n d = x at *
  generalize l.getD n 0 = a at *
  generalize l.getD k 0 = b at *
  have q1 := fun (w : World) => run_float_arith (P := Try.prog) w .sub 27 .f32 _ _ _ r1
  have q2 := fun (w : World) => run_float_arith (P := Try.prog) w .quo 27 .f32 _ _ _ r2
  clear r1 r2 r3 en ek hcv hV bk bn
  have Hl := hidA hl
  clear hl hnl hkl
  have hL := fun (w : World) => hidA (longE_any d w hd)
  generalize longN d = y at *
  have HF := hidA hF
  have c4 : ∀ w', Ext w w' → w'.cell? ⟨hf, 4, none⟩ = some (.slice (some ad) N c) := fun w' h => (HF.out.fb.ext h).cell 4
  have k0 : ∀ w', Ext w w' → w'.cell? ⟨hk, 0, none⟩ = some (.int .i64 (k : Int)) := fun w' h => (HF.out.kb.ext h).cell 0
  have a1 : ∀ w', Ext w w' → w'.cell? (ad.add n) = some (.float .f32 a) := fun w' h => by rw [h.cell _ (by rw [add_block]; exact hbk)]; exact cn
  have a2 : ∀ w', Ext w w' → w'.cell? (ad.add k) = some (.float .f32 b) := fun w' h => by rw [h.cell _ (by rw [add_block]; exact hbk)]; exact ck
  have m0 := hF.mb.cell 0
  have b0 := hF.bb.cell 0
  have i0 : (0 : Int) ≤ n := by omega
  have i1 : (n : Int) < N := by omega
  have i2 : (0 : Int) ≤ k := by omega
  have i3 : (k : Int) < N := by omega
  clear hF cn ck
  have hput := hidA (HF.out.put x (d : Int))
  have hR5 : ∀ g cs, Bk w g 23 cs → Bk ((w.setCell ⟨hb, 0, none⟩ (.int .i64 d)).setCell ⟨hm, 0, none⟩ (.float .f32 x)) g 23 cs := fun g cs h => (h.far (Bk.ne h HF.out.bb (by decide)) _).far (Bk.ne h HF.out.mb (by decide)) _
  have HR5 := hidA hR5
  clear hR5 hd
  go_enter Try.func141, Try.ntmps141
  go_wp2
  refine wp_region_noPanic ?_
  refine wp_region_held_drew (S := fun w' => Ext w w') (by kernel_rfl) ?_ (fun hHeld => ?_)
  · (repeat (first | exact Ext.refl _ | assumption | refine Ext.setCell ?_ (by first | (simp; done) | (simp; omega)) _ | refine Ext.drewN ?_ _ | refine Ext.alloc ?_ _ | refine Ext.drew ?_ | refine Ext.trans ?_ (by assumption)))
  refine wpAnyH_take (i := 0) (oi := ?o1x0) (v := ?v1x0) ?hi1x0 (by kernel_rfl) ?hf1x0 ?hr1x0 (fun _ _ _ h => h) ?hy1x0 (by assumption) ?rest1x0
  case hi1x0 => (simp only [List.getElem?_toArray, List.getElem?_cons_zero]; exact rfl)
  case hf1x0 => kernel_rfl
  case hr1x0 => kernel_rfl
  case hy1x0 => (refine Or.inl ⟨by rfl, ?_⟩; intro w hSw; (try dsimp only at hSw); go_simp; try with_reducible rfl)
  simp only [put_mk, List.set_cons_succ, List.set_cons_zero]
  refine wpAnyH_take (i := 1) (oi := ?o1x1) (v := ?v1x1) ?hi1x1 (by kernel_rfl) ?hf1x1 ?hr1x1 (fun _ _ _ h => h) ?hy1x1 (by assumption) ?rest1x1
  case hi1x1 => (simp only [List.getElem?_toArray, List.getElem?_cons_succ, List.getElem?_cons_zero]; exact rfl)
  case hf1x1 => kernel_rfl
  case hr1x1 => kernel_rfl
  case hy1x1 => (refine Or.inl ⟨by rfl, ?_⟩; intro w hSw; (try dsimp only at hSw); go_simp; try with_reducible rfl)
  simp only [put_mk, List.set_cons_succ, List.set_cons_zero]
  refine wpAnyH_take (i := 2) (oi := ?o1x2) (v := ?v1x2) ?hi1x2 (by kernel_rfl) ?hf1x2 ?hr1x2 (fun _ _ _ h => h) ?hy1x2 (by assumption) ?rest1x2
  case hi1x2 => (simp only [List.getElem?_toArray, List.getElem?_cons_succ, List.getElem?_cons_zero]; exact rfl)
  case hf1x2 => kernel_rfl
  case hr1x2 => kernel_rfl
  case hy1x2 => (refine Or.inl ⟨by rfl, ?_⟩; intro w hSw; (try dsimp only at hSw); go_simp; try with_reducible rfl)
  simp only [put_mk, List.set_cons_succ, List.set_cons_zero]
  refine wpAnyH_take (i := 3) (oi := ?o1x3) (v := ?v1x3) ?hi1x3 (by kernel_rfl) ?hf1x3 ?hr1x3 (fun _ _ _ h => h) ?hy1x3 (by assumption) ?rest1x3
  case hi1x3 => (simp only [List.getElem?_toArray, List.getElem?_cons_succ, List.getElem?_cons_zero]; exact rfl)
  case hf1x3 => kernel_rfl
  case hr1x3 => kernel_rfl
  case hy1x3 => (refine Or.inl ⟨by rfl, ?_⟩; intro w hSw; (try dsimp only at hSw); go_simp; try with_reducible rfl)
  simp only [put_mk, List.set_cons_succ, List.set_cons_zero]
  refine wpAnyH_take (i := 4) (oi := ?o1x4) (v := ?v1x4) ?hi1x4 (by kernel_rfl) ?hf1x4 ?hr1x4 (fun _ _ _ h => h) ?hy1x4 (by assumption) ?rest1x4
  case hi1x4 => (simp only [List.getElem?_toArray, List.getElem?_cons_succ, List.getElem?_cons_zero]; exact rfl)
  case hf1x4 => kernel_rfl
  case hr1x4 => kernel_rfl
  case hy1x4 => (refine Or.inl ⟨by rfl, ?_⟩; intro w hSw; (try dsimp only at hSw); go_simp; try with_reducible rfl)
  simp only [put_mk, List.set_cons_succ, List.set_cons_zero]
  refine wpAnyH_take (i := 5) (oi := ?o1x5) (v := ?v1x5) ?hi1x5 (by kernel_rfl) ?hf1x5 ?hr1x5 (fun _ _ _ h => h) ?hy1x5 (by assumption) ?rest1x5
  case hi1x5 => (simp only [List.getElem?_toArray, List.getElem?_cons_succ, List.getElem?_cons_zero]; exact rfl)
  case hf1x5 => kernel_rfl
  case hr1x5 => kernel_rfl
  case hy1x5 => (refine Or.inl ⟨by rfl, ?_⟩; intro w hSw; (try dsimp only at hSw); go_simp; try with_reducible rfl)
  simp only [put_mk, List.set_cons_succ, List.set_cons_zero]
  refine wpAnyH_take (i := 6) (oi := ?o1x6) (v := ?v1x6) ?hi1x6 (by kernel_rfl) ?hf1x6 ?hr1x6 (fun _ _ _ h => h) ?hy1x6 (by assumption) ?rest1x6
  case hi1x6 => (simp only [List.getElem?_toArray, List.getElem?_cons_succ, List.getElem?_cons_zero]; exact rfl)
  case hf1x6 => kernel_rfl
  case hr1x6 => kernel_rfl
  case hy1x6 => (refine Or.inl ⟨by rfl, ?_⟩; intro w hSw; (try dsimp only at hSw); go_simp; try with_reducible rfl)
  simp only [put_mk, List.set_cons_succ, List.set_cons_zero]
  refine wpAnyH_take (i := 7) (oi := ?o1x7) (v := ?v1x7) ?hi1x7 (by kernel_rfl) ?hf1x7 ?hr1x7 (fun _ _ _ h => h) ?hy1x7 (by assumption) ?rest1x7
  case hi1x7 => (simp only [List.getElem?_toArray, List.getElem?_cons_succ, List.getElem?_cons_zero]; exact rfl)
  case hf1x7 => kernel_rfl
  case hr1x7 => kernel_rfl
  case hy1x7 => (refine Or.inl ⟨by rfl, ?_⟩; intro w hSw; (try dsimp only at hSw); go_simp; try with_reducible rfl)
  simp only [put_mk, List.set_cons_succ, List.set_cons_zero]
  refine wpAnyH_take (i := 8) (oi := ?o1x8) (v := ?v1x8) ?hi1x8 (by kernel_rfl) ?hf1x8 ?hr1x8 (fun _ _ _ h => h) ?hy1x8 (by assumption) ?rest1x8
  case hi1x8 => (simp only [List.getElem?_toArray, List.getElem?_cons_succ, List.getElem?_cons_zero]; exact rfl)
  case hf1x8 => kernel_rfl
  case hr1x8 => kernel_rfl
  case hy1x8 => (refine Or.inl ⟨by rfl, ?_⟩; intro w hSw; (try dsimp only at hSw); go_simp; try with_reducible rfl)
  simp only [put_mk, List.set_cons_succ, List.set_cons_zero]
  refine wpAnyH_take (i := 9) (oi := ?o1x9) (v := ?v1x9) ?hi1x9 (by kernel_rfl) ?hf1x9 ?hr1x9 (fun _ _ _ h => h) ?hy1x9 (by assumption) ?rest1x9
  case hi1x9 => (simp only [List.getElem?_toArray, List.getElem?_cons_succ, List.getElem?_cons_zero]; exact rfl)
  case hf1x9 => kernel_rfl
  case hr1x9 => kernel_rfl
  case hy1x9 => (refine Or.inl ⟨by rfl, ?_⟩; intro w hSw; (try dsimp only at hSw); go_simp; try with_reducible rfl)
  simp only [put_mk, List.set_cons_succ, List.set_cons_zero]
  refine wpAnyH_take (i := 10) (oi := ?o1x10) (v := ?v1x10) ?hi1x10 (by kernel_rfl) ?hf1x10 ?hr1x10 (fun _ _ _ h => h) ?hy1x10 (by assumption) ?rest1x10
  case hi1x10 => (simp only [List.getElem?_toArray, List.getElem?_cons_succ, List.getElem?_cons_zero]; exact rfl)
  case hf1x10 => kernel_rfl
  case hr1x10 => kernel_rfl
  case hy1x10 => (refine Or.inl ⟨by rfl, ?_⟩; intro w hSw; (try dsimp only at hSw); go_simp; try with_reducible rfl)
  simp only [put_mk, List.set_cons_succ, List.set_cons_zero]
  refine wpAnyH_take (i := 11) (oi := ?o1x11) (v := ?v1x11) ?hi1x11 (by kernel_rfl) ?hf1x11 ?hr1x11 (fun _ _ _ h => h) ?hy1x11 (by assumption) ?rest1x11
  case hi1x11 => (simp only [List.getElem?_toArray, List.getElem?_cons_succ, List.getElem?_cons_zero]; exact rfl)
  case hf1x11 => kernel_rfl
  case hr1x11 => kernel_rfl
  case hy1x11 => (refine Or.inl ⟨by rfl, ?_⟩; intro w hSw; (try dsimp only at hSw); go_simp; try with_reducible rfl)
  simp only [put_mk, List.set_cons_succ, List.set_cons_zero]
  refine wpAnyH_ready (rs := [12]) (by kernel_rfl) (by simp) ?_
  refine AllReadyH.cons (o := ?o1x12) ?hi1x12 (fun K hK => ?_) AllReadyH.nil
  case hi1x12 => (simp only [List.getElem?_toArray, List.getElem?_cons_succ, List.getElem?_cons_zero]; exact rfl)
  go_simp
  refine ((hL _).out).mono ?_
  rintro e w' ⟨rfl, hw'⟩
  subst hw'
  refine hK.out _ _ ?_ (fun hHeld => ?_)
  · (repeat (first | exact Ext.refl _ | assumption | refine Ext.setCell ?_ (by first | (simp; done) | (simp; omega)) _ | refine Ext.drewN ?_ _ | refine Ext.alloc ?_ _ | refine Ext.drew ?_ | refine Ext.trans ?_ (by assumption)))
  clear hK K
  refine wpAnyH_take (i := 13) (oi := ?o1x13) (v := ?v1x13) ?hi1x13 (by kernel_rfl) ?hf1x13 ?hr1x13 (fun _ _ _ h => h) ?hy1x13 (by assumption) ?rest1x13
  case hi1x13 => (simp only [List.getElem?_toArray, List.getElem?_cons_succ, List.getElem?_cons_zero]; exact rfl)
  case hf1x13 => kernel_rfl
  case hr1x13 => kernel_rfl
  case hy1x13 => (refine Or.inl ⟨by rfl, ?_⟩; intro w hSw; (try dsimp only at hSw); go_simp; try with_reducible rfl)
  simp only [put_mk, List.set_cons_succ, List.set_cons_zero]
  refine wpAnyH_take (i := 14) (oi := ?o1x14) (v := ?v1x14) ?hi1x14 (by kernel_rfl) ?hf1x14 ?hr1x14 (fun _ _ _ h => h) ?hy1x14 (by assumption) ?rest1x14
  case hi1x14 => (simp only [List.getElem?_toArray, List.getElem?_cons_succ, List.getElem?_cons_zero]; exact rfl)
  case hf1x14 => kernel_rfl
  case hr1x14 => kernel_rfl
  case hy1x14 => (refine Or.inl ⟨by rfl, ?_⟩; intro w hSw; (try dsimp only at hSw); go_simp; try with_reducible rfl)
  simp only [put_mk, List.set_cons_succ, List.set_cons_zero]
  refine wpAnyH_done (by kernel_rfl) ?_ _
  refine NoPanic.normal ?_

  have g1 := HF.out.bb.frozen 0
  have g2 := HF.out.mb.frozen 0
  have hmb : hm ≠ hb := Bk.ne HF.out.mb HF.out.bb (by decide)
  have c5 : (w.setCell ⟨hb, 0, none⟩ (.int .i64 (d : Int))).cell? ⟨hm, 0, none⟩ = some (.float .f32 most) := (HF.out.mb.far (p := ⟨hb, 0, none⟩) hmb (.int .i64 d)).cell 0
  have g3 := (HF.out.mb.far (p := ⟨hb, 0, none⟩) hmb (.int .i64 d)).frozen 0
  clear c4 k0 a1 a2 q1 q2 hL i0 i1 i2 i3 hHeld
  cases hg : gt x most
  · have hg' : (FloatKind.f32.format.order x most == some .gt) = false := hg
    have e1 : upM x most = most := by unfold upM; rw [hg]; rfl
    have e2 : upB x most d best = best := by unfold upB; rw [hg]; rfl
    have E1 := hidA e1
    have E2 := hidA e2
    clear hg e1 e2
    go_wp2
    refine bodyPost_end (results_none Try.results141 _ _ _) rfl ?_
    rw [E1.out, E2.out]
    exact ⟨rfl, HF.out.step (Ext.drew (Ext.refl _)), fun g cs hb => Bk.drew hb⟩
  · have hg' : (FloatKind.f32.format.order x most == some .gt) = true := hg
    have e1 : upM x most = x := by unfold upM; rw [if_pos hg]
    have e2 : upB x most d best = d := by unfold upB; rw [if_pos hg]
    have E1 := hidA e1
    have E2 := hidA e2
    clear hg e1 e2
    go_wp2
    refine bodyPost_end (results_none Try.results141 _ _ _) rfl ?_
    rw [E1.out, E2.out]
    exact ⟨rfl, hput.out.step (Ext.drew (Ext.refl _)), fun g cs hb => Bk.drew (HR5.out g cs hb)⟩

theorem enters_steep : ∀ args w, (callFunc 141 args).run Try.prog w = .ok (.enter 141 args) w := enters_of Try.func141 (by kernel_rfl) rfl
set_option maxRecDepth 100000 in
set_option maxHeartbeats 3200000 in
theorem steepest_any (X Y : Int) (Wn Hn N k : Nat) (A : Option Addr) (c : Nat) (l : List Nat) (w : World) (hr : Reg X Y Wn Hn) (hN : N = Wn * Hn) (hl : l.length = N) (hV : Rd w A (flt l)) (hh : ∀ j, j < N → Bd 20 (l.getD j 0)) (hk : k < N) :
    Calls Try.prog 91 #[.agg #[.int .i64 X, .int .i64 Y, .int .i64 (Wn : Int), .int .i64 (Hn : Int), .slice A N c], .int .i64 (k : Int)] w fun e w' =>
      e = .returned (.tuple #[.int .i64 (stp (fun j => l.getD j 0) Wn Hn k 8).1, .float .f32 (stp (fun j => l.getD j 0) Wn Hn k 8).2]) ∧ Ext w w' := by
  obtain ⟨w1, hw1⟩ : ∃ w1, w1 = ((((w.alloc (.cells #[.int .i64 X, .int .i64 Y, .int .i64 (Wn : Int), .int .i64 (Hn : Int), .slice A N c] 26)).alloc (.cells #[.int .i64 (k : Int)] 3)).alloc (.cells #[.int .i64 (-1)] 3)).alloc (.cells #[.float .f32 0] 27)) := ⟨_, rfl⟩
  have hS : SM w w1 w.heap.size (w.heap.size + 1) (w.heap.size + 1 + 1 + 1) (w.heap.size + 1 + 1) X Y Wn Hn N A c k 0 (-1) := by
    rw [hw1]
    refine ⟨?_, ?_, ?_, ?_, ?_, by omega, by omega, by omega⟩
    · refine (((Bk.new' ?_).alloc _).alloc _).alloc _
      simp
    · refine ((Bk.new' ?_).alloc _).alloc _
      simp
    · refine Bk.new' ?_
      simp
    · refine (Bk.new' ?_).alloc _
      simp
    · exact ((((Ext.refl w).alloc _).alloc _).alloc _).alloc _
  have Hl := hidA hl
  have HN := hidA hN
  have Hh := hidA hh
  have HI := fun (hf hk' hm hb : Nat) (wa : World) (hS : SM w wa hf hk' hm hb X Y Wn Hn N A c k 0 (-1)) => hidA (nbs_any 141 #[.pointer (some ⟨hf, 0, none⟩), .pointer (some ⟨hk', 0, none⟩), .pointer (some ⟨hm, 0, none⟩), .pointer (some ⟨hb, 0, none⟩)] enters_steep X Y Wn Hn k hr (by rw [← hN]; exact hk)
    (fun d w' => SM w w' hf hk' hm hb X Y Wn Hn N A c k (stp (fun j => l.getD j 0) Wn Hn k d).2 (stp (fun j => l.getD j 0) Wn Hn k d).1)
    (fun d wa wb h hx => h.step hx)
    (fun d n wb hd8 hnb h => by
      have hnN : n < N := by rw [HN.out]; exact nbr_lt hnb
      refine (steep1_any w wb hf hk' hm hb X Y Wn Hn N A c k _ _ l n d h Hl.out hV hk hnN hd8 (Hh.out k hk) (Hh.out n hnN)).mono ?_
      rintro e wc ⟨rfl, h1, h2⟩
      refine ⟨rfl, ?_, h2⟩
      rw [stp_up hnb]
      exact h1)
    (fun d wb hd8 hnb h => by rw [stp_none hnb]; exact h) wa hS)
  clear hr hN hl hh hV hk
  unfold rgv at HI
  generalize stp (fun j => l.getD j 0) Wn Hn k 8 = r at *
  go_enter Try.func91, Try.ntmps91
  go_upto_region 2 with fail
  rw [← hw1]
  clear hw1
  generalize w.heap.size + 1 + 1 + 1 = hm at *
  generalize w.heap.size + 1 + 1 = hb at *
  generalize w.heap.size + 1 = hk' at *
  generalize w.heap.size = hf at *
  have c0 := hS.fb.cell 0
  have c1 := hS.fb.cell 1
  have c2 := hS.fb.cell 2
  have c3 := hS.fb.cell 3
  have k0 := hS.kb.cell 0
  have HS := hidA hS
  clear hS
  go_wp2_with (go_at_call 128; refine ((HI _ _ _ _ _ HS.out).out).mono ?_; rintro e w2 ⟨rfl, hS2⟩; have b0 := hS2.bb.cell 0; have m0 := hS2.mb.cell 0)
  go_region
  go_wp2
  go_ret2
  exact ⟨rfl, hS2.ext.drew⟩
end Go.Proofs.Ytinohfgokpbcdaa
namespace Go.Proofs.Ytinohfgokpbcdaa
open Go.RowKit
attribute [local go_sem ↓] Go.wp_at_zero Go.wp_at_succ
attribute [local go_sem] run_store_float

theorem sqrt_two (w : World) : (callFunc 143 #[.float .f64 4611686018427387904]).run Try.prog w = .ok (.value (.float .f64 4609047870845172685)) w := by kernel_rfl
theorem Sqrt_two (w : World) :
    Calls Try.prog 94 #[.float .f64 4611686018427387904] w fun e w' => e = .returned (.float .f64 4609047870845172685) ∧ w' = w := by
  have h := sqrt_two
  go_enter Try.func94, Try.ntmps94
  go_wp2
  go_ret
  exact ⟨rfl, rfl⟩
set_option maxRecDepth 100000 in
theorem root_two (w : World) :
    Calls Try.prog 38 #[.float .f32 1073741824] w fun e w' => e = .returned (.float .f32 1068827891) ∧ w' = w := by
  have c1 := fun (w : World) => run_convert_float_float (P := Try.prog) w 27 72 .f32 .f64 1073741824 4611686018427387904 (by kernel_rfl) Try.underlying72 (by decide +kernel)
  have c2 := fun (w : World) => run_convert_float_float (P := Try.prog) w 72 27 .f64 .f32 4609047870845172685 1068827891 (by kernel_rfl) Try.underlying27 (by decide +kernel)
  go_enter Try.func38, Try.ntmps38
  go_wp2_with fail
  refine (Sqrt_two _).mono ?_
  rintro e w' ⟨rfl, rfl⟩
  go_wp2
  go_ret
  exact ⟨rfl, rfl⟩
theorem longR_any (d : Nat) (w : World) (h : d < 8) :
    Calls Try.prog 111 #[.int .i64 d] w fun e w' => e = .returned (.float .f32 (longN d)) ∧ w' = w := by
  have hd : d = 0 ∨ d = 1 ∨ d = 2 ∨ d = 3 ∨ d = 4 ∨ d = 5 ∨ d = 6 ∨ d = 7 := by omega
  have HR := fun (w : World) => hidA (root_two w)
  rcases hd with rfl | rfl | rfl | rfl | rfl | rfl | rfl | rfl
  all_goals
    go_enter Try.func111, Try.ntmps111
    go_wp2_with (go_at_call 38; refine ((HR _).out).mono ?_; rintro e w' ⟨rfl, hw'⟩; subst hw')
    go_ret
    exact ⟨rfl, rfl⟩

/-- what Drop answers -/
def dropV (v : Nat → Nat) (Wn Hn k d : Nat) : Value := match nbr Wn Hn k d with
  | none => .tuple #[.float .f32 0, .bool false]
  | some n => .tuple #[.float .f32 (dropF v k n d), .bool true]
set_option maxRecDepth 100000 in
set_option maxHeartbeats 3200000 in
theorem drop_any (X Y : Int) (Wn Hn N k d : Nat) (A : Option Addr) (c : Nat) (l : List Nat) (w : World) (hr : Reg X Y Wn Hn) (hN : N = Wn * Hn) (hl : l.length = N) (hV : Rd w A (flt l)) (hh : ∀ j, j < N → Bd 20 (l.getD j 0)) (hk : k < N) (hd : d < 8) :
    Calls Try.prog 93 #[rgv X Y Wn Hn, .slice A N c, .int .i64 (k : Int), .int .i64 (d : Int)] w fun e w' =>
      e = .returned (dropV (fun j => l.getD j 0) Wn Hn k d) ∧ Ext w w' := by
  have HN := fun (w : World) => hidA (nb_any X Y Wn Hn k d w hr (by rw [← hN]; exact hk) hd)
  have hL := fun (w : World) => hidA (longR_any d w hd)
  unfold dropV
  cases hn : nbr Wn Hn k d with
  | none =>
    rw [hn] at HN
    clear hn hr hN hl hV hh hk hd
    simp only [nbI] at HN
    unfold rgv at HN ⊢
    go_enter Try.func93, Try.ntmps93
    go_wp2_with (go_at_call 63; refine ((HN _).out).mono ?_; rintro e w1 ⟨rfl, hx1⟩)
    go_ret2
    exact ⟨rfl, (by repeat (first | (with_reducible exact Ext.refl _) | (with_reducible assumption) | (with_reducible refine Ext.setCell ?_ (by first | (simp; done) | (simp; omega)) _) | (with_reducible refine Ext.drewN ?_ _) | (with_reducible refine Ext.alloc ?_ _) | (with_reducible refine Ext.drew ?_) | (with_reducible refine Ext.trans ?_ (by assumption))))⟩
  | some n =>
    have hnN : n < N := by rw [hN]; exact nbr_lt hn
    rw [hn] at HN
    simp only [nbI] at HN
    have hnl : n < l.length := by omega
    have hkl : k < l.length := by omega
    obtain ⟨ad, rfl, hbk, hcv⟩ := hV.at (k := n) (by rw [flt_length]; exact hnl)
    have cn := hcv n _ (flt_get hnl)
    have ck := hcv k _ (flt_get hkl)
    have en : l.getD n 0 = l[n] := by simp [List.getD_eq_getElem?_getD, hnl]
    have ek : l.getD k 0 = l[k] := by simp [List.getD_eq_getElem?_getD, hkl]
    obtain ⟨r1, r2, r3⟩ := drop_ok (v := fun j => l.getD j 0) (k := k) (n := n) d (hh k hk) (hh n hnN)
    rw [← en] at cn
    rw [← ek] at ck
    replace r1 : floatBits .sub .f32 (l.getD k 0) (l.getD n 0) = some (fsub (l.getD k 0) (l.getD n 0)) := r1
    replace r2 : floatBits .quo .f32 (fsub (l.getD k 0) (l.getD n 0)) (longN d) = some (dropF (fun j => l.getD j 0) k n d) := r2
    simp only []
    clear hn hr hN hh hcv en ek r3
    generalize dropF (fun j => l.getD j 0) k n d = x at *
    generalize l.getD n 0 = a at *
    generalize l.getD k 0 = b at *
    have q1 := fun (w : World) => run_float_arith (P := Try.prog) w .sub 27 .f32 _ _ _ r1
    have q2 := fun (w : World) => run_float_arith (P := Try.prog) w .quo 27 .f32 _ _ _ r2
    clear r1 r2
    have Hl := hidA hl
    clear hl hnl hkl hV
    generalize longN d = y at *
    have i0 : (0 : Int) ≤ n := by omega
    have i1 : (n : Int) < N := by omega
    have i2 : (0 : Int) ≤ k := by omega
    have i3 : (k : Int) < N := by omega
    have i4 : ¬ (n : Int) < 0 := by omega
    unfold rgv at HN ⊢
    go_enter Try.func93, Try.ntmps93
    go_upto_region 4 with (go_at_call 63; refine ((HN _).out).mono ?_; rintro e w1 ⟨rfl, hx1⟩)
    have hx2 : Ext w w1 := ((Ext.refl w).alloc _).trans hx1
    clear hx1 HN
    have a1 : ∀ w', Ext w1 w' → w'.cell? (ad.add n) = some (.float .f32 a) := fun w' h => by rw [(hx2.trans h).cell _ (by rw [add_block]; exact hbk)]; exact cn
    have a2 : ∀ w', Ext w1 w' → w'.cell? (ad.add k) = some (.float .f32 b) := fun w' h => by rw [(hx2.trans h).cell _ (by rw [add_block]; exact hbk)]; exact ck
    clear cn ck
    refine wp_region_noPanic ?_
    refine wp_region_held_drew (S := fun w' => Ext w1 w') (by kernel_rfl) ?_ (fun hHeld => ?_)
    · (repeat (first | exact Ext.refl _ | assumption | refine Ext.setCell ?_ (by first | (simp; done) | (simp; omega)) _ | refine Ext.drewN ?_ _ | refine Ext.alloc ?_ _ | refine Ext.drew ?_ | refine Ext.trans ?_ (by assumption)))
    refine wpAnyH_take (i := 0) (oi := ?o1x0) (v := ?v1x0) ?hi1x0 (by kernel_rfl) ?hf1x0 ?hr1x0 (fun _ _ _ h => h) ?hy1x0 (by assumption) ?rest1x0
    case hi1x0 => (simp only [List.getElem?_toArray, List.getElem?_cons_zero]; exact rfl)
    case hf1x0 => kernel_rfl
    case hr1x0 => kernel_rfl
    case hy1x0 => (refine Or.inl ⟨by rfl, ?_⟩; intro w hSw; (try dsimp only at hSw); go_simp; try with_reducible rfl)
    simp only [put_mk, List.set_cons_succ, List.set_cons_zero]
    refine wpAnyH_take (i := 1) (oi := ?o1x1) (v := ?v1x1) ?hi1x1 (by kernel_rfl) ?hf1x1 ?hr1x1 (fun _ _ _ h => h) ?hy1x1 (by assumption) ?rest1x1
    case hi1x1 => (simp only [List.getElem?_toArray, List.getElem?_cons_succ, List.getElem?_cons_zero]; exact rfl)
    case hf1x1 => kernel_rfl
    case hr1x1 => kernel_rfl
    case hy1x1 => (refine Or.inl ⟨by rfl, ?_⟩; intro w hSw; (try dsimp only at hSw); go_simp; try with_reducible rfl)
    simp only [put_mk, List.set_cons_succ, List.set_cons_zero]
    refine wpAnyH_take (i := 2) (oi := ?o1x2) (v := ?v1x2) ?hi1x2 (by kernel_rfl) ?hf1x2 ?hr1x2 (fun _ _ _ h => h) ?hy1x2 (by assumption) ?rest1x2
    case hi1x2 => (simp only [List.getElem?_toArray, List.getElem?_cons_succ, List.getElem?_cons_zero]; exact rfl)
    case hf1x2 => kernel_rfl
    case hr1x2 => kernel_rfl
    case hy1x2 => (refine Or.inl ⟨by rfl, ?_⟩; intro w hSw; (try dsimp only at hSw); go_simp; try with_reducible rfl)
    simp only [put_mk, List.set_cons_succ, List.set_cons_zero]
    refine wpAnyH_take (i := 3) (oi := ?o1x3) (v := ?v1x3) ?hi1x3 (by kernel_rfl) ?hf1x3 ?hr1x3 (fun _ _ _ h => h) ?hy1x3 (by assumption) ?rest1x3
    case hi1x3 => (simp only [List.getElem?_toArray, List.getElem?_cons_succ, List.getElem?_cons_zero]; exact rfl)
    case hf1x3 => kernel_rfl
    case hr1x3 => kernel_rfl
    case hy1x3 => (refine Or.inl ⟨by rfl, ?_⟩; intro w hSw; (try dsimp only at hSw); go_simp; try with_reducible rfl)
    simp only [put_mk, List.set_cons_succ, List.set_cons_zero]
    refine wpAnyH_take (i := 4) (oi := ?o1x4) (v := ?v1x4) ?hi1x4 (by kernel_rfl) ?hf1x4 ?hr1x4 (fun _ _ _ h => h) ?hy1x4 (by assumption) ?rest1x4
    case hi1x4 => (simp only [List.getElem?_toArray, List.getElem?_cons_succ, List.getElem?_cons_zero]; exact rfl)
    case hf1x4 => kernel_rfl
    case hr1x4 => kernel_rfl
    case hy1x4 => (refine Or.inl ⟨by rfl, ?_⟩; intro w hSw; (try dsimp only at hSw); go_simp; try with_reducible rfl)
    simp only [put_mk, List.set_cons_succ, List.set_cons_zero]
    refine wpAnyH_take (i := 5) (oi := ?o1x5) (v := ?v1x5) ?hi1x5 (by kernel_rfl) ?hf1x5 ?hr1x5 (fun _ _ _ h => h) ?hy1x5 (by assumption) ?rest1x5
    case hi1x5 => (simp only [List.getElem?_toArray, List.getElem?_cons_succ, List.getElem?_cons_zero]; exact rfl)
    case hf1x5 => kernel_rfl
    case hr1x5 => kernel_rfl
    case hy1x5 => (refine Or.inl ⟨by rfl, ?_⟩; intro w hSw; (try dsimp only at hSw); go_simp; try with_reducible rfl)
    simp only [put_mk, List.set_cons_succ, List.set_cons_zero]
    refine wpAnyH_take (i := 6) (oi := ?o1x6) (v := ?v1x6) ?hi1x6 (by kernel_rfl) ?hf1x6 ?hr1x6 (fun _ _ _ h => h) ?hy1x6 (by assumption) ?rest1x6
    case hi1x6 => (simp only [List.getElem?_toArray, List.getElem?_cons_succ, List.getElem?_cons_zero]; exact rfl)
    case hf1x6 => kernel_rfl
    case hr1x6 => kernel_rfl
    case hy1x6 => (refine Or.inl ⟨by rfl, ?_⟩; intro w hSw; (try dsimp only at hSw); go_simp; try with_reducible rfl)
    simp only [put_mk, List.set_cons_succ, List.set_cons_zero]
    refine wpAnyH_take (i := 7) (oi := ?o1x7) (v := ?v1x7) ?hi1x7 (by kernel_rfl) ?hf1x7 ?hr1x7 (fun _ _ _ h => h) ?hy1x7 (by assumption) ?rest1x7
    case hi1x7 => (simp only [List.getElem?_toArray, List.getElem?_cons_succ, List.getElem?_cons_zero]; exact rfl)
    case hf1x7 => kernel_rfl
    case hr1x7 => kernel_rfl
    case hy1x7 => (refine Or.inl ⟨by rfl, ?_⟩; intro w hSw; (try dsimp only at hSw); go_simp; try with_reducible rfl)
    simp only [put_mk, List.set_cons_succ, List.set_cons_zero]
    refine wpAnyH_take (i := 8) (oi := ?o1x8) (v := ?v1x8) ?hi1x8 (by kernel_rfl) ?hf1x8 ?hr1x8 (fun _ _ _ h => h) ?hy1x8 (by assumption) ?rest1x8
    case hi1x8 => (simp only [List.getElem?_toArray, List.getElem?_cons_succ, List.getElem?_cons_zero]; exact rfl)
    case hf1x8 => kernel_rfl
    case hr1x8 => kernel_rfl
    case hy1x8 => (refine Or.inl ⟨by rfl, ?_⟩; intro w hSw; (try dsimp only at hSw); go_simp; try with_reducible rfl)
    simp only [put_mk, List.set_cons_succ, List.set_cons_zero]
    refine wpAnyH_take (i := 9) (oi := ?o1x9) (v := ?v1x9) ?hi1x9 (by kernel_rfl) ?hf1x9 ?hr1x9 (fun _ _ _ h => h) ?hy1x9 (by assumption) ?rest1x9
    case hi1x9 => (simp only [List.getElem?_toArray, List.getElem?_cons_succ, List.getElem?_cons_zero]; exact rfl)
    case hf1x9 => kernel_rfl
    case hr1x9 => kernel_rfl
    case hy1x9 => (refine Or.inl ⟨by rfl, ?_⟩; intro w hSw; (try dsimp only at hSw); go_simp; try with_reducible rfl)
    simp only [put_mk, List.set_cons_succ, List.set_cons_zero]
    refine wpAnyH_ready (rs := [10]) (by kernel_rfl) (by simp) ?_
    refine AllReadyH.cons (o := ?o1x10) ?hi1x10 (fun K hK => ?_) AllReadyH.nil
    case hi1x10 => (simp only [List.getElem?_toArray, List.getElem?_cons_succ, List.getElem?_cons_zero]; exact rfl)
    go_simp
    refine ((hL _).out).mono ?_
    rintro e w' ⟨rfl, hw'⟩
    subst hw'
    refine hK.out _ _ ?_ (fun hHeld => ?_)
    · (repeat (first | exact Ext.refl _ | assumption | refine Ext.setCell ?_ (by first | (simp; done) | (simp; omega)) _ | refine Ext.drewN ?_ _ | refine Ext.alloc ?_ _ | refine Ext.drew ?_ | refine Ext.trans ?_ (by assumption)))
    clear hK K
    refine wpAnyH_take (i := 11) (oi := ?o1x11) (v := ?v1x11) ?hi1x11 (by kernel_rfl) ?hf1x11 ?hr1x11 (fun _ _ _ h => h) ?hy1x11 (by assumption) ?rest1x11
    case hi1x11 => (simp only [List.getElem?_toArray, List.getElem?_cons_succ, List.getElem?_cons_zero]; exact rfl)
    case hf1x11 => kernel_rfl
    case hr1x11 => kernel_rfl
    case hy1x11 => (refine Or.inl ⟨by rfl, ?_⟩; intro w hSw; (try dsimp only at hSw); go_simp; try with_reducible rfl)
    simp only [put_mk, List.set_cons_succ, List.set_cons_zero]
    refine wpAnyH_take (i := 12) (oi := ?o1x12) (v := ?v1x12) ?hi1x12 (by kernel_rfl) ?hf1x12 ?hr1x12 (fun _ _ _ h => h) ?hy1x12 (by assumption) ?rest1x12
    case hi1x12 => (simp only [List.getElem?_toArray, List.getElem?_cons_succ, List.getElem?_cons_zero]; exact rfl)
    case hf1x12 => kernel_rfl
    case hr1x12 => kernel_rfl
    case hy1x12 => (refine Or.inl ⟨by rfl, ?_⟩; intro w hSw; (try dsimp only at hSw); go_simp; try with_reducible rfl)
    simp only [put_mk, List.set_cons_succ, List.set_cons_zero]
    refine wpAnyH_take (i := 13) (oi := ?o1x13) (v := ?v1x13) ?hi1x13 (by kernel_rfl) ?hf1x13 ?hr1x13 (fun _ _ _ h => h) ?hy1x13 (by assumption) ?rest1x13
    case hi1x13 => (simp only [List.getElem?_toArray, List.getElem?_cons_succ, List.getElem?_cons_zero]; exact rfl)
    case hf1x13 => kernel_rfl
    case hr1x13 => kernel_rfl
    case hy1x13 => (refine Or.inl ⟨by rfl, ?_⟩; intro w hSw; (try dsimp only at hSw); go_simp; try with_reducible rfl)
    simp only [put_mk, List.set_cons_succ, List.set_cons_zero]
    refine wpAnyH_done (by kernel_rfl) ?_ _
    refine NoPanic.normal ?_

    go_wp2
    go_ret2
    exact ⟨rfl, hx2.drew⟩
end Go.Proofs.Ytinohfgokpbcdaa
namespace Go.Proofs.Ytinohfgokpbcdaa
open Go.RowKit
attribute [local go_sem ↓] Go.wp_at_zero Go.wp_at_succ
attribute [local go_sem] run_store_float

theorem flo_congr {N : Nat} {f g : Nat → Nat} (h : ∀ k, k < N → f k = g k) : flo N f = flo N g := by
  unfold flo
  congr 1
  exact List.map_congr_left fun k hk => by rw [h k (List.mem_range.1 hk)]
/-- what SteepOf holds in memory -/
structure SO (W0 w : World) (hr gi gf : Nat) (X Y : Int) (Wn Hn N : Nat) (I : Nat → Int) (F : Nat → Nat) : Prop where
  rb : Bk w hr 23 #[.int .i64 X, .int .i64 Y, .int .i64 (Wn : Int), .int .i64 (Hn : Int)]
  ib : Bk w gi 3 (intB N I)
  fb : Bk w gf 27 (flo N F)
  ext : Ext W0 w
  b1 : W0.heap.size ≤ gi
  b2 : W0.heap.size ≤ gf
section
variable {W0 w : World} {hr gi gf : Nat} {X Y : Int} {Wn Hn N : Nat} {I : Nat → Int} {F : Nat → Nat}
theorem SO.step (h : SO W0 w hr gi gf X Y Wn Hn N I F) {w' : World} (hx : Ext w w') : SO W0 w' hr gi gf X Y Wn Hn N I F := ⟨h.rb.ext hx, h.ib.ext hx, h.fb.ext hx, h.ext.trans hx, h.b1, h.b2⟩
theorem SO.putI (h : SO W0 w hr gi gf X Y Wn Hn N I F) (k : Nat) (x : Int) : SO W0 (w.setCell ⟨gi, k, none⟩ (.int .i64 x)) hr gi gf X Y Wn Hn N (updF I k x) F := by
  have e1 := Bk.set h.ib k (.int .i64 x)
  rw [intB_set] at e1
  exact ⟨h.rb.far (Bk.ne h.rb h.ib (by decide)) _, e1, h.fb.far (Bk.ne h.fb h.ib (by decide)) _, h.ext.setCell h.b1 _, h.b1, h.b2⟩
theorem SO.putF (h : SO W0 w hr gi gf X Y Wn Hn N I F) (k x : Nat) : SO W0 (w.setCell ⟨gf, k, none⟩ (.float .f32 x)) hr gi gf X Y Wn Hn N I (updF F k x) := by
  have e1 := Bk.set h.fb k (.float .f32 x)
  rw [flo_set] at e1
  exact ⟨h.rb.far (Bk.ne h.rb h.fb (by decide)) _, h.ib.far (Bk.ne h.ib h.fb (by decide)) _, e1, h.ext.setCell h.b2 _, h.b1, h.b2⟩
end
/-- the first k cells are right, the others hold no drop -/
def SOk (v : Nat → Nat) (Wn Hn k : Nat) (I : Nat → Int) (F : Nat → Nat) : Prop := (∀ j, j < k → I j = (stp v Wn Hn j 8).1 ∧ F j = (stp v Wn Hn j 8).2) ∧ ∀ j, k ≤ j → F j = 0
def SOd (v : Nat → Nat) (Wn Hn k d : Nat) (I : Nat → Int) (F : Nat → Nat) : Prop := (∀ j, j < k → I j = (stp v Wn Hn j 8).1 ∧ F j = (stp v Wn Hn j 8).2) ∧ (∀ j, k < j → F j = 0) ∧ I k = (stp v Wn Hn k d).1 ∧ F k = (stp v Wn Hn k d).2
theorem SOk.start (v : Nat → Nat) (Wn Hn : Nat) (I : Nat → Int) : SOk v Wn Hn 0 I (fun _ => 0) := ⟨fun j h => by omega, fun _ _ => rfl⟩
theorem SOk.enter {v : Nat → Nat} {Wn Hn k : Nat} {I : Nat → Int} {F : Nat → Nat} (h : SOk v Wn Hn k I F) : SOd v Wn Hn k 0 (updF I k (-1)) F := by
  refine ⟨fun j hj => ?_, fun j hj => h.2 j (by omega), by simp [updF, stp], ?_⟩
  · have : updF I k (-1) j = I j := by unfold updF; rw [if_neg (by omega)]
    rw [this]
    exact h.1 j hj
  · rw [h.2 k (by omega)]
    rfl
theorem SOd.leave {v : Nat → Nat} {Wn Hn k : Nat} {I : Nat → Int} {F : Nat → Nat} (h : SOd v Wn Hn k 8 I F) : SOk v Wn Hn (k + 1) I F := by
  refine ⟨fun j hj => ?_, fun j hj => h.2.1 j (by omega)⟩
  by_cases e : j = k
  · subst e
    exact h.2.2
  · exact h.1 j (by omega)
theorem SOd.none {v : Nat → Nat} {Wn Hn k d : Nat} {I : Nat → Int} {F : Nat → Nat} (h : SOd v Wn Hn k d I F) (hn : nbr Wn Hn k d = none) : SOd v Wn Hn k (d + 1) I F := by
  unfold SOd
  rw [stp_none hn]
  exact h
theorem SOd.same {v : Nat → Nat} {Wn Hn k d n : Nat} {I : Nat → Int} {F : Nat → Nat} (h : SOd v Wn Hn k d I F) (hn : nbr Wn Hn k d = some n) (hg : gt (dropF v k n d) (F k) = false) : SOd v Wn Hn k (d + 1) I F := by
  rw [h.2.2.2] at hg
  unfold SOd
  rw [stp_some hn, if_neg (by rw [hg]; decide)]
  exact h
theorem SOd.more {v : Nat → Nat} {Wn Hn k d n : Nat} {I : Nat → Int} {F : Nat → Nat} (h : SOd v Wn Hn k d I F) (hn : nbr Wn Hn k d = some n) (hg : gt (dropF v k n d) (F k) = true) : SOd v Wn Hn k (d + 1) (updF I k d) (updF F k (dropF v k n d)) := by
  rw [h.2.2.2] at hg
  unfold SOd
  rw [stp_some hn, if_pos hg]
  refine ⟨fun j hj => ?_, fun j hj => ?_, by simp [updF], by simp [updF]⟩
  · have e1 : updF I k d j = I j := by unfold updF; rw [if_neg (by omega)]
    have e2 : updF F k (dropF v k n d) j = F j := by unfold updF; rw [if_neg (by omega)]
    rw [e1, e2]
    exact h.1 j hj
  · have e2 : updF F k (dropF v k n d) j = F j := by unfold updF; rw [if_neg (by omega)]
    rw [e2]
    exact h.2.1 j hj

set_option maxRecDepth 100000 in
set_option maxHeartbeats 6400000 in
theorem SteepOf_any (X Y : Int) (Wn Hn N : Nat) (A : Option Addr) (c : Nat) (l : List Nat) (w : World) (hr : Reg X Y Wn Hn) (hN : N = Wn * Hn) (hl : l.length = N) (hV : Rd w A (flt l)) (hh : ∀ j, j < N → Bd 20 (l.getD j 0)) :
    Calls Try.prog 37 #[rgv X Y Wn Hn, .slice A N c] w fun e w' => ∃ gi gf, e = .returned (.tuple #[.slice (some ⟨gi, 0, none⟩) N N, .slice (some ⟨gf, 0, none⟩) N N]) ∧
      Bk w' gi 3 (intB N fun k => (stp (fun j => l.getD j 0) Wn Hn k 8).1) ∧ Bk w' gf 27 (flo N fun k => (stp (fun j => l.getD j 0) Wn Hn k 8).2) ∧ Ext w w' := by
  have hN6 : N ≤ 65536 := by rw [hN]; exact hr.n
  have mi := mk_int N (by omega)
  have mf := mk_flo N (by omega)
  have HD := fun (k d : Nat) (wa : World) (hk : k < N) (hd : d < 8) (hx : Ext w wa) => hidA (drop_any X Y Wn Hn N k d A c l wa hr hN hl (hV.ext hx) hh hk hd)
  clear hr hN hl hh hV
  unfold rgv at HD ⊢
  go_enter Try.func37, Try.ntmps37
  go_upto_region 1 with fail
  go_region
  · obtain ⟨w1, hw1⟩ : ∃ w1, w1 = (((w.alloc (.cells #[.int .i64 X, .int .i64 Y, .int .i64 (Wn : Int), .int .i64 (Hn : Int)] 23)).alloc (.cells (intB N fun _ => 0) 3)).alloc (.cells (flo N fun _ => 0) 27)).drew := ⟨_, rfl⟩
    have hS : SO w w1 w.heap.size (w.heap.size + 1) (w.heap.size + 1 + 1) X Y Wn Hn N (fun _ => 0) (fun _ => 0) := by
      rw [hw1]
      refine ⟨?_, ?_, ?_, ?_, by omega, by omega⟩
      · refine Bk.drew (((Bk.new' ?_).alloc _).alloc _)
        simp
      · refine Bk.drew ((Bk.new' ?_).alloc _)
        simp
      · refine Bk.drew (Bk.new' ?_)
        simp
      · exact ((((Ext.refl w).alloc _).alloc _).alloc _).drew
    rw [← hw1]
    clear hw1
    generalize w.heap.size + 1 + 1 = gf at *
    generalize w.heap.size + 1 = gi at *
    generalize hrx : w.heap.size = hrr at hS ⊢
    clear hrx
    have HK := hidA (SOk.start (fun j => l.getD j 0) Wn Hn (fun _ => 0))
    go_wp2
    go_loopw [20] (fun s20 wr => ∃ (k : Nat) (I : Nat → Int) (F : Nat → Nat), k ≤ N ∧ s20 = .int .i64 k ∧ SO w wr hrr gi gf X Y Wn Hn N I F ∧ SOk (fun j => l.getD j 0) Wn Hn k I F) (fun s20 _ => N - (intOf s20).toNat)
    case atStart => exact ⟨0, _, _, Nat.zero_le _, rfl, hS, HK.out⟩
    case round =>
      clear hS HK
      obtain ⟨k, I, F, hk, rfl, hS, hK⟩ := hrel
      have HK := hidA hK
      clear hK
      by_cases hkN : k < N
      · have i0 : (0 : Int) ≤ k := by omega
        have i1 : (k : Int) < N := by omega
        have e0 : wr.cell? ⟨gi, k, none⟩ = some (.int .i64 (I k)) := by rw [hS.ib.cell]; exact intB_get _ hkN
        have e1 := hS.ib.frozen k
        have hS2 := hS.putI k (-1)
        have HK2 := hidA HK.out.enter
        clear HK
        go_upto_region 6 with fail
        clear hS e0 e1
        generalize wr.setCell ⟨gi, k, none⟩ (.int .i64 (-1)) = w2 at *
        generalize updF I k (-1) = I2 at *
        go_wp2
        go_loopw [26] (fun s26 wr => ∃ (d : Nat) (I : Nat → Int) (F : Nat → Nat), d ≤ 8 ∧ s26 = .int .i64 d ∧ SO w wr hrr gi gf X Y Wn Hn N I F ∧ SOd (fun j => l.getD j 0) Wn Hn k d I F) (fun s26 _ => 8 - (intOf s26).toNat)
        case atStart => exact ⟨0, _, _, by omega, rfl, hS2, HK2.out⟩
        case round =>
          clear hS2 HK2
          obtain ⟨d, I3, F3, hd, rfl, hS, hK⟩ := hrel
          have HK := hidA hK
          clear hK
          by_cases hd8 : d < 8
          · have c0 := hS.rb.cell 0
            have c1 := hS.rb.cell 1
            have c2 := hS.rb.cell 2
            have c3 := hS.rb.cell 3
            have HD2 := hidA (HD k d _ hkN hd8 hS.ext).out
            unfold dropV at HD2
            cases hn : nbr Wn Hn k d with
            | none =>
              have Hn' := hidA hn
              rw [hn] at HD2
              clear hn HD
              simp only [] at HD2
              go_wp2_with (go_at_call 93; refine (HD2.out).mono ?_; rintro e w3 ⟨rfl, hx3⟩)
              go_roundw
              case rel => exact ⟨d + 1, _, _, by omega, by go_num, hS.step hx3, HK.out.none Hn'.out⟩
              case measure => simp [intOf]; omega
            | some n =>
              have Hn' := hidA hn
              rw [hn] at HD2
              clear hn HD
              simp only [] at HD2
              obtain ⟨x, hx⟩ : ∃ x, x = dropF (fun j => l.getD j 0) k n d := ⟨_, rfl⟩
              rw [← hx] at HD2
              have Hx := hidA hx
              clear hx
              go_upto_region 10 with (go_at_call 93; refine (HD2.out).mono ?_; rintro e w3 ⟨rfl, hx3⟩)
              have hS3 := hS.step hx3
              clear c0 c1 c2 c3 hS hx3 HD2
              have f0 : w3.cell? ⟨gf, k, none⟩ = some (.float .f32 (F3 k)) := by rw [hS3.fb.cell]; exact flo_get _ hkN
              have f1 := hS3.fb.frozen k
              have e0 : w3.cell? ⟨gi, k, none⟩ = some (.int .i64 (I3 k)) := by rw [hS3.ib.cell]; exact intB_get _ hkN
              have e1 := hS3.ib.frozen k
              cases hg : gt x (F3 k)
              · have hg' : (FloatKind.f32.format.order x (F3 k) == some .gt) = false := hg
                rw [Hx.out] at hg
                have HK3 := hidA (HK.out.same Hn'.out hg)
                clear hg HK
                go_wp2
                go_roundw
                case rel => exact ⟨d + 1, _, _, by omega, by go_num, hS3, HK3.out⟩
                case measure => simp [intOf]; omega
              · have hg' : (FloatKind.f32.format.order x (F3 k) == some .gt) = true := hg
                rw [Hx.out] at hg
                have HK3 := hidA (HK.out.more Hn'.out hg)
                clear hg HK
                rw [← Hx.out] at HK3
                have hP := hidA ((hS3.putI k d).putF k x)
                have hgf : gf ≠ gi := Bk.ne hS3.fb hS3.ib (by decide)
                have f2 : (w3.setCell ⟨gi, k, none⟩ (.int .i64 (d : Int))).cell? ⟨gf, k, none⟩ = some (.float .f32 (F3 k)) := by rw [(hS3.fb.far (p := ⟨gi, k, none⟩) hgf (.int .i64 d)).cell]; exact flo_get _ hkN
                have f3 := (hS3.fb.far (p := ⟨gi, k, none⟩) hgf (.int .i64 d)).frozen k
                clear hS3
                go_wp2
                go_roundw
                case rel => exact ⟨d + 1, _, _, by omega, by go_num, hP.out, HK3.out⟩
                case measure => simp [intOf]; omega
          · have hd' : d = 8 := by omega
            subst hd'
            have HK3 := hidA HK.out.leave
            clear HK
            go_wp2
            go_roundw
            case rel => exact ⟨k + 1, _, _, by omega, by go_num, hS, HK3.out⟩
            case measure => simp [intOf]; omega
      · have hkN' : k = N := by omega
        subst hkN'
        go_wp2
        go_ret2
        refine ⟨gi, gf, rfl, ?_, ?_, hS.ext⟩
        · rw [← intB_congr fun j hj => (HK.out.1 j hj).1]
          exact hS.ib
        · rw [← flo_congr fun j hj => (HK.out.1 j hj).2]
          exact hS.fb
  · obtain ⟨w1, hw1⟩ : ∃ w1, w1 = (((w.alloc (.cells #[.int .i64 X, .int .i64 Y, .int .i64 (Wn : Int), .int .i64 (Hn : Int)] 23)).alloc (.cells (flo N fun _ => 0) 27)).alloc (.cells (intB N fun _ => 0) 3)).drew := ⟨_, rfl⟩
    have hS : SO w w1 w.heap.size (w.heap.size + 1 + 1) (w.heap.size + 1) X Y Wn Hn N (fun _ => 0) (fun _ => 0) := by
      rw [hw1]
      refine ⟨?_, ?_, ?_, ?_, by omega, by omega⟩
      · refine Bk.drew (((Bk.new' ?_).alloc _).alloc _)
        simp
      · refine Bk.drew (Bk.new' ?_)
        simp
      · refine Bk.drew ((Bk.new' ?_).alloc _)
        simp
      · exact ((((Ext.refl w).alloc _).alloc _).alloc _).drew
    rw [← hw1]
    clear hw1
    generalize w.heap.size + 1 + 1 = gi at *
    generalize w.heap.size + 1 = gf at *
    generalize hrx : w.heap.size = hrr at hS ⊢
    clear hrx
    have HK := hidA (SOk.start (fun j => l.getD j 0) Wn Hn (fun _ => 0))
    go_wp2
    go_loopw [20] (fun s20 wr => ∃ (k : Nat) (I : Nat → Int) (F : Nat → Nat), k ≤ N ∧ s20 = .int .i64 k ∧ SO w wr hrr gi gf X Y Wn Hn N I F ∧ SOk (fun j => l.getD j 0) Wn Hn k I F) (fun s20 _ => N - (intOf s20).toNat)
    case atStart => exact ⟨0, _, _, Nat.zero_le _, rfl, hS, HK.out⟩
    case round =>
      clear hS HK
      obtain ⟨k, I, F, hk, rfl, hS, hK⟩ := hrel
      have HK := hidA hK
      clear hK
      by_cases hkN : k < N
      · have i0 : (0 : Int) ≤ k := by omega
        have i1 : (k : Int) < N := by omega
        have e0 : wr.cell? ⟨gi, k, none⟩ = some (.int .i64 (I k)) := by rw [hS.ib.cell]; exact intB_get _ hkN
        have e1 := hS.ib.frozen k
        have hS2 := hS.putI k (-1)
        have HK2 := hidA HK.out.enter
        clear HK
        go_upto_region 6 with fail
        clear hS e0 e1
        generalize wr.setCell ⟨gi, k, none⟩ (.int .i64 (-1)) = w2 at *
        generalize updF I k (-1) = I2 at *
        go_wp2
        go_loopw [26] (fun s26 wr => ∃ (d : Nat) (I : Nat → Int) (F : Nat → Nat), d ≤ 8 ∧ s26 = .int .i64 d ∧ SO w wr hrr gi gf X Y Wn Hn N I F ∧ SOd (fun j => l.getD j 0) Wn Hn k d I F) (fun s26 _ => 8 - (intOf s26).toNat)
        case atStart => exact ⟨0, _, _, by omega, rfl, hS2, HK2.out⟩
        case round =>
          clear hS2 HK2
          obtain ⟨d, I3, F3, hd, rfl, hS, hK⟩ := hrel
          have HK := hidA hK
          clear hK
          by_cases hd8 : d < 8
          · have c0 := hS.rb.cell 0
            have c1 := hS.rb.cell 1
            have c2 := hS.rb.cell 2
            have c3 := hS.rb.cell 3
            have HD2 := hidA (HD k d _ hkN hd8 hS.ext).out
            unfold dropV at HD2
            cases hn : nbr Wn Hn k d with
            | none =>
              have Hn' := hidA hn
              rw [hn] at HD2
              clear hn HD
              simp only [] at HD2
              go_wp2_with (go_at_call 93; refine (HD2.out).mono ?_; rintro e w3 ⟨rfl, hx3⟩)
              go_roundw
              case rel => exact ⟨d + 1, _, _, by omega, by go_num, hS.step hx3, HK.out.none Hn'.out⟩
              case measure => simp [intOf]; omega
            | some n =>
              have Hn' := hidA hn
              rw [hn] at HD2
              clear hn HD
              simp only [] at HD2
              obtain ⟨x, hx⟩ : ∃ x, x = dropF (fun j => l.getD j 0) k n d := ⟨_, rfl⟩
              rw [← hx] at HD2
              have Hx := hidA hx
              clear hx
              go_upto_region 10 with (go_at_call 93; refine (HD2.out).mono ?_; rintro e w3 ⟨rfl, hx3⟩)
              have hS3 := hS.step hx3
              clear c0 c1 c2 c3 hS hx3 HD2
              have f0 : w3.cell? ⟨gf, k, none⟩ = some (.float .f32 (F3 k)) := by rw [hS3.fb.cell]; exact flo_get _ hkN
              have f1 := hS3.fb.frozen k
              have e0 : w3.cell? ⟨gi, k, none⟩ = some (.int .i64 (I3 k)) := by rw [hS3.ib.cell]; exact intB_get _ hkN
              have e1 := hS3.ib.frozen k
              cases hg : gt x (F3 k)
              · have hg' : (FloatKind.f32.format.order x (F3 k) == some .gt) = false := hg
                rw [Hx.out] at hg
                have HK3 := hidA (HK.out.same Hn'.out hg)
                clear hg HK
                go_wp2
                go_roundw
                case rel => exact ⟨d + 1, _, _, by omega, by go_num, hS3, HK3.out⟩
                case measure => simp [intOf]; omega
              · have hg' : (FloatKind.f32.format.order x (F3 k) == some .gt) = true := hg
                rw [Hx.out] at hg
                have HK3 := hidA (HK.out.more Hn'.out hg)
                clear hg HK
                rw [← Hx.out] at HK3
                have hP := hidA ((hS3.putI k d).putF k x)
                have hgf : gf ≠ gi := Bk.ne hS3.fb hS3.ib (by decide)
                have f2 : (w3.setCell ⟨gi, k, none⟩ (.int .i64 (d : Int))).cell? ⟨gf, k, none⟩ = some (.float .f32 (F3 k)) := by rw [(hS3.fb.far (p := ⟨gi, k, none⟩) hgf (.int .i64 d)).cell]; exact flo_get _ hkN
                have f3 := (hS3.fb.far (p := ⟨gi, k, none⟩) hgf (.int .i64 d)).frozen k
                clear hS3
                go_wp2
                go_roundw
                case rel => exact ⟨d + 1, _, _, by omega, by go_num, hP.out, HK3.out⟩
                case measure => simp [intOf]; omega
          · have hd' : d = 8 := by omega
            subst hd'
            have HK3 := hidA HK.out.leave
            clear HK
            go_wp2
            go_roundw
            case rel => exact ⟨k + 1, _, _, by omega, by go_num, hS, HK3.out⟩
            case measure => simp [intOf]; omega
      · have hkN' : k = N := by omega
        subst hkN'
        go_wp2
        go_ret2
        refine ⟨gi, gf, rfl, ?_, ?_, hS.ext⟩
        · rw [← intB_congr fun j hj => (HK.out.1 j hj).1]
          exact hS.ib
        · rw [← flo_congr fun j hj => (HK.out.1 j hj).2]
          exact hS.fb
end Go.Proofs.Ytinohfgokpbcdaa
namespace Go.Proofs.Ytinohfgokpbcdaa
open Go.RowKit

theorem step_opp (d : Nat) (h : d < 8) : ∃ d', d' < 8 ∧ stepX ((d' : Nat) : Int) = -stepX d ∧ stepY ((d' : Nat) : Int) = -stepY d := by
  have hc : d = 0 ∨ d = 1 ∨ d = 2 ∨ d = 3 ∨ d = 4 ∨ d = 5 ∨ d = 6 ∨ d = 7 := by omega
  rcases hc with rfl | rfl | rfl | rfl | rfl | rfl | rfl | rfl
  · exact ⟨4, by decide, by decide, by decide⟩
  · exact ⟨5, by decide, by decide, by decide⟩
  · exact ⟨6, by decide, by decide, by decide⟩
  · exact ⟨7, by decide, by decide, by decide⟩
  · exact ⟨0, by decide, by decide, by decide⟩
  · exact ⟨1, by decide, by decide, by decide⟩
  · exact ⟨2, by decide, by decide, by decide⟩
  · exact ⟨3, by decide, by decide, by decide⟩
theorem nbr_symm {Wn Hn n d m : Nat} (h1 : 1 ≤ Wn) (hn : n < Wn * Hn) (hd : d < 8) (h : nbr Wn Hn n d = some m) : ∃ d', d' < 8 ∧ nbr Wn Hn m d' = some n := by
  obtain ⟨d', hd', ex, ey⟩ := step_opp d hd
  refine ⟨d', hd', ?_⟩
  obtain ⟨f1, f2⟩ := grid_facts h1 hn
  have hdm := Nat.div_add_mod n Wn
  unfold nbr at h
  split at h
  · rename_i hc
    injection h with h
    obtain ⟨x', hx'⟩ : ∃ x' : Nat, ((n % Wn : Nat) : Int) + stepX d = x' := ⟨(((n % Wn : Nat) : Int) + stepX d).toNat, by omega⟩
    obtain ⟨y', hy'⟩ : ∃ y' : Nat, ((n / Wn : Nat) : Int) + stepY d = y' := ⟨(((n / Wn : Nat) : Int) + stepY d).toNat, by omega⟩
    rw [hx', hy', Int.toNat_natCast, Int.toNat_natCast] at h
    rw [hx', hy'] at hc
    have hxw : x' < Wn := by omega
    have e1 : m % Wn = x' := by rw [← h, Nat.mul_comm, Nat.mul_add_mod, Nat.mod_eq_of_lt hxw]
    have e2 : m / Wn = y' := by rw [← h, Nat.mul_comm, Nat.mul_add_div (by omega), Nat.div_eq_of_lt hxw, Nat.add_zero]
    unfold nbr
    rw [e1, e2, ex, ey]
    generalize n % Wn = a at *
    generalize n / Wn = b at *
    rw [if_pos (by omega)]
    congr 1
    rw [show ((y' : Int) + -stepY d).toNat = b by omega, show ((x' : Int) + -stepX d).toNat = a by omega, Nat.mul_comm]
    exact hdm
  · cases h

/-- as relV, as the reference writes it -/
def relR (h s x : Nat) : Nat := if gt h (fadd x s) = true then h else fadd x s
theorem relR_bd {h s x : Nat} (hh : Bd 20 h) (hx : Bd 36 x) (hs : Bd 10 s) (h0 : 0 ≤ valI s) : Bd 36 (relR h s x) := by
  unfold relR
  split
  · exact hh.mono (by omega)
  · exact fadd_cap hx hs h0
theorem relR_val {h s x : Nat} (hh : Bd 20 h) (hx : Bd 36 x) (hs : Bd 10 s) (h0 : 0 ≤ valI s) : valI (relR h s x) = max (valI h) (upV s (valI x)) := by
  have hc := fadd_cap hx hs h0
  have e := fadd_up hx hs
  unfold relR
  rw [gt_val (bd_Fin hh (by omega)) (bd_Fin hc (by omega)), e]
  by_cases hlt : upV s (valI x) < valI h
  · rw [if_pos (by simpa using hlt)]
    omega
  · rw [if_neg (by simpa using hlt), e]
    omega

/-- what is known of cells -/
structure RS (Wn Hn N slope : Nat) (l : List Nat) (known : Nat → Bool) (out : Nat → Nat) : Prop where
  r1 : ∀ k, k < N → known k = true → WayG Wn Hn (fun k => l.getD k 0) slope k (valI (out k))
  r2 : ∀ k, k < N → known k = true → Bd 36 (out k)
  r3 : ∀ k, k < N → brd Wn Hn k = true → known k = true ∧ out k = l.getD k 0
/-- a neighbour leaves a cell as it is -/
def Calm (Wn Hn slope : Nat) (l : List Nat) (known : Nat → Bool) (out : Nat → Nat) (k d : Nat) : Prop := ∀ n, nbr Wn Hn k d = some n → known n = true → known k = true ∧ valI (out k) ≤ max (valI (l.getD k 0)) (upV slope (valI (out n)))
/-- all cells below k are calm -/
def CalmTo (Wn Hn slope : Nat) (l : List Nat) (known : Nat → Bool) (out : Nat → Nat) (k : Nat) : Prop := ∀ j, j < k → brd Wn Hn j = false → ∀ d, d < 8 → Calm Wn Hn slope l known out j d
def rankK (known : Nat → Bool) (out : Nat → Nat) (k : Nat) : Nat := if known k = true then (valI (out k) + 2 ^ 186).toNat else 2 ^ 188
/-- how much may still change -/
def rankN (known : Nat → Bool) (out : Nat → Nat) : Nat → Nat
  | 0 => 0
  | n + 1 => rankN known out n + rankK known out n
theorem rankN_upd {known known' : Nat → Bool} {out out' : Nat → Nat} {k : Nat} (hs : ∀ j, j ≠ k → known' j = known j ∧ out' j = out j) (hlt : rankK known' out' k < rankK known out k) : ∀ N, (N ≤ k → rankN known' out' N = rankN known out N) ∧ (k < N → rankN known' out' N < rankN known out N)
  | 0 => ⟨fun _ => rfl, fun h => by omega⟩
  | N + 1 => by
    obtain ⟨h1, h2⟩ := rankN_upd hs hlt N
    constructor
    · intro h
      have e : rankK known' out' N = rankK known out N := by
        obtain ⟨a, b⟩ := hs N (by omega)
        unfold rankK
        rw [a, b]
      rw [rankN, rankN, h1 (by omega), e]
    · intro h
      rw [rankN, rankN]
      by_cases e : N = k
      · have := h1 (by omega)
        subst e
        omega
      · have e : rankK known' out' N = rankK known out N := by
          obtain ⟨a, b⟩ := hs N e
          unfold rankK
          rw [a, b]
        have := h2 (by omega)
        omega
section
variable {Wn Hn N slope : Nat} {l : List Nat} {known : Nat → Bool} {out : Nat → Nat}
theorem RS.upd (h : RS Wn Hn N slope l known out) (hN : N = Wn * Hn) (hw : 1 ≤ Wn) {k d n : Nat} (hk : k < N) (hb : brd Wn Hn k = false) (hd : d < 8) (hnb : nbr Wn Hn k d = some n) (hkn : known n = true) (hh : Bd 20 (l.getD k 0)) (hs : Bd 10 slope) (h0 : 0 ≤ valI slope)
    (hlow : known k = false ∨ valI (relR (l.getD k 0) slope (out n)) < valI (out k)) :
    RS Wn Hn N slope l (updF known k true) (updF out k (relR (l.getD k 0) slope (out n))) ∧ rankN (updF known k true) (updF out k (relR (l.getD k 0) slope (out n))) N < rankN known out N := by
  have hnN : n < N := by rw [hN]; exact nbr_lt hnb
  have hv := relR_val hh (h.r2 n hnN hkn) hs h0
  have hbd := relR_bd hh (h.r2 n hnN hkn) hs h0
  constructor
  · refine ⟨fun j hj hkj => ?_, fun j hj hkj => ?_, fun j hj hbj => ?_⟩
    · by_cases e : j = k
      · subst e
        rw [updF_same, hv]
        obtain ⟨d', hd', hnb'⟩ := nbr_symm hw (by rw [← hN]; exact hk) hd hnb
        exact Way.step (H := fun k => valI (l.getD k 0)) (h.r1 n hnN hkn) (by rw [← hN]; exact hnN) hd' hnb' (by rw [← hN]; exact hj)
      · rw [updF_ne _ _ e] at hkj ⊢
        exact h.r1 j hj hkj
    · by_cases e : j = k
      · subst e
        rw [updF_same]
        exact hbd
      · rw [updF_ne _ _ e] at hkj ⊢
        exact h.r2 j hj hkj
    · have e : j ≠ k := fun e => by subst e; rw [hb] at hbj; cases hbj
      rw [updF_ne _ _ e, updF_ne _ _ e]
      exact h.r3 j hj hbj
  · refine (rankN_upd (k := k) (fun j hj => ⟨updF_ne _ _ hj, updF_ne _ _ hj⟩) ?_ N).2 hk
    have e1 : rankK (updF known k true) (updF out k (relR (l.getD k 0) slope (out n))) k = (valI (relR (l.getD k 0) slope (out n)) + 2 ^ 186).toNat := by
      unfold rankK
      simp [updF_same]
    have b1 := (bd_valI (K := 36) (by omega)).1 hbd
    show rankK (updF known k true) (updF out k (relR (l.getD k 0) slope (out n))) k < rankK known out k
    rw [e1]
    cases hkk : known k
    · have e2 : rankK known out k = 2 ^ 188 := by unfold rankK; simp [hkk]
      rw [e2]
      omega
    · have e2 : rankK known out k = (valI (out k) + 2 ^ 186).toNat := by unfold rankK; simp [hkk]
      rw [e2]
      have b2 := (bd_valI (K := 36) (by omega)).1 (h.r2 k hk hkk)
      rcases hlow with h1 | h1
      · rw [hkk] at h1; cases h1
      · omega
theorem RS.least (h : RS Wn Hn N slope l known out) (hN : N = Wn * Hn) (hw : 1 ≤ Wn) (hc : CalmTo Wn Hn slope l known out N) : LeastG Wn Hn (fun k => l.getD k 0) slope (fun k => valI (out k)) ∧ ∀ k, k < N → Bd 36 (out k) := by
  subst hN
  have hall : ∀ k, k < Wn * Hn → known k = true := conn_grid hw (fun k => known k = true) (fun k hk hb => (h.r3 k hk hb).1) (fun n d m hn hkn hd hnb => by
    have hm := nbr_lt hnb
    cases hb : brd Wn Hn m
    · obtain ⟨d', hd', hnb'⟩ := nbr_symm hw hn hd hnb
      exact (hc m hm hb d' hd' n hnb' hkn).1
    · exact (h.r3 m hm hb).1)
  refine ⟨Least.mk' (upV_mono slope) (fun k hk => h.r1 k hk (hall k hk)) (fun k hk hb => Int.le_of_eq (by rw [(h.r3 k hk hb).2])) (fun n d k hn hd hnb hk => ?_), fun k hk => h.r2 k hk (hall k hk)⟩
  cases hb : brd Wn Hn k
  · obtain ⟨d', hd', hnb'⟩ := nbr_symm hw hn hd hnb
    exact (hc k hk hb d' hd' n hnb' (hall n hn)).2
  · show valI (out k) ≤ max (valI (l.getD k 0)) _
    rw [(h.r3 k hk hb).2]
    omega
end
end Go.Proofs.Ytinohfgokpbcdaa
