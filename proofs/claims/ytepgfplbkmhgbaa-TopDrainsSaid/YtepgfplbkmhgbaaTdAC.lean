/- What water.ranks holds in memory. -/
import Derived.Test.YtepgfplbkmhgbaaShowA
import Derived.Test.YtepgfplbkmhgbaaTdAB
import Derived.Test.YtepgfplbkmhgbaaWetA
import Derived.Test.YtepgfplbkmhgbaaTdAA
import Derived.ArgAppend
namespace Go.Proofs.Ytepgfplbkmhgbaa
open Go.RowKit
attribute [local go_sem ↓] Go.wp_at_zero Go.wp_at_succ

def intL (l : List Int) : List Value := l.map (.int .i64)
theorem Rd.reads {w : World} {ad : Addr} {xs : List Value} (h : Rd w (some ad) xs) : ∀ j u, xs[j]? = some u → w.cell? (ad.add j) = some u := fun j u hu => by
  obtain ⟨ad', e, _, hc⟩ := h (by rintro e; rw [e] at hu; simp at hu)
  injection e with e
  subst e
  exact hc j u hu
theorem first2 (a b : Int) : firstE [a, b] = if a ≠ 0 then a else b := by
  by_cases ha : a = 0
  · by_cases hb : b = 0 <;> simp [firstE, ha, hb]
  · simp [firstE, ha]
def withB (most : Int) : Bool := decide (0 ≤ most) && decide (most ≤ 1048576)
theorem showE_first (x y ww hh most : Int) : firstE [regE x y ww hh, if (!withB most) = true then 3 else 0] = showE x y ww hh most := by
  rw [first2]
  unfold showE withB
  by_cases h : most < 0 ∨ 1048576 < most
  · rw [if_pos h]
    have : (!(decide (0 ≤ most) && decide (most ≤ 1048576))) = true := by simp; omega
    rw [if_pos this]
  · rw [if_neg h]
    have : ¬ (!(decide (0 ≤ most) && decide (most ≤ 1048576))) = true := by simp; omega
    rw [if_neg this]

/-- a list of integers of the call's own -/
def OwnI (w : World) (base : Nat) (v : Value) (q : List Int) : Prop := w.ownsRow base 3 1 v q.length (intL q)
theorem OwnI.form {w : World} {base : Nat} {v : Value} {q : List Int} (h : OwnI w base v q) : ∃ A cap, v = .slice A q.length cap := by
  rcases h.2 with ⟨h1, h2⟩ | ⟨g, cap, cur, hv, _⟩
  · exact ⟨none, 0, by rw [h1]; simp [h2]⟩
  · exact ⟨_, cap, hv⟩
theorem OwnI.ext {w w' : World} {base : Nat} {v : Value} {xs : List Int} (h : OwnI w base v xs) (hx : Ext w w') : OwnI w' base v xs := World.ownsRow.kept h (grown_ext hx none) (by cases h : v.ownBlock <;> simp)

end Go.Proofs.Ytepgfplbkmhgbaa

namespace Go.Proofs.Ytepgfplbkmhgbaa
open Go.RowKit
attribute [local go_sem ↓] Go.wp_at_zero Go.wp_at_succ
attribute [local go_sem] run_store_float

/-- directions in memory: the first N cells of a slice -/
def DirsAt (w : World) (A : Option Addr) (N : Nat) (D : Nat → Int) : Prop := Rd w A (intL ((List.range N).map D))
theorem DirsAt.ext {w w' : World} {A : Option Addr} {N : Nat} {D : Nat → Int} (h : DirsAt w A N D) (hx : Ext w w') : DirsAt w' A N D := Rd.ext h hx
theorem DirsAt.cell {w : World} {A : Option Addr} {N k : Nat} {D : Nat → Int} (h : DirsAt w A N D) (hk : k < N) : ∃ ad, A = some ad ∧ ad.block < w.heap.size ∧ w.cell? (ad.add k) = some (.int .i64 (D k)) := by
  obtain ⟨ad, e, hb, hc⟩ := Rd.at h (k := k) (by simpa [intL] using hk)
  exact ⟨ad, e, hb, hc k _ (by simp [intL, hk])⟩
theorem DirsAt.of_bk {w : World} {g N : Nat} {D : Nat → Int} (h : Bk w g 3 (intB N D)) : DirsAt w (some ⟨g, 0, none⟩) N D := by
  have h1 := Rd.new_bk h
  rwa [intB_list] at h1
set_option maxRecDepth 100000 in
set_option maxHeartbeats 1600000 in
theorem next_any (X Y : Int) (Wn Hn N k c : Nat) (A : Option Addr) (D : Nat → Int) (w : World) (hr : Reg X Y Wn Hn) (hN : N = Wn * Hn) (hD : DirsAt w A N D) (hk : k < N) (h0 : -1 ≤ D k) (h8 : D k < 8) (hin : 0 ≤ D k → ∃ n, nbr Wn Hn k (D k).toNat = some n) :
    Calls Try.prog 24 #[rgv X Y Wn Hn, .slice A N c, .int .i64 k] w fun e w' => e = .returned (.int .i64 (nbI (nxtD D Wn Hn k))) ∧ Ext w w' := by
  have HB := fun (d : Nat) (w : World) (hd : d < 8) => hidA (beside_any X Y Wn Hn k d w hr (by rw [← hN]; exact hk) hd)
  obtain ⟨ad, rfl, hb, hc⟩ := hD.cell hk
  have hN6 : N ≤ 65536 := by rw [hN]; exact hr.n
  unfold rgv at HB ⊢
  have i0 : (0 : Int) ≤ k := by omega
  have i1 : (k : Int) < N := by omega
  clear hr hN hD
  unfold nxtD
  by_cases hd : D k < 0
  · have e : D k = -1 := by omega
    rw [if_pos hd]
    rw [e] at hc
    have hc0 : (w.alloc (.cells #[.int .i64 X, .int .i64 Y, .int .i64 (Wn : Int), .int .i64 (Hn : Int)] 23)).cell? (ad.add k) = some (.int .i64 (-1)) := by
      rw [(Ext.alloc (Ext.refl w) _).cell _ (by rw [add_block]; exact hb)]
      exact hc
    clear e hd hin h0 h8 hc
    go_enter Try.func24, Try.ntmps24
    go_wp2_with fail
    go_ret
    exact ⟨rfl, (by repeat (first | exact Ext.refl _ | assumption | refine Ext.setCell ?_ (by first | (simp; done) | (simp; omega)) _ | refine Ext.drewN ?_ _ | refine Ext.alloc ?_ _ | refine Ext.drew ?_ | refine Ext.trans ?_ (by assumption)))⟩
  · rw [if_neg hd]
    obtain ⟨n, hn⟩ := hin (by omega)
    have HBd := fun (w : World) => HB (D k).toNat w (by omega)
    rw [hn] at HBd ⊢
    have e : (((D k).toNat : Nat) : Int) = D k := Int.toNat_of_nonneg (by omega)
    rw [e] at HBd
    have hne : (D k == -1) = false := by simp; omega
    generalize D k = z at *
    clear HB hin h0 h8 hd e hn
    have c0 : ∀ w', Ext (w.alloc (.cells #[.int .i64 X, .int .i64 Y, .int .i64 (Wn : Int), .int .i64 (Hn : Int)] 23)) w' → w'.cell? (ad.add k) = some (.int .i64 z) := fun w' h => by
      rw [(((Ext.refl w).alloc _).trans h).cell _ (by rw [add_block]; exact hb)]
      exact hc
    have kR : Bk (w.alloc (.cells #[.int .i64 X, .int .i64 Y, .int .i64 (Wn : Int), .int .i64 (Hn : Int)] 23)) w.heap.size 23 #[.int .i64 X, .int .i64 Y, .int .i64 (Wn : Int), .int .i64 (Hn : Int)] := Bk.new' rfl
    have hx0 : Ext w (w.alloc (.cells #[.int .i64 X, .int .i64 Y, .int .i64 (Wn : Int), .int .i64 (Hn : Int)] 23)) := (Ext.refl w).alloc _
    have c0' := c0 _ (Ext.refl _)
    go_enter Try.func24, Try.ntmps24
    go_upto_region 3 with fail
    clear c0'
    generalize w.alloc (.cells #[.int .i64 X, .int .i64 Y, .int .i64 (Wn : Int), .int .i64 (Hn : Int)] 23) = w1 at *
    generalize w.heap.size = h0 at *
    have e0 : ∀ w', Ext w1 w' → w'.cell? ⟨h0, 0, none⟩ = some (.int .i64 X) := fun w' h => (kR.ext h).cell 0
    have e1 : ∀ w', Ext w1 w' → w'.cell? ⟨h0, 1, none⟩ = some (.int .i64 Y) := fun w' h => (kR.ext h).cell 1
    have e2 : ∀ w', Ext w1 w' → w'.cell? ⟨h0, 2, none⟩ = some (.int .i64 (Wn : Int)) := fun w' h => (kR.ext h).cell 2
    have e3 : ∀ w', Ext w1 w' → w'.cell? ⟨h0, 3, none⟩ = some (.int .i64 (Hn : Int)) := fun w' h => (kR.ext h).cell 3
    clear kR hc hb
    refine wp_region_noPanic ?_
    refine wp_region_held_drew (S := fun w' => Ext w1 w') (by kernel_rfl) ?_ (fun hHeld => ?_)
    · (repeat (first | exact Ext.refl _ | assumption | refine Ext.setCell ?_ (by first | (simp; done) | (simp; omega)) _ | refine Ext.drewN ?_ _ | refine Ext.alloc ?_ _ | refine Ext.drew ?_ | refine Ext.trans ?_ (by assumption)))
    refine wpAnyH_take (i := 0) (oi := ?o1x0) (v := ?v1x0) ?hi1x0 (by kernel_rfl) ?hf1x0 ?hr1x0 (fun _ _ _ h => h) ?hy1x0 (by assumption) ?rest1x0
    case hi1x0 => (simp only [List.getElem?_toArray, List.getElem?_cons_zero]; exact rfl)
    case hf1x0 => kernel_rfl
    case hr1x0 => kernel_rfl
    case hy1x0 => (refine Or.inl ⟨by rfl, ?_⟩; intro w hSw; (try dsimp only at hSw); go_simp; try with_reducible rfl)
    simp only [put_mk, List.set_cons_succ, List.set_cons_zero]
    refine wpAnyH_take (i := 1) (oi := ?o1x1) (v := ?v1x1) ?hi1x1 (by kernel_rfl) ?hf1x1 ?hr1x1 (fun _ _ _ h => h) ?hy1x1 (by assumption) ?rest1x1
    case hi1x1 => (simp only [List.getElem?_toArray, List.getElem?_cons_succ, List.getElem?_cons_zero]; exact rfl)
    case hf1x1 => kernel_rfl
    case hr1x1 => kernel_rfl
    case hy1x1 => (refine Or.inl ⟨by rfl, ?_⟩; intro w hSw; (try dsimp only at hSw); go_simp; try with_reducible rfl)
    simp only [put_mk, List.set_cons_succ, List.set_cons_zero]
    refine wpAnyH_take (i := 2) (oi := ?o1x2) (v := ?v1x2) ?hi1x2 (by kernel_rfl) ?hf1x2 ?hr1x2 (fun _ _ _ h => h) ?hy1x2 (by assumption) ?rest1x2
    case hi1x2 => (simp only [List.getElem?_toArray, List.getElem?_cons_succ, List.getElem?_cons_zero]; exact rfl)
    case hf1x2 => kernel_rfl
    case hr1x2 => kernel_rfl
    case hy1x2 => (refine Or.inl ⟨by rfl, ?_⟩; intro w hSw; (try dsimp only at hSw); go_simp; try with_reducible rfl)
    simp only [put_mk, List.set_cons_succ, List.set_cons_zero]
    refine wpAnyH_take (i := 3) (oi := ?o1x3) (v := ?v1x3) ?hi1x3 (by kernel_rfl) ?hf1x3 ?hr1x3 (fun _ _ _ h => h) ?hy1x3 (by assumption) ?rest1x3
    case hi1x3 => (simp only [List.getElem?_toArray, List.getElem?_cons_succ, List.getElem?_cons_zero]; exact rfl)
    case hf1x3 => kernel_rfl
    case hr1x3 => kernel_rfl
    case hy1x3 => (refine Or.inl ⟨by rfl, ?_⟩; intro w hSw; (try dsimp only at hSw); go_simp; try with_reducible rfl)
    simp only [put_mk, List.set_cons_succ, List.set_cons_zero]
    refine wpAnyH_take (i := 4) (oi := ?o1x4) (v := ?v1x4) ?hi1x4 (by kernel_rfl) ?hf1x4 ?hr1x4 (fun _ _ _ h => h) ?hy1x4 (by assumption) ?rest1x4
    case hi1x4 => (simp only [List.getElem?_toArray, List.getElem?_cons_succ, List.getElem?_cons_zero]; exact rfl)
    case hf1x4 => kernel_rfl
    case hr1x4 => kernel_rfl
    case hy1x4 => (refine Or.inl ⟨by rfl, ?_⟩; intro w hSw; (try dsimp only at hSw); go_simp; try with_reducible rfl)
    simp only [put_mk, List.set_cons_succ, List.set_cons_zero]
    refine wpAnyH_take (i := 5) (oi := ?o1x5) (v := ?v1x5) ?hi1x5 (by kernel_rfl) ?hf1x5 ?hr1x5 (fun _ _ _ h => h) ?hy1x5 (by assumption) ?rest1x5
    case hi1x5 => (simp only [List.getElem?_toArray, List.getElem?_cons_succ, List.getElem?_cons_zero]; exact rfl)
    case hf1x5 => kernel_rfl
    case hr1x5 => kernel_rfl
    case hy1x5 => (refine Or.inl ⟨by rfl, ?_⟩; intro w hSw; (try dsimp only at hSw); go_simp; try with_reducible rfl)
    simp only [put_mk, List.set_cons_succ, List.set_cons_zero]
    refine wpAnyH_ready (rs := [6]) (by kernel_rfl) (by simp) ?_
    refine AllReadyH.cons (o := ?o1x6) ?hi1x6 (fun K hK => ?_) AllReadyH.nil
    case hi1x6 => (simp only [List.getElem?_toArray, List.getElem?_cons_succ, List.getElem?_cons_zero]; exact rfl)
    go_simp
    refine ((HBd _).out).mono ?_
    rintro e w2 ⟨rfl, hx2⟩
    unfold nbV
    refine hK.out _ _ ?_ (fun hHeld => ?_)
    · (repeat (first | exact Ext.refl _ | assumption | refine Ext.setCell ?_ (by first | (simp; done) | (simp; omega)) _ | refine Ext.drewN ?_ _ | refine Ext.alloc ?_ _ | refine Ext.drew ?_ | refine Ext.trans ?_ (by assumption)))
    clear hK K
    refine wpAnyH_take (i := 7) (oi := ?o1x7) (v := ?v1x7) ?hi1x7 (by kernel_rfl) ?hf1x7 ?hr1x7 (fun _ _ _ h => h) ?hy1x7 (by assumption) ?rest1x7
    case hi1x7 => (simp only [List.getElem?_toArray, List.getElem?_cons_succ, List.getElem?_cons_zero]; exact rfl)
    case hf1x7 => kernel_rfl
    case hr1x7 => kernel_rfl
    case hy1x7 => (refine Or.inl ⟨by rfl, ?_⟩; intro w hSw; (try dsimp only at hSw); go_simp; try with_reducible rfl)
    simp only [put_mk, List.set_cons_succ, List.set_cons_zero]
    refine wpAnyH_take (i := 8) (oi := ?o1x8) (v := ?v1x8) ?hi1x8 (by kernel_rfl) ?hf1x8 ?hr1x8 (fun _ _ _ h => h) ?hy1x8 (by assumption) ?rest1x8
    case hi1x8 => (simp only [List.getElem?_toArray, List.getElem?_cons_succ, List.getElem?_cons_zero]; exact rfl)
    case hf1x8 => kernel_rfl
    case hr1x8 => kernel_rfl
    case hy1x8 => (refine Or.inl ⟨by rfl, ?_⟩; intro w hSw; (try dsimp only at hSw); go_simp; try with_reducible rfl)
    simp only [put_mk, List.set_cons_succ, List.set_cons_zero]
    refine wpAnyH_take (i := 9) (oi := ?o1x9) (v := ?v1x9) ?hi1x9 (by kernel_rfl) ?hf1x9 ?hr1x9 (fun _ _ _ h => h) ?hy1x9 (by assumption) ?rest1x9
    case hi1x9 => (simp only [List.getElem?_toArray, List.getElem?_cons_succ, List.getElem?_cons_zero]; exact rfl)
    case hf1x9 => kernel_rfl
    case hr1x9 => kernel_rfl
    case hy1x9 => (refine Or.inl ⟨by rfl, ?_⟩; intro w hSw; (try dsimp only at hSw); go_simp; try with_reducible rfl)
    simp only [put_mk, List.set_cons_succ, List.set_cons_zero]
    refine wpAnyH_take (i := 10) (oi := ?o1x10) (v := ?v1x10) ?hi1x10 (by kernel_rfl) ?hf1x10 ?hr1x10 (fun _ _ _ h => h) ?hy1x10 (by assumption) ?rest1x10
    case hi1x10 => (simp only [List.getElem?_toArray, List.getElem?_cons_succ, List.getElem?_cons_zero]; exact rfl)
    case hf1x10 => kernel_rfl
    case hr1x10 => kernel_rfl
    case hy1x10 => (refine Or.inl ⟨by rfl, ?_⟩; intro w hSw; (try dsimp only at hSw); go_simp; try with_reducible rfl)
    simp only [put_mk, List.set_cons_succ, List.set_cons_zero]
    refine wpAnyH_take (i := 11) (oi := ?o1x11) (v := ?v1x11) ?hi1x11 (by kernel_rfl) ?hf1x11 ?hr1x11 (fun _ _ _ h => h) ?hy1x11 (by assumption) ?rest1x11
    case hi1x11 => (simp only [List.getElem?_toArray, List.getElem?_cons_succ, List.getElem?_cons_zero]; exact rfl)
    case hf1x11 => kernel_rfl
    case hr1x11 => kernel_rfl
    case hy1x11 => (refine Or.inl ⟨by rfl, ?_⟩; intro w hSw; (try dsimp only at hSw); go_simp; try with_reducible rfl)
    simp only [put_mk, List.set_cons_succ, List.set_cons_zero]
    refine wpAnyH_done (by kernel_rfl) ?_ _
    refine NoPanic.normal ?_
    go_wp2_with fail
    go_ret
    exact ⟨rfl, (by repeat (first | exact Ext.refl _ | assumption | refine Ext.setCell ?_ (by first | (simp; done) | (simp; omega)) _ | refine Ext.drewN ?_ _ | refine Ext.alloc ?_ _ | refine Ext.drew ?_ | refine Ext.trans ?_ (by assumption)))⟩

/-- what lies apart from the block g is kept -/
def Kept (g : Nat) (w w' : World) : Prop := w.heap.size ≤ w'.heap.size ∧ ∀ b t cs, b ≠ g → Bk w b t cs → Bk w' b t cs
theorem Kept.refl (g : Nat) (w : World) : Kept g w w := ⟨Nat.le_refl _, fun _ _ _ _ h => h⟩
theorem Kept.ext {g : Nat} {w w1 w2 : World} (h : Kept g w w1) (hx : Ext w1 w2) : Kept g w w2 := ⟨Nat.le_trans h.1 hx.size, fun b t cs hb hB => (h.2 b t cs hb hB).ext hx⟩
theorem Kept.set {g : Nat} {w w1 : World} (h : Kept g w w1) (i : Nat) (v : Value) : Kept g w (w1.setCell ⟨g, i, none⟩ v) := ⟨by simpa using h.1, fun b t cs hb hB => (h.2 b t cs hb hB).far hb _⟩
/-- the first N cells of a block of singles of cp cells -/
def CF (w : World) (g cp N : Nat) (v : Nat → Nat) : Prop := ∃ cur, Cl w g cp cur N v
theorem CF.ext {w w' : World} {g cp N : Nat} {v : Nat → Nat} (h : CF w g cp N v) (hx : Ext w w') : CF w' g cp N v := let ⟨_, h⟩ := h; ⟨_, h.ext hx⟩
theorem CF.far {w : World} {g cp N : Nat} {v : Nat → Nat} (h : CF w g cp N v) {p : Addr} (hp : g ≠ p.block) (u : Value) : CF (w.setCell p u) g cp N v := let ⟨_, h⟩ := h; ⟨_, h.far hp u⟩
theorem CF.put {w : World} {g cp N : Nat} {v : Nat → Nat} (h : CF w g cp N v) (k x : Nat) : CF (w.setCell ⟨g, k, none⟩ (.float .f32 x)) g cp N (updF v k x) := let ⟨_, h⟩ := h; ⟨_, h.put k x⟩
theorem CF.cell {w : World} {g cp N k : Nat} {v : Nat → Nat} (h : CF w g cp N v) (hk : k < N) : w.cell? ⟨g, k, none⟩ = some (.float .f32 (v k)) := let ⟨_, h⟩ := h; h.cell hk
theorem CF.frozen {w : World} {g cp N : Nat} {v : Nat → Nat} (h : CF w g cp N v) (k : Nat) : w.frozen? ⟨g, k, none⟩ = false := let ⟨_, h⟩ := h; h.b.frozen k
theorem CF.lt {w : World} {g cp N : Nat} {v : Nat → Nat} (h : CF w g cp N v) : g < w.heap.size := let ⟨_, h⟩ := h; h.b.lt
theorem CF.ne {w : World} {g cp N b : Nat} {v : Nat → Nat} {t : TypeId} {cs : Array Value} (h : CF w g cp N v) (hb : Bk w b t cs) (ht : t ≠ 31) : b ≠ g := let ⟨_, h⟩ := h; Bk.ne hb h.b ht
theorem CF.kept {w w' : World} {g q cp N : Nat} {v : Nat → Nat} (h : CF w g cp N v) (hk : Kept q w w') (hg : g ≠ q) : CF w' g cp N v := let ⟨_, h⟩ := h; ⟨_, hk.2 _ _ _ hg h.b, h.n, h.s, h.c⟩
end Go.Proofs.Ytepgfplbkmhgbaa

namespace Go.Proofs.Ytepgfplbkmhgbaa
open Go.RowKit

/-- the cells xs lie in a block of its own from off on, and behind them is room up to cap -/
structure Qs (w : World) (base : Nat) (e : TypeId) (A : Option Addr) (n cap : Nat) (xs : List Value) : Prop where
  len : xs.length = n
  le : n ≤ cap
  max : cap ≤ maxLen
  own : (A = none ∧ cap = 0) ∨ ∃ g off cur, A = some ⟨g, off, none⟩ ∧ base ≤ g ∧ w.heap[g]? = some (.cells cur e (0, 0)) ∧ off + cap ≤ cur.size ∧ ∀ j u, xs[j]? = some u → cur[off + j]? = some u
section
variable {w : World} {base : Nat} {e : TypeId} {A : Option Addr} {n cap : Nat} {xs : List Value}
theorem Qs.nil (w : World) (base : Nat) (e : TypeId) : Qs w base e none 0 0 [] := ⟨rfl, Nat.le_refl _, Nat.zero_le _, .inl ⟨rfl, rfl⟩⟩
theorem Qs.of_own {c : Nat} (h : w.ownsRow base e 1 (.slice A n c) n xs) : Qs w base e A n c xs := by
  obtain ⟨hl, ⟨hv, h0⟩ | ⟨g, cap, cur, hv, hb, hg, hn, hm, hs, hx⟩⟩ := h
  · injection hv with h1 h2 h3
    subst h1; subst h2; subst h3
    exact ⟨by simpa using hl, Nat.le_refl _, Nat.zero_le _, .inl ⟨rfl, rfl⟩⟩
  · injection hv with h1 h2 h3
    subst h1; subst h3
    refine ⟨by simpa using hl, hn, hm, .inr ⟨g, 0, cur, rfl, hb, hg, by omega, fun j u hu => ?_⟩⟩
    rw [← hx, List.getElem?_take] at hu
    split at hu
    · rw [Nat.zero_add]
      simpa using hu
    · cases hu
theorem Qs.rd (h : Qs w base e A n cap xs) : Rd w A xs := fun hne => by
  rcases h.own with ⟨_, h0⟩ | ⟨g, off, cur, hA, hb, hg, hs, hx⟩
  · have h1 := h.len
    have h2 := h.le
    exact absurd (List.eq_nil_of_length_eq_zero (by omega)) hne
  · refine ⟨_, hA, (Array.getElem?_eq_some_iff.1 hg).1, fun j u hu => ?_⟩
    rw [show (⟨g, off, none⟩ : Addr).add j = ⟨g, off + j, none⟩ by unfold Addr.add; split <;> simp_all, cell_of_row _ _ _ cur e (0, 0) hg]
    exact hx j u hu
theorem Qs.kept {w' : World} (h : Qs w base e A n cap xs) (hk : ∀ a, A = some a → a.block < w.heap.size → w'.heap[a.block]? = w.heap[a.block]?) : Qs w' base e A n cap xs := by
  refine ⟨h.len, h.le, h.max, ?_⟩
  rcases h.own with h0 | ⟨g, off, cur, hA, hb, hg, hs, hx⟩
  · exact .inl h0
  · exact .inr ⟨g, off, cur, hA, hb, (hk _ hA (Array.getElem?_eq_some_iff.1 hg).1).trans hg, hs, hx⟩
theorem Qs.lt (h : Qs w base e A n cap xs) {a : Addr} (hA : A = some a) : base ≤ a.block ∧ a.block < w.heap.size ∧ a.spot = none := by
  rcases h.own with ⟨h0, _⟩ | ⟨g, off, cur, hA', hb, hg, hs, hx⟩
  · rw [h0] at hA; cases hA
  · rw [hA'] at hA
    cases hA
    exact ⟨hb, (Array.getElem?_eq_some_iff.1 hg).1, rfl⟩
/-- cut in front -/
theorem Qs.cut {x : Value} (h : Qs w base e A n cap (x :: xs)) : ∃ A', sliced A 1 n cap 1 = .slice A' (n - 1) (cap - 1) ∧ Qs w base e A' (n - 1) (cap - 1) xs ∧ A'.map (·.block) = A.map (·.block) := by
  have h1 := h.len
  have h2 := h.le
  have h3 := h.max
  rw [List.length_cons] at h1
  unfold sliced
  by_cases hc : cap = 1
  · subst hc
    rw [if_pos rfl]
    refine ⟨A, rfl, ⟨by omega, by omega, by omega, ?_⟩, rfl⟩
    rcases h.own with ⟨h0, h00⟩ | ⟨g, off, cur, hA, hb, hg, hs, hx⟩
    · omega
    · refine .inr ⟨g, off, cur, hA, hb, hg, by omega, fun j u hu => ?_⟩
      have : xs = [] := List.eq_nil_of_length_eq_zero (by omega)
      subst this
      simp at hu
  · rw [if_neg hc]
    rcases h.own with ⟨h0, h00⟩ | ⟨g, off, cur, hA, hb, hg, hs, hx⟩
    · omega
    · subst hA
      refine ⟨some ⟨g, off + 1, none⟩, by simp [Addr.add], ⟨by omega, by omega, by omega, .inr ⟨g, off + 1, cur, rfl, hb, hg, by omega, fun j u hu => ?_⟩⟩, rfl⟩
      have := hx (j + 1) u (by simpa using hu)
      rwa [show off + (j + 1) = off + 1 + j by omega] at this
end
theorem heap_set {w : World} {g o : Nat} {cur : Array Value} {e : TypeId} {fz : Nat × Nat} {u : Value} (h : w.heap[g]? = some (.cells cur e fz)) : (w.setCell ⟨g, o, none⟩ u).heap[g]? = some (.cells (cur.setIfInBounds o u) e fz) := by
  unfold World.setCell
  simp [Array.getElem?_modify, h]
/-- one more behind: into the room, or into a new block -/
theorem wpList_append_q {P : Program} (w : World) {ops : Array Oper} {rest : List Oper} {o : Oper} {a : Act} {Q : Exit → Act → World → Prop}
    (hg : o.guard = none) (s x : Operand) (t : TypeId) (hop : o.op = Op.call { callee := Callee.builtin Builtin.append, args := #[s, x], argTypes := #[t, t] })
    (base : Nat) (e : TypeId) (i : TypeInfo) (z : Value) (bytes : Nat) (h1 : P.underlying t = some (.slice e)) (h2 : P.info? e = some i) (h3 : i.zero = some z) (h4 : i.size = 1) (h5 : i.bytes = bytes) (h6 : z.cells.size = 1)
    (A : Option Addr) (n cap : Nat) (olds : List Value) (hs : a.eval s = .slice A n cap) (hq : Qs w base e A n cap olds) (hbase : base ≤ w.heap.size)
    (ad : Addr) (c : Nat) (u : Value) (hx : a.eval x = .slice (some ad) 1 c) (hc : w.cell? ad = some u) (h1c : u.oneCell' = true)
    (b1 : n + 1 ≤ maxLen) (b2 : (n + 1) * bytes ≤ 140737488355328)
    (hK : ∀ A' cap' w', Qs w' base e A' (n + 1) cap' (olds ++ [u]) → w.grownBy w' (A.map (·.block)) → (∀ b, A'.map (·.block) = some b → A.map (·.block) = some b ∨ w.heap.size ≤ b) → wpList P ops Q rest (a.put o.dst (.slice A' (n + 1) cap')) w') :
    wpList P ops Q (o :: rest) a w := by
  have hcc : ∀ j u', [u][j]? = some u' → w.cell? (ad.add j) = some u' := fun j u' hu => by
    cases j with
    | zero => simp at hu; subst hu; simpa [Addr.add] using hc
    | succ j => simp at hu
  have hgrow : ∀ v' w', w'.ownsRow w.heap.size e 1 v' (n + 1) (olds ++ [u]) → w.grownBy w' none → wpList P ops Q rest (a.put o.dst v') w' := by
    intro v' w' ho hgr
    obtain ⟨hl, ⟨hv, h0⟩ | ⟨g, cap', cur, hv, hb, hgg, hn, hm, hss, hxx⟩⟩ := ho
    · omega
    · subst hv
      refine hK _ _ _ ?_ ⟨hgr.os, hgr.tape, hgr.output, hgr.size, fun k hk _ => hgr.block k hk (by simp)⟩ (fun b hb' => .inr ?_)
      · have q : Qs w' w.heap.size e (some ⟨g, 0, none⟩) (n + 1) cap' (olds ++ [u]) := Qs.of_own ⟨hl, .inr ⟨g, cap', cur, rfl, hb, hgg, hn, hm, hss, hxx⟩⟩
        refine ⟨q.len, q.le, q.max, .inr ⟨g, 0, cur, rfl, by omega, hgg, by omega, ?_⟩⟩
        rcases q.own with ⟨h, _⟩ | ⟨g', off', cur', hA', _, hg', _, hx'⟩
        · cases h
        · cases hA'
          rw [hgg] at hg'
          cases hg'
          exact hx'
      · simp at hb'
        omega
  rcases hq.own with ⟨hA, h0⟩ | ⟨g, off, cur, hA, hb, hgg, hss, hxx⟩
  · subst hA
    have hn0 := hq.le
    exact wpList_append_grows w hg s x t hop e i z 1 bytes h1 h2 h3 h4 h5 h6 (by omega) none n cap olds hs (fun _ => ⟨by omega, h0⟩) (by rw [hq.len, Nat.mul_one]) (fun b hb => by cases hb) ad 1 c [u] hx rfl hcc (by simpa using h1c) (by omega) b1 b2 hgrow
  · subst hA
    have hcell : ∀ j, w.cell? ⟨g, off + j, none⟩ = cur[off + j]? := fun j => cell_of_row _ _ _ cur e (0, 0) hgg
    refine wpList_append_arg w hg s x t hop e i z 1 bytes h1 h2 h3 h4 h5 h6 (by omega) g off n cap olds hs (by rw [hq.len, Nat.mul_one]) (fun j u' hu => by rw [hcell]; exact hxx j u' hu) ad 1 c [u] hx rfl hcc (by simpa using h1c) (fun hr j hj => ?_) b1 b2 (fun hr => ?_) (fun _ => hgrow)
    · simp at hj
      subst hj
      simp only [Nat.mul_one, Nat.add_zero]
      refine ⟨by rw [hcell, Array.getElem?_eq_getElem (by omega)]; rfl, ?_⟩
      unfold World.frozen?
      rw [hgg]
      simp
    · rw [Nat.mul_one]
      show wpList P ops Q rest _ (w.setCell ⟨g, off + n, none⟩ u)
      refine hK _ _ _ ⟨by rw [List.length_append, hq.len]; rfl, hr, hq.max, .inr ⟨g, off, cur.setIfInBounds (off + n) u, rfl, hb, heap_set hgg, by rw [Array.size_setIfInBounds]; exact hss, fun j u' hu => ?_⟩⟩ ?_ (fun b hb' => .inl hb')
      · have hl := hq.len
        rw [Array.getElem?_setIfInBounds]
        rcases Nat.lt_or_ge j n with h | h
        · rw [if_neg (by omega)]
          rw [List.getElem?_append_left (by omega)] at hu
          exact hxx j u' hu
        · rw [List.getElem?_append_right (by omega)] at hu
          obtain rfl : j = n := by
            rcases Nat.lt_or_ge n j with h' | h'
            · rw [List.getElem?_eq_none (by simp; omega)] at hu
              cases hu
            · omega
          rw [hl, Nat.sub_self] at hu
          rw [if_pos rfl, if_pos (by omega)]
          simpa using hu
      · refine ⟨rfl, rfl, rfl, by unfold World.setCell; simp, fun k hk hne => ?_⟩
        unfold World.setCell
        simp only [Array.getElem?_modify]
        rw [if_neg (by rintro rfl; exact hne rfl)]
end Go.Proofs.Ytepgfplbkmhgbaa

namespace Go.Proofs.Ytepgfplbkmhgbaa
open Go.RowKit

def inq (q : List Nat) : List Value := q.map fun (k : Nat) => Value.int .i64 (k : Int)
theorem inq_snoc (q : List Nat) (i : Nat) : inq (q ++ [i]) = inq q ++ [.int .i64 (i : Int)] := by simp [inq]
theorem inq_get {q : List Nat} {k : Nat} (hk : k < q.length) : (inq q)[k]? = some (.int .i64 (q[k] : Nat)) := by simp [inq, hk]
theorem inq_length (q : List Nat) : (inq q).length = q.length := by simp [inq]
theorem Qs.ne {w : World} {base : Nat} {e : TypeId} {A : Option Addr} {n cap : Nat} {xs : List Value} (h : Qs w base e A n cap xs) {g : Nat} {t : TypeId} {cs : Array Value} (hb : Bk w g t cs) (ht : t ≠ e) : some g ≠ A.map (·.block) := by
  rcases h.own with ⟨h0, _⟩ | ⟨g', off, cur, hA, _, hg, _, _⟩
  · subst h0
    simp
  · subst hA
    intro h2
    simp at h2
    subst h2
    unfold Bk at hb
    rw [hb] at hg
    injection hg with hg
    injection hg with _ h3 _
    exact ht h3
/-- what ranks holds in memory: the field, the cell that is looked at, the ranks, the directions, the queue -/
structure RM (W0 w : World) (hf hk hr hd hq gr : Nat) (X Y : Int) (Wn Hn N : Nat) (A : Option Addr) (c : Nat) (D : Option Addr) (cD p : Nat) (o : Nat → Int) (L : List Nat) (Q : Option Addr) (cap : Nat) : Prop where
  fb : Bk w hf 26 #[.int .i64 X, .int .i64 Y, .int .i64 (Wn : Int), .int .i64 (Hn : Int), .slice A N c]
  kb : Bk w hk 3 #[.int .i64 (p : Int)]
  rb : Bk w hr 32 #[.slice (some ⟨gr, 0, none⟩) N N]
  db : Bk w hd 32 #[.slice D N cD]
  gb : Bk w gr 3 (intB N o)
  qb : Bk w hq 32 #[.slice Q L.length cap]
  qs : Qs w W0.heap.size 3 Q L.length cap (inq L)
  qk : some hk ≠ Q.map (·.block)
  qr : some gr ≠ Q.map (·.block)
  ext : Ext W0 w
  b1 : W0.heap.size ≤ gr
  b2 : W0.heap.size ≤ hq
  n1 : hk ≠ gr
  n2 : hr ≠ hq
  n3 : hd ≠ hq
section
variable {W0 w : World} {hf hk hr hd hq gr : Nat} {X Y : Int} {Wn Hn N : Nat} {A : Option Addr} {c : Nat} {D : Option Addr} {cD p : Nat} {o : Nat → Int} {L : List Nat} {Q : Option Addr} {cap : Nat}
theorem RM.step (h : RM W0 w hf hk hr hd hq gr X Y Wn Hn N A c D cD p o L Q cap) {w' : World} (hx : Ext w w') : RM W0 w' hf hk hr hd hq gr X Y Wn Hn N A c D cD p o L Q cap :=
  ⟨h.fb.ext hx, h.kb.ext hx, h.rb.ext hx, h.db.ext hx, h.gb.ext hx, h.qb.ext hx, h.qs.kept fun a _ ha => hx.block a.block ha, h.qk, h.qr, h.ext.trans hx, h.b1, h.b2, h.n1, h.n2, h.n3⟩
theorem RM.put (h : RM W0 w hf hk hr hd hq gr X Y Wn Hn N A c D cD p o L Q cap) (n : Nat) (x : Int) : RM W0 (w.setCell ⟨gr, n, none⟩ (.int .i64 x)) hf hk hr hd hq gr X Y Wn Hn N A c D cD p (updF o n x) L Q cap := by
  have e1 := Bk.set h.gb n (.int .i64 x)
  rw [intB_set] at e1
  exact ⟨h.fb.far (Bk.ne h.fb h.gb (by decide)) _, h.kb.far h.n1 _, h.rb.far (Bk.ne h.rb h.gb (by decide)) _, h.db.far (Bk.ne h.db h.gb (by decide)) _, e1, h.qb.far (Bk.ne h.qb h.gb (by decide)) _,
    h.qs.kept (fun a ha _ => Below.heap_setCell w _ _ _ (fun e => h.qr (by subst ha; simp only [Option.map_some]; exact congrArg some e.symm))), h.qk, h.qr, h.ext.setCell h.b1 _, h.b1, h.b2, h.n1, h.n2, h.n3⟩
theorem RM.app (h : RM W0 w hf hk hr hd hq gr X Y Wn Hn N A c D cD p o L Q cap) {w' : World} {n : Nat} {Q' : Option Addr} {cap' : Nat} (hq' : Qs w' W0.heap.size 3 Q' (L.length + 1) cap' (inq L ++ [.int .i64 (n : Int)])) (hg : w.grownBy w' (Q.map (·.block)))
    (ho : ∀ b, Q'.map (·.block) = some b → Q.map (·.block) = some b ∨ w.heap.size ≤ b) :
    RM W0 (w'.setCell ⟨hq, 0, none⟩ (.slice Q' (L.length + 1) cap')) hf hk hr hd hq gr X Y Wn Hn N A c D cD p o (L ++ [n]) Q' cap' := by
  have hx : Ext W0 w' := h.ext.grown hg (fun k hk => by
    cases hQ : Q with
    | none => rw [hQ] at hk; cases hk
    | some a => rw [hQ] at hk; cases hk; exact (h.qs.lt hQ).1)
  have f1 := h.fb.grown hg (h.qs.ne h.fb (by decide))
  have k1 := h.kb.grown hg h.qk
  have r1 := h.rb.grown hg (h.qs.ne h.rb (by decide))
  have d1 := h.db.grown hg (h.qs.ne h.db (by decide))
  have g1 := h.gb.grown hg h.qr
  have q1 := h.qb.grown hg (h.qs.ne h.qb (by decide))
  have e1 := Bk.set q1 0 (.slice Q' (L.length + 1) cap')
  have hl : (L ++ [n]).length = L.length + 1 := by simp
  refine ⟨f1.far (Bk.ne f1 q1 (by decide)) _, k1.far (Bk.ne k1 q1 (by decide)) _, r1.far h.n2 _, d1.far h.n3 _, g1.far (Bk.ne g1 q1 (by decide)) _, ?_, ?_, ?_, ?_, hx.setCell h.b2 _, h.b1, h.b2, h.n1, h.n2, h.n3⟩
  · rw [hl]; exact e1
  · rw [hl, inq_snoc]
    exact hq'.kept (fun a ha _ => Below.heap_setCell w' _ _ _ (fun e => hq'.ne q1 (by decide) (by subst ha; simp only [Option.map_some]; exact congrArg some e.symm)))
  · intro e
    rcases ho hk e.symm with e2 | e2
    · exact h.qk e2.symm
    · have := h.kb.lt
      omega
  · intro e
    rcases ho gr e.symm with e2 | e2
    · exact h.qr e2.symm
    · have := h.gb.lt
      omega
theorem RM.rcell (h : RM W0 w hf hk hr hd hq gr X Y Wn Hn N A c D cD p o L Q cap) {k : Nat} (hk : k < N) {w' : World} (hx : Ext w w') : w'.cell? ⟨gr, k, none⟩ = some (.int .i64 (o k)) := by rw [(h.gb.ext hx).cell]; exact intB_get _ hk
end
end Go.Proofs.Ytepgfplbkmhgbaa
