/- The steps in eight directions: water.Toward and tarnref2.Step are the same. -/
import Derived.WalkKit
import Derived.WalkSpells
import Derived.WalkLawsBesides
import Derived.Test.YtinohfgokpbcdaaRows
import Derived.Deep.QuietTactic
import Derived.BigQuiet
import Derived.Deep.DrawnRows
import Derived.Deep.RegionHeld3
import Derived.Laws.FloatArith
namespace Go.Proofs.Ytinohfgokpbcdaa
open Go.RowKit

/-- Nothing that was there has turned; new blocks may have come. -/
def Ext (w w' : World) : Prop := Below w.heap.size w w'

theorem Ext.refl (w : World) : Ext w w := Below.refl _ _
theorem Ext.size {a w : World} (h : Ext a w) : a.heap.size ≤ w.heap.size := Below.size h
theorem Ext.trans {a b c : World} (h : Ext a b) (k : Ext b c) : Ext a c := Below.trans h (Below.mono k h.size)
theorem Ext.alloc {a w : World} (h : Ext a w) (o : Obj) : Ext a (w.alloc o) := Below.alloc h h.size o
theorem Ext.drew {a w : World} (h : Ext a w) : Ext a w.drew := Below.drew h
theorem Ext.drewN {a w : World} (h : Ext a w) (n : Nat) : Ext a (w.drewN n) := by
  have k : Below a.heap.size a w := h
  exact ⟨k.os, k.tape, k.output, k.size, k.block⟩
theorem Ext.setCell {a w : World} (h : Ext a w) {p : Addr} (hp : a.heap.size ≤ p.block) (u : Value) : Ext a (w.setCell p u) := Below.setCell h hp u
theorem Ext.grown {a w w' : World} {row : Option Nat} (h : Ext a w) (hg : w.grownBy w' row) (hr : ∀ k, row = some k → a.heap.size ≤ k) : Ext a w' := Below.grown h hg h.size hr
theorem Ext.cell {a w : World} (h : Ext a w) : ∀ p : Addr, p.block < a.heap.size → w.cell? p = a.cell? p := fun _ hp => Below.cell h hp
theorem Ext.frozen {a w : World} (h : Ext a w) : ∀ p : Addr, p.block < a.heap.size → w.frozen? p = a.frozen? p := fun _ hp => Below.frozen h hp
theorem Ext.below {a w : World} (h : Ext a w) : Below a.heap.size a w := h

theorem Ext.of_quiet {w w' : World} (h : ∃ n, w' = w.drewN n) : Ext w w' := by
  obtain ⟨n, rfl⟩ := h
  exact (Ext.refl w).drewN n

theorem add_block (a : Addr) (n : Nat) : (a.add n).block = a.block := by unfold Addr.add; split <;> rfl
theorem add_pos (a : Addr) {n : Nat} (h : 0 < n) : a.add n = ⟨a.block, a.off + n, none⟩ := by unfold Addr.add; rw [if_neg (by omega)]
theorem add_add' (a : Addr) (i j : Nat) : (a.add i).add j = a.add (i + j) := by
  unfold Addr.add
  by_cases hi : i = 0 <;> by_cases hj : j = 0 <;> simp [hi, hj, Nat.add_assoc]

/-- A slice's address at which just the cells xs lie (nothing is asked of an empty one). -/
def Rd (w : World) (A : Option Addr) (xs : List Value) : Prop :=
  xs ≠ [] → ∃ ad, A = some ad ∧ ad.block < w.heap.size ∧ ∀ j u, xs[j]? = some u → w.cell? (ad.add j) = some u

theorem Rd.nil (w : World) (A : Option Addr) : Rd w A [] := fun h => absurd rfl h
theorem Rd.ext {w w' : World} {A : Option Addr} {xs : List Value} (h : Rd w A xs) (hb : Ext w w') : Rd w' A xs := fun hn => by
  obtain ⟨ad, e, hl, hc⟩ := h hn
  exact ⟨ad, e, Nat.lt_of_lt_of_le hl hb.size, fun j u hu => (hb.cell _ (by rw [add_block]; exact hl)).trans (hc j u hu)⟩
theorem Rd.alloc {w : World} {A : Option Addr} {xs : List Value} (h : Rd w A xs) (o : Obj) : Rd (w.alloc o) A xs := h.ext ((Ext.refl w).alloc o)
theorem Rd.at {w : World} {A : Option Addr} {xs : List Value} (h : Rd w A xs) {k : Nat} (hk : k < xs.length) :
    ∃ ad, A = some ad ∧ ad.block < w.heap.size ∧ ∀ j u, xs[j]? = some u → w.cell? (ad.add j) = some u := h (by intro e; subst e; simp at hk)
theorem cell_new_row (w : World) (cs : Array Value) (t : TypeId) (i : Nat) : (w.alloc (.cells cs t)).cell? ⟨w.heap.size, i, none⟩ = cs[i]? :=
  cell_of_row _ _ _ cs t (0, 0) (heap_alloc_new w _)
theorem lit_add (g j : Nat) : (⟨g, 0, none⟩ : Addr).add j = ⟨g, j, none⟩ := by unfold Addr.add; split <;> simp_all
theorem Rd.new {w : World} {cs : Array Value} {t : TypeId} {g : Nat} {xs : List Value} (hg : g = w.heap.size) (h : cs.toList = xs) : Rd (w.alloc (.cells cs t)) (some ⟨g, 0, none⟩) xs := fun _ => by
  subst hg
  subst h
  refine ⟨_, rfl, by simp, fun j u hu => ?_⟩
  rw [lit_add, cell_new_row]
  simpa using hu
theorem Rd.of_own {w : World} {base : Nat} {e : TypeId} {size n c : Nat} {A : Option Addr} {xs : List Value} (h : w.ownsRow base e size (.slice A n c) n xs) : Rd w A xs := fun hn => by
  rcases h.2 with ⟨hv, rfl⟩ | ⟨g, cap, cur, hv, _, hgg, _⟩
  · exact absurd (List.eq_nil_of_length_eq_zero (by simpa using h.1)) hn
  · injection hv with hA _ _
    subst hA
    exact ⟨_, rfl, (Array.getElem?_eq_some_iff.1 hgg).1, h.cells (g := g) rfl⟩

/-- A block that the call itself made, whole. -/
def Bk (w : World) (g : Nat) (t : TypeId) (cs : Array Value) : Prop := w.heap[g]? = some (.cells cs t (0, 0))
theorem Bk.lt {w : World} {g : Nat} {t : TypeId} {cs : Array Value} (h : Bk w g t cs) : g < w.heap.size := by
  rcases Nat.lt_or_ge g w.heap.size with hlt | hge
  · exact hlt
  · unfold Bk at h; rw [Array.getElem?_eq_none hge] at h; cases h
theorem Bk.cell {w : World} {g : Nat} {t : TypeId} {cs : Array Value} (h : Bk w g t cs) (i : Nat) : w.cell? ⟨g, i, none⟩ = cs[i]? := cell_of_row w g i cs t (0, 0) h
theorem Bk.frozen {w : World} {g : Nat} {t : TypeId} {cs : Array Value} (h : Bk w g t cs) (i : Nat) : w.frozen? ⟨g, i, none⟩ = false := by
  unfold Bk at h; simp [World.frozen?, h]
theorem Bk.new (w : World) (t : TypeId) (cs : Array Value) : Bk (w.alloc (.cells cs t)) w.heap.size t cs := heap_alloc_new w _
theorem Bk.ext {w w' : World} {g : Nat} {t : TypeId} {cs : Array Value} (h : Bk w g t cs) (hb : Ext w w') : Bk w' g t cs := (hb.block g h.lt).trans h
theorem Bk.set {w : World} {g : Nat} {t : TypeId} {cs : Array Value} (h : Bk w g t cs) (i : Nat) (u : Value) : Bk (w.setCell ⟨g, i, none⟩ u) g t (cs.setIfInBounds i u) := by
  unfold Bk at h ⊢
  simp [World.setCell, Array.getElem?_modify, h]

theorem Bk.new' {w : World} {g : Nat} {t : TypeId} {cs : Array Value} (hg : g = w.heap.size) : Bk (w.alloc (.cells cs t)) g t cs := by subst hg; exact Bk.new w t cs
theorem Bk.drew {w : World} {g : Nat} {t : TypeId} {cs : Array Value} (h : Bk w g t cs) : Bk w.drew g t cs := h
theorem Bk.drewN {w : World} {g : Nat} {t : TypeId} {cs : Array Value} (h : Bk w g t cs) (n : Nat) : Bk (w.drewN n) g t cs := h
theorem Bk.grown {w w' : World} {g : Nat} {t : TypeId} {cs : Array Value} {r : Option Nat} (h : Bk w g t cs) (hb : w.grownBy w' r) (hn : some g ≠ r) : Bk w' g t cs := (hb.block g h.lt hn).trans h
theorem Bk.far {w : World} {g : Nat} {t : TypeId} {cs : Array Value} (h : Bk w g t cs) {p : Addr} (hp : g ≠ p.block) (u : Value) : Bk (w.setCell p u) g t cs := (Below.heap_setCell w p u g hp).trans h
theorem Bk.alloc {w : World} {g : Nat} {t : TypeId} {cs : Array Value} (h : Bk w g t cs) (o : Obj) : Bk (w.alloc o) g t cs := (Below.heap_alloc w o g h.lt).trans h
theorem Bk.ne {w : World} {g g' : Nat} {t t' : TypeId} {cs cs' : Array Value} (h : Bk w g t cs) (h' : Bk w g' t' cs') (hne : t ≠ t') : g ≠ g' := by
  rintro rfl
  unfold Bk at h h'
  rw [h] at h'
  injection h' with h'
  injection h' with _ ht
  exact hne ht
theorem own_ne {w : World} {base : Nat} {e : TypeId} {size n : Nat} {v : Value} {xs : List Value} {g : Nat} {t : TypeId} {cs : Array Value} (h : w.ownsRow base e size v n xs) (hg : Bk w g t cs) (hne : e ≠ t) : some g ≠ v.ownBlock := by
  rcases h.2 with ⟨rfl, _⟩ | ⟨g', cap, cur, rfl, _, hh, _⟩
  · simp [Value.ownBlock]
  · intro he
    have : g = g' := by simpa [Value.ownBlock] using he
    subst this
    exact Bk.ne (t := e) hh hg hne rfl

theorem own_made' {w : World} {base : Nat} {e : TypeId} {size g : Nat} (hg : g = w.heap.size) (cur : Array Value) (cap : Nat) (hb : base ≤ w.heap.size) (hm : cap ≤ maxLen) (hs : cur.size = cap * size) :
    (w.alloc (.cells cur e)).ownsRow base e size (.slice (some ⟨g, 0, none⟩) 0 cap) 0 [] := by subst hg; exact World.ownsRow_made w cur cap hb hm hs

/-- 'grownBy': but for one old block r nothing that was there has turned. -/
theorem grown_trans' {a b c : World} {r : Option Nat} (h : a.grownBy b r) (k : b.grownBy c r) : a.grownBy c r :=
  ⟨k.os.trans h.os, k.tape.trans h.tape, k.output.trans h.output, Nat.le_trans h.size k.size, fun i hi hn => (k.block i (Nat.lt_of_lt_of_le hi h.size) hn).trans (h.block i hi hn)⟩
theorem grown_alloc' {a w : World} {r : Option Nat} (h : a.grownBy w r) (o : Obj) : a.grownBy (w.alloc o) r :=
  ⟨h.os, h.tape, h.output, Nat.le_trans h.size (by simp), fun i hi hn => (Below.heap_alloc w o i (Nat.lt_of_lt_of_le hi h.size)).trans (h.block i hi hn)⟩
theorem grown_drew' {a w : World} {r : Option Nat} (h : a.grownBy w r) : a.grownBy w.drew r := ⟨h.os, h.tape, h.output, h.size, h.block⟩
theorem grown_own {a w w' : World} {r r' : Option Nat} (h : a.grownBy w r) (hg : w.grownBy w' r') (hr : ∀ k, r' = some k → a.heap.size ≤ k) : a.grownBy w' r :=
  ⟨hg.os.trans h.os, hg.tape.trans h.tape, hg.output.trans h.output, Nat.le_trans h.size hg.size, fun i hi hn =>
    (hg.block i (Nat.lt_of_lt_of_le hi h.size) (fun e => by have := hr i e.symm; omega)).trans (h.block i hi hn)⟩
theorem grown_set' {a w : World} {r : Option Nat} (h : a.grownBy w r) {p : Addr} (hp : a.heap.size ≤ p.block) (u : Value) : a.grownBy (w.setCell p u) r :=
  ⟨h.os, h.tape, h.output, by simpa [World.setCell] using h.size, fun i hi hn => (Below.heap_setCell w p u i (by omega)).trans (h.block i hi hn)⟩
theorem grown_ext {a w : World} (h : Ext a w) (r : Option Nat) : a.grownBy w r := by
  have k : Below a.heap.size a w := h
  exact ⟨k.os, k.tape, k.output, k.size, fun i hi _ => k.block i hi⟩
theorem ext_grown {a w : World} (h : a.grownBy w none) : Ext a w := ⟨h.os, h.tape, h.output, h.size, fun i hi => h.block i hi (by simp)⟩

theorem Rd.grown {w wd w' : World} {A : Option Addr} {xs : List Value} {r : Nat} (h : Rd w A xs) (hb : Ext w wd) (hg : wd.grownBy w' (some r)) (hr : w.heap.size ≤ r) : Rd w' A xs := fun hn => by
  obtain ⟨ad, e, hl, hc⟩ := h hn
  have h1 := hb.size
  have h2 := hg.size
  exact ⟨ad, e, by omega, fun j u hu => by
    have hbk : (ad.add j).block = ad.block := add_block ad j
    rw [World.cell?_of_block (w := wd) (hg.block _ (by omega) (by rw [hbk]; simp; omega)), hb.cell _ (by omega)]
    exact hc j u hu⟩
theorem ext_of_grown {w wd w' : World} {r : Nat} (hb : Ext w wd) (hg : wd.grownBy w' (some r)) (hr : w.heap.size ≤ r) : Ext w w' :=
  hb.grown hg (fun k e => by injection e with e; omega)
theorem grown_of_drewN {w : World} (m : Nat) (r : Option Nat) : w.grownBy (w.drewN m) r := grown_ext ((Ext.refl w).drewN m) r

theorem hidA {p : Prop} (h : p) : Hid p := h
theorem ret_i {k : IntKind} {a b : Int} (h : a = b) : Ending.returned (.int k a) = .returned (.int k b) := by rw [h]
theorem ret_b {a b : Bool} (h : a = b) : Ending.returned (.bool a) = .returned (.bool b) := by rw [h]

end Go.Proofs.Ytinohfgokpbcdaa
namespace Go.Proofs.Ytinohfgokpbcdaa
open Go.RowKit

def firstE : List Int → Int
  | [] => 0
  | x :: r => if x = 0 then firstE r else x

def regE (x y w h : Int) : Int :=
  if w < 1 ∨ 512 < w ∨ h < 1 ∨ 512 < h then 3 else if 65536 < w * h then 4
  else if x < -4194304 ∨ y < -4194304 ∨ 4194304 - w < x ∨ 4194304 - h < y then 5 else 0

theorem prod_bd {a b A B : Int} (h0 : 0 ≤ a) (h1 : a ≤ A) (h2 : 0 ≤ b) (h3 : b ≤ B) : 0 ≤ a * b ∧ a * b ≤ A * B :=
  ⟨Int.mul_nonneg h0 h2, Int.mul_le_mul h1 h3 h2 (by omega)⟩

theorem regE_zero {x y w h : Int} (e : regE x y w h = 0) :
    1 ≤ w ∧ w ≤ 512 ∧ 1 ≤ h ∧ h ≤ 512 ∧ w * h ≤ 65536 ∧ -4194304 ≤ x ∧ -4194304 ≤ y ∧ x + w ≤ 4194304 ∧ y + h ≤ 4194304 := by
  unfold regE at e
  split at e
  · simp at e
  · split at e
    · simp at e
    · split at e
      · simp at e
      · omega

/-- How two singles stand to each other, by their bits. -/
def ord (a b : Nat) : Option Ordering := FloatKind.f32.format.order a b
theorem ord_def (a b : Nat) : FloatKind.f32.format.order a b = ord a b := rfl

def finB (b : Nat) : Bool := (ord b 4286578687 == some .gt || ord b 4286578687 == some .eq) && (ord b 2139095039 == some .lt || ord b 2139095039 == some .eq)
def hgtB (b : Nat) : Bool := (ord b 3380609024 == some .gt || ord b 3380609024 == some .eq) && (ord b 1233125376 == some .lt || ord b 1233125376 == some .eq)

def numE (l : List Nat) : Int := if l.any (fun b => !finB b) then 2 else if l.any (fun b => !hgtB b) then 3 else 0

def AllTo (p : Nat → Bool) (l : List Nat) (k : Nat) : Prop := ∀ j, (h : j < l.length) → j < k → p l[j] = true
theorem AllTo.zero (p : Nat → Bool) (l : List Nat) : AllTo p l 0 := fun _ _ h => by omega
theorem AllTo.step {p : Nat → Bool} {l : List Nat} {k : Nat} (h : AllTo p l k) (hk : k < l.length) (hp : p l[k] = true) : AllTo p l (k + 1) := fun j hj hlt => by
  rcases Nat.lt_or_eq_of_le (Nat.le_of_lt_succ hlt) with h1 | h1
  · exact h j hj h1
  · subst h1; exact hp
theorem AllTo.all {p : Nat → Bool} {l : List Nat} {k : Nat} (h : AllTo p l k) (hk : l.length ≤ k) : ∀ b ∈ l, p b = true := fun b hb => by
  obtain ⟨j, hj, rfl⟩ := List.mem_iff_getElem.1 hb
  exact h j hj (by omega)

theorem numE_two {l : List Nat} {k : Nat} (hk : k < l.length) (h : finB l[k] = false) : numE l = 2 := by
  unfold numE
  rw [if_pos]
  exact List.any_eq_true.2 ⟨l[k], List.getElem_mem hk, by simp [h]⟩
theorem not_any {p : Nat → Bool} {l : List Nat} (h : ∀ b ∈ l, p b = true) : ¬ (l.any (fun b => !p b) = true) := by
  intro h'
  obtain ⟨b, hb, hp⟩ := List.any_eq_true.1 h'
  simp [h b hb] at hp
theorem numE_three {l : List Nat} {k : Nat} (ha : ∀ b ∈ l, finB b = true) (hk : k < l.length) (h : hgtB l[k] = false) : numE l = 3 := by
  unfold numE
  rw [if_neg (not_any ha), if_pos]
  exact List.any_eq_true.2 ⟨l[k], List.getElem_mem hk, by simp [h]⟩
theorem numE_ok {l : List Nat} (ha : ∀ b ∈ l, finB b = true) (hb : ∀ b ∈ l, hgtB b = true) : numE l = 0 := by
  unfold numE
  rw [if_neg (not_any ha), if_neg (not_any hb)]
theorem numE_zero {l : List Nat} (h : numE l = 0) : (∀ b ∈ l, finB b = true) ∧ (∀ b ∈ l, hgtB b = true) := by
  unfold numE at h
  split at h
  · simp at h
  · split at h
    · simp at h
    · rename_i h1 h2
      constructor
      · intro b hb
        cases hp : finB b
        · exact absurd (List.any_eq_true.2 ⟨b, hb, by simp [hp]⟩) h1
        · rfl
      · intro b hb
        cases hp : hgtB b
        · exact absurd (List.any_eq_true.2 ⟨b, hb, by simp [hp]⟩) h2
        · rfl

/-! ### how singles compare -/
open Ieee in
theorem order_none {d c : Ieee.Datum} (h : d.order c = none) : d.isNaN = true ∨ c.isNaN = true := by
  cases d <;> cases c <;> simp_all [Datum.order, Datum.isNaN]
open Ieee in
theorem order_nan_left {d c : Ieee.Datum} (h : d.isNaN = true) : d.order c = none := by
  cases d <;> cases c <;> simp_all [Datum.order, Datum.isNaN]
open Ieee in
theorem order_nan_right {d c : Ieee.Datum} (h : c.isNaN = true) : d.order c = none := by
  cases d <;> cases c <;> simp_all [Datum.order, Datum.isNaN]
theorem order_self {d : Ieee.Datum} (h : d.isNaN = false) : d.order d = some .eq := by
  cases d <;> simp_all [Ieee.Datum.order, Ieee.Datum.isNaN]

def nanB (b : Nat) : Bool := (FloatKind.f32.format.read b).isNaN
theorem ord_nan {b : Nat} (h : nanB b = true) (c : Nat) : ord b c = none := order_nan_left h
theorem ord_nan' {b : Nat} (h : nanB b = true) (c : Nat) : ord c b = none := order_nan_right h
theorem ord_some {b c : Nat} (h : nanB b = false) (hc : nanB c = false) : ∃ o, ord b c = some o := by
  cases ho : ord b c with
  | some o => exact ⟨o, rfl⟩
  | none =>
    rcases order_none (show (FloatKind.f32.format.read b).order (FloatKind.f32.format.read c) = none from ho) with h' | h'
    · have : nanB b = true := h'
      rw [h] at this; cases this
    · have : nanB c = true := h'
      rw [hc] at this; cases this
theorem ord_self {b : Nat} (h : nanB b = false) : ord b b = some .eq := order_self h
theorem nan_max : nanB 2139095039 = false := by decide +kernel
theorem nan_min : nanB 4286578687 = false := by decide +kernel
theorem nan_hi : nanB 1233125376 = false := by decide +kernel
theorem nan_lo : nanB 3380609024 = false := by decide +kernel

/-- the reference's test for a number that is not finite -/
theorem fin_ref (b : Nat) : ((ord b b != some .eq || ord b 2139095039 == some .gt) || ord b 4286578687 == some .lt) = !finB b := by
  unfold finB
  cases h : nanB b
  · obtain ⟨o1, h1⟩ := ord_some h nan_max
    obtain ⟨o2, h2⟩ := ord_some h nan_min
    rw [ord_self h, h1, h2]
    cases o1 <;> cases o2 <;> rfl
  · simp [ord_nan h]
theorem fin_not_nan {b : Nat} (h : finB b = true) : nanB b = false := by
  cases hn : nanB b
  · rfl
  · simp [finB, ord_nan hn] at h
theorem hgt_not_nan {b : Nat} (h : hgtB b = true) : nanB b = false := by
  cases hn : nanB b
  · rfl
  · simp [hgtB, ord_nan hn] at h
theorem hgt_ref {b : Nat} (h : finB b = true) : (ord b 1233125376 == some .gt || ord b 3380609024 == some .lt) = !hgtB b := by
  unfold hgtB
  have hn := fin_not_nan h
  obtain ⟨o1, h1⟩ := ord_some hn nan_hi
  obtain ⟨o2, h2⟩ := ord_some hn nan_lo
  rw [h1, h2]
  cases o1 <;> cases o2 <;> rfl

theorem fin_false {b : Nat} (h : ¬ FloatKind.f32.format.order b b = some .eq ∨ FloatKind.f32.format.order b 2139095039 = some .gt ∨ FloatKind.f32.format.order b 4286578687 = some .lt) : finB b = false := by
  have k := fin_ref b
  unfold ord at k
  cases hf : finB b with
  | false => rfl
  | true =>
    exfalso
    rw [hf] at k
    simp only [Bool.not_true, Bool.or_eq_false_iff, bne_eq_false_iff_eq, beq_eq_false_iff_ne] at k
    rcases h with h | h | h
    · exact h k.1.1
    · exact k.1.2 h
    · exact k.2 h
theorem fin_true {b : Nat} (h1 : FloatKind.f32.format.order b b = some .eq) (h2 : ¬ FloatKind.f32.format.order b 2139095039 = some .gt) (h3 : ¬ FloatKind.f32.format.order b 4286578687 = some .lt) : finB b = true := by
  have k := fin_ref b
  unfold ord at k
  have e2 : (FloatKind.f32.format.order b 2139095039 == some .gt) = false := by simpa using h2
  have e3 : (FloatKind.f32.format.order b 4286578687 == some .lt) = false := by simpa using h3
  rw [e2, e3, h1] at k
  simpa using k
theorem hgt_false {b : Nat} (hf : finB b = true) (h : FloatKind.f32.format.order b 1233125376 = some .gt ∨ FloatKind.f32.format.order b 3380609024 = some .lt) : hgtB b = false := by
  have k := hgt_ref hf
  unfold ord at k
  cases hg : hgtB b with
  | false => rfl
  | true =>
    exfalso
    rw [hg] at k
    simp only [Bool.not_true, Bool.or_eq_false_iff, beq_eq_false_iff_ne] at k
    rcases h with h | h
    · exact k.1 h
    · exact k.2 h
theorem hgt_true {b : Nat} (hf : finB b = true) (h2 : ¬ FloatKind.f32.format.order b 1233125376 = some .gt) (h3 : ¬ FloatKind.f32.format.order b 3380609024 = some .lt) : hgtB b = true := by
  have k := hgt_ref hf
  unfold ord at k
  have e2 : (FloatKind.f32.format.order b 1233125376 == some .gt) = false := by simpa using h2
  have e3 : (FloatKind.f32.format.order b 3380609024 == some .lt) = false := by simpa using h3
  rw [e2, e3] at k
  simpa using k

theorem fin_false3 {b : Nat} (h : (FloatKind.f32.format.order b 2139095039 == some .gt) = true ∨ (FloatKind.f32.format.order b 4286578687 == some .lt) = true) : finB b = false :=
  fin_false (.inr (by simpa using h))
theorem fin_true3 {b : Nat} (h1 : FloatKind.f32.format.order b b = some .eq) (h : (FloatKind.f32.format.order b 2139095039 == some .gt) = false ∧ (FloatKind.f32.format.order b 4286578687 == some .lt) = false) : finB b = true :=
  fin_true h1 (by simpa using h.1) (by simpa using h.2)
theorem hgt_false3 {b : Nat} (hf : finB b = true) (h : (FloatKind.f32.format.order b 1233125376 == some .gt) = true ∨ (FloatKind.f32.format.order b 3380609024 == some .lt) = true) : hgtB b = false :=
  hgt_false hf (by simpa using h)
theorem hgt_true3 {b : Nat} (hf : finB b = true) (h : (FloatKind.f32.format.order b 1233125376 == some .gt) = false ∧ (FloatKind.f32.format.order b 3380609024 == some .lt) = false) : hgtB b = true :=
  hgt_true hf (by simpa using h.1) (by simpa using h.2)

/-- the error of a field -/
def fieldE (x y w h : Int) (l : List Nat) : Int :=
  if regE x y w h ≠ 0 then regE x y w h else if (l.length : Int) ≠ w * h then 2 else numE l

def flt (l : List Nat) : List Value := l.map (.float .f32)
@[simp] theorem flt_length (l : List Nat) : (flt l).length = l.length := by simp [flt]
theorem flt_get {l : List Nat} {k : Nat} (hk : k < l.length) : (flt l)[k]? = some (.float .f32 l[k]) := by simp [flt, hk]

end Go.Proofs.Ytinohfgokpbcdaa
namespace Go.Proofs.Ytinohfgokpbcdaa
open Go.RowKit

set_option maxHeartbeats 400000 in
theorem within_any (n lo hi : Int) (w : World) :
    Calls Try.prog 27 #[.int .i64 n, .int .i64 lo, .int .i64 hi] w fun e w' => e = .returned (.bool (decide (lo ≤ n) && decide (n ≤ hi))) ∧ w = w' := by
  go_enter Try.func27, Try.ntmps27
  go_wp2
  all_goals go_ret
  all_goals exact ⟨ret_b (by simp; try omega), rfl⟩

set_option maxHeartbeats 400000 in
theorem when_any (b : Bool) (n : Int) (w : World) :
    Calls Try.prog 19 #[.bool b, .int .i64 n] w fun e w' => e = .returned (.int .i64 (if b then n else 0)) ∧ w = w' := by
  cases b
  all_goals
    go_enter Try.func19, Try.ntmps19
    go_wp2
    go_ret
    exact ⟨rfl, rfl⟩

set_option maxHeartbeats 400000 in
theorem first_any (A : Option Addr) (n c : Nat) (l : List Int) (w : World) (hn : l.length = n) (hr : Rd w A (l.map (.int .i64))) (hb : n ≤ 4000000000) :
    Calls Try.prog 16 #[.slice A n c] w fun e w' => e = .returned (.int .i64 (firstE l)) ∧ w = w' := by
  have Hn := hidA hn
  clear hn
  go_enter Try.func16, Try.ntmps16
  go_wp2
  go_loop [7] (fun i => ∃ k : Nat, k ≤ n ∧ i = .int .i64 k ∧ Hid (firstE (l.drop k) = firstE l)) (fun i => n - (intOf i).toNat)
  case atStart => exact ⟨0, Nat.zero_le _, rfl, rfl⟩
  case round =>
    obtain ⟨k, hk, rfl, hf⟩ := hrel
    by_cases hlt : k < n
    · have hkl : k < l.length := by have := Hn.out; omega
      obtain ⟨ad, rfl, hbk, hc⟩ := hr.at (k := k) (by simpa using hkl)
      have hck := hc k (.int .i64 l[k]) (by simp [hkl])
      have hd : Hid (firstE l = if l[k] = 0 then firstE (l.drop (k + 1)) else l[k]) := by
        have h := hf.out
        rw [List.drop_eq_getElem_cons hkl] at h
        exact h.symm
      clear hc hr
      by_cases hz : l[k] = 0
      · have Hz : Hid (l[k] = 0) := hz
        rw [Hz.out] at hck
        clear hz
        go_wp2
        go_round
        case rel => exact ⟨k + 1, by omega, by go_num, by have h := hd.out; rw [if_pos Hz.out] at h; exact h.symm⟩
        case measure => simp [intOf]; omega
      · have hz' : (l[k] != 0) = true := by simpa using hz
        go_wp2
        go_ret
        exact ⟨ret_i (by have h := hd.out; rw [if_neg hz] at h; exact h.symm), rfl⟩
    · have : k = n := by omega
      subst this
      have hend : Hid (firstE l = 0) := by
        have h := hf.out
        rw [List.drop_of_length_le (by have := Hn.out; omega)] at h
        exact h.symm
      go_wp2
      go_ret
      exact ⟨ret_i hend.out.symm, rfl⟩

set_option maxHeartbeats 400000 in
theorem finite_any (b : Nat) (w : World) :
    Calls Try.prog 134 #[.float .f32 b] w fun e w' => e = .returned (.bool (finB b)) ∧ w = w' := by
  go_enter Try.func134, Try.ntmps134
  go_wp2
  all_goals go_ret
  · exact ⟨rfl, rfl⟩
  · rename_i h
    refine ⟨ret_b ?_, rfl⟩
    simp only [ord_def] at h
    simp [finB, h]

set_option maxHeartbeats 400000 in
theorem height_any (b : Nat) (w : World) :
    Calls Try.prog 135 #[.float .f32 b] w fun e w' => e = .returned (.bool (hgtB b)) ∧ w = w' := by
  go_enter Try.func135, Try.ntmps135
  go_wp2
  all_goals go_ret
  · exact ⟨rfl, rfl⟩
  · rename_i h
    refine ⟨ret_b ?_, rfl⟩
    simp only [ord_def] at h
    simp [hgtB, h]

set_option maxHeartbeats 800000 in
theorem heights_any (A : Option Addr) (n c : Nat) (l : List Nat) (w : World) (hn : l.length = n) (hr : Rd w A (flt l)) (hb : n ≤ 140737488351232) :
    Calls Try.prog 81 #[.slice A n c] w fun e w' => e = .returned (.int .i64 (numE l)) ∧ w = w' := by
  have Hn := hidA hn
  clear hn
  go_enter Try.func81, Try.ntmps81
  go_wp2
  go_loop [9] (fun i => ∃ k : Nat, k ≤ n ∧ i = .int .i64 k ∧ AllTo finB l k) (fun i => n - (intOf i).toNat)
  case atStart => exact ⟨0, Nat.zero_le _, rfl, AllTo.zero _ _⟩
  case round =>
    obtain ⟨k, hk, rfl, hf⟩ := hrel
    by_cases hlt : k < n
    · have hkl : k < l.length := by have := Hn.out; omega
      obtain ⟨ad, rfl, hbk, hc⟩ := hr.at (k := k) (by simpa using hkl)
      have hck := hc k _ (flt_get hkl)
      clear hc hr
      cases hfin : finB l[k]
      · have H2 : Hid (numE l = 2) := numE_two hkl hfin
        go_wp2_with (go_at_call 134; refine (finite_any _ _).mono ?_; rintro e w' ⟨rfl, rfl⟩)
        go_ret
        exact ⟨ret_i H2.out.symm, rfl⟩
      · have hs := hf.step hkl hfin
        go_wp2_with (go_at_call 134; refine (finite_any _ _).mono ?_; rintro e w' ⟨rfl, rfl⟩)
        go_round
        case rel => exact ⟨k + 1, by omega, by go_num, hs⟩
        case measure => simp [intOf]; omega
    · have ha : Hid (∀ b ∈ l, finB b = true) := hf.all (by have := Hn.out; omega)
      clear hf
      go_wp2
      go_loop [19] (fun i => ∃ k : Nat, k ≤ n ∧ i = .int .i64 k ∧ AllTo hgtB l k) (fun i => n - (intOf i).toNat)
      case atStart => exact ⟨0, Nat.zero_le _, rfl, AllTo.zero _ _⟩
      case round =>
        obtain ⟨k, hk, rfl, hf⟩ := hrel
        by_cases hlt : k < n
        · have hkl : k < l.length := by have := Hn.out; omega
          obtain ⟨ad, rfl, hbk, hc⟩ := hr.at (k := k) (by simpa using hkl)
          have hck := hc k _ (flt_get hkl)
          clear hc hr
          cases hfin : hgtB l[k]
          · have H2 : Hid (numE l = 3) := numE_three ha.out hkl hfin
            go_wp2_with (go_at_call 135; refine (height_any _ _).mono ?_; rintro e w' ⟨rfl, rfl⟩)
            go_ret
            exact ⟨ret_i H2.out.symm, rfl⟩
          · have hs := hf.step hkl hfin
            go_wp2_with (go_at_call 135; refine (height_any _ _).mono ?_; rintro e w' ⟨rfl, rfl⟩)
            go_round
            case rel => exact ⟨k + 1, by omega, by go_num, hs⟩
            case measure => simp [intOf]; omega
        · have H2 : Hid (numE l = 0) := numE_ok ha.out (hf.all (by have := Hn.out; omega))
          go_wp2
          go_ret
          exact ⟨ret_i H2.out.symm, rfl⟩

end Go.Proofs.Ytinohfgokpbcdaa
namespace Go.Proofs.Ytinohfgokpbcdaa
open Go.RowKit

theorem regE_three {x y w h : Int} (hs : w < 1 ∨ 512 < w ∨ h < 1 ∨ 512 < h) : regE x y w h = 3 := by unfold regE; rw [if_pos hs]

set_option maxHeartbeats 800000 in
theorem regionError_any (x y ww hh : Int) (w : World) :
    Calls Try.prog 26 #[.agg #[.int .i64 x, .int .i64 y, .int .i64 ww, .int .i64 hh]] w fun e w' => e = .returned (.int .i64 (regE x y ww hh)) ∧ Ext w w' := by
  by_cases hs : 1 ≤ ww ∧ ww ≤ 512 ∧ 1 ≤ hh ∧ hh ≤ 512
  · obtain ⟨h1, h2, h3, h4⟩ := hs
    obtain ⟨p1, p2⟩ := prod_bd (A := 512) (B := 512) (by omega : 0 ≤ ww) h2 (by omega : 0 ≤ hh) h4
    go_enter Try.func26, Try.ntmps26
    go_wp2
    all_goals go_ret
    all_goals refine ⟨ret_i ?_, (Ext.refl _).alloc _⟩
    all_goals (unfold regE; repeat (first | rw [if_pos (by omega)] | rw [if_neg (by omega)]))
  · have H3 : Hid (regE x y ww hh = 3) := regE_three (by omega)
    rcases (by omega : ww < 1 ∨ (1 ≤ ww ∧ 512 < ww) ∨ (1 ≤ ww ∧ ww ≤ 512 ∧ hh < 1) ∨ (1 ≤ ww ∧ ww ≤ 512 ∧ 1 ≤ hh ∧ 512 < hh)) with h | ⟨h, h'⟩ | ⟨h, h', h''⟩ | ⟨h, h', h'', h3⟩
    all_goals
      clear hs
      go_enter Try.func26, Try.ntmps26
      go_wp2
      go_ret
      exact ⟨ret_i H3.out.symm, (Ext.refl _).alloc _⟩

set_option maxHeartbeats 400000 in
theorem side_any (n : Int) (w : World) :
    Calls Try.prog 140 #[.int .i64 n] w fun e w' => e = .returned (.bool (decide (1 ≤ n) && decide (n ≤ 512))) ∧ w = w' := by
  go_enter Try.func140, Try.ntmps140
  go_wp2
  all_goals go_ret
  all_goals exact ⟨ret_b (by simp; try omega), rfl⟩

theorem side_yes (n : Int) (w : World) (h1 : 1 ≤ n) (h2 : n ≤ 512) :
    Calls Try.prog 140 #[.int .i64 n] w fun e w' => e = .returned (.bool true) ∧ w = w' :=
  (side_any n w).mono fun e w' ⟨he, hw⟩ => ⟨by rw [he]; exact ret_b (by simp [h1, h2]), hw⟩
theorem side_no (n : Int) (w : World) (h1 : n < 1 ∨ 512 < n) :
    Calls Try.prog 140 #[.int .i64 n] w fun e w' => e = .returned (.bool false) ∧ w = w' :=
  (side_any n w).mono fun e w' ⟨he, hw⟩ => ⟨by rw [he]; exact ret_b (by simp; omega), hw⟩

set_option maxHeartbeats 800000 in
theorem checkRegion_any (x y ww hh : Int) (w : World) :
    Calls Try.prog 85 #[.agg #[.int .i64 x, .int .i64 y, .int .i64 ww, .int .i64 hh]] w fun e w' => e = .returned (.int .i64 (regE x y ww hh)) ∧ Ext w w' := by
  by_cases hs : 1 ≤ ww ∧ ww ≤ 512 ∧ 1 ≤ hh ∧ hh ≤ 512
  · obtain ⟨h1, h2, h3, h4⟩ := hs
    obtain ⟨p1, p2⟩ := prod_bd (A := 512) (B := 512) (by omega : 0 ≤ ww) h2 (by omega : 0 ≤ hh) h4
    go_enter Try.func85, Try.ntmps85
    go_wp2_with (go_at_call 140; refine (side_yes _ _ (by omega) (by omega)).mono ?_; rintro e w' ⟨rfl, rfl⟩)
    all_goals go_ret
    all_goals refine ⟨ret_i ?_, (Ext.refl _).alloc _⟩
    all_goals (unfold regE; repeat (first | rw [if_pos (by omega)] | rw [if_neg (by omega)]))
  · have H3 : Hid (regE x y ww hh = 3) := regE_three (by omega)
    rcases (by omega : (ww < 1 ∨ 512 < ww) ∨ (1 ≤ ww ∧ ww ≤ 512 ∧ (hh < 1 ∨ 512 < hh))) with h | ⟨h, h', h''⟩
    · clear hs
      go_enter Try.func85, Try.ntmps85
      go_wp2_with (go_at_call 140; refine (side_no _ _ h).mono ?_; rintro e w' ⟨rfl, rfl⟩)
      go_ret
      exact ⟨ret_i H3.out.symm, (Ext.refl _).alloc _⟩
    · clear hs
      go_enter Try.func85, Try.ntmps85
      go_wp2_with (first | (go_at_call_of 140 (Value.int IntKind.i64 ww); refine (side_yes _ _ (by omega) (by omega)).mono ?_; rintro e w' ⟨rfl, rfl⟩) | (go_at_call 140; refine (side_no _ _ h'').mono ?_; rintro e w' ⟨rfl, rfl⟩))
      go_ret
      exact ⟨ret_i H3.out.symm, (Ext.refl _).alloc _⟩

set_option maxHeartbeats 1600000 in
theorem numberError_any (A : Option Addr) (n c : Nat) (l : List Nat) (w : World) (hn : l.length = n) (hr : Rd w A (flt l)) (hb : n ≤ 140737488351232) :
    Calls Try.prog 18 #[.slice A n c] w fun e w' => e = .returned (.int .i64 (numE l)) ∧ w = w' := by
  have Hn := hidA hn
  clear hn
  go_enter Try.func18, Try.ntmps18
  go_wp2
  go_loop [9] (fun i => ∃ k : Nat, k ≤ n ∧ i = .int .i64 k ∧ AllTo finB l k) (fun i => n - (intOf i).toNat)
  case atStart => exact ⟨0, Nat.zero_le _, rfl, AllTo.zero _ _⟩
  case round =>
    obtain ⟨k, hk, rfl, hf⟩ := hrel
    by_cases hlt : k < n
    · have hkl : k < l.length := by have := Hn.out; omega
      obtain ⟨ad, rfl, hbk, hc⟩ := hr.at (k := k) (by simpa using hkl)
      have hck := hc k _ (flt_get hkl)
      clear hc hr
      go_wp2
      case roundEnd =>
        have hfin := hidA (fin_true3 (b := l[k]) (by assumption) (by assumption))
        exact ⟨⟨k + 1, by omega, by go_num, hf.step hkl hfin.out⟩, by simp [intOf]; omega⟩
      all_goals
        have hfin : finB l[k] = false := (by first | exact fin_false (.inl ‹_›) | exact fin_false (.inr (.inl ‹_›)) | exact fin_false3 ‹_›)
        have H2 := hidA (numE_two hkl hfin)
        go_ret
        exact ⟨ret_i H2.out.symm, rfl⟩
    · have ha : Hid (∀ b ∈ l, finB b = true) := hf.all (by have := Hn.out; omega)
      clear hf
      go_wp2
      go_loop [27] (fun i => ∃ k : Nat, k ≤ n ∧ i = .int .i64 k ∧ AllTo hgtB l k) (fun i => n - (intOf i).toNat)
      case atStart => exact ⟨0, Nat.zero_le _, rfl, AllTo.zero _ _⟩
      case round =>
        obtain ⟨k, hk, rfl, hf⟩ := hrel
        by_cases hlt : k < n
        · have hkl : k < l.length := by have := Hn.out; omega
          obtain ⟨ad, rfl, hbk, hc⟩ := hr.at (k := k) (by simpa using hkl)
          have hck := hc k _ (flt_get hkl)
          clear hc hr
          go_wp2
          case roundEnd =>
            have hfin := hidA (hgt_true3 (ha.out _ (List.getElem_mem hkl)) (by assumption))
            exact ⟨⟨k + 1, by omega, by go_num, hf.step hkl hfin.out⟩, by simp [intOf]; omega⟩
          all_goals
            have hfin : hgtB l[k] = false := (by first | exact hgt_false (ha.out _ (List.getElem_mem hkl)) (.inl ‹_›) | exact hgt_false3 (ha.out _ (List.getElem_mem hkl)) ‹_›)
            have H2 := hidA (numE_three ha.out hkl hfin)
            go_ret
            exact ⟨ret_i H2.out.symm, rfl⟩
        · have H2 : Hid (numE l = 0) := numE_ok ha.out (hf.all (by have := Hn.out; omega))
          go_wp2
          go_ret
          exact ⟨ret_i H2.out.symm, rfl⟩

end Go.Proofs.Ytinohfgokpbcdaa
namespace Go.Proofs.Ytinohfgokpbcdaa
open Go.RowKit

theorem fieldE_reg {x y w h : Int} {l : List Nat} (e : regE x y w h ≠ 0) : fieldE x y w h l = regE x y w h := by unfold fieldE; rw [if_pos e]
theorem fieldE_len {x y w h : Int} {l : List Nat} (e : regE x y w h = 0) (k : (l.length : Int) ≠ w * h) : fieldE x y w h l = 2 := by unfold fieldE; rw [if_neg (by simp [e]), if_pos k]
theorem fieldE_num {x y w h : Int} {l : List Nat} (e : regE x y w h = 0) (k : (l.length : Int) = w * h) : fieldE x y w h l = numE l := by unfold fieldE; rw [if_neg (by simp [e]), if_neg (by simp [k])]

set_option maxHeartbeats 800000 in
theorem fieldError_any (x y ww hh : Int) (A : Option Addr) (n c : Nat) (l : List Nat) (w : World) (hn : l.length = n) (hr : Rd w A (flt l)) (hb : n ≤ 140737488351232) :
    Calls Try.prog 17 #[.agg #[.int .i64 x, .int .i64 y, .int .i64 ww, .int .i64 hh, .slice A n c]] w fun e w' => e = .returned (.int .i64 (fieldE x y ww hh l)) ∧ Ext w w' := by
  have Hn := hidA hn
  clear hn
  by_cases he : regE x y ww hh = 0
  · obtain ⟨h1, h2, h3, h4, h5, _⟩ := regE_zero he
    obtain ⟨p1, p2⟩ := prod_bd (A := 512) (B := 512) (by omega : 0 ≤ ww) h2 (by omega : 0 ≤ hh) h4
    have He := hidA he
    clear he
    by_cases hl : (n : Int) = ww * hh
    · have hl' : ((n : Int) != ww * hh) = false := by simp [hl]
      have HF := hidA (fieldE_num (l := l) He.out (by rw [Hn.out]; exact hl))
      clear hl
      go_enter Try.func17, Try.ntmps17
      go_wp2_with fail
      refine (regionError_any _ _ _ _ _).mono ?_
      rw [He.out]
      rintro e w1 ⟨rfl, hb1⟩
      have hc1 := hb1.cell
      go_wp2_with fail
      refine (numberError_any A n c l _ Hn.out ((hr.alloc _).ext hb1) hb).mono ?_
      rintro e w2 ⟨rfl, rfl⟩
      go_wp2
      go_ret
      exact ⟨ret_i HF.out.symm, ((Ext.refl _).alloc _).trans hb1⟩
    · have hl' : ((n : Int) != ww * hh) = true := by simp [hl]
      have HF := hidA (fieldE_len (l := l) He.out (by rw [Hn.out]; exact hl))
      clear hl
      go_enter Try.func17, Try.ntmps17
      go_wp2_with fail
      refine (regionError_any _ _ _ _ _).mono ?_
      rw [He.out]
      rintro e w1 ⟨rfl, hb1⟩
      have hc1 := hb1.cell
      go_wp2
      go_ret
      exact ⟨ret_i HF.out.symm, ((Ext.refl _).alloc _).trans hb1⟩
  · have HF := hidA (fieldE_reg (l := l) he)
    have he' : (regE x y ww hh != 0) = true := by simp [he]
    clear he
    go_enter Try.func17, Try.ntmps17
    go_wp2_with fail
    refine (regionError_any _ _ _ _ _).mono ?_
    rintro e w1 ⟨rfl, hb1⟩
    go_wp2
    go_ret
    exact ⟨ret_i HF.out.symm, ((Ext.refl _).alloc _).trans hb1⟩

end Go.Proofs.Ytinohfgokpbcdaa
namespace Go.Proofs.Ytinohfgokpbcdaa
open Go.RowKit

/-- A slice of the call's own: as Rd, and its cells lie from block b on. -/
def Rdb (b : Nat) (w : World) (A : Option Addr) (xs : List Value) : Prop :=
  xs ≠ [] → ∃ ad, A = some ad ∧ b ≤ ad.block ∧ ad.block < w.heap.size ∧ ∀ j u, xs[j]? = some u → w.cell? (ad.add j) = some u

theorem Rdb.rd {b : Nat} {w : World} {A : Option Addr} {xs : List Value} (h : Rdb b w A xs) : Rd w A xs := fun hn => by
  obtain ⟨ad, e, _, hl, hc⟩ := h hn
  exact ⟨ad, e, hl, hc⟩
theorem Rdb.mono {b b' : Nat} {w : World} {A : Option Addr} {xs : List Value} (h : Rdb b w A xs) (hb : b' ≤ b) : Rdb b' w A xs := fun hn => by
  obtain ⟨ad, e, hl0, hl, hc⟩ := h hn
  exact ⟨ad, e, Nat.le_trans hb hl0, hl, hc⟩
theorem Rdb.ext {b : Nat} {w w' : World} {A : Option Addr} {xs : List Value} (h : Rdb b w A xs) (hb : Ext w w') : Rdb b w' A xs := fun hn => by
  obtain ⟨ad, e, h0, hl, hc⟩ := h hn
  exact ⟨ad, e, h0, Nat.lt_of_lt_of_le hl hb.size, fun j u hu => (hb.cell _ (by rw [add_block]; exact hl)).trans (hc j u hu)⟩
theorem Rdb.set {b : Nat} {w : World} {A : Option Addr} {xs : List Value} (h : Rdb b w A xs) {p : Addr} (hp : p.block < b) (u : Value) : Rdb b (w.setCell p u) A xs := fun hn => by
  obtain ⟨ad, e, h0, hl, hc⟩ := h hn
  refine ⟨ad, e, h0, by simpa [World.setCell] using hl, fun j v hv => ?_⟩
  rw [World.cell?_of_block (w := w) (Below.heap_setCell _ _ _ _ (by rw [add_block]; omega))]
  exact hc j v hv
theorem Rdb.of_own {w : World} {base : Nat} {e : TypeId} {size n c : Nat} {A : Option Addr} {xs : List Value} (h : w.ownsRow base e size (.slice A n c) n xs) : Rdb base w A xs := fun hn => by
  rcases h.2 with ⟨hv, rfl⟩ | ⟨g, cap, cur, hv, hb, hgg, _⟩
  · exact absurd (List.eq_nil_of_length_eq_zero (by simpa using h.1)) hn
  · injection hv with hA _ _
    subst hA
    exact ⟨_, rfl, hb, (Array.getElem?_eq_some_iff.1 hgg).1, h.cells (g := g) rfl⟩

theorem Rdb.new {w : World} {cs : Array Value} {t : TypeId} {g : Nat} {xs : List Value} (hg : g = w.heap.size) (h : cs.toList = xs) : Rdb w.heap.size (w.alloc (.cells cs t)) (some ⟨g, 0, none⟩) xs := fun hn => by
  obtain ⟨ad, e, hl, hc⟩ := Rd.new (t := t) hg h hn
  refine ⟨ad, e, ?_, hl, hc⟩
  injection e with e
  subst e
  exact Nat.le_of_eq hg.symm
theorem own_far {w : World} {base : Nat} {e : TypeId} {size n g : Nat} {v : Value} {xs : List Value} (h : w.ownsRow base e size v n xs) (hg : g < base) : some g ≠ v.ownBlock := fun he => by
  have := (h.lt g he.symm).1
  omega
theorem Ext.own {a w w' : World} {base : Nat} {e : TypeId} {size n : Nat} {v : Value} {xs : List Value} (hx : Ext a w) (h : w.ownsRow base e size v n xs) (hb : a.heap.size ≤ base) (hg : w.grownBy w' v.ownBlock) : Ext a w' :=
  hx.grown hg (fun k he => by have := (h.lt k he).1; omega)
theorem own_ext {w w' : World} {base : Nat} {e : TypeId} {size n c : Nat} {A : Option Addr} {xs : List Value} (h : w.ownsRow base e size (.slice A n c) n xs) (hb : Ext w w') : w'.ownsRow base e size (.slice A n c) n xs :=
  h.kept (grown_ext hb none) (by cases A <;> simp [Value.ownBlock])
theorem own_lit {w : World} {base : Nat} {e : TypeId} {size g m : Nat} {cs : Array Value} {xs : List Value} (hg : g = w.heap.size) (hb : base ≤ w.heap.size) (hm : m ≤ maxLen) (hs : cs.size = m * size) (hx : cs.toList = xs) :
    (w.alloc (.cells cs e)).ownsRow base e size (.slice (some ⟨g, 0, none⟩) m m) m xs := by
  subst hg
  subst hx
  exact ⟨by simpa using hs, .inr ⟨w.heap.size, m, cs, rfl, hb, heap_alloc_new w _, Nat.le_refl _, hm, hs, by rw [List.take_of_length_le (by simp [hs])]⟩⟩
theorem add_off (a : Addr) (m : Nat) {j : Nat} (h : 0 < j) : (⟨(a.add m).block, (a.add m).off + j, none⟩ : Addr) = a.add (m + j) := by
  rw [← add_add', add_pos (a.add m) h]
theorem set_far {w : World} {g i h j : Nat} (hne : g ≠ h) (u : Value) : (w.setCell ⟨h, j, none⟩ u).cell? ⟨g, i, none⟩ = w.cell? ⟨g, i, none⟩ :=
  World.cell?_of_block (Below.heap_setCell w ⟨h, j, none⟩ u g hne)

end Go.Proofs.Ytinohfgokpbcdaa
namespace Go.Proofs.Ytinohfgokpbcdaa
open Go.RowKit

/-- A right region. -/
def RegOk (X Y W H : Int) : Prop := 1 ≤ W ∧ W ≤ 512 ∧ 1 ≤ H ∧ H ≤ 512 ∧ -4194304 ≤ X ∧ -4194304 ≤ Y ∧ X + W ≤ 4194304 ∧ Y + H ≤ 4194304
theorem RegOk.of_zero {X Y W H : Int} (h : regE X Y W H = 0) : RegOk X Y W H := by
  have := regE_zero h
  unfold RegOk; omega
def InR (X Y W H x y : Int) : Prop := X ≤ x ∧ x < X + W ∧ Y ≤ y ∧ y < Y + H
instance (X Y W H x y : Int) : Decidable (InR X Y W H x y) := by unfold InR; infer_instance
def cellN (X Y W x y : Int) : Int := (y - Y) * W + x - X

theorem cell_bd {X Y W H x y : Int} (hr : RegOk X Y W H) (h : InR X Y W H x y) : 0 ≤ (y - Y) * W ∧ (y - Y) * W ≤ (H - 1) * W ∧ (H - 1) * W + W = W * H ∧ (H - 1) * W ≤ 262144 ∧ 0 ≤ x - X ∧ x - X < W := by
  unfold RegOk at hr
  unfold InR at h
  have h1 : (y - Y) * W ≤ (H - 1) * W := Int.mul_le_mul_of_nonneg_right (by omega) (by omega)
  have h2 : 0 ≤ (y - Y) * W := Int.mul_nonneg (by omega) (by omega)
  have h3 : (H - 1) * W + W = W * H := by rw [Int.sub_mul, Int.mul_comm W H]; omega
  have h4 : (H - 1) * W ≤ 512 * 512 := Int.mul_le_mul (by omega) (by omega) (by omega) (by omega)
  omega

set_option maxHeartbeats 800000 in
theorem place_in (X Y W H x y : Int) (w : World) (hr : RegOk X Y W H) (h : InR X Y W H x y) :
    Calls Try.prog 106 #[.agg #[.int .i64 X, .int .i64 Y, .int .i64 W, .int .i64 H], .int .i64 x, .int .i64 y] w fun e w' => e = .returned (.tuple #[.int .i64 (cellN X Y W x y), .bool true]) ∧ Ext w w' := by
  have hb := cell_bd hr h
  unfold RegOk at hr
  unfold InR at h
  obtain ⟨r1, r2, r3, r4, r5, r6, r7, r8⟩ := hr
  obtain ⟨i1, i2, i3, i4⟩ := h
  obtain ⟨b1, b2, b3, b4, b5, b6⟩ := hb
  have b3' := hidA b3
  clear b3
  go_enter Try.func106, Try.ntmps106
  go_wp2
  go_ret2
  exact ⟨by simp [cellN], (Ext.refl _).alloc _⟩

set_option maxHeartbeats 800000 in
theorem place_out (X Y W H x y : Int) (w : World) (hr : RegOk X Y W H) (h : ¬ InR X Y W H x y) :
    Calls Try.prog 106 #[.agg #[.int .i64 X, .int .i64 Y, .int .i64 W, .int .i64 H], .int .i64 x, .int .i64 y] w fun e w' => e = .returned (.tuple #[.int .i64 0, .bool false]) ∧ Ext w w' := by
  unfold RegOk at hr
  unfold InR at h
  obtain ⟨r1, r2, r3, r4, r5, r6, r7, r8⟩ := hr
  rcases (by omega : x < X ∨ (X ≤ x ∧ y < Y) ∨ (X ≤ x ∧ Y ≤ y ∧ X + W ≤ x) ∨ (X ≤ x ∧ Y ≤ y ∧ x < X + W ∧ Y + H ≤ y)) with h1 | ⟨h1, h2⟩ | ⟨h1, h2, h3⟩ | ⟨h1, h2, h3, h4⟩
  all_goals
    clear h
    go_enter Try.func106, Try.ntmps106
    go_wp2
    go_ret2
    exact ⟨rfl, (Ext.refl _).alloc _⟩

def hasB (X Y W H x y : Int) : Bool := decide (X ≤ x) && decide (x < wrap64 (X + W)) && decide (Y ≤ y) && decide (y < wrap64 (Y + H))
theorem hasB_ok {X Y W H x y : Int} (hr : RegOk X Y W H) : hasB X Y W H x y = decide (InR X Y W H x y) := by
  unfold RegOk at hr
  have e1 : wrap64 (X + W) = X + W := by unfold wrap64; omega
  have e2 : wrap64 (Y + H) = Y + H := by unfold wrap64; omega
  unfold hasB InR
  rw [e1, e2, Bool.eq_iff_iff]
  simp only [Bool.and_eq_true, decide_eq_true_eq, and_assoc]
  exact ⟨fun h => decide_eq_true h, fun h => of_decide_eq_true h⟩

set_option maxHeartbeats 800000 in
theorem has_any (X Y W H x y : Int) (w : World) :
    Calls Try.prog 59 #[.agg #[.int .i64 X, .int .i64 Y, .int .i64 W, .int .i64 H], .int .i64 x, .int .i64 y] w fun e w' => e = .returned (.bool (hasB X Y W H x y)) ∧ Ext w w' := by
  go_enter Try.func59, Try.ntmps59
  go_wp2
  all_goals go_ret
  all_goals refine ⟨ret_b ?_, (Ext.refl _).alloc _⟩
  all_goals (unfold hasB; rw [Bool.eq_iff_iff]; simp; try omega)

set_option maxHeartbeats 800000 in
theorem cell_any (X Y W H x y : Int) (w : World) (hr : RegOk X Y W H) (h : InR X Y W H x y) :
    Calls Try.prog 60 #[.agg #[.int .i64 X, .int .i64 Y, .int .i64 W, .int .i64 H], .int .i64 x, .int .i64 y] w fun e w' => e = .returned (.int .i64 (cellN X Y W x y)) ∧ Ext w w' := by
  have hb := cell_bd hr h
  unfold RegOk at hr
  unfold InR at h
  obtain ⟨r1, r2, r3, r4, r5, r6, r7, r8⟩ := hr
  obtain ⟨i1, i2, i3, i4⟩ := h
  obtain ⟨b1, b2, b3, b4, b5, b6⟩ := hb
  have b3' := hidA b3
  clear b3
  go_enter Try.func60, Try.ntmps60
  go_wp2
  go_ret
  exact ⟨by simp [cellN], (Ext.refl _).alloc _⟩

end Go.Proofs.Ytinohfgokpbcdaa
namespace Go.Proofs.Ytinohfgokpbcdaa
open Go.RowKit
attribute [local go_sem ↓] Go.wp_at_zero Go.wp_at_succ

def stepX (d : Int) : Int := if d = 0 then 1 else if d = 1 then 1 else if d = 2 then 0 else if d = 3 then -1 else if d = 4 then -1 else if d = 5 then -1 else if d = 6 then 0 else 1
def stepY (d : Int) : Int := if d = 0 then 0 else if d = 1 then 1 else if d = 2 then 1 else if d = 3 then 1 else if d = 4 then 0 else if d = 5 then -1 else if d = 6 then -1 else -1

set_option maxRecDepth 100000 in
set_option maxHeartbeats 3200000 in
theorem step_any (d : Int) (w : World) (h0 : 0 ≤ d) (h : d < 8) :
    Calls Try.prog 122 #[.int .i64 d] w fun e w' => e = .returned (.tuple #[.int .i64 (stepX d), .int .i64 (stepY d)]) ∧ Ext w w' := by
  have hd : d = 0 ∨ d = 1 ∨ d = 2 ∨ d = 3 ∨ d = 4 ∨ d = 5 ∨ d = 6 ∨ d = 7 := by omega
  rcases hd with rfl | rfl | rfl | rfl | rfl | rfl | rfl | rfl
  all_goals
    go_enter Try.func122, Try.ntmps122
    go_wp2
    (try (go_quiet (fail)))
    (try go_wp2)
    go_ret2
    exact ⟨rfl, (by repeat (first | exact Ext.refl _ | assumption | refine Ext.setCell ?_ (by first | (simp; done) | (simp; omega)) _ | refine Ext.drewN ?_ _ | refine Ext.alloc ?_ _ | refine Ext.drew ?_ | refine Ext.trans ?_ (by assumption)))⟩
set_option maxRecDepth 100000 in
set_option maxHeartbeats 3200000 in
theorem toward_any (d : Int) (w : World) (h0 : 0 ≤ d) (h : d < 8) :
    Calls Try.prog 151 #[.int .i64 d] w fun e w' => e = .returned (.agg #[.int .i64 (stepX d), .int .i64 (stepY d)]) ∧ Ext w w' := by
  have hd : d = 0 ∨ d = 1 ∨ d = 2 ∨ d = 3 ∨ d = 4 ∨ d = 5 ∨ d = 6 ∨ d = 7 := by omega
  rcases hd with rfl | rfl | rfl | rfl | rfl | rfl | rfl | rfl
  · go_enter Try.func151, Try.ntmps151
    go_wp2
    refine bodyPost_ret (v := .agg #[.int .i64 (stepX 0), .int .i64 (stepY 0)]) (by simp [results, Try.results151, go_sem]; exact ⟨rfl, rfl⟩) rfl ⟨rfl, (by repeat (first | exact Ext.refl _ | assumption | refine Ext.setCell ?_ (by first | (simp; done) | (simp; omega)) _ | refine Ext.drewN ?_ _ | refine Ext.alloc ?_ _ | refine Ext.drew ?_ | refine Ext.trans ?_ (by assumption)))⟩
  · go_enter Try.func151, Try.ntmps151
    go_wp2
    refine bodyPost_ret (v := .agg #[.int .i64 (stepX 1), .int .i64 (stepY 1)]) (by simp [results, Try.results151, go_sem]; exact ⟨rfl, rfl⟩) rfl ⟨rfl, (by repeat (first | exact Ext.refl _ | assumption | refine Ext.setCell ?_ (by first | (simp; done) | (simp; omega)) _ | refine Ext.drewN ?_ _ | refine Ext.alloc ?_ _ | refine Ext.drew ?_ | refine Ext.trans ?_ (by assumption)))⟩
  · go_enter Try.func151, Try.ntmps151
    go_wp2
    refine bodyPost_ret (v := .agg #[.int .i64 (stepX 2), .int .i64 (stepY 2)]) (by simp [results, Try.results151, go_sem]; exact ⟨rfl, rfl⟩) rfl ⟨rfl, (by repeat (first | exact Ext.refl _ | assumption | refine Ext.setCell ?_ (by first | (simp; done) | (simp; omega)) _ | refine Ext.drewN ?_ _ | refine Ext.alloc ?_ _ | refine Ext.drew ?_ | refine Ext.trans ?_ (by assumption)))⟩
  · go_enter Try.func151, Try.ntmps151
    go_wp2
    refine bodyPost_ret (v := .agg #[.int .i64 (stepX 3), .int .i64 (stepY 3)]) (by simp [results, Try.results151, go_sem]; exact ⟨rfl, rfl⟩) rfl ⟨rfl, (by repeat (first | exact Ext.refl _ | assumption | refine Ext.setCell ?_ (by first | (simp; done) | (simp; omega)) _ | refine Ext.drewN ?_ _ | refine Ext.alloc ?_ _ | refine Ext.drew ?_ | refine Ext.trans ?_ (by assumption)))⟩
  · go_enter Try.func151, Try.ntmps151
    go_wp2
    refine bodyPost_ret (v := .agg #[.int .i64 (stepX 4), .int .i64 (stepY 4)]) (by simp [results, Try.results151, go_sem]; exact ⟨rfl, rfl⟩) rfl ⟨rfl, (by repeat (first | exact Ext.refl _ | assumption | refine Ext.setCell ?_ (by first | (simp; done) | (simp; omega)) _ | refine Ext.drewN ?_ _ | refine Ext.alloc ?_ _ | refine Ext.drew ?_ | refine Ext.trans ?_ (by assumption)))⟩
  · go_enter Try.func151, Try.ntmps151
    go_wp2
    refine bodyPost_ret (v := .agg #[.int .i64 (stepX 5), .int .i64 (stepY 5)]) (by simp [results, Try.results151, go_sem]; exact ⟨rfl, rfl⟩) rfl ⟨rfl, (by repeat (first | exact Ext.refl _ | assumption | refine Ext.setCell ?_ (by first | (simp; done) | (simp; omega)) _ | refine Ext.drewN ?_ _ | refine Ext.alloc ?_ _ | refine Ext.drew ?_ | refine Ext.trans ?_ (by assumption)))⟩
  · go_enter Try.func151, Try.ntmps151
    go_wp2
    refine bodyPost_ret (v := .agg #[.int .i64 (stepX 6), .int .i64 (stepY 6)]) (by simp [results, Try.results151, go_sem]; exact ⟨rfl, rfl⟩) rfl ⟨rfl, (by repeat (first | exact Ext.refl _ | assumption | refine Ext.setCell ?_ (by first | (simp; done) | (simp; omega)) _ | refine Ext.drewN ?_ _ | refine Ext.alloc ?_ _ | refine Ext.drew ?_ | refine Ext.trans ?_ (by assumption)))⟩
  · go_enter Try.func151, Try.ntmps151
    go_wp2
    refine bodyPost_ret (v := .agg #[.int .i64 (stepX 7), .int .i64 (stepY 7)]) (by simp [results, Try.results151, go_sem]; exact ⟨rfl, rfl⟩) rfl ⟨rfl, (by repeat (first | exact Ext.refl _ | assumption | refine Ext.setCell ?_ (by first | (simp; done) | (simp; omega)) _ | refine Ext.drewN ?_ _ | refine Ext.alloc ?_ _ | refine Ext.drew ?_ | refine Ext.trans ?_ (by assumption)))⟩
end Go.Proofs.Ytinohfgokpbcdaa
