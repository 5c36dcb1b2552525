/- More plain words for memory: slices of the call's own, read from a block on. -/
import Derived.Test.YtpgdinpckolfpaaWords
namespace Go.Proofs.Ytpgdinpckolfpaa
open Go.RowKit

/-- A slice of the call's own: as Rd, and its cells lie from block b on. -/
def Rdb (b : Nat) (w : World) (A : Option Addr) (xs : List Value) : Prop :=
  xs ≠ [] → ∃ ad, A = some ad ∧ b ≤ ad.block ∧ ad.block < w.heap.size ∧ ∀ j u, xs[j]? = some u → w.cell? (ad.add j) = some u

theorem Rdb.rd {b : Nat} {w : World} {A : Option Addr} {xs : List Value} (h : Rdb b w A xs) : Rd w A xs := fun hn => by
  obtain ⟨ad, e, _, hl, hc⟩ := h hn
  exact ⟨ad, e, hl, hc⟩
theorem Rdb.mono {b b' : Nat} {w : World} {A : Option Addr} {xs : List Value} (h : Rdb b w A xs) (hb : b' ≤ b) : Rdb b' w A xs := fun hn => by
  obtain ⟨ad, e, hl0, hl, hc⟩ := h hn
  exact ⟨ad, e, Nat.le_trans hb hl0, hl, hc⟩
theorem Rdb.ext {b : Nat} {w w' : World} {A : Option Addr} {xs : List Value} (h : Rdb b w A xs) (hb : Ext w w') : Rdb b w' A xs := fun hn => by
  obtain ⟨ad, e, h0, hl, hc⟩ := h hn
  exact ⟨ad, e, h0, Nat.lt_of_lt_of_le hl hb.size, fun j u hu => (hb.cell _ (by rw [add_block]; exact hl)).trans (hc j u hu)⟩
theorem Rdb.set {b : Nat} {w : World} {A : Option Addr} {xs : List Value} (h : Rdb b w A xs) {p : Addr} (hp : p.block < b) (u : Value) : Rdb b (w.setCell p u) A xs := fun hn => by
  obtain ⟨ad, e, h0, hl, hc⟩ := h hn
  refine ⟨ad, e, h0, by simpa [World.setCell] using hl, fun j v hv => ?_⟩
  rw [World.cell?_of_block (w := w) (Below.heap_setCell _ _ _ _ (by rw [add_block]; omega))]
  exact hc j v hv
theorem Rdb.of_own {w : World} {base : Nat} {e : TypeId} {size n c : Nat} {A : Option Addr} {xs : List Value} (h : w.ownsRow base e size (.slice A n c) n xs) : Rdb base w A xs := fun hn => by
  rcases h.2 with ⟨hv, rfl⟩ | ⟨g, cap, cur, hv, hb, hgg, _⟩
  · exact absurd (List.eq_nil_of_length_eq_zero (by simpa using h.1)) hn
  · injection hv with hA _ _
    subst hA
    exact ⟨_, rfl, hb, (Array.getElem?_eq_some_iff.1 hgg).1, h.cells (g := g) rfl⟩

theorem Rdb.new {w : World} {cs : Array Value} {t : TypeId} {g : Nat} {xs : List Value} (hg : g = w.heap.size) (h : cs.toList = xs) : Rdb w.heap.size (w.alloc (.cells cs t)) (some ⟨g, 0, none⟩) xs := fun hn => by
  obtain ⟨ad, e, hl, hc⟩ := Rd.new (t := t) hg h hn
  refine ⟨ad, e, ?_, hl, hc⟩
  injection e with e
  subst e
  exact Nat.le_of_eq hg.symm
theorem own_far {w : World} {base : Nat} {e : TypeId} {size n g : Nat} {v : Value} {xs : List Value} (h : w.ownsRow base e size v n xs) (hg : g < base) : some g ≠ v.ownBlock := fun he => by
  have := (h.lt g he.symm).1
  omega
theorem Ext.own {a w w' : World} {base : Nat} {e : TypeId} {size n : Nat} {v : Value} {xs : List Value} (hx : Ext a w) (h : w.ownsRow base e size v n xs) (hb : a.heap.size ≤ base) (hg : w.grownBy w' v.ownBlock) : Ext a w' :=
  hx.grown hg (fun k he => by have := (h.lt k he).1; omega)
theorem own_ext {w w' : World} {base : Nat} {e : TypeId} {size n c : Nat} {A : Option Addr} {xs : List Value} (h : w.ownsRow base e size (.slice A n c) n xs) (hb : Ext w w') : w'.ownsRow base e size (.slice A n c) n xs :=
  h.kept (grown_ext hb none) (by cases A <;> simp [Value.ownBlock])
theorem own_lit {w : World} {base : Nat} {e : TypeId} {size g m : Nat} {cs : Array Value} {xs : List Value} (hg : g = w.heap.size) (hb : base ≤ w.heap.size) (hm : m ≤ maxLen) (hs : cs.size = m * size) (hx : cs.toList = xs) :
    (w.alloc (.cells cs e)).ownsRow base e size (.slice (some ⟨g, 0, none⟩) m m) m xs := by
  subst hg
  subst hx
  exact ⟨by simpa using hs, .inr ⟨w.heap.size, m, cs, rfl, hb, heap_alloc_new w _, Nat.le_refl _, hm, hs, by rw [List.take_of_length_le (by simp [hs])]⟩⟩
theorem add_off (a : Addr) (m : Nat) {j : Nat} (h : 0 < j) : (⟨(a.add m).block, (a.add m).off + j, none⟩ : Addr) = a.add (m + j) := by
  rw [← add_add', add_pos (a.add m) h]
theorem set_far {w : World} {g i h j : Nat} (hne : g ≠ h) (u : Value) : (w.setCell ⟨h, j, none⟩ u).cell? ⟨g, i, none⟩ = w.cell? ⟨g, i, none⟩ :=
  World.cell?_of_block (Below.heap_setCell w ⟨h, j, none⟩ u g hne)

end Go.Proofs.Ytpgdinpckolfpaa
