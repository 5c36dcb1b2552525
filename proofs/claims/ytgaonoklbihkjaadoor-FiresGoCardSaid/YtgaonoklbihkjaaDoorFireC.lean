/- What burns, in memory: the burning ones and the queue. -/
import Derived.Test.YtgaonoklbihkjaaDoorFireB
import Derived.Deep.AppendLies
import Derived.OwnWalk
namespace Go.Proofs.YtgaonoklbihkjaaDoor
open Go.RowKit

def spot (x y : Int) : PlantR := ⟨0, x, y, 0, 0⟩

theorem Rd.reads {w : World} {ad : Addr} {xs : List Value} (h : Rd w (some ad) xs) : ∀ j u, xs[j]? = some u → w.cell? (ad.add j) = some u := fun j u hu => by
  obtain ⟨ad', e, _, hc⟩ := h (by rintro e; rw [e] at hu; simp at hu)
  injection e with e
  subst e
  exact hc j u hu
theorem rd_newd {w : World} {cs : Array Value} {t : TypeId} {g : Nat} {xs : List Value} (hg : g = w.heap.size) (h : cs.toList = xs) : Rd (w.alloc (.cells cs t)).drew (some ⟨g, 0, none⟩) xs := (Rd.new hg h).ext ((Ext.refl _).drew)
theorem spot_far (x y : Int) : (spot x y).farB = (!(decide (-4194304 ≤ x) && decide (x ≤ 4194304)) || !(decide (-4194304 ≤ y) && decide (y ≤ 4194304))) := by
  unfold PlantR.farB spot
  by_cases h1 : -4194304 ≤ x <;> by_cases h2 : x ≤ 4194304 <;> by_cases h3 : -4194304 ≤ y <;> by_cases h4 : y ≤ 4194304 <;> simp [h1, h2, h3, h4] <;> omega

def bools (m : Nat) (b : Nat → Bool) : Array Value := ((List.range m).map fun k => Value.bool (b k)).toArray
def upB (b : Nat → Bool) (i : Nat) (x : Bool) : Nat → Bool := fun k => if k = i then x else b k
def ints (q : List Nat) : List Value := q.map fun (k : Nat) => Value.int .i64 (k : Int)
theorem bools_get {m k : Nat} (b : Nat → Bool) (hk : k < m) : (bools m b)[k]? = some (.bool (b k)) := by
  unfold bools
  rw [List.getElem?_toArray, List.getElem?_map, List.getElem?_range hk]
  rfl
theorem bools_set {m k : Nat} (b : Nat → Bool) (x : Bool) : (bools m b).setIfInBounds k (.bool x) = bools m (upB b k x) := by
  apply Array.ext
  · simp [bools]
  · intro j h1 h2
    have hj : j < m := by simpa [bools] using h2
    have e1 : (bools m (upB b k x))[j] = .bool (upB b k x j) := by simp [bools]
    have e2 : (bools m b)[j]'(by simpa [bools] using hj) = .bool (b j) := by simp [bools]
    rw [Array.getElem_setIfInBounds (by simpa [bools] using hj), e1, e2]
    unfold upB
    by_cases h : k = j
    · rw [if_pos h, if_pos h.symm]
    · rw [if_neg h, if_neg (fun e => h e.symm)]
theorem ints_length (q : List Nat) : (ints q).length = q.length := by simp [ints]
theorem ints_get {q : List Nat} {k : Nat} (hk : k < q.length) : (ints q)[k]? = some (.int .i64 (q[k] : Nat)) := by simp [ints, hk]
theorem ints_snoc (q : List Nat) (i : Nat) : ints (q ++ [i]) = ints q ++ [.int .i64 (i : Int)] := by simp [ints]
theorem ints_one (q : List Nat) : ∀ u ∈ ints q, u.oneCell' = true := by
  intro u hu
  simp [ints] at hu
  obtain ⟨k, _, rfl⟩ := hu
  rfl

/-- a slice of the call's own, and what it holds -/
def OwnI (w : World) (base : Nat) (qv : Value) (q : List Nat) : Prop := w.ownsRow base 3 1 qv q.length (ints q)
theorem OwnI.nil (w : World) (base : Nat) : OwnI w base (.slice none 0 0) [] := World.ownsRow_nil w base _ 1
theorem OwnI.grown {w w' : World} {base : Nat} {qv : Value} {q : List Nat} (h : OwnI w base qv q) {r : Option Nat} (hg : w.grownBy w' r) (hne : qv.ownBlock = none ∨ qv.ownBlock ≠ r) : OwnI w' base qv q := World.ownsRow.kept h hg hne
theorem OwnI.ext {w w' : World} {base : Nat} {qv : Value} {q : List Nat} (h : OwnI w base qv q) (hx : Ext w w') : OwnI w' base qv q := h.grown (grown_ext hx none) (by cases h : qv.ownBlock <;> simp)
theorem OwnI.set {w : World} {base : Nat} {qv : Value} {q : List Nat} (h : OwnI w base qv q) {a : Addr} (ha : some a.block ≠ qv.ownBlock) (u : Value) : OwnI (w.setCell a u) base qv q := ownsRow_setCell_other h (fun e => ha e.symm) u
theorem OwnI.form {w : World} {base : Nat} {qv : Value} {q : List Nat} (h : OwnI w base qv q) : qv = .slice none 0 0 ∧ q = [] ∨ ∃ g cap, qv = .slice (some ⟨g, 0, none⟩) q.length cap ∧ q.length ≤ cap := by
  rcases h.2 with ⟨h1, h2⟩ | ⟨g, cap, cur, hv, _, _, h3, _⟩
  · exact .inl ⟨h1, List.eq_nil_of_length_eq_zero h2⟩
  · exact .inr ⟨g, cap, hv, h3⟩
/-- reads as a slice -/
theorem OwnI.rd {w : World} {base : Nat} {A : Option Addr} {n c : Nat} {q : List Nat} (h : OwnI w base (.slice A n c) q) (hn : n = q.length) : Rd w A (ints q) := by
  subst hn
  exact Rd.of_own h

structure FS (W0 w : World) (hl hp ht hb hq ga : Nat) (A : Option Addr) (n c : Nat) (B : Option Addr) (m d : Nat) (ax ay : Int) (b : Nat → Bool) (q : List Nat) (qv : Value) : Prop where
  kb : Bk w hl 22 #[.slice A n c]
  pb : Bk w hp 23 #[.slice B m d]
  tb : Bk w ht 36 #[.int .i64 ax, .int .i64 ay]
  bb : Bk w hb 91 #[.slice (some ⟨ga, 0, none⟩) m m]
  ab : Bk w ga 4 (bools m b)
  qb : Bk w hq 67 #[qv]
  own : OwnI w W0.heap.size qv q
  ext : Ext W0 w
  g1 : W0.heap.size ≤ ga
  g2 : W0.heap.size ≤ hq
section
variable {W0 w : World} {hl hp ht hb hq ga : Nat} {A : Option Addr} {n c : Nat} {B : Option Addr} {m d : Nat} {ax ay : Int} {b : Nat → Bool} {q : List Nat} {qv : Value}
theorem FS.step (h : FS W0 w hl hp ht hb hq ga A n c B m d ax ay b q qv) {w' : World} (hx : Ext w w') : FS W0 w' hl hp ht hb hq ga A n c B m d ax ay b q qv :=
  ⟨h.kb.ext hx, h.pb.ext hx, h.tb.ext hx, h.bb.ext hx, h.ab.ext hx, h.qb.ext hx, h.own.ext hx, h.ext.trans hx, h.g1, h.g2⟩
theorem FS.burn (h : FS W0 w hl hp ht hb hq ga A n c B m d ax ay b q qv) (i : Nat) (x : Bool) : FS W0 (w.setCell ⟨ga, i, none⟩ (.bool x)) hl hp ht hb hq ga A n c B m d ax ay (upB b i x) q qv := by
  refine ⟨h.kb.far ?_ _, h.pb.far ?_ _, h.tb.far ?_ _, h.bb.far ?_ _, ?_, h.qb.far ?_ _, h.own.set ?_ _, h.ext.setCell h.g1 _, h.g1, h.g2⟩
  · exact h.kb.ne h.ab (by decide)
  · exact h.pb.ne h.ab (by decide)
  · exact h.tb.ne h.ab (by decide)
  · exact h.bb.ne h.ab (by decide)
  · rw [← bools_set]
    exact h.ab.set _ _
  · exact h.qb.ne h.ab (by decide)
  · exact own_ne h.own h.ab (by decide)
theorem FS.push (h : FS W0 w hl hp ht hb hq ga A n c B m d ax ay b q qv) {w' : World} {o : Obj} {qv' : Value} {i : Nat} (hg : (w.alloc o).grownBy w' qv.ownBlock) (hown : w'.ownsRow W0.heap.size 3 1 qv' (q.length + 1) (ints q ++ [.int .i64 (i : Int)])) : FS W0 (w'.setCell ⟨hq, 0, none⟩ qv') hl hp ht hb hq ga A n c B m d ax ay b (q ++ [i]) qv' := by
  have h' := h.step ((Ext.refl w).alloc o)
  have hne : ∀ {g : Nat} {t : TypeId} {cs : Array Value}, Bk (w.alloc o) g t cs → 3 ≠ t → Bk w' g t cs := fun hB ht => hB.grown hg (own_ne h'.own hB ht)
  have k1 := hne h'.kb (by decide)
  have k2 := hne h'.pb (by decide)
  have k6 := hne h'.tb (by decide)
  have k3 := hne h'.bb (by decide)
  have k4 := hne h'.ab (by decide)
  have k5 := hne h'.qb (by decide)
  have hx : Ext W0 w' := h'.ext.grown hg (fun k he => (h'.own.lt k he).1)
  have hO : OwnI w' W0.heap.size qv' (q ++ [i]) := by
    unfold OwnI
    rw [ints_snoc, List.length_append]
    exact hown
  refine ⟨k1.far ?_ _, k2.far ?_ _, k6.far ?_ _, k3.far ?_ _, k4.far ?_ _, ?_, hO.set ?_ _, hx.setCell h.g2 _, h.g1, h.g2⟩
  · exact k1.ne k5 (by decide)
  · exact k2.ne k5 (by decide)
  · exact k6.ne k5 (by decide)
  · exact k3.ne k5 (by decide)
  · exact k4.ne k5 (by decide)
  · exact k5.set 0 _
  · exact own_ne hO k5 (by decide)
/-- what the calls of the closure leave -/
structure FB (W0 w : World) (hl hp ht : Nat) (A : Option Addr) (n c : Nat) (B : Option Addr) (m d : Nat) (ax ay : Int) : Prop where
  kb : Bk w hl 22 #[.slice A n c]
  pb : Bk w hp 23 #[.slice B m d]
  tb : Bk w ht 36 #[.int .i64 ax, .int .i64 ay]
  ext : Ext W0 w
theorem FB.step (h : FB W0 w hl hp ht A n c B m d ax ay) {w' : World} (hx : Ext w w') : FB W0 w' hl hp ht A n c B m d ax ay := ⟨h.kb.ext hx, h.pb.ext hx, h.tb.ext hx, h.ext.trans hx⟩
theorem FS.fb (h : FS W0 w hl hp ht hb hq ga A n c B m d ax ay b q qv) : FB W0 w hl hp ht A n c B m d ax ay := ⟨h.kb, h.pb, h.tb, h.ext⟩
end
end Go.Proofs.YtgaonoklbihkjaaDoor
