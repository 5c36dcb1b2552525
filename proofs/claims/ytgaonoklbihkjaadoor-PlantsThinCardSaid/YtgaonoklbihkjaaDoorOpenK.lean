/- How slices of kinds and of plants lie in memory as arguments, opened. -/
import Derived.Test.YtgaonoklbihkjaaDoorRows
import Derived.Test.YtgaonoklbihkjaaDoorCards
import Derived.Test.YtgaonoklbihkjaaDoorTie
import Derived.Test.YtgaonoklbihkjaaDoorPlantsA
import Derived.WalkKit
import Derived.ProofKit
import Derived.OpenShut
import Derived.SizedLaws
import Derived.Carry
import Derived.LaidMore
import Derived.Lay
import Derived.SevenTiedAt
import Derived.Laws.Cover2
import Derived.Lib.SmallJoins
import Derived.Deep.Slices
import Derived.DataReads
namespace Go.Proofs.YtgaonoklbihkjaaDoor
open Go.ChangeShapes Go.WideShapes Go.ChangeAt Go.RowKit Go.Joins Go.Deep

theorem own : ownKnob Tryd.prog.godebug = none := by kernel_rfl
theorem laidOut : laidOutB Tryd.prog = true := by kernel_rfl
theorem cellsKind : Tryd.prog.cellsOf 41 = 13 := by kernel_rfl
theorem cellsPlant : Tryd.prog.cellsOf 46 = 5 := by kernel_rfl
theorem cellsString : Tryd.prog.cellsOf 9 = 1 := by kernel_rfl
theorem cellsFloat : Tryd.prog.cellsOf 24 = 1 := by kernel_rfl
theorem cellsInt : Tryd.prog.cellsOf 3 = 1 := by kernel_rfl

theorem list13 {α : Type} {cs : List α} (h : cs.length = 13) : ∃ c0 c1 c2 c3 c4 c5 c6 c7 c8 c9 c10 c11 c12, cs = [c0, c1, c2, c3, c4, c5, c6, c7, c8, c9, c10, c11, c12] := by
  match cs, h with
  | [c0, c1, c2, c3, c4, c5, c6, c7, c8, c9, c10, c11, c12], _ => exact ⟨c0, c1, c2, c3, c4, c5, c6, c7, c8, c9, c10, c11, c12, rfl⟩

section
variable {H : Type} {enc : TypeId × Value → H} {W : World} {base : Nat}
theorem trod_flo {P : Program} {w : World} {spare : Nat → Bool} {held : Bool} {fuel : Nat} {t : TypeId} {k : FloatKind} {cs : List Value} {x : DataW H × List MemPlace} (ht : P.underlying t = some (.float k)) (h : DataW.trod enc P w base spare held fuel t cs = some x) : ∃ b, cs = [.float k b] := by
  cases fuel with
  | zero => simp [DataW.trod] at h
  | succ n =>
    unfold DataW.trod at h
    rw [ht] at h
    split at h <;> simp_all
theorem one_flo {spare : Nat → Bool} {held : Bool} {n : Nat} {v : Value} {y : Option (DataW H × List MemPlace)} (h : DataW.trod enc Tryd.prog W base spare held n 24 [v] = y) (hy : y.isSome = true) : ∃ b, v = .float .f32 b := by
  obtain ⟨x, hx⟩ := Option.isSome_iff_exists.1 hy
  rw [hx] at h
  obtain ⟨b, hb⟩ := trod_flo Tryd.underlying24 h
  exact ⟨b, by simpa using hb⟩
theorem one_int {spare : Nat → Bool} {held : Bool} {n : Nat} {v : Value} {y : Option (DataW H × List MemPlace)} (h : DataW.trod enc Tryd.prog W base spare held n 3 [v] = y) (hy : y.isSome = true) : ∃ b, v = .int .i64 b := by
  obtain ⟨x, hx⟩ := Option.isSome_iff_exists.1 hy
  rw [hx] at h
  obtain ⟨b, hb, _, _⟩ := DataW.trod_int Tryd.underlying3 h
  exact ⟨b, by simpa using hb⟩
theorem one_str {spare : Nat → Bool} {held : Bool} {n : Nat} {v : Value} {y : Option (DataW H × List MemPlace)} (h : DataW.trod enc Tryd.prog W base spare held n 9 [v] = y) (hy : y.isSome = true) : ∃ s : ByteArray, v = .string s ∧ s.size ≤ maxLen := by
  obtain ⟨x, hx⟩ := Option.isSome_iff_exists.1 hy
  rw [hx] at h
  obtain ⟨s, hs, _, hl⟩ := DataW.trod_string Tryd.underlying9 h
  exact ⟨s, by simpa using hs, hl⟩
end
instance : Inhabited KindR := ⟨⟨⟨#[]⟩, 0, 0, 0, 0, 0, 0, 0, 0, 0, 0, 0, 0⟩⟩
theorem bytesKind : Tryd.prog.bytesOf 41 = 72 := by kernel_rfl
instance : Inhabited PlantR := ⟨⟨0, 0, 0, 0, 0⟩⟩
theorem bytesPlant : Tryd.prog.bytesOf 46 = 40 := by kernel_rfl
theorem list5 {α : Type} {cs : List α} (h : cs.length = 5) : ∃ c0 c1 c2 c3 c4, cs = [c0, c1, c2, c3, c4] := by
  match cs, h with
  | [c0, c1, c2, c3, c4], _ => exact ⟨c0, c1, c2, c3, c4, rfl⟩
section
variable {H : Type} {enc : TypeId × Value → H} {W : World} {base : Nat}
set_option maxRecDepth 100000 in
theorem kind_of_trod {spare : Nat → Bool} {held : Bool} {fuel : Nat} {cs : List Value} {y : DataW H × List MemPlace} (hf : DataW.trod enc Tryd.prog W base spare held fuel 41 cs = some y) : ∃ x : KindR, cs = x.cells ∧ x.s.size ≤ maxLen := by
  obtain ⟨xs, n, _, _, hl, hlen, hF⟩ := DataW.trod_struct Tryd.underlying41 hf
  rw [cellsKind] at hl
  obtain ⟨c0, c1, c2, c3, c4, c5, c6, c7, c8, c9, c10, c11, c12, rfl⟩ := list13 hl
  have hx : ∀ i, i < 13 → (xs[i]?).isSome = true := fun i hi => by
    have : xs.length = 13 := hlen
    rw [List.getElem?_eq_getElem (by omega)]
    rfl
  obtain ⟨s, rfl, hs⟩ := one_str (by simpa [Value.cells, cellsString] using hF 0 _ rfl) (hx 0 (by omega))
  obtain ⟨a0, rfl⟩ := one_flo (by simpa [Value.cells, cellsFloat] using hF 1 _ rfl) (hx 1 (by omega))
  obtain ⟨a1, rfl⟩ := one_flo (by simpa [Value.cells, cellsFloat] using hF 2 _ rfl) (hx 2 (by omega))
  obtain ⟨a2, rfl⟩ := one_flo (by simpa [Value.cells, cellsFloat] using hF 3 _ rfl) (hx 3 (by omega))
  obtain ⟨a3, rfl⟩ := one_flo (by simpa [Value.cells, cellsFloat] using hF 4 _ rfl) (hx 4 (by omega))
  obtain ⟨a4, rfl⟩ := one_flo (by simpa [Value.cells, cellsFloat] using hF 5 _ rfl) (hx 5 (by omega))
  obtain ⟨a5, rfl⟩ := one_flo (by simpa [Value.cells, cellsFloat] using hF 6 _ rfl) (hx 6 (by omega))
  obtain ⟨a6, rfl⟩ := one_flo (by simpa [Value.cells, cellsFloat] using hF 7 _ rfl) (hx 7 (by omega))
  obtain ⟨a7, rfl⟩ := one_flo (by simpa [Value.cells, cellsFloat] using hF 8 _ rfl) (hx 8 (by omega))
  obtain ⟨a8, rfl⟩ := one_flo (by simpa [Value.cells, cellsFloat] using hF 9 _ rfl) (hx 9 (by omega))
  obtain ⟨a9, rfl⟩ := one_flo (by simpa [Value.cells, cellsFloat] using hF 10 _ rfl) (hx 10 (by omega))
  obtain ⟨p, rfl⟩ := one_int (by simpa [Value.cells, cellsInt] using hF 11 _ rfl) (hx 11 (by omega))
  obtain ⟨q, rfl⟩ := one_int (by simpa [Value.cells, cellsInt] using hF 12 _ rfl) (hx 12 (by omega))
  exact ⟨⟨s, a0, a1, a2, a3, a4, a5, a6, a7, a8, a9, p, q⟩, rfl, hs⟩

theorem flat_mem {α β : Type} {f : α → List β} {m : Nat} (hf : ∀ x, (f x).length = m) {l : List α} {j : Nat} {u : β} (hu : (l.flatMap f)[j]? = some u) (hm : 0 < m) : ∃ k i, ∃ hk : k < l.length, i < m ∧ j = k * m + i ∧ (f l[k])[i]? = some u := by
  have hl : (l.flatMap f).length = l.length * m := by
    clear hu
    induction l with
    | nil => simp
    | cons x r ih => rw [List.flatMap_cons, List.length_append, ih, hf, List.length_cons, Nat.add_mul]; omega
  have hj : j < l.length * m := by
    have := (List.getElem?_eq_some_iff.1 hu).1
    omega
  have hk : j / m < l.length := (Nat.div_lt_iff_lt_mul hm).2 hj
  have hi : j % m < m := Nat.mod_lt _ hm
  have e : j = j / m * m + j % m := by rw [Nat.mul_comm]; exact (Nat.div_add_mod j m).symm
  refine ⟨j / m, j % m, hk, hi, e, ?_⟩
  rw [← flat_get hf hk hi, ← e]
  exact hu

theorem cell_lt {w : World} {a : Addr} {v : Value} (h : w.cell? a = some v) : a.block < w.heap.size := by
  by_cases hb : a.block < w.heap.size
  · exact hb
  · simp [World.cell?, Array.getElem?_eq_none (Nat.le_of_not_lt hb)] at h

set_option maxRecDepth 100000 in
theorem open_kinds {r : Reach} {b0 : Nat} {held : Bool} {v : Value} {d : DataW H} {ps : List MemPlace} (hv : Value.okWide Tryd.prog W r b0 22 v)
    (h : DataW.Trod enc Tryd.prog W base (fun _ => true) held 22 v d ps) (hsz : ∀ n ∈ d.weights Tryd.prog 22, n ≤ reachBytes) :
    ∃ (A : Option Addr) (n c : Nat) (l : List KindR), v = .slice A n c ∧ l.length = n ∧ Rd W A (kcells l) ∧ n ≤ c ∧ n ≤ 4000000000000 ∧ ∀ x ∈ l, x.s.size ≤ maxLen := by
  obtain ⟨a0, len0, cap0, rfl⟩ := okWide_slice Tryd.underlying22 hv
  obtain ⟨fuel, hf⟩ := h
  rcases open_slice Tryd.underlying22 hf with ⟨hc, hd⟩ | ⟨a, len, cap, m, n, D, Pl, hc, _, hl, _, hm, hd, hV⟩
  · simp [Value.cells] at hc
    obtain ⟨rfl, rfl, rfl⟩ := hc
    exact ⟨none, 0, 0, [], rfl, rfl, Rd.nil _ _, by omega, by omega, fun x hx => by cases hx⟩
  · simp [Value.cells] at hc
    obtain ⟨rfl, rfl, rfl⟩ := hc
    simp only [if_true] at hm
    subst hm
    simp only [Prod.mk.injEq] at hd
    obtain ⟨rfl, _⟩ := hd
    obtain ⟨f, hff⟩ := choose_lt (α := KindR) (n := len0) (p := fun i x => x.s.size ≤ maxLen ∧ ∀ j, j < 13 → W.cell? ((a.add (i * 13)).add j) = x.cells[j]?) (fun i hi => by
      obtain ⟨cs', h1, h2⟩ := hV i (by omega)
      rw [cellsKind] at h1
      obtain ⟨_, _, h3⟩ := World.cells?_some h1
      obtain ⟨x, rfl, hs⟩ := kind_of_trod h2
      exact ⟨x, hs, h3⟩)
    have hw : (len0 + (m - len0)) * 72 ≤ reachBytes := by
      refine hsz _ ?_
      simp [DataW.weights, Tryd.underlying22, bytesKind]
    refine ⟨some a, len0, m, (List.range len0).map f, rfl, by simp, ?_, hl, by simp only [reachBytes] at hw; omega, ?_⟩
    · intro hne
      have hpos : 0 < len0 := by
        rcases Nat.eq_zero_or_pos len0 with h | h
        · subst h; exact absurd rfl hne
        · exact h
      refine ⟨a, rfl, ?_, ?_⟩
      · have := cell_lt ((hff 0 hpos).2 0 (by omega))
        rw [add_add'] at this
        rwa [add_block] at this
      · intro j u hu
        obtain ⟨k, i, hk, hi, rfl, hu'⟩ := flat_mem (f := KindR.cells) (m := 13) (fun _ => rfl) hu (by omega)
        have hk' : k < len0 := by simpa using hk
        have h1 := (hff k hk').2 i hi
        rw [add_add'] at h1
        rw [h1]
        simpa using hu'
    · intro x hx
      obtain ⟨i, hi, rfl⟩ := List.mem_map.1 hx
      exact (hff i (List.mem_range.1 hi)).1
set_option maxRecDepth 100000 in
theorem plant_of_trod {spare : Nat → Bool} {held : Bool} {fuel : Nat} {cs : List Value} {y : DataW H × List MemPlace} (hf : DataW.trod enc Tryd.prog W base spare held fuel 46 cs = some y) : ∃ x : PlantR, cs = x.cells := by
  obtain ⟨xs, n, _, _, hl, hlen, hF⟩ := DataW.trod_struct Tryd.underlying46 hf
  rw [cellsPlant] at hl
  obtain ⟨c0, c1, c2, c3, c4, rfl⟩ := list5 hl
  have hx : ∀ i, i < 5 → (xs[i]?).isSome = true := fun i hi => by
    have : xs.length = 5 := hlen
    rw [List.getElem?_eq_getElem (by omega)]
    rfl
  obtain ⟨a0, rfl⟩ := one_int (by simpa [Value.cells, cellsInt] using hF 0 _ rfl) (hx 0 (by omega))
  obtain ⟨a1, rfl⟩ := one_int (by simpa [Value.cells, cellsInt] using hF 1 _ rfl) (hx 1 (by omega))
  obtain ⟨a2, rfl⟩ := one_int (by simpa [Value.cells, cellsInt] using hF 2 _ rfl) (hx 2 (by omega))
  obtain ⟨a3, rfl⟩ := one_flo (by simpa [Value.cells, cellsFloat] using hF 3 _ rfl) (hx 3 (by omega))
  obtain ⟨a4, rfl⟩ := one_int (by simpa [Value.cells, cellsInt] using hF 4 _ rfl) (hx 4 (by omega))
  exact ⟨⟨a0, a1, a2, a3, a4⟩, rfl⟩

set_option maxRecDepth 100000 in
theorem open_plants {r : Reach} {b0 : Nat} {held : Bool} {v : Value} {d : DataW H} {ps : List MemPlace} (hv : Value.okWide Tryd.prog W r b0 23 v)
    (h : DataW.Trod enc Tryd.prog W base (fun _ => true) held 23 v d ps) (hsz : ∀ n ∈ d.weights Tryd.prog 23, n ≤ reachBytes) :
    ∃ (A : Option Addr) (n c : Nat) (l : List PlantR), v = .slice A n c ∧ l.length = n ∧ Rd W A (pcells l) ∧ n ≤ c ∧ n ≤ 4000000000000 := by
  obtain ⟨a0, len0, cap0, rfl⟩ := okWide_slice Tryd.underlying23 hv
  obtain ⟨fuel, hf⟩ := h
  rcases open_slice Tryd.underlying23 hf with ⟨hc, hd⟩ | ⟨a, len, cap, m, n, D, Pl, hc, _, hl, _, hm, hd, hV⟩
  · simp [Value.cells] at hc
    obtain ⟨rfl, rfl, rfl⟩ := hc
    exact ⟨none, 0, 0, [], rfl, rfl, Rd.nil _ _, by omega, by omega⟩
  · simp [Value.cells] at hc
    obtain ⟨rfl, rfl, rfl⟩ := hc
    simp only [if_true] at hm
    subst hm
    simp only [Prod.mk.injEq] at hd
    obtain ⟨rfl, _⟩ := hd
    obtain ⟨f, hff⟩ := choose_lt (α := PlantR) (n := len0) (p := fun i x => ∀ j, j < 5 → W.cell? ((a.add (i * 5)).add j) = x.cells[j]?) (fun i hi => by
      obtain ⟨cs', h1, h2⟩ := hV i (by omega)
      rw [cellsPlant] at h1
      obtain ⟨_, _, h3⟩ := World.cells?_some h1
      obtain ⟨x, rfl⟩ := plant_of_trod h2
      exact ⟨x, h3⟩)
    have hw : (len0 + (m - len0)) * 40 ≤ reachBytes := by
      refine hsz _ ?_
      simp [DataW.weights, Tryd.underlying23, bytesPlant]
    refine ⟨some a, len0, m, (List.range len0).map f, rfl, by simp, ?_, hl, by simp only [reachBytes] at hw; omega⟩
    · intro hne
      have hpos : 0 < len0 := by
        rcases Nat.eq_zero_or_pos len0 with h | h
        · subst h; exact absurd rfl hne
        · exact h
      refine ⟨a, rfl, ?_, ?_⟩
      · have := cell_lt ((hff 0 hpos) 0 (by omega))
        rw [add_add'] at this
        rwa [add_block] at this
      · intro j u hu
        obtain ⟨k, i, hk, hi, rfl, hu'⟩ := flat_mem (f := PlantR.cells) (m := 5) (fun _ => rfl) hu (by omega)
        have hk' : k < len0 := by simpa using hk
        have h1 := (hff k hk') i hi
        rw [add_add'] at h1
        rw [h1]
        simpa using hu'
end
end Go.Proofs.YtgaonoklbihkjaaDoor
