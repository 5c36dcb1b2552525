/- How slices of places lie in memory as arguments, opened. -/
import Derived.Test.YtpgdinpckolfpaaOpenW
import Derived.Test.YtpgdinpckolfpaaRdM
namespace Go.Proofs.Ytpgdinpckolfpaa
open Go.ChangeShapes Go.WideShapes Go.ChangeAt Go.RowKit Go.Joins Go.Deep

theorem bytesPoint : Try.prog.bytesOf 32 = 16 := by kernel_rfl
theorem list2 {α : Type} {cs : List α} (h : cs.length = 2) : ∃ c0 c1, cs = [c0, c1] := by
  match cs, h with
  | [c0, c1], _ => exact ⟨c0, c1, rfl⟩
theorem flat_get {α β : Type} {f : α → List β} {m : Nat} (hf : ∀ x, (f x).length = m) : ∀ {l : List α} {k i : Nat} (hk : k < l.length), i < m → (l.flatMap f)[k * m + i]? = (f l[k])[i]?
  | x :: r, 0, i, _, hi => by
    simp only [List.flatMap_cons, Nat.zero_mul, Nat.zero_add, List.getElem_cons_zero]
    rw [List.getElem?_append_left (by rw [hf]; exact hi)]
  | x :: r, k + 1, i, hk, hi => by
    have hk' : k < r.length := by simpa using hk
    simp only [List.flatMap_cons, List.getElem_cons_succ]
    rw [List.getElem?_append_right (by rw [hf, Nat.add_mul]; omega), hf, show (k + 1) * m + i - m = k * m + i by rw [Nat.add_mul]; omega]
    exact flat_get hf hk' hi
theorem flat_mem {α β : Type} {f : α → List β} {m : Nat} (hf : ∀ x, (f x).length = m) {l : List α} {j : Nat} {u : β} (hu : (l.flatMap f)[j]? = some u) (hm : 0 < m) : ∃ k i, ∃ hk : k < l.length, i < m ∧ j = k * m + i ∧ (f l[k])[i]? = some u := by
  have hl : (l.flatMap f).length = l.length * m := by
    clear hu
    induction l with
    | nil => simp
    | cons x r ih => rw [List.flatMap_cons, List.length_append, ih, hf, List.length_cons, Nat.add_mul]; omega
  have hj : j < l.length * m := by
    have := (List.getElem?_eq_some_iff.1 hu).1
    omega
  have hk : j / m < l.length := (Nat.div_lt_iff_lt_mul hm).2 hj
  have hi : j % m < m := Nat.mod_lt _ hm
  have e : j = j / m * m + j % m := by rw [Nat.mul_comm]; exact (Nat.div_add_mod j m).symm
  refine ⟨j / m, j % m, hk, hi, e, ?_⟩
  rw [← flat_get hf hk hi, ← e]
  exact hu

section
variable {H : Type} {enc : TypeId × Value → H} {W : World} {base : Nat}
set_option maxRecDepth 100000 in
theorem pt_of_trod {spare : Nat → Bool} {held : Bool} {fuel : Nat} {cs : List Value} {y : DataW H × List MemPlace} (hf : DataW.trod enc Try.prog W base spare held fuel 32 cs = some y) : ∃ x : Int × Int, cs = [.int .i64 x.1, .int .i64 x.2] := by
  obtain ⟨xs, n, _, _, hl, hlen, hF⟩ := DataW.trod_struct Try.underlying32 hf
  rw [cellsPoint] at hl
  obtain ⟨c0, c1, rfl⟩ := list2 hl
  have hx : ∀ i, i < 2 → (xs[i]?).isSome = true := fun i hi => by
    have : xs.length = 2 := hlen
    rw [List.getElem?_eq_getElem (by omega)]
    rfl
  obtain ⟨a0, rfl⟩ := one_int (by simpa [Value.cells, cellsInt] using hF 0 _ rfl) (hx 0 (by omega))
  obtain ⟨a1, rfl⟩ := one_int (by simpa [Value.cells, cellsInt] using hF 1 _ rfl) (hx 1 (by omega))
  exact ⟨(a0, a1), rfl⟩
set_option maxRecDepth 100000 in
theorem open_points {r : Reach} {b0 : Nat} {held : Bool} {v : Value} {d : DataW H} {ps : List MemPlace} (hv : Value.okWide Try.prog W r b0 46 v)
    (h : DataW.Trod enc Try.prog W base (fun _ => true) held 46 v d ps) (hsz : ∀ n ∈ d.weights Try.prog 46, n ≤ reachBytes) :
    ∃ (A : Option Addr) (n c : Nat) (l : List (Int × Int)), v = .slice A n c ∧ l.length = n ∧ Rd W A (ptv l) ∧ n ≤ c ∧ n ≤ 140737488351232 := by
  obtain ⟨a0, len0, cap0, rfl⟩ := okWide_slice Try.underlying46 hv
  obtain ⟨fuel, hf⟩ := h
  rcases open_slice Try.underlying46 hf with ⟨hc, hd⟩ | ⟨a, len, cap, m, n, D, Pl, hc, _, hl, _, hm, hd, hV⟩
  · simp [Value.cells] at hc
    obtain ⟨rfl, rfl, rfl⟩ := hc
    exact ⟨none, 0, 0, [], rfl, rfl, Rd.nil _ _, by omega, by omega⟩
  · simp [Value.cells] at hc
    obtain ⟨rfl, rfl, rfl⟩ := hc
    simp only [if_true] at hm
    subst hm
    simp only [Prod.mk.injEq] at hd
    obtain ⟨rfl, _⟩ := hd
    obtain ⟨f, hff⟩ := choose_lt (α := Int × Int) (n := len0) (p := fun i x => ∀ j, j < 2 → W.cell? ((a.add (i * 2)).add j) = ([.int .i64 x.1, .int .i64 x.2] : List Value)[j]?) (fun i hi => by
      obtain ⟨cs', h1, h2⟩ := hV i (by omega)
      rw [cellsPoint] at h1
      obtain ⟨_, _, h3⟩ := World.cells?_some h1
      obtain ⟨x, rfl⟩ := pt_of_trod h2
      exact ⟨x, h3⟩)
    have hw : (len0 + (m - len0)) * 16 ≤ reachBytes := by
      refine hsz _ ?_
      simp [DataW.weights, Try.underlying46, bytesPoint]
    refine ⟨some a, len0, m, (List.range len0).map f, rfl, by simp, ?_, hl, by simp only [reachBytes] at hw; omega⟩
    intro hne
    have hpos : 0 < len0 := by
      rcases Nat.eq_zero_or_pos len0 with h | h
      · subst h; exact absurd rfl hne
      · exact h
    refine ⟨a, rfl, ?_, ?_⟩
    · have := cell_lt ((hff 0 hpos) 0 (by omega))
      rw [add_add'] at this
      rwa [add_block] at this
    · intro j u hu
      obtain ⟨k, i, hk, hi, rfl, hu'⟩ := flat_mem (f := fun p : Int × Int => ([.int .i64 p.1, .int .i64 p.2] : List Value)) (m := 2) (fun _ => rfl) hu (by omega)
      have hk' : k < len0 := by simpa using hk
      have h1 := (hff k hk') i hi
      rw [add_add'] at h1
      rw [h1]
      simpa using hu'
end
end Go.Proofs.Ytpgdinpckolfpaa
