/- Heaps as lists: what it is that each node is not greater than those below it; sifting up and down. No program in sight. -/
import Derived.Test.YtpgdinpckolfpaaKeyB
namespace Go.Proofs.Ytpgdinpckolfpaa
open Go.RowKit

theorem run_store_float {P : Program} {a : Addr} {m : Mode} {w : World} (k : FloatKind) (b : Nat) : (store a (.float k b) m).run P w = stored P w a (.float k b) m := run_store P w a _ m rfl
/-- an element of a heap: a single and a number -/
structure SpR where
  v : Nat
  k : Int
deriving DecidableEq
def SpR.cells (a : SpR) : List Value := [.float .f32 a.v, .int .i64 a.k]
def scells (xs : List SpR) : List Value := xs.flatMap SpR.cells
theorem scells_nil : scells [] = [] := rfl
theorem scells_cons (a : SpR) (xs : List SpR) : scells (a :: xs) = .float .f32 a.v :: .int .i64 a.k :: scells xs := rfl
theorem scells_append (xs ys : List SpR) : scells (xs ++ ys) = scells xs ++ scells ys := by simp [scells]
theorem scells_length : ∀ xs : List SpR, (scells xs).length = xs.length * 2
  | [] => rfl
  | a :: xs => by rw [scells_cons]; simp [scells_length xs]; omega
theorem scells_one (xs : List SpR) : ∀ u ∈ scells xs, u.oneCell' = true := by
  intro u hu
  obtain ⟨a, _, h⟩ := List.mem_flatMap.1 hu
  simp [SpR.cells] at h
  rcases h with rfl | rfl <;> rfl
theorem scells_get : ∀ {xs : List SpR} {i : Nat} (h : i < xs.length), (scells xs)[i * 2]? = some (.float .f32 xs[i].v) ∧ (scells xs)[i * 2 + 1]? = some (.int .i64 xs[i].k)
  | a :: xs, 0, _ => ⟨rfl, rfl⟩
  | a :: xs, i + 1, h => by
    have ih := @scells_get xs i (by simpa using h)
    rw [scells_cons]
    rw [show (i + 1) * 2 = i * 2 + 1 + 1 by omega, show i * 2 + 1 + 1 + 1 = (i * 2 + 1) + 1 + 1 by omega]
    simpa using ih
theorem scells_set : ∀ {xs : List SpR} {i : Nat} (a : SpR), i < xs.length → ((scells xs).set (i * 2) (.float .f32 a.v)).set (i * 2 + 1) (.int .i64 a.k) = scells (xs.set i a)
  | b :: xs, 0, a, _ => by
    rw [scells_cons]
    rfl
  | b :: xs, i + 1, a, h => by
    have ih := @scells_set xs i a (by simpa using h)
    rw [scells_cons]
    rw [show (i + 1) * 2 = i * 2 + 1 + 1 by omega]
    simp only [List.set_cons_succ]
    rw [ih]
    rfl

theorem getD_el {xs : List SpR} {i : Nat} (h : i < xs.length) : xs.getD i ⟨0, 0⟩ = xs[i] := by simp [List.getD_eq_getElem?_getD, h]
/-- exchange -/
def swapL (xs : List SpR) (i j : Nat) : List SpR := (xs.set i (xs.getD j ⟨0, 0⟩)).set j (xs.getD i ⟨0, 0⟩)
theorem swapL_length (xs : List SpR) (i j : Nat) : (swapL xs i j).length = xs.length := by simp [swapL]
theorem swapL_get {xs : List SpR} {i j : Nat} (hi : i < xs.length) (hj : j < xs.length) {c : Nat} : (swapL xs i j).getD c ⟨0, 0⟩ = if c = j then xs.getD i ⟨0, 0⟩ else if c = i then xs.getD j ⟨0, 0⟩ else xs.getD c ⟨0, 0⟩ := by
  unfold swapL
  simp only [List.getD_eq_getElem?_getD, List.getElem?_set]
  by_cases h1 : c = j
  · subst h1
    simp [hj]
  · rw [if_neg (fun h => h1 h.symm), if_neg h1]
    by_cases h2 : c = i
    · subst h2
      simp [hi]
    · rw [if_neg (fun h => h2 h.symm), if_neg h2]
theorem swapL_perm {xs : List SpR} {i j : Nat} (hi : i < xs.length) (hj : j < xs.length) : (swapL xs i j).Perm xs := by
  unfold swapL
  rw [getD_el hi, getD_el hj]
  exact List.set_set_perm hi hj
theorem swapL_same {xs : List SpR} {i : Nat} (hi : i < xs.length) : swapL xs i i = xs := by
  unfold swapL
  rw [getD_el hi]
  simp
theorem swapL_comm (xs : List SpR) (i j : Nat) : swapL xs i j = swapL xs j i := by
  by_cases h : i = j
  · subst h; rfl
  · unfold swapL
    exact List.set_comm _ _ h

/-! ### order -/
section
variable (le : SpR → SpR → Prop)
/-- each node from s on is not greater than those below it, within n; node i alone may be greater than those below it, but what is above i is not greater than those -/
def DownH (xs : List SpR) (n s i : Nat) : Prop :=
  (∀ c, 1 ≤ c → c < n → s ≤ (c - 1) / 2 → (c - 1) / 2 ≠ i → le (xs.getD ((c - 1) / 2) ⟨0, 0⟩) (xs.getD c ⟨0, 0⟩)) ∧
  (∀ c, 1 ≤ c → c < n → (c - 1) / 2 = i → 1 ≤ i → s ≤ (i - 1) / 2 → le (xs.getD ((i - 1) / 2) ⟨0, 0⟩) (xs.getD c ⟨0, 0⟩))
/-- a heap from s on -/
def HeapFrom (xs : List SpR) (n s : Nat) : Prop := ∀ c, 1 ≤ c → c < n → s ≤ (c - 1) / 2 → le (xs.getD ((c - 1) / 2) ⟨0, 0⟩) (xs.getD c ⟨0, 0⟩)
/-- a heap, but that node j may be less than what is above it -/
def UpH (xs : List SpR) (j : Nat) : Prop :=
  (∀ c, 1 ≤ c → c < xs.length → c ≠ j → le (xs.getD ((c - 1) / 2) ⟨0, 0⟩) (xs.getD c ⟨0, 0⟩)) ∧
  (∀ c, 1 ≤ c → c < xs.length → (c - 1) / 2 = j → 1 ≤ j → le (xs.getD ((j - 1) / 2) ⟨0, 0⟩) (xs.getD c ⟨0, 0⟩))
variable {le}

theorem DownH.done {xs : List SpR} {n s i : Nat} (h : DownH le xs n s i) (hc : ∀ c, 1 ≤ c → c < n → (c - 1) / 2 = i → le (xs.getD i ⟨0, 0⟩) (xs.getD c ⟨0, 0⟩)) : HeapFrom le xs n s := fun c h1 h2 h3 => by
  by_cases e : (c - 1) / 2 = i
  · rw [e]; exact hc c h1 h2 e
  · exact h.1 c h1 h2 h3 e
theorem DownH.swap {xs : List SpR} {n s i j : Nat} (hn : n ≤ xs.length) (h : DownH le xs n s i) (hs : s ≤ i) (hj1 : 1 ≤ j) (hjn : j < n) (hji : (j - 1) / 2 = i)
    (hmin : ∀ c, 1 ≤ c → c < n → (c - 1) / 2 = i → c ≠ j → le (xs.getD j ⟨0, 0⟩) (xs.getD c ⟨0, 0⟩)) (hlt : le (xs.getD j ⟨0, 0⟩) (xs.getD i ⟨0, 0⟩)) : DownH le (swapL xs i j) n s j := by
  have hi : i < xs.length := by omega
  have hjl : j < xs.length := by omega
  have g := @swapL_get xs i j hi hjl
  constructor
  · intro c h1 h2 h3 h4
    rw [@g c, @g ((c - 1) / 2)]
    rw [if_neg h4]
    by_cases e1 : c = j
    · subst e1
      rw [if_pos rfl, if_pos hji]
      exact hlt
    · rw [if_neg e1]
      by_cases e2 : c = i
      · rw [if_pos e2]
        have hne : (c - 1) / 2 ≠ i := by omega
        rw [if_neg hne]
        have := h.2 j hj1 hjn hji (by omega) (by subst e2; exact h3)
        subst e2
        exact this
      · rw [if_neg e2]
        by_cases e3 : (c - 1) / 2 = i
        · rw [if_pos e3]
          exact hmin c h1 h2 e3 e1
        · rw [if_neg e3]
          exact h.1 c h1 h2 h3 e3
  · intro c h1 h2 h3 h4 h5
    rw [@g c, @g ((j - 1) / 2)]
    have e1 : c ≠ j := by omega
    have e2 : c ≠ i := by omega
    rw [if_neg e1, if_neg e2, if_neg (by omega), if_pos hji]
    have := h.1 c h1 h2 (by omega) (by omega)
    rw [h3] at this
    exact this
theorem UpH.done {xs : List SpR} {j : Nat} (h : UpH le xs j) (hc : 1 ≤ j → j < xs.length → le (xs.getD ((j - 1) / 2) ⟨0, 0⟩) (xs.getD j ⟨0, 0⟩)) : HeapFrom le xs xs.length 0 := fun c h1 h2 _ => by
  by_cases e : c = j
  · subst e; exact hc h1 h2
  · exact h.1 c h1 h2 e
theorem UpH.swap (tr : ∀ a b c, le a b → le b c → le a c) {xs : List SpR} {j : Nat} (h : UpH le xs j) (h1 : 1 ≤ j) (hj : j < xs.length) (hlt : le (xs.getD j ⟨0, 0⟩) (xs.getD ((j - 1) / 2) ⟨0, 0⟩)) : UpH le (swapL xs ((j - 1) / 2) j) ((j - 1) / 2) := by
  obtain ⟨i, hi⟩ : ∃ i, i = (j - 1) / 2 := ⟨_, rfl⟩
  rw [← hi] at hlt ⊢
  have hil : i < xs.length := by omega
  have g := @swapL_get xs i j hil hj
  constructor
  · intro c c1 c2 c3
    rw [swapL_length] at c2
    rw [@g c, @g ((c - 1) / 2)]
    by_cases e1 : c = j
    · rw [if_pos e1, e1, ← hi]
      rw [if_neg (by omega), if_pos rfl]
      exact hlt
    · rw [if_neg e1, if_neg c3]
      by_cases e2 : (c - 1) / 2 = j
      · rw [if_pos e2]
        have := h.2 c c1 c2 e2 h1
        rw [← hi] at this
        exact this
      · rw [if_neg e2]
        by_cases e3 : (c - 1) / 2 = i
        · rw [if_pos e3]
          refine tr _ _ _ hlt ?_
          have := h.1 c c1 c2 e1
          rw [e3] at this
          exact this
        · rw [if_neg e3]
          exact h.1 c c1 c2 e1
  · intro c c1 c2 c3 c4
    rw [swapL_length] at c2
    rw [@g c, @g ((i - 1) / 2)]
    rw [if_neg (by omega), if_neg (by omega)]
    have hii := h.1 i c4 hil (by omega)
    by_cases e1 : c = j
    · rw [if_pos e1]
      exact hii
    · rw [if_neg e1, if_neg (by omega)]
      refine tr _ _ _ hii ?_
      have := h.1 c c1 c2 e1
      rw [c3] at this
      exact this
/-- the first one is the least -/
theorem HeapFrom.least (re : ∀ a, le a a) (tr : ∀ a b c, le a b → le b c → le a c) {xs : List SpR} {n : Nat} (h : HeapFrom le xs n 0) : ∀ c, c < n → le (xs.getD 0 ⟨0, 0⟩) (xs.getD c ⟨0, 0⟩) := by
  intro c
  induction c using Nat.strongRecOn with
  | _ c ih =>
    intro hc
    by_cases h0 : c = 0
    · subst h0; exact re _
    · exact tr _ _ _ (ih ((c - 1) / 2) (by omega) (by omega)) (h c (by omega) hc (by omega))
theorem HeapFrom.mem (re : ∀ a, le a a) (tr : ∀ a b c, le a b → le b c → le a c) {xs : List SpR} (h : HeapFrom le xs xs.length 0) : ∀ a ∈ xs, le (xs.getD 0 ⟨0, 0⟩) a := fun a ha => by
  obtain ⟨c, hc, rfl⟩ := List.mem_iff_getElem.1 ha
  have := h.least re tr c hc
  rwa [getD_el hc] at this
theorem HeapFrom.lower {xs : List SpR} {n s : Nat} (h : HeapFrom le xs n (s + 1)) : DownH le xs n s s :=
  ⟨fun c h1 h2 h3 h4 => h c h1 h2 (by omega), fun c h1 h2 h3 h4 h5 => by omega⟩
theorem HeapFrom.half (xs : List SpR) (n : Nat) : HeapFrom le xs n (n / 2) := fun c h1 h2 h3 => by omega
/-- the last one laid ahead, the rest sifts -/
theorem HeapFrom.last {xs : List SpR} (h : HeapFrom le xs xs.length 0) (h1 : 0 < xs.length) : DownH le (swapL xs 0 (xs.length - 1)) (xs.length - 1) 0 0 := by
  have g := @swapL_get xs 0 (xs.length - 1) h1 (by omega)
  constructor
  · intro c c1 c2 c3 c4
    rw [@g c, @g ((c - 1) / 2), if_neg (by omega), if_neg (by omega), if_neg (by omega), if_neg (by omega)]
    exact h c c1 (by omega) (by omega)
  · intro c c1 c2 c3 c4
    omega
theorem HeapFrom.push {xs : List SpR} (h : HeapFrom le xs xs.length 0) (a : SpR) : UpH le (xs ++ [a]) xs.length := by
  have g : ∀ c, c < xs.length → (xs ++ [a]).getD c ⟨0, 0⟩ = xs.getD c ⟨0, 0⟩ := fun c hc => by
    simp [List.getD_eq_getElem?_getD, List.getElem?_append_left hc]
  constructor
  · intro c c1 c2 c3
    simp at c2
    rw [g c (by omega), g _ (by omega)]
    exact h c c1 (by omega) (by omega)
  · intro c c1 c2 c3 c4
    simp at c2
    omega
end
end Go.Proofs.Ytpgdinpckolfpaa
