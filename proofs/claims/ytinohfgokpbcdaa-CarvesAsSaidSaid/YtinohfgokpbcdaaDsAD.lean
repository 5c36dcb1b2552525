/- container/heap: up, down, Init, Push, Pop at a heap of spills. -/
import Derived.Test.YtinohfgokpbcdaaDsAC
import Derived.Test.YtinohfgokpbcdaaDsAA
import Derived.Deep.DeepCutAuto
import Derived.Outline
import Derived.RegionTactic
import Derived.BigRegion
import Derived.BigQuiet
import Derived.Deep.QuietTactic
import Derived.Deep.AppendLies
import Derived.Deep.RegionLaw
import Derived.OwnWalk
namespace Go.Proofs.Ytinohfgokpbcdaa
open Go.RowKit

/-- the value of a key -/
def valK (q : Int) : Int := if q < 0 then -((valN q.natAbs : Nat) : Int) else ((valN q.natAbs : Nat) : Int)
theorem valI_key (b : Nat) : valI b = valK (keyI b) := by
  unfold valI valK keyI
  by_cases h : b / 2147483648 % 2 = 1
  · rw [if_pos h, if_pos h]
    by_cases h0 : b % 2147483648 = 0
    · rw [h0]
      simp [valN_zero]
    · rw [if_pos (by omega), Int.natAbs_neg, Int.natAbs_natCast]
  · rw [if_neg h, if_neg h, if_neg (by omega), Int.natAbs_natCast]
theorem valK_mono {p q : Int} (h : p ≤ q) : valK p ≤ valK q := by
  unfold valK
  by_cases hp : p < 0
  · by_cases hq : q < 0
    · rw [if_pos hp, if_pos hq]
      have := valN_le (show q.natAbs ≤ p.natAbs by omega)
      omega
    · rw [if_pos hp, if_neg hq]
      omega
  · rw [if_neg hp, if_neg (by omega)]
    have := valN_le (show p.natAbs ≤ q.natAbs by omega)
    omega
/-- what a sum with s makes of a value -/
def upV (s : Nat) (z : Int) : Int := valK (rkey (z + valI s))
theorem upV_mono (s : Nat) (x y : Int) (h : x ≤ y) : upV s x ≤ upV s y := valK_mono (rkey_mono (by omega))
theorem fadd_up {x s : Nat} (hx : Bd 36 x) (hs : Bd 10 s) : valI (fadd x s) = upV s (valI x) := by
  rw [valI_key, fadd_key hx (hs.mono (by omega)) (by omega)]
  rfl
theorem cap_near : nearN (2 ^ 185 + 2 ^ 159) = 163 * 8388608 := by decide +kernel
theorem cap_val : valN (163 * 8388608) = 2 ^ 185 := by decide +kernel
theorem fadd_cap {x s : Nat} (hx : Bd 36 x) (hs : Bd 10 s) (h0 : 0 ≤ valI s) : Bd 36 (fadd x s) := by
  have h1 := fadd_ge hx (hs.mono (by omega)) (by omega) h0
  have hxv := (bd_valI (K := 36) (by omega)).1 hx
  have hsv := (bd_valI (K := 10) (by omega)).1 hs
  rw [bd_valI (by omega)]
  have h2 : valI (fadd x s) ≤ 2 ^ 185 := by
    rw [fadd_up hx hs]
    unfold upV
    have h3 : rkey (valI x + valI s) ≤ rkey (2 ^ 185 + 2 ^ 159) := rkey_mono (by omega)
    have h4 : rkey (2 ^ 185 + 2 ^ 159) = 163 * 8388608 := by
      unfold rkey
      have e : Int.natAbs ((2 : Int) ^ 185 + 2 ^ 159) = 2 ^ 185 + 2 ^ 159 := by rfl
      rw [if_neg (by decide), e, cap_near]
      decide
    have h5 := valK_mono h3
    rw [h4] at h5
    have h6 : valK (163 * 8388608) = 2 ^ 185 := by
      unfold valK
      have e : Int.natAbs ((163 : Int) * 8388608) = 163 * 8388608 := by rfl
      rw [if_neg (by decide), e, cap_val]
      rfl
    omega
  omega
/-- the spill that a cell takes over from a neighbour -/
def relV (h s x : Nat) : Nat := if gt (fadd x s) h = true then fadd x s else h
theorem relV_bd {h s x : Nat} (hh : Bd 20 h) (hx : Bd 36 x) (hs : Bd 10 s) (h0 : 0 ≤ valI s) : Bd 36 (relV h s x) := by
  unfold relV
  split
  · exact fadd_cap hx hs h0
  · exact hh.mono (by omega)
theorem relV_val {h s x : Nat} (hh : Bd 20 h) (hx : Bd 36 x) (hs : Bd 10 s) (h0 : 0 ≤ valI s) : valI (relV h s x) = max (valI h) (upV s (valI x)) := by
  have hc := fadd_cap hx hs h0
  have e := fadd_up hx hs
  unfold relV
  rw [gt_val (bd_Fin hc (by omega)) (bd_Fin hh (by omega)), e]
  by_cases hlt : valI h < upV s (valI x)
  · rw [if_pos (by simpa using hlt), e]
    omega
  · rw [if_neg (by simpa using hlt)]
    omega
theorem infl_val {s x : Nat} (hx : Bd 36 x) (hs : Bd 10 s) (h0 : 0 ≤ valI s) : valI x ≤ upV s (valI x) := by
  rw [← fadd_up hx hs]
  exact fadd_ge hx (hs.mono (by omega)) (by omega) h0

/-- from the border all cells are reached -/
theorem conn_grid {Wn Hn : Nat} (h1 : 1 ≤ Wn) (P : Nat → Prop) (hb : ∀ k, k < Wn * Hn → brd Wn Hn k = true → P k) (hs : ∀ n d m, n < Wn * Hn → P n → d < 8 → nbr Wn Hn n d = some m → P m) : ∀ k, k < Wn * Hn → P k := by
  have key : ∀ a k, k % Wn = a → k < Wn * Hn → P k := by
    intro a
    induction a with
    | zero =>
      intro k hk hkn
      exact hb k hkn (by unfold brd; simp [hk])
    | succ a ih =>
      intro k hk hkn
      obtain ⟨f1, f2⟩ := grid_facts h1 hkn
      have hdm := Nat.div_add_mod k Wn
      rw [hk] at f1 hdm
      have hq : (k - 1) / Wn = k / Wn ∧ (k - 1) % Wn = a := by
        have e : k - 1 = Wn * (k / Wn) + a := by omega
        rw [e]
        constructor
        · rw [Nat.mul_add_div (by omega), Nat.div_eq_of_lt (show a < Wn by omega), Nat.add_zero]
        · rw [Nat.mul_add_mod, Nat.mod_eq_of_lt (by omega)]
      have hp := ih (k - 1) hq.2 (by omega)
      refine hs (k - 1) 0 k (by omega) hp (by omega) ?_
      unfold nbr
      rw [hq.1, hq.2]
      have e0 : stepX ((0 : Nat) : Int) = 1 := rfl
      have e1 : stepY ((0 : Nat) : Int) = 0 := rfl
      generalize k / Wn = q at *
      rw [e0, e1, if_pos (by omega)]
      congr 1
      rw [show (((q : Nat) : Int) + 0).toNat = q by omega, show ((a : Int) + 1).toNat = a + 1 by omega, Nat.mul_comm]
      omega
  exact fun k hk => key _ k rfl hk
abbrev WayG (Wn Hn : Nat) (h : Nat → Nat) (s : Nat) := Way (Wn * Hn) (nbr Wn Hn) (brd Wn Hn) (fun k => valI (h k)) (upV s)
abbrev LeastG (Wn Hn : Nat) (h : Nat → Nat) (s : Nat) := Least (Wn * Hn) (nbr Wn Hn) (brd Wn Hn) (fun k => valI (h k)) (upV s)
theorem way_bd {Wn Hn s : Nat} {h : Nat → Nat} (hh : ∀ k, k < Wn * Hn → Bd 20 (h k)) (hs : Bd 10 s) (h0 : 0 ≤ valI s) {k : Nat} {z : Int} (hw : WayG Wn Hn h s k z) : ∃ b, Bd 36 b ∧ valI b = z := by
  induction hw with
  | @start k hk he => exact ⟨h k, (hh k hk).mono (by omega), rfl⟩
  | @step n d k z hw hn hd hnb hk ih =>
    obtain ⟨b, hb, rfl⟩ := ih
    exact ⟨relV (h k) s b, relV_bd (hh k hk) hb hs h0, relV_val (hh k hk) hb hs h0⟩
end Go.Proofs.Ytinohfgokpbcdaa
namespace Go.Proofs.Ytinohfgokpbcdaa
open Go.RowKit

theorem run_store_float {P : Program} {a : Addr} {m : Mode} {w : World} (k : FloatKind) (b : Nat) : (store a (.float k b) m).run P w = stored P w a (.float k b) m := run_store P w a _ m rfl
/-- an element of a heap: a single and a number -/
structure SpR where
  v : Nat
  k : Int
deriving DecidableEq
def SpR.cells (a : SpR) : List Value := [.float .f32 a.v, .int .i64 a.k]
def scells (xs : List SpR) : List Value := xs.flatMap SpR.cells
theorem scells_nil : scells [] = [] := rfl
theorem scells_cons (a : SpR) (xs : List SpR) : scells (a :: xs) = .float .f32 a.v :: .int .i64 a.k :: scells xs := rfl
theorem scells_append (xs ys : List SpR) : scells (xs ++ ys) = scells xs ++ scells ys := by simp [scells]
theorem scells_length : ∀ xs : List SpR, (scells xs).length = xs.length * 2
  | [] => rfl
  | a :: xs => by rw [scells_cons]; simp [scells_length xs]; omega
theorem scells_one (xs : List SpR) : ∀ u ∈ scells xs, u.oneCell' = true := by
  intro u hu
  obtain ⟨a, _, h⟩ := List.mem_flatMap.1 hu
  simp [SpR.cells] at h
  rcases h with rfl | rfl <;> rfl
theorem scells_get : ∀ {xs : List SpR} {i : Nat} (h : i < xs.length), (scells xs)[i * 2]? = some (.float .f32 xs[i].v) ∧ (scells xs)[i * 2 + 1]? = some (.int .i64 xs[i].k)
  | a :: xs, 0, _ => ⟨rfl, rfl⟩
  | a :: xs, i + 1, h => by
    have ih := @scells_get xs i (by simpa using h)
    rw [scells_cons]
    rw [show (i + 1) * 2 = i * 2 + 1 + 1 by omega, show i * 2 + 1 + 1 + 1 = (i * 2 + 1) + 1 + 1 by omega]
    simpa using ih
theorem scells_set : ∀ {xs : List SpR} {i : Nat} (a : SpR), i < xs.length → ((scells xs).set (i * 2) (.float .f32 a.v)).set (i * 2 + 1) (.int .i64 a.k) = scells (xs.set i a)
  | b :: xs, 0, a, _ => by
    rw [scells_cons]
    rfl
  | b :: xs, i + 1, a, h => by
    have ih := @scells_set xs i a (by simpa using h)
    rw [scells_cons]
    rw [show (i + 1) * 2 = i * 2 + 1 + 1 by omega]
    simp only [List.set_cons_succ]
    rw [ih]
    rfl

theorem getD_el {xs : List SpR} {i : Nat} (h : i < xs.length) : xs.getD i ⟨0, 0⟩ = xs[i] := by simp [List.getD_eq_getElem?_getD, h]
/-- exchange -/
def swapL (xs : List SpR) (i j : Nat) : List SpR := (xs.set i (xs.getD j ⟨0, 0⟩)).set j (xs.getD i ⟨0, 0⟩)
theorem swapL_length (xs : List SpR) (i j : Nat) : (swapL xs i j).length = xs.length := by simp [swapL]
theorem swapL_get {xs : List SpR} {i j : Nat} (hi : i < xs.length) (hj : j < xs.length) {c : Nat} : (swapL xs i j).getD c ⟨0, 0⟩ = if c = j then xs.getD i ⟨0, 0⟩ else if c = i then xs.getD j ⟨0, 0⟩ else xs.getD c ⟨0, 0⟩ := by
  unfold swapL
  simp only [List.getD_eq_getElem?_getD, List.getElem?_set]
  by_cases h1 : c = j
  · subst h1
    simp [hj]
  · rw [if_neg (fun h => h1 h.symm), if_neg h1]
    by_cases h2 : c = i
    · subst h2
      simp [hi]
    · rw [if_neg (fun h => h2 h.symm), if_neg h2]
theorem swapL_perm {xs : List SpR} {i j : Nat} (hi : i < xs.length) (hj : j < xs.length) : (swapL xs i j).Perm xs := by
  unfold swapL
  rw [getD_el hi, getD_el hj]
  exact List.set_set_perm hi hj
theorem swapL_same {xs : List SpR} {i : Nat} (hi : i < xs.length) : swapL xs i i = xs := by
  unfold swapL
  rw [getD_el hi]
  simp
theorem swapL_comm (xs : List SpR) (i j : Nat) : swapL xs i j = swapL xs j i := by
  by_cases h : i = j
  · subst h; rfl
  · unfold swapL
    exact List.set_comm _ _ h

/-! ### order -/
section
variable (le : SpR → SpR → Prop)
/-- each node from s on is not greater than those below it, within n; node i alone may be greater than those below it, but what is above i is not greater than those -/
def DownH (xs : List SpR) (n s i : Nat) : Prop :=
  (∀ c, 1 ≤ c → c < n → s ≤ (c - 1) / 2 → (c - 1) / 2 ≠ i → le (xs.getD ((c - 1) / 2) ⟨0, 0⟩) (xs.getD c ⟨0, 0⟩)) ∧
  (∀ c, 1 ≤ c → c < n → (c - 1) / 2 = i → 1 ≤ i → s ≤ (i - 1) / 2 → le (xs.getD ((i - 1) / 2) ⟨0, 0⟩) (xs.getD c ⟨0, 0⟩))
/-- a heap from s on -/
def HeapFrom (xs : List SpR) (n s : Nat) : Prop := ∀ c, 1 ≤ c → c < n → s ≤ (c - 1) / 2 → le (xs.getD ((c - 1) / 2) ⟨0, 0⟩) (xs.getD c ⟨0, 0⟩)
/-- a heap, but that node j may be less than what is above it -/
def UpH (xs : List SpR) (j : Nat) : Prop :=
  (∀ c, 1 ≤ c → c < xs.length → c ≠ j → le (xs.getD ((c - 1) / 2) ⟨0, 0⟩) (xs.getD c ⟨0, 0⟩)) ∧
  (∀ c, 1 ≤ c → c < xs.length → (c - 1) / 2 = j → 1 ≤ j → le (xs.getD ((j - 1) / 2) ⟨0, 0⟩) (xs.getD c ⟨0, 0⟩))
variable {le}

theorem DownH.done {xs : List SpR} {n s i : Nat} (h : DownH le xs n s i) (hc : ∀ c, 1 ≤ c → c < n → (c - 1) / 2 = i → le (xs.getD i ⟨0, 0⟩) (xs.getD c ⟨0, 0⟩)) : HeapFrom le xs n s := fun c h1 h2 h3 => by
  by_cases e : (c - 1) / 2 = i
  · rw [e]; exact hc c h1 h2 e
  · exact h.1 c h1 h2 h3 e
theorem DownH.swap {xs : List SpR} {n s i j : Nat} (hn : n ≤ xs.length) (h : DownH le xs n s i) (hs : s ≤ i) (hj1 : 1 ≤ j) (hjn : j < n) (hji : (j - 1) / 2 = i)
    (hmin : ∀ c, 1 ≤ c → c < n → (c - 1) / 2 = i → c ≠ j → le (xs.getD j ⟨0, 0⟩) (xs.getD c ⟨0, 0⟩)) (hlt : le (xs.getD j ⟨0, 0⟩) (xs.getD i ⟨0, 0⟩)) : DownH le (swapL xs i j) n s j := by
  have hi : i < xs.length := by omega
  have hjl : j < xs.length := by omega
  have g := @swapL_get xs i j hi hjl
  constructor
  · intro c h1 h2 h3 h4
    rw [@g c, @g ((c - 1) / 2)]
    rw [if_neg h4]
    by_cases e1 : c = j
    · subst e1
      rw [if_pos rfl, if_pos hji]
      exact hlt
    · rw [if_neg e1]
      by_cases e2 : c = i
      · rw [if_pos e2]
        have hne : (c - 1) / 2 ≠ i := by omega
        rw [if_neg hne]
        have := h.2 j hj1 hjn hji (by omega) (by subst e2; exact h3)
        subst e2
        exact this
      · rw [if_neg e2]
        by_cases e3 : (c - 1) / 2 = i
        · rw [if_pos e3]
          exact hmin c h1 h2 e3 e1
        · rw [if_neg e3]
          exact h.1 c h1 h2 h3 e3
  · intro c h1 h2 h3 h4 h5
    rw [@g c, @g ((j - 1) / 2)]
    have e1 : c ≠ j := by omega
    have e2 : c ≠ i := by omega
    rw [if_neg e1, if_neg e2, if_neg (by omega), if_pos hji]
    have := h.1 c h1 h2 (by omega) (by omega)
    rw [h3] at this
    exact this
theorem UpH.done {xs : List SpR} {j : Nat} (h : UpH le xs j) (hc : 1 ≤ j → j < xs.length → le (xs.getD ((j - 1) / 2) ⟨0, 0⟩) (xs.getD j ⟨0, 0⟩)) : HeapFrom le xs xs.length 0 := fun c h1 h2 _ => by
  by_cases e : c = j
  · subst e; exact hc h1 h2
  · exact h.1 c h1 h2 e
theorem UpH.swap (tr : ∀ a b c, le a b → le b c → le a c) {xs : List SpR} {j : Nat} (h : UpH le xs j) (h1 : 1 ≤ j) (hj : j < xs.length) (hlt : le (xs.getD j ⟨0, 0⟩) (xs.getD ((j - 1) / 2) ⟨0, 0⟩)) : UpH le (swapL xs ((j - 1) / 2) j) ((j - 1) / 2) := by
  obtain ⟨i, hi⟩ : ∃ i, i = (j - 1) / 2 := ⟨_, rfl⟩
  rw [← hi] at hlt ⊢
  have hil : i < xs.length := by omega
  have g := @swapL_get xs i j hil hj
  constructor
  · intro c c1 c2 c3
    rw [swapL_length] at c2
    rw [@g c, @g ((c - 1) / 2)]
    by_cases e1 : c = j
    · rw [if_pos e1, e1, ← hi]
      rw [if_neg (by omega), if_pos rfl]
      exact hlt
    · rw [if_neg e1, if_neg c3]
      by_cases e2 : (c - 1) / 2 = j
      · rw [if_pos e2]
        have := h.2 c c1 c2 e2 h1
        rw [← hi] at this
        exact this
      · rw [if_neg e2]
        by_cases e3 : (c - 1) / 2 = i
        · rw [if_pos e3]
          refine tr _ _ _ hlt ?_
          have := h.1 c c1 c2 e1
          rw [e3] at this
          exact this
        · rw [if_neg e3]
          exact h.1 c c1 c2 e1
  · intro c c1 c2 c3 c4
    rw [swapL_length] at c2
    rw [@g c, @g ((i - 1) / 2)]
    rw [if_neg (by omega), if_neg (by omega)]
    have hii := h.1 i c4 hil (by omega)
    by_cases e1 : c = j
    · rw [if_pos e1]
      exact hii
    · rw [if_neg e1, if_neg (by omega)]
      refine tr _ _ _ hii ?_
      have := h.1 c c1 c2 e1
      rw [c3] at this
      exact this
/-- the first one is the least -/
theorem HeapFrom.least (re : ∀ a, le a a) (tr : ∀ a b c, le a b → le b c → le a c) {xs : List SpR} {n : Nat} (h : HeapFrom le xs n 0) : ∀ c, c < n → le (xs.getD 0 ⟨0, 0⟩) (xs.getD c ⟨0, 0⟩) := by
  intro c
  induction c using Nat.strongRecOn with
  | _ c ih =>
    intro hc
    by_cases h0 : c = 0
    · subst h0; exact re _
    · exact tr _ _ _ (ih ((c - 1) / 2) (by omega) (by omega)) (h c (by omega) hc (by omega))
theorem HeapFrom.mem (re : ∀ a, le a a) (tr : ∀ a b c, le a b → le b c → le a c) {xs : List SpR} (h : HeapFrom le xs xs.length 0) : ∀ a ∈ xs, le (xs.getD 0 ⟨0, 0⟩) a := fun a ha => by
  obtain ⟨c, hc, rfl⟩ := List.mem_iff_getElem.1 ha
  have := h.least re tr c hc
  rwa [getD_el hc] at this
theorem HeapFrom.lower {xs : List SpR} {n s : Nat} (h : HeapFrom le xs n (s + 1)) : DownH le xs n s s :=
  ⟨fun c h1 h2 h3 h4 => h c h1 h2 (by omega), fun c h1 h2 h3 h4 h5 => by omega⟩
theorem HeapFrom.half (xs : List SpR) (n : Nat) : HeapFrom le xs n (n / 2) := fun c h1 h2 h3 => by omega
/-- the last one laid ahead, the rest sifts -/
theorem HeapFrom.last {xs : List SpR} (h : HeapFrom le xs xs.length 0) (h1 : 0 < xs.length) : DownH le (swapL xs 0 (xs.length - 1)) (xs.length - 1) 0 0 := by
  have g := @swapL_get xs 0 (xs.length - 1) h1 (by omega)
  constructor
  · intro c c1 c2 c3 c4
    rw [@g c, @g ((c - 1) / 2), if_neg (by omega), if_neg (by omega), if_neg (by omega), if_neg (by omega)]
    exact h c c1 (by omega) (by omega)
  · intro c c1 c2 c3 c4
    omega
theorem HeapFrom.push {xs : List SpR} (h : HeapFrom le xs xs.length 0) (a : SpR) : UpH le (xs ++ [a]) xs.length := by
  have g : ∀ c, c < xs.length → (xs ++ [a]).getD c ⟨0, 0⟩ = xs.getD c ⟨0, 0⟩ := fun c hc => by
    simp [List.getD_eq_getElem?_getD, List.getElem?_append_left hc]
  constructor
  · intro c c1 c2 c3
    simp at c2
    rw [g c (by omega), g _ (by omega)]
    exact h c c1 (by omega) (by omega)
  · intro c c1 c2 c3 c4
    simp at c2
    omega
end
end Go.Proofs.Ytinohfgokpbcdaa
namespace Go.Proofs.Ytinohfgokpbcdaa
open Go.RowKit
attribute [local go_sem ↓] Go.wp_at_zero Go.wp_at_succ
attribute [local go_sem] run_store_float

theorem chk (w : World) (a : Addr) (s t : String) : (Builtin.ssaWrapNilChk_ #[175] 175 #[.pointer (some a), strVal s, strVal t]).run Try.prog w = .ok (.pointer (some a)) w := by kernel_rfl
theorem nil_Less (n : Nat) (w : World) (a : Addr) : (nilAhead (n + 1) 175 (.pointer (some a)) "Less").run Try.prog w = .ok (some false) w := by kernel_rfl
theorem row_Less : ∃ m, Array.find? (fun x => x.name == "Less") Try.t175.methods = some m ∧ m.path = #[] ∧ m.func = some (188, false) := by
  have h : (Array.find? (fun x => x.name == "Less") Try.t175.methods).map (fun m => (m.path, m.func)) = some (#[], some (188, false)) := by kernel_rfl
  cases hm : Array.find? (fun x => x.name == "Less") Try.t175.methods with
  | none => rw [hm] at h; cases h
  | some m =>
    rw [hm] at h
    simp at h
    exact ⟨m, rfl, h.1, h.2⟩
theorem m_Less (w : World) (hb : Nat) (v : Value) (h : w.cell? ⟨hb, 0, none⟩ = some v) (n : Nat) : (method (n + 1) 175 (.pointer (some ⟨hb, 0, none⟩)) "Less").run Try.prog w = .ok (188, v) w := by
  obtain ⟨m, h1, h2, h3⟩ := row_Less
  unfold method
  go_simp
  simp only [follow]
  go_simp
  simp only [receiverAt, Place.get]
  go_simp
  rw [chk]
  go_simp
theorem nil_Len (n : Nat) (w : World) (a : Addr) : (nilAhead (n + 1) 175 (.pointer (some a)) "Len").run Try.prog w = .ok (some false) w := by kernel_rfl
theorem row_Len : ∃ m, Array.find? (fun x => x.name == "Len") Try.t175.methods = some m ∧ m.path = #[] ∧ m.func = some (187, false) := by
  have h : (Array.find? (fun x => x.name == "Len") Try.t175.methods).map (fun m => (m.path, m.func)) = some (#[], some (187, false)) := by kernel_rfl
  cases hm : Array.find? (fun x => x.name == "Len") Try.t175.methods with
  | none => rw [hm] at h; cases h
  | some m =>
    rw [hm] at h
    simp at h
    exact ⟨m, rfl, h.1, h.2⟩
theorem m_Len (w : World) (hb : Nat) (v : Value) (h : w.cell? ⟨hb, 0, none⟩ = some v) (n : Nat) : (method (n + 1) 175 (.pointer (some ⟨hb, 0, none⟩)) "Len").run Try.prog w = .ok (187, v) w := by
  obtain ⟨m, h1, h2, h3⟩ := row_Len
  unfold method
  go_simp
  simp only [follow]
  go_simp
  simp only [receiverAt, Place.get]
  go_simp
  rw [chk]
  go_simp
theorem nil_Swap (n : Nat) (w : World) (a : Addr) : (nilAhead (n + 1) 175 (.pointer (some a)) "Swap").run Try.prog w = .ok (some false) w := by kernel_rfl
theorem row_Swap : ∃ m, Array.find? (fun x => x.name == "Swap") Try.t175.methods = some m ∧ m.path = #[] ∧ m.func = some (189, false) := by
  have h : (Array.find? (fun x => x.name == "Swap") Try.t175.methods).map (fun m => (m.path, m.func)) = some (#[], some (189, false)) := by kernel_rfl
  cases hm : Array.find? (fun x => x.name == "Swap") Try.t175.methods with
  | none => rw [hm] at h; cases h
  | some m =>
    rw [hm] at h
    simp at h
    exact ⟨m, rfl, h.1, h.2⟩
theorem m_Swap (w : World) (hb : Nat) (v : Value) (h : w.cell? ⟨hb, 0, none⟩ = some v) (n : Nat) : (method (n + 1) 175 (.pointer (some ⟨hb, 0, none⟩)) "Swap").run Try.prog w = .ok (189, v) w := by
  obtain ⟨m, h1, h2, h3⟩ := row_Swap
  unfold method
  go_simp
  simp only [follow]
  go_simp
  simp only [receiverAt, Place.get]
  go_simp
  rw [chk]
  go_simp
theorem nil_Push (n : Nat) (w : World) (a : Addr) : (nilAhead (n + 1) 175 (.pointer (some a)) "Push").run Try.prog w = .ok (some false) w := by kernel_rfl
theorem row_Push : ∃ m, Array.find? (fun x => x.name == "Push") Try.t175.methods = some m ∧ m.path = #[] ∧ m.func = some (191, true) := by
  have h : (Array.find? (fun x => x.name == "Push") Try.t175.methods).map (fun m => (m.path, m.func)) = some (#[], some (191, true)) := by kernel_rfl
  cases hm : Array.find? (fun x => x.name == "Push") Try.t175.methods with
  | none => rw [hm] at h; cases h
  | some m =>
    rw [hm] at h
    simp at h
    exact ⟨m, rfl, h.1, h.2⟩
theorem m_Push (n : Nat) (w : World) (a : Addr) : (method (n + 1) 175 (.pointer (some a)) "Push").run Try.prog w = .ok (191, .pointer (some a)) w := by kernel_rfl
theorem nil_Pop (n : Nat) (w : World) (a : Addr) : (nilAhead (n + 1) 175 (.pointer (some a)) "Pop").run Try.prog w = .ok (some false) w := by kernel_rfl
theorem row_Pop : ∃ m, Array.find? (fun x => x.name == "Pop") Try.t175.methods = some m ∧ m.path = #[] ∧ m.func = some (190, true) := by
  have h : (Array.find? (fun x => x.name == "Pop") Try.t175.methods).map (fun m => (m.path, m.func)) = some (#[], some (190, true)) := by kernel_rfl
  cases hm : Array.find? (fun x => x.name == "Pop") Try.t175.methods with
  | none => rw [hm] at h; cases h
  | some m =>
    rw [hm] at h
    simp at h
    exact ⟨m, rfl, h.1, h.2⟩
theorem m_Pop (n : Nat) (w : World) (a : Addr) : (method (n + 1) 175 (.pointer (some a)) "Pop").run Try.prog w = .ok (190, .pointer (some a)) w := by kernel_rfl

/-- how a spill comes ahead of another -/
def lessB (a b : SpR) : Bool := lt a.v b.v || ord a.v b.v == some .eq && decide (a.k < b.k)
theorem cell_r {w : World} {g : Nat} {xs : List SpR} (hr : Rd w (some ⟨g, 0, none⟩) (scells xs)) {i : Nat} (h : i < xs.length) : w.cell? ⟨g, i * 2, none⟩ = some (.float .f32 xs[i].v) ∧ w.cell? ⟨g, i * 2 + 1, none⟩ = some (.int .i64 xs[i].k) := by
  obtain ⟨ad, e, _, hc⟩ := hr (by rintro e; have := scells_length xs; rw [e] at this; simp at this; omega)
  injection e with e
  subst e
  have h1 := hc _ _ (scells_get h).1
  have h2 := hc _ _ (scells_get h).2
  rw [lit_add] at h1 h2
  exact ⟨h1, h2⟩

set_option maxRecDepth 100000 in
set_option maxHeartbeats 1600000 in
theorem Less_any (g n c : Nat) (xs : List SpR) (i j : Nat) (w : World) (hn : xs.length = n) (hr : Rd w (some ⟨g, 0, none⟩) (scells xs)) (hi : i < n) (hj : j < n) (hb : n ≤ 4000000000) :
    Calls Try.prog 188 #[.slice (some ⟨g, 0, none⟩) n c, .int .i64 i, .int .i64 j] w fun e w' => e = .returned (.bool (lessB (xs.getD i ⟨0, 0⟩) (xs.getD j ⟨0, 0⟩))) ∧ Ext w w' := by
  subst hn
  obtain ⟨a0, a1⟩ := cell_r hr hi
  obtain ⟨b0, b1⟩ := cell_r hr hj
  rw [getD_el hi, getD_el hj]
  have i0 : (0 : Int) ≤ i := by omega
  have i1 : (i : Int) < xs.length := by omega
  have j0 : (0 : Int) ≤ j := by omega
  have j1 : (j : Int) < xs.length := by omega
  unfold lessB lt
  rw [← ord_def]
  generalize xs[i] = a at *
  generalize xs[j] = b at *
  obtain ⟨av, ak⟩ := a
  obtain ⟨bv, bk⟩ := b
  dsimp only at a0 a1 b0 b1 ⊢
  cases h1 : (FloatKind.f32.format.order av bv == some .lt)
  · cases h2 : (FloatKind.f32.format.order av bv == some .eq)
    · go_enter Try.func188, Try.ntmps188
      go_wp2
      go_quiet (fail)
      go_wp2
      go_ret
      exact ⟨by first | rfl | simp [h1, h2], (by repeat (first | exact Ext.refl _ | assumption | refine Ext.setCell ?_ (by first | (simp; done) | (simp; omega)) _ | refine Ext.drewN ?_ _ | refine Ext.alloc ?_ _ | refine Ext.drew ?_ | refine Ext.trans ?_ (by assumption)))⟩
    · go_enter Try.func188, Try.ntmps188
      go_wp2
      go_quiet (fail)
      go_wp2
      go_ret
      exact ⟨by first | rfl | simp [h1, h2], (by repeat (first | exact Ext.refl _ | assumption | refine Ext.setCell ?_ (by first | (simp; done) | (simp; omega)) _ | refine Ext.drewN ?_ _ | refine Ext.alloc ?_ _ | refine Ext.drew ?_ | refine Ext.trans ?_ (by assumption)))⟩
  · go_enter Try.func188, Try.ntmps188
    go_wp2
    go_quiet (fail)
    go_wp2
    go_ret
    exact ⟨by first | rfl | simp [h1], (by repeat (first | exact Ext.refl _ | assumption | refine Ext.setCell ?_ (by first | (simp; done) | (simp; omega)) _ | refine Ext.drewN ?_ _ | refine Ext.alloc ?_ _ | refine Ext.drew ?_ | refine Ext.trans ?_ (by assumption)))⟩

set_option maxRecDepth 100000 in
set_option maxHeartbeats 400000 in
theorem Len_any (g n c : Nat) (w : World) :
    Calls Try.prog 187 #[.slice (some ⟨g, 0, none⟩) n c] w fun e w' => e = .returned (.int .i64 n) ∧ w = w' := by
  go_enter Try.func187, Try.ntmps187
  go_wp2
  go_ret
  exact ⟨rfl, rfl⟩

/-- the block in which the spills lie, whole -/
def SB (w : World) (g : Nat) (xs : List SpR) (rest : List Value) : Prop := Bk w g 173 (scells xs ++ rest).toArray
theorem SB.rd {w : World} {g : Nat} {xs : List SpR} {rest : List Value} (h : SB w g xs rest) : Rd w (some ⟨g, 0, none⟩) (scells xs) := fun _ => by
  refine ⟨_, rfl, h.lt, fun j u hu => ?_⟩
  rw [lit_add, Bk.cell h, List.getElem?_toArray]
  have hj : j < (scells xs).length := by
    rcases Nat.lt_or_ge j (scells xs).length with hl | hl
    · exact hl
    · rw [List.getElem?_eq_none hl] at hu; cases hu
  rw [List.getElem?_append_left hj]
  exact hu
theorem SB.set {w : World} {g : Nat} {xs : List SpR} {rest : List Value} (h : SB w g xs rest) {i : Nat} (hi : i < xs.length) (a : SpR) : SB ((w.setCell ⟨g, i * 2, none⟩ (.float .f32 a.v)).setCell ⟨g, i * 2 + 1, none⟩ (.int .i64 a.k)) g (xs.set i a) rest := by
  have h2 := (Bk.set h (i * 2) (.float .f32 a.v)).set (i * 2 + 1) (.int .i64 a.k)
  have hl := scells_length xs
  unfold SB
  rw [← scells_set a hi]
  have e : ((scells xs ++ rest).toArray.setIfInBounds (i * 2) (.float .f32 a.v)).setIfInBounds (i * 2 + 1) (.int .i64 a.k) = (((scells xs).set (i * 2) (.float .f32 a.v)).set (i * 2 + 1) (.int .i64 a.k) ++ rest).toArray := by
    rw [List.setIfInBounds_toArray, List.setIfInBounds_toArray, List.set_append_left _ _ (by omega), List.set_append_left _ _ (by simp; omega)]
  rw [e] at h2
  exact h2
theorem SB.swap {w : World} {g : Nat} {xs : List SpR} {rest : List Value} (h : SB w g xs rest) {i j : Nat} (hi : i < xs.length) (hj : j < xs.length) :
    SB ((((w.setCell ⟨g, i * 2, none⟩ (.float .f32 (xs.getD j ⟨0, 0⟩).v)).setCell ⟨g, i * 2 + 1, none⟩ (.int .i64 (xs.getD j ⟨0, 0⟩).k)).setCell ⟨g, j * 2, none⟩ (.float .f32 (xs.getD i ⟨0, 0⟩).v)).setCell ⟨g, j * 2 + 1, none⟩ (.int .i64 (xs.getD i ⟨0, 0⟩).k)) g (swapL xs i j) rest :=
  (h.set hi _).set (by simpa using hj) _

theorem grown_gset {a w : World} {g : Nat} (h : a.grownBy w (some g)) (o : Nat) (u : Value) : a.grownBy (w.setCell ⟨g, o, none⟩ u) (some g) :=
  ⟨h.os, h.tape, h.output, by simpa [World.setCell] using h.size, fun i hi hn => (Below.heap_setCell w ⟨g, o, none⟩ u i (fun e => hn (by rw [e]))).trans (h.block i hi hn)⟩
set_option maxRecDepth 100000 in
set_option maxHeartbeats 1600000 in
theorem Swap_any (g n c : Nat) (xs : List SpR) (rest : List Value) (i j : Nat) (w : World) (hn : xs.length = n) (hr : SB w g xs rest) (hi : i < n) (hj : j < n) (hb : n ≤ 4000000000) :
    Calls Try.prog 189 #[.slice (some ⟨g, 0, none⟩) n c, .int .i64 i, .int .i64 j] w fun e w' => e = .returned (.tuple #[]) ∧ SB w' g (swapL xs i j) rest ∧ w.grownBy w' (some g) := by
  subst hn
  obtain ⟨a0, a1⟩ := cell_r hr.rd hi
  obtain ⟨b0, b1⟩ := cell_r hr.rd hj
  have hs := hr.swap hi hj
  rw [getD_el hi, getD_el hj] at hs
  have i0 : (0 : Int) ≤ i := by omega
  have i1 : (i : Int) < xs.length := by omega
  have j0 : (0 : Int) ≤ j := by omega
  have j1 : (j : Int) < xs.length := by omega
  have f0 : ∀ k, w.frozen? ⟨g, k, none⟩ = false := fun k => Bk.frozen hr k
  generalize xs[i] = a at *
  generalize xs[j] = b at *
  obtain ⟨av, ak⟩ := a
  obtain ⟨bv, bk⟩ := b
  dsimp only at a0 a1 b0 b1 hs
  have Hs := hidA hs
  clear hs hr
  obtain ⟨u1, q1⟩ := cell?_setCell_some (w := w) (p := ⟨g, i * 2, none⟩) (x := .float .f32 bv) (q := ⟨g, j * 2, none⟩) b0
  obtain ⟨u3, q3⟩ := cell?_setCell_some (w := w) (p := ⟨g, i * 2, none⟩) (x := .float .f32 bv) (q := ⟨g, j * 2 + 1, none⟩) b1
  obtain ⟨u2, q2⟩ := cell?_setCell_some (w := w.setCell ⟨g, i * 2, none⟩ (.float .f32 bv)) (p := ⟨g, i * 2 + 1, none⟩) (x := .int .i64 bk) (q := ⟨g, j * 2 + 1, none⟩) q3
  clear q3
  go_enter Try.func189, Try.ntmps189
  go_wp2
  go_region
  refine bodyPost_end (results_none Try.results189 _ _ _) rfl ?_
  refine ⟨rfl, Hs.out, ?_⟩
  exact grown_drew' (grown_gset (grown_gset (grown_gset (grown_gset (World.grownBy.refl w _) _ _) _ _) _ _) _ _)
end Go.Proofs.Ytinohfgokpbcdaa
namespace Go.Proofs.Ytinohfgokpbcdaa
open Go.RowKit
attribute [local go_sem ↓] Go.wp_at_zero Go.wp_at_succ
attribute [local go_sem] run_store_float

/-- but for the block h and one more nothing that was there has turned -/
structure Fr (w w' : World) (h : Nat) (o : Option Nat) : Prop where
  os : w'.os = w.os
  tape : w'.tape = w.tape
  output : w'.output = w.output
  size : w.heap.size ≤ w'.heap.size
  block : ∀ k, k < w.heap.size → k ≠ h → some k ≠ o → w'.heap[k]? = w.heap[k]?
theorem Fr.refl (w : World) (h : Nat) (o : Option Nat) : Fr w w h o := ⟨rfl, rfl, rfl, Nat.le_refl _, fun _ _ _ _ => rfl⟩
theorem Fr.grown {a w w' : World} {h : Nat} {o : Option Nat} (f : Fr a w h o) (g : w.grownBy w' o) : Fr a w' h o :=
  ⟨g.os.trans f.os, g.tape.trans f.tape, g.output.trans f.output, Nat.le_trans f.size g.size, fun k hk h1 h2 => (g.block k (Nat.lt_of_lt_of_le hk f.size) h2).trans (f.block k hk h1 h2)⟩
theorem Fr.ext {a w w' : World} {h : Nat} {o : Option Nat} (f : Fr a w h o) (g : Ext w w') : Fr a w' h o := f.grown (grown_ext g o)
theorem Fr.trans {a b c : World} {h : Nat} {o : Option Nat} (f : Fr a b h o) (g : Fr b c h o) : Fr a c h o :=
  ⟨g.os.trans f.os, g.tape.trans f.tape, g.output.trans f.output, Nat.le_trans f.size g.size, fun k hk h1 h2 => (g.block k (Nat.lt_of_lt_of_le hk f.size) h1 h2).trans (f.block k hk h1 h2)⟩
/-- a later block of the call's own in the place of the elder one -/
theorem Fr.next {a b c : World} {h : Nat} {o o' : Option Nat} (f : Fr a b h o) (g : Fr b c h o') (ho : ∀ k, o' = some k → o = some k ∨ a.heap.size ≤ k) : Fr a c h o :=
  ⟨g.os.trans f.os, g.tape.trans f.tape, g.output.trans f.output, Nat.le_trans f.size g.size, fun k hk h1 h2 => (g.block k (Nat.lt_of_lt_of_le hk f.size) h1 (fun e => by
    rcases ho k e.symm with hh | hh
    · exact h2 hh.symm
    · omega)).trans (f.block k hk h1 h2)⟩
theorem Fr.set {a w : World} {h : Nat} {o : Option Nat} (f : Fr a w h o) (i : Nat) (u : Value) : Fr a (w.setCell ⟨h, i, none⟩ u) h o :=
  ⟨f.os, f.tape, f.output, by simpa [World.setCell] using f.size, fun k hk h1 h2 => (Below.heap_setCell w ⟨h, i, none⟩ u k (fun e => h1 e)).trans (f.block k hk h1 h2)⟩
theorem Fr.bk {w w' : World} {h : Nat} {o : Option Nat} (f : Fr w w' h o) {g : Nat} {t : TypeId} {cs : Array Value} (hb : Bk w g t cs) (h1 : g ≠ h) (h2 : some g ≠ o) : Bk w' g t cs := (f.block g hb.lt h1 h2).trans hb
theorem Fr.to_ext {a w w' : World} {h : Nat} {o : Option Nat} (hx : Ext a w) (f : Fr w w' h o) (h1 : a.heap.size ≤ h) (h2 : ∀ k, o = some k → a.heap.size ≤ k) : Ext a w' := by
  have k : Below a.heap.size a w := hx
  exact ⟨f.os.trans k.os, f.tape.trans k.tape, f.output.trans k.output, Nat.le_trans k.size f.size, fun i hi => (f.block i (Nat.lt_of_lt_of_le hi k.size) (by omega) (fun e => by have := h2 i e.symm; omega)).trans (k.block i hi)⟩

/-- a list of spills of the call's own -/
def OwnS (w : World) (base : Nat) (v : Value) (xs : List SpR) : Prop := w.ownsRow base 173 2 v xs.length (scells xs)
theorem OwnS.nil (w : World) (base : Nat) : OwnS w base (.slice none 0 0) [] := World.ownsRow_nil w base _ 2
theorem OwnS.ext {w w' : World} {base : Nat} {v : Value} {xs : List SpR} (h : OwnS w base v xs) (hx : Ext w w') : OwnS w' base v xs := World.ownsRow.kept h (grown_ext hx none) (by cases h : v.ownBlock <;> simp)
theorem OwnS.form {w : World} {base : Nat} {v : Value} {xs : List SpR} (h : OwnS w base v xs) (hn : 0 < xs.length) : ∃ g cap rest, v = .slice (some ⟨g, 0, none⟩) xs.length cap ∧ base ≤ g ∧ SB w g xs rest ∧ xs.length ≤ cap ∧ cap ≤ maxLen ∧ rest.length + xs.length * 2 = cap * 2 := by
  rcases h.2 with ⟨_, h2⟩ | ⟨g, cap, cur, hv, hbg, hh, h3, h4, h5, h6⟩
  · omega
  · refine ⟨g, cap, cur.toList.drop (xs.length * 2), hv, hbg, ?_, h3, h4, ?_⟩
    · unfold SB Bk
      rw [← h6, List.take_append_drop, Array.toArray_toList]
      exact hh
    · rw [List.length_drop, Array.length_toList, h5]
      omega
theorem OwnS.mk {w : World} {base g cap n : Nat} {xs : List SpR} {rest : List Value} (hn : n = xs.length) (hb : base ≤ g) (h : SB w g xs rest) (h3 : xs.length ≤ cap) (h4 : cap ≤ maxLen) (h5 : rest.length + xs.length * 2 = cap * 2) : OwnS w base (.slice (some ⟨g, 0, none⟩) n cap) xs := by
  subst hn
  refine ⟨scells_length xs, .inr ⟨g, cap, _, rfl, hb, h, h3, h4, ?_, ?_⟩⟩
  · simp [scells_length]
    omega
  · rw [List.take_append_of_le_length (by rw [scells_length]; omega), List.take_of_length_le (by rw [scells_length]; omega)]

theorem as_spill (v : Value) (w : World) : (Instr.typeAssert (.iface 173 v) 20 173 false).run Try.prog w = .ok v w := by kernel_rfl
attribute [local go_sem] as_spill
theorem infoSp : (Try.prog.info? 173).map (fun i => (i.zero, i.size, i.bytes)) = some (some (.agg #[.float .f32 0, .int .i64 0]), 2, 16) := by kernel_rfl

set_option maxRecDepth 100000 in
set_option maxHeartbeats 1600000 in
theorem Push_any (hb base : Nat) (v : Value) (xs : List SpR) (a : SpR) (w : World) (hB : Bk w hb 171 #[v]) (hO : OwnS w base v xs) (hbase : base ≤ w.heap.size) (hn : xs.length ≤ 4000000000) :
    Calls Try.prog 191 #[.pointer (some ⟨hb, 0, none⟩), .iface 173 (.agg #[.float .f32 a.v, .int .i64 a.k])] w fun e w' => e = .returned (.tuple #[]) ∧ ∃ g cap, (v.ownBlock = some g ∨ w.heap.size ≤ g) ∧ Bk w' hb 171 #[.slice (some ⟨g, 0, none⟩) (xs.length + 1) cap] ∧ OwnS w' base (.slice (some ⟨g, 0, none⟩) (xs.length + 1) cap) (xs ++ [a]) ∧ Fr w w' hb v.ownBlock := by
  obtain ⟨i0, hi0, hz0, hz1, hz2⟩ := info_parts infoSp
  have c0 := hB.cell 0
  have f0 := hB.frozen 0
  have c1 := (hB.alloc (.cells #[.float .f32 a.v, .int .i64 a.k] 173)).cell 0
  go_enter Try.func191, Try.ntmps191
  go_region_law ((refine step_append_lies _ (by rfl) (.tmp 7) (.tmp 10) 171 (by rfl) base 173 i0 (.agg #[.float .f32 0, .int .i64 0]) 2 16 Try.underlying171 hi0 hz0 hz1 hz2 (by rfl) (by decide) v xs.length (scells xs) (by rfl) (hO.ext (by repeat (first | exact Ext.refl _ | assumption | refine Ext.setCell ?_ (by first | (simp; done) | (simp; omega)) _ | refine Ext.drewN ?_ _ | refine Ext.alloc ?_ _ | refine Ext.drew ?_ | refine Ext.trans ?_ (by assumption)))) ⟨w.heap.size, 0, none⟩ 1 1 [.float .f32 a.v, .int .i64 a.k] (by rfl) (by rfl) (World.news_of_block (cs := #[.float .f32 a.v, .int .i64 a.k]) (t := 173) (fr := (0, 0)) (heap_alloc_new _ _)) (by simp [Value.oneCell']) (by decide) (by unfold maxLen; omega) (by omega) (by simp; omega) (w.heap.size + 1) (by simp) ?_; intro g cap w1 hown hgrow hat hlt; have hB1 := Bk.grown (hB.ext (by repeat (first | exact Ext.refl _ | assumption | refine Ext.setCell ?_ (by first | (simp; done) | (simp; omega)) _ | refine Ext.drewN ?_ _ | refine Ext.alloc ?_ _ | refine Ext.drew ?_ | refine Ext.trans ?_ (by assumption)))) hgrow (own_ne hO hB (by decide)); have d0 := hB1.cell 0; have d1 := hB1.frozen 0))
  all_goals
    (try go_wp2)
    refine bodyPost_end (results_none Try.results191 _ _ _) rfl ?_
    refine ⟨rfl, g, cap, ?_, hB1.set 0 _, ?_, ?_⟩
    · rcases hat with h | h
      · exact .inl h
      · exact .inr (by omega)
    · have hne : some hb ≠ (Value.slice (some ⟨g, 0, none⟩) (xs.length + 1) cap).ownBlock := own_ne hown hB1 (by decide)
      unfold OwnS
      rw [List.length_append, scells_append]
      exact ownsRow_setCell_other hown (fun e => hne e.symm) _
    · exact Fr.set (Fr.grown (Fr.ext (Fr.refl w _ _) (by repeat (first | exact Ext.refl _ | assumption | refine Ext.setCell ?_ (by first | (simp; done) | (simp; omega)) _ | refine Ext.drewN ?_ _ | refine Ext.alloc ?_ _ | refine Ext.drew ?_ | refine Ext.trans ?_ (by assumption)))) hgrow) _ _

set_option maxRecDepth 100000 in
set_option maxHeartbeats 1600000 in
theorem Pop_any (hb g n c : Nat) (xs : List SpR) (a : SpR) (rest : List Value) (w : World) (hB : Bk w hb 171 #[.slice (some ⟨g, 0, none⟩) (n + 1) c]) (hn : xs.length = n) (hS : SB w g (xs ++ [a]) rest) (hc : n + 1 ≤ c) (hn4 : n ≤ 4000000000) :
    Calls Try.prog 190 #[.pointer (some ⟨hb, 0, none⟩)] w fun e w' => e = .returned (.iface 173 (.agg #[.float .f32 a.v, .int .i64 a.k])) ∧ Bk w' hb 171 #[.slice (some ⟨g, 0, none⟩) n c] ∧ Fr w w' hb none := by
  subst hn
  have hl : xs.length < (xs ++ [a]).length := by simp
  obtain ⟨a0, a1⟩ := cell_r hS.rd hl
  obtain ⟨b0, b1⟩ := cell_r (SB.rd (Bk.alloc hS (.cells #[.float .f32 0, .int .i64 0] 173))) hl
  have e : (xs ++ [a])[xs.length] = a := by simp
  rw [e] at a0 a1 b0 b1
  obtain ⟨av, ak⟩ := a
  dsimp only at a0 a1 b0 b1 ⊢
  have c0 := hB.cell 0
  have c1 := (hB.alloc (.cells #[.float .f32 0, .int .i64 0] 173)).cell 0
  have hlt := hB.lt
  clear e hl hS
  generalize xs.length = n at *
  go_enter Try.func190, Try.ntmps190
  go_upto_region 1 with fail
  go_region
  have hx2 : Ext w (w.alloc (.cells #[.float .f32 av, .int .i64 ak] 173)).drew := ((Ext.refl w).alloc _).drew
  have hB2 := hB.ext hx2
  have hX2 : Bk (w.alloc (.cells #[.float .f32 av, .int .i64 ak] 173)).drew w.heap.size 173 #[.float .f32 av, .int .i64 ak] := (Bk.new' rfl).drew
  have hfr := Fr.ext (Fr.refl w hb none) hx2
  generalize (w.alloc (.cells #[.float .f32 av, .int .i64 ak] 173)).drew = w2 at *
  clear a0 a1 b0 b1 c0 c1
  have c0 := hB2.cell 0
  have f0 := hB2.frozen 0
  have n1 : (n : Int) ≤ c := by omega
  go_upto_region 2 with fail
  go_region
  have hB3 : Bk (w2.setCell ⟨hb, 0, none⟩ (.slice (some ⟨g, 0, none⟩) n c)).drew hb 171 #[.slice (some ⟨g, 0, none⟩) n c] := (hB2.set 0 _).drew
  have hX3 : Bk (w2.setCell ⟨hb, 0, none⟩ (.slice (some ⟨g, 0, none⟩) n c)).drew w.heap.size 173 #[.float .f32 av, .int .i64 ak] := (hX2.far (by simp; omega) _).drew
  have hfr3 : Fr w (w2.setCell ⟨hb, 0, none⟩ (.slice (some ⟨g, 0, none⟩) n c)).drew hb none := (hfr.set 0 _).ext ((Ext.refl _).drew)
  generalize (w2.setCell ⟨hb, 0, none⟩ (.slice (some ⟨g, 0, none⟩) n c)).drew = w3 at *
  clear c0 f0
  have x0 := hX3.cell 0
  have x1 := hX3.cell 1
  go_wp2
  go_ret
  exact ⟨rfl, hB3, hfr3⟩
end Go.Proofs.Ytinohfgokpbcdaa
namespace Go.Proofs.Ytinohfgokpbcdaa
open Go.RowKit
attribute [local go_sem ↓] Go.wp_at_zero Go.wp_at_succ
attribute [local go_sem] run_store_float

/-- a spill is not behind another -/
def leS (a b : SpR) : Prop := valI a.v < valI b.v ∨ valI a.v = valI b.v ∧ a.k ≤ b.k
theorem leS_refl (a : SpR) : leS a a := .inr ⟨rfl, by omega⟩
theorem leS_trans (a b c : SpR) (h : leS a b) (k : leS b c) : leS a c := by unfold leS at *; omega
theorem lessB_le {a b : SpR} (ha : Fin a.v) (hb : Fin b.v) : lessB a b = true ↔ ¬ leS b a := by
  unfold lessB leS
  rw [lt_val ha hb, ord_valI ha hb]
  simp only [Bool.or_eq_true, decide_eq_true_eq, Bool.and_eq_true, beq_iff_eq, Option.some.injEq, Int.compare_eq_eq]
  omega
theorem lessB_yes {a b : SpR} (ha : Fin a.v) (hb : Fin b.v) (h : lessB a b = true) : leS a b := by
  rw [lessB_le ha hb] at h
  unfold leS at *
  omega
theorem lessB_no {a b : SpR} (ha : Fin a.v) (hb : Fin b.v) (h : lessB a b = false) : leS b a := by
  have := lessB_le ha hb
  rw [h] at this
  simpa using this
def AllFin (xs : List SpR) : Prop := ∀ a ∈ xs, Fin a.v
theorem AllFin.get {xs : List SpR} (h : AllFin xs) {i : Nat} (hi : i < xs.length) : Fin (xs.getD i ⟨0, 0⟩).v := by
  rw [getD_el hi]
  exact h _ (List.getElem_mem hi)
theorem AllFin.perm {xs ys : List SpR} (h : AllFin xs) (hp : ys.Perm xs) : AllFin ys := fun a ha => h a (hp.mem_iff.1 ha)

set_option maxRecDepth 100000 in
set_option maxHeartbeats 1600000 in
theorem up_any (hb g n c j : Nat) (xs : List SpR) (rest : List Value) (w : World) (hB : Bk w hb 171 #[.slice (some ⟨g, 0, none⟩) n c]) (hn : xs.length = n) (hS : SB w g xs rest) (hf : AllFin xs) (hj : j < n) (hn4 : n ≤ 4000000000) (hu : UpH leS xs j) :
    Calls Try.prog 157 #[.iface 175 (.pointer (some ⟨hb, 0, none⟩)), .int .i64 j] w fun e w' => e = .returned (.tuple #[]) ∧ ∃ ys, ys.Perm xs ∧ HeapFrom leS ys ys.length 0 ∧ SB w' g ys rest ∧ w.grownBy w' (some g) := by
  have hgb : g ≠ hb := Bk.ne hS hB (by decide)
  have Hn := hidA hn
  have Hf := hidA hf
  clear hn hf
  go_enter Try.func157, Try.ntmps157
  go_wp2
  go_loopw [1] (fun s1 wr => ∃ (j : Nat) (ys : List SpR), s1 = .int .i64 j ∧ j < n ∧ ys.Perm xs ∧ UpH leS ys j ∧ SB wr g ys rest ∧ w.grownBy wr (some g)) (fun s1 _ => (intOf s1).toNat)
  case atStart => exact ⟨j, xs, rfl, hj, List.Perm.refl _, hu, hS, World.grownBy.refl _ _⟩
  case round =>
    clear hu hS hj
    obtain ⟨j, ys, rfl, hj, hp, hu, hS, hg⟩ := hrel
    have hyl : ys.length = n := by rw [hp.length_eq]; exact Hn.out
    have hBr := Bk.grown hB hg (fun e => by injection e with e; exact hgb e.symm)
    have c0 := hBr.cell 0
    have nl := nil_Less
    have ns := nil_Swap
    have ml := m_Less wr hb _ c0
    have ms := fun w' h => m_Swap w' hb _ ((hBr.ext h).cell 0)
    have Hu := hidA hu
    have Hyl := hidA hyl
    clear hu hyl
    by_cases h0 : j = 0
    · subst h0
      go_wp2
      refine bodyPost_end (results_none Try.results157 _ _ _) rfl ?_
      exact ⟨rfl, ys, hp, Hu.out.done (fun h _ => by omega), hS, hg⟩
    · obtain ⟨p, hpe⟩ : ∃ p : Nat, p = (j - 1) / 2 := ⟨_, rfl⟩
      have hpj : (((j : Int) - 1) / 2) = p := by omega
      have hpi : ((p : Int) == j) = false := by simp; omega
      have hj1 : 1 ≤ (j : Int) := by omega
      have hpl : p < j := by omega
      have hfj := (Hf.out.perm hp).get (i := j) (by have := Hyl.out; omega)
      have hfp := (Hf.out.perm hp).get (i := p) (by have := Hyl.out; omega)
      have HL := hidA (Less_any g n c ys j p wr Hyl.out hS.rd hj (by omega) hn4)
      have HW := fun w' (h : Ext wr w') => hidA (Swap_any g n c ys rest p j w' Hyl.out (Bk.ext hS h) (by omega) hj hn4)
      have Hpe := hidA hpe
      have Hfj := hidA hfj
      have Hfp := hidA hfp
      clear hpe hfj hfp
      generalize hb1 : lessB (ys.getD j ⟨0, 0⟩) (ys.getD p ⟨0, 0⟩) = b at HL
      have Hb := hidA hb1
      clear hb1
      cases b
      · go_upto_region 1 with fail
        rw [hpj]
        clear ms ns HW
        go_wp2_with (go_at_call 188; refine HL.out.mono ?_; rintro e w1 ⟨rfl, hx1⟩)
        refine bodyPost_end (results_none Try.results157 _ _ _) rfl ?_
        refine ⟨rfl, ys, hp, Hu.out.done (fun h1 h2 => ?_), Bk.ext hS hx1, grown_trans' hg (grown_ext hx1 _)⟩
        rw [← Hpe.out]
        exact lessB_no Hfj.out Hfp.out Hb.out
      · go_upto_region 1 with fail
        rw [hpj]
        go_wp2_with (first | (go_at_call 188; refine HL.out.mono ?_; rintro e w1 ⟨rfl, hx1⟩; have ms := ms w1 hx1) | (go_at_call 189; refine ((HW _ (by assumption)).out).mono ?_; rintro e w2 ⟨rfl, hS2, hg2⟩))
        go_roundw
        case rel =>
          refine ⟨p, swapL ys p j, by rfl, by omega, (swapL_perm (by have := Hyl.out; omega) (by have := Hyl.out; omega)).trans hp, ?_, hS2, grown_trans' (grown_trans' hg (grown_ext hx1 _)) hg2⟩
          have h2 := Hu.out.swap leS_trans (by omega) (by have := Hyl.out; omega) (by rw [← Hpe.out]; exact lessB_yes Hfj.out Hfp.out Hb.out)
          rw [← Hpe.out] at h2
          exact h2
        case measure => simp [intOf]; omega

theorem swapL_drop {xs : List SpR} {i j n : Nat} (hi : i < n) (hj : j < n) : (swapL xs i j).drop n = xs.drop n := by
  unfold swapL
  rw [List.drop_set_of_lt hj, List.drop_set_of_lt hi]
set_option maxRecDepth 100000 in
set_option maxHeartbeats 1600000 in
theorem down_any (hb g N n c s i : Nat) (xs : List SpR) (rest : List Value) (w : World) (hB : Bk w hb 171 #[.slice (some ⟨g, 0, none⟩) N c]) (hn : xs.length = N) (hS : SB w g xs rest) (hf : AllFin xs) (hsi : s ≤ i) (hin : i ≤ n) (hnN : n ≤ N) (hN4 : N ≤ 1000000000) (hu : DownH leS xs n s i) :
    Calls Try.prog 156 #[.iface 175 (.pointer (some ⟨hb, 0, none⟩)), .int .i64 i, .int .i64 n] w fun e w' => ∃ b, e = .returned (.bool b) ∧ ∃ ys, ys.Perm xs ∧ ys.drop n = xs.drop n ∧ HeapFrom leS ys n s ∧ SB w' g ys rest ∧ w.grownBy w' (some g) := by
  have hgb : g ≠ hb := Bk.ne hS hB (by decide)
  have Hn := hidA hn
  have Hf := hidA hf
  clear hn hf
  go_enter Try.func156, Try.ntmps156
  go_wp2
  go_loopw [7] (fun s7 wr => ∃ (i : Nat) (ys : List SpR), s7 = .int .i64 i ∧ s ≤ i ∧ i ≤ n ∧ ys.Perm xs ∧ ys.drop n = xs.drop n ∧ DownH leS ys n s i ∧ SB wr g ys rest ∧ w.grownBy wr (some g)) (fun s7 _ => n - (intOf s7).toNat)
  case atStart => exact ⟨i, xs, rfl, hsi, hin, List.Perm.refl _, rfl, hu, hS, World.grownBy.refl _ _⟩
  case round =>
    clear hu hS hsi hin
    obtain ⟨i, ys, rfl, hsi, hin, hp, hd, hu, hS, hg⟩ := hrel
    have hyl : ys.length = N := by rw [hp.length_eq]; exact Hn.out
    have hBr := Bk.grown hB hg (fun e => by injection e with e; exact hgb e.symm)
    have nl := nil_Less
    have ns := nil_Swap
    have ml := fun w' h => m_Less w' hb _ ((hBr.ext h).cell 0)
    have ms := fun w' h => m_Swap w' hb _ ((hBr.ext h).cell 0)
    have Hu := hidA hu
    have Hyl := hidA hyl
    have Hd := hidA hd
    clear hu hyl hd
    have hd := Hd.out
    by_cases h1 : 2 * i + 1 < n
    · have hfi := (Hf.out.perm hp).get (i := i) (by have := Hyl.out; omega)
      have Hfi := hidA hfi
      have ml0 := ml wr (Ext.refl _)
      have i1 : 2 * (i : Int) + 1 < n := by omega
      clear hfi hd
      by_cases h2 : 2 * i + 2 < n
      · have i2 : 2 * (i : Int) + 1 + 1 < n := by omega
        have hf1 := (Hf.out.perm hp).get (i := 2 * i + 1) (by have := Hyl.out; omega)
        have hf2 := (Hf.out.perm hp).get (i := 2 * i + 2) (by have := Hyl.out; omega)
        have HL1 := hidA (Less_any g N c ys (2 * i + 2) (2 * i + 1) wr Hyl.out hS.rd (by omega) (by omega) (by omega))
        generalize hb1 : lessB (ys.getD (2 * i + 2) ⟨0, 0⟩) (ys.getD (2 * i + 1) ⟨0, 0⟩) = b1 at HL1
        have Hb1 := hidA hb1
        have Hf1 := hidA hf1
        have Hf2 := hidA hf2
        clear hb1 hf1 hf2
        have e1 : ((2 * i + 1 : Nat) : Int) = 2 * (i : Int) + 1 := by omega
        have e2 : ((2 * i + 2 : Nat) : Int) = 2 * (i : Int) + 1 + 1 := by omega
        rw [e1, e2] at HL1
        clear e1 e2
        cases b1
        · go_upto_region 8 with (go_at_call 188; refine HL1.out.mono ?_; rintro e w1 ⟨rfl, hx1⟩)
          have ml1 := ml w1 hx1
          clear ml0 nl
          have nl := nil_Less
          clear HL1
          have Hfj := hidA ((Hf.out.perm hp).get (i := 2 * i + 1) (by have := Hyl.out; omega))
          have HL2 := hidA (Less_any g N c ys (2 * i + 1) i w1 Hyl.out (hS.rd.ext hx1) (by omega) (by omega) (by omega))
          have HW := fun w' (h : Ext wr w') => hidA (Swap_any g N c ys rest i (2 * i + 1) w' Hyl.out (Bk.ext hS h) (by omega) (by omega) (by omega))
          have e3 : ((2 * i + 1 : Nat) : Int) = 2 * (i : Int) + 1 := by omega
          rw [e3] at HL2 HW
          clear e3
          generalize hb2 : lessB (ys.getD (2 * i + 1) ⟨0, 0⟩) (ys.getD i ⟨0, 0⟩) = b2 at HL2
          have Hb2 := hidA hb2
          clear hb2
          cases b2
          · go_wp2_with (go_at_call 188; refine HL2.out.mono ?_; rintro e w2 ⟨rfl, hx2⟩)
            go_ret
            refine ⟨_, rfl, ys, hp, Hd.out, Hu.out.done (fun d d1 d2 d3 => ?_), Bk.ext hS (Ext.trans hx1 hx2), grown_trans' hg (grown_ext (Ext.trans hx1 hx2) _)⟩
            have h5 := lessB_no Hfj.out Hfi.out Hb2.out
            have h6 := lessB_no Hf2.out Hf1.out Hb1.out
            rcases (show d = 2 * i + 1 ∨ d = 2 * i + 2 by omega) with rfl | rfl
            · exact h5
            · exact leS_trans _ _ _ h5 h6

          · go_wp2_with (first | (go_at_call 188; refine HL2.out.mono ?_; rintro e w2 ⟨rfl, hx2⟩; have ms2 := ms w2 (Ext.trans hx1 hx2)) | (go_at_call 189; refine ((HW _ (Ext.trans hx1 (by assumption))).out).mono ?_; rintro e w3 ⟨rfl, hS2, hg2⟩))
            go_roundw
            case rel =>
              refine ⟨2 * i + 1, swapL ys i (2 * i + 1), congrArg (Value.int .i64) (by omega), by omega, by omega, (swapL_perm (by have := Hyl.out; omega) (by have := Hyl.out; omega)).trans hp, by rw [swapL_drop (by omega) (by omega)]; exact Hd.out, ?_, hS2, grown_trans' (grown_trans' hg (grown_ext (Ext.trans hx1 hx2) _)) hg2⟩
              refine Hu.out.swap (by have := Hyl.out; omega) (by omega) (by omega) (by omega) (by omega) (fun d d1 d2 d3 d4 => ?_) (lessB_yes Hfj.out Hfi.out Hb2.out)
              have h6 := lessB_no Hf2.out Hf1.out Hb1.out
              obtain rfl : d = 2 * i + 2 := by omega
              exact h6

            case measure => simp [intOf]; omega
        · go_upto_region 8 with (go_at_call 188; refine HL1.out.mono ?_; rintro e w1 ⟨rfl, hx1⟩)
          have ml1 := ml w1 hx1
          clear ml0
          clear HL1
          have Hfj := hidA ((Hf.out.perm hp).get (i := 2 * i + 2) (by have := Hyl.out; omega))
          have HL2 := hidA (Less_any g N c ys (2 * i + 2) i w1 Hyl.out (hS.rd.ext hx1) (by omega) (by omega) (by omega))
          have HW := fun w' (h : Ext wr w') => hidA (Swap_any g N c ys rest i (2 * i + 2) w' Hyl.out (Bk.ext hS h) (by omega) (by omega) (by omega))
          have e3 : ((2 * i + 2 : Nat) : Int) = 2 * (i : Int) + 1 + 1 := by omega
          rw [e3] at HL2 HW
          clear e3
          generalize hb2 : lessB (ys.getD (2 * i + 2) ⟨0, 0⟩) (ys.getD i ⟨0, 0⟩) = b2 at HL2
          have Hb2 := hidA hb2
          clear hb2
          cases b2
          · go_wp2_with (go_at_call 188; refine HL2.out.mono ?_; rintro e w2 ⟨rfl, hx2⟩)
            go_ret
            refine ⟨_, rfl, ys, hp, Hd.out, Hu.out.done (fun d d1 d2 d3 => ?_), Bk.ext hS (Ext.trans hx1 hx2), grown_trans' hg (grown_ext (Ext.trans hx1 hx2) _)⟩
            have h5 := lessB_no Hfj.out Hfi.out Hb2.out
            have h6 := lessB_yes Hf2.out Hf1.out Hb1.out
            rcases (show d = 2 * i + 1 ∨ d = 2 * i + 2 by omega) with rfl | rfl
            · exact leS_trans _ _ _ h5 h6
            · exact h5

          · go_wp2_with (first | (go_at_call 188; refine HL2.out.mono ?_; rintro e w2 ⟨rfl, hx2⟩; have ms2 := ms w2 (Ext.trans hx1 hx2)) | (go_at_call 189; refine ((HW _ (Ext.trans hx1 (by assumption))).out).mono ?_; rintro e w3 ⟨rfl, hS2, hg2⟩))
            go_roundw
            case rel =>
              refine ⟨2 * i + 2, swapL ys i (2 * i + 2), congrArg (Value.int .i64) (by omega), by omega, by omega, (swapL_perm (by have := Hyl.out; omega) (by have := Hyl.out; omega)).trans hp, by rw [swapL_drop (by omega) (by omega)]; exact Hd.out, ?_, hS2, grown_trans' (grown_trans' hg (grown_ext (Ext.trans hx1 hx2) _)) hg2⟩
              refine Hu.out.swap (by have := Hyl.out; omega) (by omega) (by omega) (by omega) (by omega) (fun d d1 d2 d3 d4 => ?_) (lessB_yes Hfj.out Hfi.out Hb2.out)
              have h6 := lessB_yes Hf2.out Hf1.out Hb1.out
              obtain rfl : d = 2 * i + 1 := by omega
              exact h6

            case measure => simp [intOf]; omega
      · have i2 : ¬ 2 * (i : Int) + 1 + 1 < n := by omega
        go_upto_region 8 with fail
        have Hfj := hidA ((Hf.out.perm hp).get (i := 2 * i + 1) (by have := Hyl.out; omega))
        have HL2 := hidA (Less_any g N c ys (2 * i + 1) i wr Hyl.out (hS.rd.ext (Ext.refl _)) (by omega) (by omega) (by omega))
        have HW := fun w' (h : Ext wr w') => hidA (Swap_any g N c ys rest i (2 * i + 1) w' Hyl.out (Bk.ext hS h) (by omega) (by omega) (by omega))
        have e3 : ((2 * i + 1 : Nat) : Int) = 2 * (i : Int) + 1 := by omega
        rw [e3] at HL2 HW
        clear e3
        generalize hb2 : lessB (ys.getD (2 * i + 1) ⟨0, 0⟩) (ys.getD i ⟨0, 0⟩) = b2 at HL2
        have Hb2 := hidA hb2
        clear hb2
        cases b2
        · go_wp2_with (go_at_call 188; refine HL2.out.mono ?_; rintro e w2 ⟨rfl, hx2⟩)
          go_ret
          refine ⟨_, rfl, ys, hp, Hd.out, Hu.out.done (fun d d1 d2 d3 => ?_), Bk.ext hS (Ext.trans (Ext.refl _) hx2), grown_trans' hg (grown_ext (Ext.trans (Ext.refl _) hx2) _)⟩
          have h5 := lessB_no Hfj.out Hfi.out Hb2.out
          obtain rfl : d = 2 * i + 1 := by omega
          exact h5

        · go_wp2_with (first | (go_at_call 188; refine HL2.out.mono ?_; rintro e w2 ⟨rfl, hx2⟩; have ms2 := ms w2 (Ext.trans (Ext.refl _) hx2)) | (go_at_call 189; refine ((HW _ (Ext.trans (Ext.refl _) (by assumption))).out).mono ?_; rintro e w3 ⟨rfl, hS2, hg2⟩))
          go_roundw
          case rel =>
            refine ⟨2 * i + 1, swapL ys i (2 * i + 1), congrArg (Value.int .i64) (by omega), by omega, by omega, (swapL_perm (by have := Hyl.out; omega) (by have := Hyl.out; omega)).trans hp, by rw [swapL_drop (by omega) (by omega)]; exact Hd.out, ?_, hS2, grown_trans' (grown_trans' hg (grown_ext (Ext.trans (Ext.refl _) hx2) _)) hg2⟩
            refine Hu.out.swap (by have := Hyl.out; omega) (by omega) (by omega) (by omega) (by omega) (fun d d1 d2 d3 d4 => ?_) (lessB_yes Hfj.out Hfi.out Hb2.out)
            omega

          case measure => simp [intOf]; omega
    · have i1 : (n : Int) ≤ 2 * (i : Int) + 1 := by omega
      go_wp2
      go_ret
      exact ⟨_, rfl, ys, hp, Hd.out, Hu.out.done (fun d d1 d2 d3 => by omega), hS, hg⟩
end Go.Proofs.Ytinohfgokpbcdaa
