/- Plain words for kinds of plants: their errors. No program in sight. -/
import Derived.Test.YtgaonoklbihkjaaDoorFloatD
import Derived.PlainAid
import Derived.Shelf.Strings.SlTrimAscii
namespace Go.Proofs.YtgaonoklbihkjaaDoor
open Go.RowKit Go.PlainAid

def smallB (b : Int) : Bool := decide (97 ≤ b) && decide (b ≤ 122)
def AllSmall (s : ByteArray) (k : Nat) : Prop := ∀ j, j < k → smallB (bt s j) = true
def nameOk (s : ByteArray) : Prop := s.size ≠ 0 ∧ s.size ≤ 20 ∧ AllSmall s s.size
instance (s : ByteArray) (k : Nat) : Decidable (AllSmall s k) := by unfold AllSmall; infer_instance
instance (s : ByteArray) : Decidable (nameOk s) := by unfold nameOk; infer_instance

/-- the error of the numbers of a kind -/
def numsE (a0 a1 a2 a3 a4 a5 a6 a7 a8 a9 : Nat) (p q : Int) : Int :=
  if numE [a0, a1, a2, a3, a4, a5, a6, a7, a8, a9] ≠ 0 then numE [a0, a1, a2, a3, a4, a5, a6, a7, a8, a9]
  else if (lt a1 a0 || lt a5 a4) = true then 8
  else if (lt a2 0 || lt a3 0 || lt a4 0 || lt a6 0 || lt a7 0) = true then 3
  else if (lt a8 0 || gt a8 1065353216 || lt a9 0 || gt a9 1065353216) = true then 3
  else if p < 0 ∨ 32 < p ∨ q < 0 ∨ 32 < q then 3 else 0
def kindE (s : ByteArray) (a0 a1 a2 a3 a4 a5 a6 a7 a8 a9 : Nat) (p q : Int) : Int := if nameOk s then numsE a0 a1 a2 a3 a4 a5 a6 a7 a8 a9 p q else 6

def letters : List UInt8 := [97, 98, 99, 100, 101, 102, 103, 104, 105, 106, 107, 108, 109, 110, 111, 112, 113, 114, 115, 116, 117, 118, 119, 120, 121, 122]
theorem letters_nat : ∀ n, n < 256 → letters.contains (UInt8.ofNat n) = smallB n := by decide +kernel
theorem letters_of (b : UInt8) : letters.contains b = smallB b.toNat := by
  have h := letters_nat b.toNat b.toNat_lt
  rwa [UInt8.ofNat_toNat] at h

theorem drop_nil {α : Type} {p : α → Bool} : ∀ {l : List α}, (∀ x ∈ l.dropWhile p, p x = true) → l.dropWhile p = []
  | [], _ => rfl
  | a :: t, h => by
    by_cases ha : p a = true
    · rw [List.dropWhile_cons_of_pos ha] at h ⊢
      exact drop_nil h
    · rw [List.dropWhile_cons_of_neg ha] at h
      exact absurd (h a (by simp)) ha
theorem drop_all {α : Type} {p : α → Bool} : ∀ {l : List α}, l.dropWhile p = [] ↔ ∀ x ∈ l, p x = true
  | [] => by simp
  | a :: t => by
    by_cases ha : p a = true
    · rw [List.dropWhile_cons_of_pos ha, drop_all]
      simp [ha]
    · rw [List.dropWhile_cons_of_neg ha]
      simp [ha]
theorem trim_nil (l cs : List UInt8) : Lib.trimS l cs = [] ↔ ∀ x ∈ l, cs.contains x = true := by
  unfold Lib.trimS Lib.trimLeftS Lib.trimRightS
  rw [drop_all]
  constructor
  · intro h
    have h1 := drop_nil (p := (cs.contains ·)) (l := l.reverse) (fun x hx => h x (by simpa using hx))
    intro x hx
    exact drop_all.1 h1 x (by simpa using hx)
  · intro h x hx
    have h1 := (drop_all (p := (cs.contains ·)) (l := l.reverse)).2 (fun x hx => h x (by simpa using hx))
    rw [h1] at hx
    simp at hx
theorem all_small (s : ByteArray) : AllSmall s s.size ↔ ∀ x ∈ s.data.toList, letters.contains x = true := by
  have hsz : s.data.toList.length = s.size := by rw [Array.length_toList]; rfl
  constructor
  · intro h x hx
    obtain ⟨j, hj, rfl⟩ := List.mem_iff_getElem.1 hx
    have hj' : j < s.size := by omega
    have := h j hj'
    rw [← get_bt s j hj'] at this
    rw [letters_of, Array.getElem_toList]
    exact this
  · intro h j hj
    rw [← get_bt s j hj]
    have := h s.data.toList[j] (List.getElem_mem (by omega))
    rw [letters_of, Array.getElem_toList] at this
    exact this
theorem AllSmall.zero (s : ByteArray) : AllSmall s 0 := fun _ h => by omega
theorem AllSmall.step {s : ByteArray} {k : Nat} (h : AllSmall s k) (hk : smallB (bt s k) = true) : AllSmall s (k + 1) := fun j hj => by
  rcases Nat.lt_or_eq_of_le (Nat.le_of_lt_succ hj) with h1 | rfl
  · exact h j h1
  · exact hk
theorem not_small {s : ByteArray} {k : Nat} (hk : k < s.size) (h : smallB (bt s k) = false) : ¬ AllSmall s s.size := fun h' => by
  rw [h' k hk] at h
  cases h
theorem size_zero {s : ByteArray} (h : s.size = 0) : s = ⟨#[]⟩ := by
  obtain ⟨a⟩ := s
  have : a = #[] := Array.size_eq_zero_iff.1 h
  rw [this]
theorem str_ne {s : ByteArray} (h : s ≠ ⟨#[]⟩) : s.toList.isEmpty = false := by
  rw [Lib.toList_data]
  cases hl : s.data.toList with
  | nil =>
    exfalso
    apply h
    obtain ⟨a⟩ := s
    have : a = #[] := by simpa using hl
    rw [this]
  | cons _ _ => rfl
end Go.Proofs.YtgaonoklbihkjaaDoor
