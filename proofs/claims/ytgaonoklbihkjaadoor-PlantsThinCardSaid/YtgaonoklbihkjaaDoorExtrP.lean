/- The least and the greatest of some singles. No program in sight. -/
import Derived.Test.YtgaonoklbihkjaaDoorFloatD
namespace Go.Proofs.YtgaonoklbihkjaaDoor
open Go.RowKit

/-! ### the least and the greatest -/
def ext1 (b : Nat × Nat) (v : Nat) : Nat × Nat := (if lt v b.1 = true then v else b.1, if gt v b.2 = true then v else b.2)
def extr : List Nat → Nat × Nat
  | [] => (0, 0)
  | v :: r => r.foldl ext1 (v, v)
theorem extr_one (v : Nat) : extr [v] = (v, v) := rfl
theorem extr_snoc {l : List Nat} (h : l ≠ []) (v : Nat) : extr (l ++ [v]) = ext1 (extr l) v := by
  cases l with
  | nil => exact absurd rfl h
  | cons a r => show ((r ++ [v]).foldl ext1 (a, a)) = _; rw [List.foldl_append]; rfl
theorem ext1_mem (b : Nat × Nat) (v : Nat) : ((ext1 b v).1 = v ∨ (ext1 b v).1 = b.1) ∧ ((ext1 b v).2 = v ∨ (ext1 b v).2 = b.2) := by
  unfold ext1
  constructor <;> (simp only; split) <;> simp
theorem extr_mem : ∀ {l : List Nat}, l ≠ [] → (extr l).1 ∈ l ∧ (extr l).2 ∈ l := fun {l} h => by
  cases l with
  | nil => exact absurd rfl h
  | cons a r =>
    have key : ∀ (r : List Nat) (b : Nat × Nat) (m : List Nat), b.1 ∈ m → b.2 ∈ m → (r.foldl ext1 b).1 ∈ m ++ r ∧ (r.foldl ext1 b).2 ∈ m ++ r := by
      intro r
      induction r with
      | nil => intro b m h1 h2; simpa using ⟨h1, h2⟩
      | cons v r ih =>
        intro b m h1 h2
        have hm := ext1_mem b v
        have := ih (ext1 b v) (m ++ [v]) (by rcases hm.1 with e | e <;> rw [e] <;> simp [h1]) (by rcases hm.2 with e | e <;> rw [e] <;> simp [h2])
        simpa using this
    have := key r (a, a) [a] (by simp) (by simp)
    simpa [extr] using this

end Go.Proofs.YtgaonoklbihkjaaDoor
