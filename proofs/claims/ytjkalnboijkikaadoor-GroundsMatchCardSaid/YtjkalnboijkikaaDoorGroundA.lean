/- Plain words for what a plant finds: the height, the slope and the wetness of a cell. No program in sight. -/
import Derived.Test.YtjkalnboijkikaaDoorValAt
import Derived.Test.YtjkalnboijkikaaDoorStepP
import Derived.Test.YtjkalnboijkikaaDoorMagA
namespace Go.Proofs.YtjkalnboijkikaaDoor
open Go.RowKit

def nbOf (x y d : Int) : Int × Int := (x + stepX d, y + stepY d)
/-- how much the ground rises to a neighbour -/
def riseTo (X Y W : Int) (l : List Nat) (x y d : Int) : Nat := absB (fsub (valAt X Y W l (x, y)) (valAt X Y W l (nbOf x y d)))
/-- the greatest rise to the first k of the four -/
def slopeK (X Y W H : Int) (l : List Nat) (x y : Int) : Nat → Nat
  | 0 => 0
  | k + 1 => if InR X Y W H (nbOf x y (2 * k)).1 (nbOf x y (2 * k)).2 ∧ gt (riseTo X Y W l x y (2 * k)) (slopeK X Y W H l x y k) = true then riseTo X Y W l x y (2 * k) else slopeK X Y W H l x y k
theorem slope_in {X Y W H : Int} {l : List Nat} {x y : Int} {k : Nat} (h : InR X Y W H (nbOf x y (2 * k)).1 (nbOf x y (2 * k)).2) (hg : gt (riseTo X Y W l x y (2 * k)) (slopeK X Y W H l x y k) = true) : slopeK X Y W H l x y (k + 1) = riseTo X Y W l x y (2 * k) := if_pos ⟨h, hg⟩
theorem slope_less {X Y W H : Int} {l : List Nat} {x y : Int} {k : Nat} (hg : ¬ gt (riseTo X Y W l x y (2 * k)) (slopeK X Y W H l x y k) = true) : slopeK X Y W H l x y (k + 1) = slopeK X Y W H l x y k := if_neg (fun h => hg h.2)
theorem slope_out {X Y W H : Int} {l : List Nat} {x y : Int} {k : Nat} (h : ¬ InR X Y W H (nbOf x y (2 * k)).1 (nbOf x y (2 * k)).2) : slopeK X Y W H l x y (k + 1) = slopeK X Y W H l x y k := if_neg (fun h' => h h'.1)
theorem abs_bd {K b : Nat} (h : Bd K b) : Bd K (absB b) := by
  unfold Bd absB at *
  rw [Nat.mod_mod]
  exact h
theorem step_bd (d : Int) : -1 ≤ stepX d ∧ stepX d ≤ 1 ∧ -1 ≤ stepY d ∧ stepY d ≤ 1 := by
  unfold stepX stepY
  refine ⟨?_, ?_, ?_, ?_⟩ <;> (repeat' split) <;> omega
def wetF (u : Nat) : Nat := if gt u 0 = true then u else 0
end Go.Proofs.YtjkalnboijkikaaDoor
