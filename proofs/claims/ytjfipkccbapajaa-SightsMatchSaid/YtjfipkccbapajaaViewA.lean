/- Plain words for what is seen of all cells: the place of a cell by its number, and the list of what is seen. No program in sight. -/
import Derived.Test.YtjfipkccbapajaaSightsB
namespace Go.Proofs.Ytjfipkccbapajaa
open Go.RowKit

def placeK (X Y W : Int) (k : Nat) : Int × Int := (X + ((k % W.toNat : Nat) : Int), Y + ((k / W.toNat : Nat) : Int))
theorem placeK_in {X Y W H : Int} (hr : RegOk X Y W H) {k n : Nat} (hn : (n : Int) = W * H) (hk : k < n) : InR X Y W H (placeK X Y W k).1 (placeK X Y W k).2 := by
  unfold RegOk at hr
  obtain ⟨Wn, rfl⟩ := Int.eq_ofNat_of_zero_le (show 0 ≤ W by omega)
  obtain ⟨Hn, rfl⟩ := Int.eq_ofNat_of_zero_le (show 0 ≤ H by omega)
  have h1 : k % Wn < Wn := Nat.mod_lt _ (by omega)
  have hn' : n = Wn * Hn := by rw [← Int.natCast_mul] at hn; exact Int.ofNat.inj hn
  have h2 : k / Wn < Hn := Nat.div_lt_of_lt_mul (by rw [← hn']; exact hk)
  unfold InR placeK
  simp only [Int.toNat_natCast]
  generalize k % Wn = g at *
  generalize k / Wn = h at *
  omega

theorem place_facts {k Wn : Nat} {X Y : Int} (hk : k ≤ 65536) (h1 : 1 ≤ Wn) (h2 : Wn ≤ 512) (hX1 : -4194304 ≤ X) (hX2 : X ≤ 4194304) (hY1 : -4194304 ≤ Y) (hY2 : Y ≤ 4194304) :
    wrap64 ((k : Int) / (Wn : Int)) = (k : Int) / (Wn : Int) ∧ wrap64 (Y + (k : Int) / (Wn : Int)) = Y + (k : Int) / (Wn : Int) ∧ IntKind.i64.wrap (X + (k : Int) % (Wn : Int)) = X + (k : Int) % (Wn : Int) ∧
      (-8388608 ≤ X + (k : Int) % (Wn : Int) ∧ X + (k : Int) % (Wn : Int) ≤ 8388608) ∧ (-8388608 ≤ Y + (k : Int) / (Wn : Int) ∧ Y + (k : Int) / (Wn : Int) ≤ 8388608) := by
  have a1 : 0 ≤ (k : Int) % (Wn : Int) := Int.emod_nonneg _ (by omega)
  have a2 : (k : Int) % (Wn : Int) < Wn := Int.emod_lt_of_pos _ (by omega)
  have a3 : 0 ≤ (k : Int) / (Wn : Int) := Int.ediv_nonneg (by omega) (by omega)
  have a4 : (k : Int) / (Wn : Int) ≤ k := Int.ediv_le_self _ (by omega)
  generalize (k : Int) % (Wn : Int) = a at *
  generalize (k : Int) / (Wn : Int) = b at *
  refine ⟨by unfold wrap64; omega, by unfold wrap64; omega, IntWalk.i64_in _ (by omega), by omega, by omega⟩

def viewB (X Y W : Int) (l : List Nat) (ax ay far : Int) (eye k : Nat) : Bool :=
  decide (stepsZ ax ay (placeK X Y W k).1 (placeK X Y W k).2 ≤ far) && seesV X Y W l ax ay (placeK X Y W k).1 (placeK X Y W k).2 eye
def boo (l : List Bool) : List Value := l.map (Value.bool ·)
def viewL (X Y W : Int) (l : List Nat) (ax ay far : Int) (eye n : Nat) : List Bool := (List.range n).map (viewB X Y W l ax ay far eye)
/-- the cells of the slice of which the first k are told -/
def viewC (v : Nat → Bool) (n k : Nat) : Array Value := ((List.range n).map fun j => Value.bool (if j < k then v j else false)).toArray
theorem viewC_size (v : Nat → Bool) (n k : Nat) : (viewC v n k).size = n := by simp [viewC]
theorem viewC_get (v : Nat → Bool) (n k j : Nat) (h : j < n) : (viewC v n k)[j]? = some (.bool (if j < k then v j else false)) := by
  simp [viewC, h]
theorem viewC_set (v : Nat → Bool) (n k : Nat) : (viewC v n k).setIfInBounds k (.bool (v k)) = viewC v n (k + 1) := by
  apply Array.ext
  · simp [viewC]
  · intro i h1 h2
    have hi : i < n := by simpa [viewC] using h2
    rw [Array.getElem_setIfInBounds (by simpa [viewC] using hi)]
    simp only [viewC, List.getElem_toArray, List.getElem_map, List.getElem_range]
    by_cases hk : k = i
    · subst hk; simp
    · rw [if_neg hk]
      by_cases hlt : i < k
      · rw [if_pos hlt, if_pos (by omega)]
      · rw [if_neg hlt, if_neg (by omega)]
theorem viewC_zero (v : Nat → Bool) (n : Nat) : viewC v n 0 = (List.replicate n (Value.bool false)).toArray := by
  unfold viewC
  congr 1
  apply List.ext_getElem
  · simp
  · intro i h1 h2; simp
theorem viewC_all (v : Nat → Bool) (n : Nat) : (viewC v n n).toList = boo ((List.range n).map v) := by
  unfold viewC boo
  simp only [List.map_map]
  apply List.map_congr_left
  intro j hj
  have := List.mem_range.1 hj
  simp [this]
end Go.Proofs.Ytjfipkccbapajaa
