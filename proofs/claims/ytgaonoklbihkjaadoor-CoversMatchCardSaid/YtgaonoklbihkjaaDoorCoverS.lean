/- Shades: no NaN comes, and the law's sums are the same. No program in sight. -/
import Derived.Test.YtgaonoklbihkjaaDoorCoverQ
namespace Go.Proofs.YtgaonoklbihkjaaDoor
open Go.RowKit

theorem part_w {X Y : Int} {Wn : Nat} {l : List KindR} {p : List PlantR} (h0 : plantsE l p = 0) {j k : Nat} (hj : j < p.length) (hn : nJ X Y Wn l p j k = true) : Num (fmul (plK p j).size (partF (rJ l p j) (dJ X Y Wn p j k))) ∧ Bd 60 (fmul (plK p j).size (partF (rJ l p j) (dJ X Y Wn p j k))) := by
  have po := plOk h0 hj
  obtain ⟨_, _, _, h3, h4⟩ := wgt_ok po.size (of_decide_eq_true hn) (by have := po.r2; omega)
  exact ⟨h3, h4⟩
theorem part_q {X Y : Int} {Wn : Nat} {l : List KindR} {p : List PlantR} (h0 : plantsE l p = 0) {j k : Nat} (hj : j < p.length) (hn : nJ X Y Wn l p j k = true) : Num (fmul (qJ l p j) (partF (rJ l p j) (dJ X Y Wn p j k))) := by
  have po := plOk h0 hj
  obtain ⟨_, _, _, h3, _⟩ := wgt_ok po.q (of_decide_eq_true hn) (by have := po.r2; omega)
  exact h3
theorem num_nan {b : Nat} (h : Num b) : nanB b = false := by
  obtain ⟨s, m, k, e⟩ := h
  show (Ieee.single.read b).isNaN = false
  rw [e]; rfl
section
variable {X Y : Int} {Wn : Nat} {l : List KindR} {p : List PlantR} (h0 : plantsE l p = 0)
include h0
theorem cov_nan (k : Nat) : ∀ j, j ≤ p.length → nanB (covF X Y Wn l p j k) = false
  | 0, _ => by show nanB 0 = false; decide +kernel
  | j + 1, hj => by
    have ih := cov_nan k j (by omega)
    rw [covF]
    split
    · rename_i h
      have := num_nan (part_q h0 (show j < p.length by omega) h)
      unfold covS
      split
      · exact this
      · exact ih
    · exact ih
theorem sha_nan (k : Nat) : ∀ j, j ≤ p.length → nanB (shaF X Y Wn l p j k) = false
  | 0, _ => by show nanB 0 = false; decide +kernel
  | j + 1, hj => by
    have ih := sha_nan k j (by omega)
    rw [shaF]
    split
    · rename_i h
      obtain ⟨_, _, _, e⟩ := (part_w h0 (show j < p.length by omega) h).1
      exact (add_any ih e).2
    · exact ih
theorem sha_same (k : Nat) : ∀ j, j ≤ p.length → Same (shaF X Y Wn l p j k) (shaG X Y Wn l p j k).1 ∧ ((shaG X Y Wn l p j k).2 = false → shaF X Y Wn l p j k = 0)
  | 0, _ => ⟨Same.refl _, fun _ => rfl⟩
  | j + 1, hj => by
    obtain ⟨ih, ih2⟩ := sha_same k j (by omega)
    rw [shaF, shaG]
    by_cases h : nJ X Y Wn l p j k = true
    · obtain ⟨hw, hw2⟩ := part_w h0 (show j < p.length by omega) h
      rw [if_pos h, if_pos h]
      by_cases h2 : (shaG X Y Wn l p j k).2 = true
      · rw [if_pos h2]
        exact ⟨fadd_same ih hw, fun h => by cases h⟩
      · rw [if_neg h2, ih2 (by simpa using h2)]
        exact ⟨add_first hw2, fun h => by cases h⟩
    · rw [if_neg h, if_neg h]
      exact ⟨ih, ih2⟩
theorem shaG_nan (k : Nat) {j : Nat} (hj : j ≤ p.length) : nanB (shaG X Y Wn l p j k).1 = false := nan_same (sha_same h0 k j hj).1 (sha_nan h0 k j hj)
end
theorem same_ord {a b c : Nat} (h : Same a b) (hc : Num c) : ord a c = ord b c := by
  obtain ⟨s, m, k, e⟩ := hc
  rcases h with h | ⟨⟨s1, e1⟩, ⟨s2, e2⟩⟩
  · show Ieee.single.order a c = Ieee.single.order b c
    unfold Ieee.Format.order
    rw [h]
  · have hz : ∀ t, Ieee.signed t 0 0 = 0 := fun t => by cases t <;> rfl
    rw [ord_val e1 e, ord_val e2 e, hz, hz]
theorem same_hgt {a b : Nat} (h : Same a b) : hgtB a = hgtB b := by
  have n1 : Num 3380609024 := ⟨true, 8388608, 146, by decide +kernel⟩
  have n2 : Num 1233125376 := ⟨false, 8388608, 146, by decide +kernel⟩
  unfold hgtB
  rw [same_ord h n1, same_ord h n2]
theorem hgt_fin {b : Nat} (h : hgtB b = true) : finB b = true := bd_finB (hgt_bd h) (by omega)
/-- all are heights: no error -/
theorem numE_all {l : List Nat} (h : l.all hgtB = true) : numE l = 0 := by
  rw [List.all_eq_true] at h
  refine numE_ok (fun b hb => hgt_fin (h b hb)) h
theorem numE_not {l : List Nat} (h : l.all hgtB = false) : numE l ≠ 0 := fun e => by
  have h2 := (numE_zero e).2
  rw [List.all_eq_false] at h
  obtain ⟨b, hb, h3⟩ := h
  exact h3 (h2 b hb)
end Go.Proofs.YtgaonoklbihkjaaDoor
