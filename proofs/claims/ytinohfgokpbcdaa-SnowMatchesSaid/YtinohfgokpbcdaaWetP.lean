/- Pure: how wet the ground is. -/
import Derived.Test.YtinohfgokpbcdaaWetA
import Derived.Test.YtinohfgokpbcdaaDepthB
namespace Go.Proofs.Ytinohfgokpbcdaa
open Go.RowKit

theorem keyI_pos {b : Nat} (h : 0 ≤ valI b) (h2 : valN (b % 2147483648) ≠ 0) : b / 2147483648 % 2 ≠ 1 := by
  intro e
  unfold valI at h
  rw [if_pos e] at h
  omega
/-- one and what is not less than zero is not less than one -/
theorem one_more {K x : Nat} (hx : Bd K x) (hK : K ≤ 100) (h0 : 0 ≤ valI x) : Ge1 (fadd 1065353216 x) := by
  have h1 := fadd_ge (K := K) (one_bd.mono (Nat.zero_le K)) hx (by omega) h0
  have hb := (fadd_ok (K := K) (one_bd.mono (Nat.zero_le K)) hx (by omega)).2
  have hF := bd_Fin hb (by omega : K + 2 ≤ 127)
  generalize fadd 1065353216 x = y at *
  refine ⟨?_, hF⟩
  rcases Nat.lt_or_ge (y % 2147483648) (127 * 8388608) with hlt | hge
  · exfalso
    have h2 := valN_lt hlt
    have e1 : valI 1065353216 = (valN (127 * 8388608) : Nat) := by decide +kernel
    rw [e1] at h1
    unfold valI at h1
    split at h1 <;> omega
  · exact hge
theorem stp_nonneg {v : Nat → Nat} {Wn Hn k : Nat} (hv : ∀ j, j < Wn * Hn → Bd 20 (v j)) (hk : k < Wn * Hn) (d : Nat) : 0 ≤ valI (stp v Wn Hn k d).2 := by
  induction d with
  | zero =>
    show (0 : Int) ≤ valI 0
    rw [val_zero]
    exact Int.le_refl _
  | succ d ih =>
    cases h : nbr Wn Hn k d with
    | none => rw [stp_none h]; exact ih
    | some n =>
      rw [stp_some h]
      split
      · rename_i hg
        have hb := (drop_ok d (hv _ hk) (hv _ (nbr_lt h))).2.2
        rw [gt_val (bd_Fin hb (by omega)) (bd_Fin (stp_bd hv hk (fun d n h => nbr_lt h) d) (by omega))] at hg
        simp at hg
        show 0 ≤ valI (dropF v k n d)
        omega
      · exact ih
/-- how wet a cell is -/
def wetF (v : Nat → Nat) (q : List Int) (Wn Hn k : Nat) : Nat := fdiv (rootI (q.getD k 0)) (fadd 1065353216 (stp v Wn Hn k 8).2)
theorem wet_ok {v : Nat → Nat} {q : List Int} {Wn Hn k : Nat} (hv : ∀ j, j < Wn * Hn → Bd 20 (v j)) (hk : k < Wn * Hn) (h0 : 0 ≤ q.getD k 0) (h1 : q.getD k 0 ≤ 1099511627776) :
    floatBits .add .f32 1065353216 (stp v Wn Hn k 8).2 = some (fadd 1065353216 (stp v Wn Hn k 8).2) ∧ floatBits .quo .f32 (rootI (q.getD k 0)) (fadd 1065353216 (stp v Wn Hn k 8).2) = some (wetF v q Wn Hn k) ∧ Bd 50 (wetF v q Wn Hn k) := by
  have hb := stp_bd hv hk (fun d n h => nbr_lt h) 8
  have h2 := one_more hb (by omega) (stp_nonneg hv hk 8)
  obtain ⟨r, h3, h4⟩ := fdiv_bd (rootI_bd h0 h1).2 h2 (by omega)
  have h5 : floatBits .quo .f32 (rootI (q.getD k 0)) (fadd 1065353216 (stp v Wn Hn k 8).2) = some r := h3
  have h6 : wetF v q Wn Hn k = r := by unfold wetF fdiv; rw [h5]; rfl
  exact ⟨(fadd_ok (one_bd.mono (Nat.zero_le 24)) hb (by omega)).1, by rw [h6]; exact h5, by rw [h6]; exact h4⟩
theorem nums_ok {q : List Int} {N : Nat} {most : Int} (h : numsE q N most = 0) : q.length = N ∧ ∀ k, k < N → 0 ≤ q.getD k 0 ∧ q.getD k 0 ≤ most := by
  unfold numsE at h
  split at h
  · exact absurd h (by decide)
  · rename_i h1
    split at h
    · exact absurd h (by decide)
    · rename_i h2
      refine ⟨by omega, fun k hk => ?_⟩
      have h3 : ¬ (q.getD k 0 < 0 ∨ most < q.getD k 0) := fun e => h2 ⟨k, by omega, e⟩
      omega
end Go.Proofs.Ytinohfgokpbcdaa
