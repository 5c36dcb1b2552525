/- Contracts: Long and Reach of the reference; what lies between, by values. -/
import Derived.Test.YtbjomkidjccdoaaRdN
import Derived.Test.YtbjomkidjccdoaaRootA
import Derived.BigQuiet
namespace Go.Proofs.Ytbjomkidjccdoaa
open Go.RowKit
attribute [local go_sem ↓] Go.wp_at_zero Go.wp_at_succ

theorem rootTwo : rootB 1073741824 = 1068827891 := by decide +kernel
/-- the height at the place i steps on -/
def btwV (V : Nat → Nat) (Wn Hn k d i : Nat) : Nat := V ((besK Wn Hn k d i).getD 0)
theorem low_val {x : Nat} (h : Bd 20 x) : valI 3380609024 ≤ valI x := by
  refine val_key_le.2 ?_
  unfold keyI
  unfold Bd at h
  split <;> split <;> omega
theorem topN_val {V : Nat → Nat} {Wn Hn N k d : Nat} (hV : ∀ j, j < N → Bd 20 (V j)) (h0 : 0 < N) (hN : N = Wn * Hn) (n : Nat) : valI (topN V Wn Hn k d (n + 1)) = max (valI (topN V Wn Hn k d n)) (valI (btwV V Wn Hn k d (n + 1))) := by
  rw [topN]
  refine max_val (bd_Fin (topN_bd hV h0 hN n) (by omega)) (bd_Fin (hV _ ?_) (by omega))
  cases h : besK Wn Hn k d (n + 1) with
  | none => exact h0
  | some t => rw [hN]; exact besK_lt h
theorem btwV_bd {V : Nat → Nat} {Wn Hn N k d i : Nat} (hV : ∀ j, j < N → Bd 20 (V j)) (h0 : 0 < N) (hN : N = Wn * Hn) : Bd 20 (btwV V Wn Hn k d i) := by
  refine hV _ ?_
  cases h : besK Wn Hn k d i with
  | none => exact h0
  | some t => rw [hN]; exact besK_lt h
theorem top_ge {V : Nat → Nat} {Wn Hn N k d : Nat} (hV : ∀ j, j < N → Bd 20 (V j)) (h0 : 0 < N) (hN : N = Wn * Hn) : ∀ n j, 1 ≤ j → j ≤ n → valI (btwV V Wn Hn k d j) ≤ valI (topN V Wn Hn k d n)
  | 0, j, h1, h2 => by omega
  | n + 1, j, h1, h2 => by
    rw [topN_val hV h0 hN]
    by_cases e : j = n + 1
    · subst e; exact Int.le_max_right _ _
    · exact Int.le_trans (top_ge hV h0 hN n j h1 (by omega)) (Int.le_max_left _ _)
theorem top_lt {V : Nat → Nat} {Wn Hn N k d : Nat} {x : Int} (hV : ∀ j, j < N → Bd 20 (V j)) (h0 : 0 < N) (hN : N = Wn * Hn) : ∀ n, 1 ≤ n → (∀ j, 1 ≤ j → j ≤ n → valI (btwV V Wn Hn k d j) < x) → valI (topN V Wn Hn k d n) < x
  | 0, h1, h2 => by omega
  | n + 1, h1, h2 => by
    rw [topN_val hV h0 hN]
    have ha := h2 (n + 1) h1 (Nat.le_refl _)
    have hb : valI (topN V Wn Hn k d n) < x := by
      cases n with
      | zero => rw [topN]; exact Int.lt_of_le_of_lt (low_val (btwV_bd hV h0 hN)) ha
      | succ n => exact top_lt hV h0 hN (n + 1) (by omega) fun j h3 h4 => h2 j h3 (by omega)
    omega
/-- a place between, and its cell -/
theorem bes_cell {X Y : Int} {Wn Hn k d i m : Nat} (h : besK Wn Hn k d i = some m) :
    InR X Y Wn Hn (X + ((k % Wn : Nat) : Int) + i * stepX d) (Y + ((k / Wn : Nat) : Int) + i * stepY d) ∧ cellN X Y Wn (X + ((k % Wn : Nat) : Int) + i * stepX d) (Y + ((k / Wn : Nat) : Int) + i * stepY d) = (m : Int) := by
  unfold besK at h
  split at h
  · rename_i hc
    obtain ⟨c1, c2, c3, c4⟩ := hc
    injection h with h
    unfold InR cellN
    generalize (i : Int) * stepX d = px at *
    generalize (i : Int) * stepY d = py at *
    generalize k % Wn = a at *
    generalize k / Wn = b at *
    refine ⟨⟨by omega, by omega, by omega, by omega⟩, ?_⟩
    obtain ⟨u, hu⟩ := Int.eq_ofNat_of_zero_le c1
    obtain ⟨v, hv⟩ := Int.eq_ofNat_of_zero_le c3
    rw [show X + (a : Int) + px = X + (u : Int) by omega, show Y + (b : Int) + py - Y = (v : Int) by omega]
    rw [hu, hv, Int.toNat_natCast, Int.toNat_natCast] at h
    rw [← h, Int.natCast_add, Int.natCast_mul]
    generalize (v : Int) * (Wn : Int) = vw
    omega
  · cases h
end Go.Proofs.Ytbjomkidjccdoaa
