/- Pure: sums of prices that are not below zero, with infinity. No program in sight. -/
import Derived.Test.YtpgdinpckolfpaaRdE
import Derived.Test.YtpgdinpckolfpaaFloatF
namespace Go.Proofs.Ytpgdinpckolfpaa
open Go.RowKit Ieee

/-- sums of prices: words that are not below zero, infinity among them -/
def SumB (x : Nat) : Prop := x ≤ 2139095040
/-- prices -/
def PriB (p : Nat) : Prop := Fin p ∧ 0 ≤ valI p
theorem read_infS : single.read 2139095040 = .infinity false := by decide +kernel
theorem signed_ge {t : Bool} {n : Nat} (h : t = false ∨ n = 0) (u : Nat) : 0 ≤ signed t n u := by
  rcases h with rfl | rfl
  · exact signed_false _ _
  · cases t <;> simp [signed]
theorem sum_up {x y r : Nat} (hx : Fin x) (sx : x < 2147483648) (hy : Fin y) (h0 : 0 ≤ valI y) (h : single.add x y = some r) : r < 2147483648 := by
  obtain ⟨s, m, k, e, _, _, _⟩ := read_val hx
  obtain ⟨t, n, j, e2, _, _, _⟩ := read_val hy
  obtain rfl := sign_false sx e
  have ht := sign_nonneg e2 hy h0
  unfold Format.add at h
  rw [e, e2] at h
  simp only [Datum.sum, Option.map_some, Option.some.injEq] at h
  rw [← h]
  have h1 := signed_false m ((k : Int) - 149 - min ((k : Int) - 149) ((j : Int) - 149)).toNat
  have h2 := signed_ge ht ((j : Int) - 149 - min ((k : Int) - 149) ((j : Int) - 149)).toNat
  generalize signed false m ((k : Int) - 149 - min ((k : Int) - 149) ((j : Int) - 149)).toNat = A at *
  generalize signed t n ((j : Int) - 149 - min ((k : Int) - 149) ((j : Int) - 149)).toNat = B at *
  have h3 : (if A + B = 0 then false && t else decide (A + B < 0)) = false := by
    split
    · rfl
    · exact decide_eq_false (by omega)
  show single.nearest (if A + B = 0 then false && t else decide (A + B < 0)) _ _ < _
  rw [h3]
  exact near_false _ _
theorem key_pos {x : Nat} (h : x < 2147483648) : keyI x = x := by
  unfold keyI
  rw [if_neg (by omega)]
  omega
theorem sum_inf {p : Nat} (hp : Fin p) : floatBits .add .f32 2139095040 p = some 2139095040 := by
  obtain ⟨t, n, j, e2, _, _, _⟩ := read_val hp
  have hd : floatBits .add .f32 2139095040 p = single.add 2139095040 p := rfl
  rw [hd]
  unfold Format.add
  rw [e2, read_infS]
  simp only [Datum.sum, Option.map_some, Option.some.injEq]
  decide +kernel
theorem sum_fin {x p : Nat} (hx : x < 2139095040) (hp : PriB p) : floatBits .add .f32 x p = some (fadd x p) ∧ fadd x p < 2147483648 ∧ ((fadd x p : Nat) : Int) = rkey (valI x + valI p) := by
  have hF : Fin x := by unfold Fin; omega
  have hd : floatBits .add .f32 x p = single.add x p := rfl
  obtain ⟨s, m, k, e, _, _, _⟩ := read_val hF
  obtain ⟨t, n, j, e2, _, _, _⟩ := read_val hp.1
  obtain ⟨r, hr⟩ : ∃ r, single.add x p = some r := by
    unfold Format.add
    rw [e, e2]
    exact ⟨_, rfl⟩
  have hf : fadd x p = r := by unfold fadd; rw [hd, hr]; rfl
  have h1 := sum_up hF (by omega) hp.1 hp.2 hr
  have h2 := add_key hF hp.1 hr
  rw [key_pos h1] at h2
  rw [hf, hd]
  exact ⟨hr, h1, h2⟩
theorem rkey_cap {Z : Int} (h : 0 ≤ Z) : rkey Z ≤ 2139095040 := by
  unfold rkey
  rw [if_neg (by omega)]
  omega
theorem val_pos {x : Nat} (h : x < 2147483648) : 0 ≤ valI x := valI_lt h
theorem sumT {x p : Nat} (hx : SumB x) (hp : PriB p) : floatBits .add .f32 x p = some (fadd x p) ∧ SumB (fadd x p) ∧ x ≤ fadd x p := by
  unfold SumB at *
  rcases Nat.lt_or_eq_of_le hx with h | h
  · obtain ⟨h1, h2, h3⟩ := sum_fin h hp
    have h4 := rkey_cap (Z := valI x + valI p) (by have := val_pos (x := x) (by omega); have := hp.2; omega)
    have hF : Fin x := by unfold Fin; omega
    have h5 := rkey_mono (Y := valI x) (Z := valI x + valI p) (by have := hp.2; omega)
    rw [rkey_val hF, key_pos (by omega)] at h5
    exact ⟨h1, by omega, by omega⟩
  · subst h
    have h1 := sum_inf hp.1
    have h2 : fadd 2139095040 p = 2139095040 := by unfold fadd; rw [h1]; rfl
    rw [h2]
    exact ⟨h1, Nat.le_refl _, Nat.le_refl _⟩
theorem sumT_mono {x y p : Nat} (hy : SumB y) (hp : PriB p) (h : x ≤ y) : fadd x p ≤ fadd y p := by
  have hx : SumB x := Nat.le_trans h hy
  unfold SumB at hx hy
  rcases Nat.lt_or_eq_of_le hy with h1 | h1
  · obtain ⟨_, _, a⟩ := sum_fin (show x < 2139095040 by omega) hp
    obtain ⟨_, _, b⟩ := sum_fin h1 hp
    have h2 : valI x ≤ valI y := val_key_le.2 (by rw [key_pos (by omega), key_pos (by omega)]; omega)
    have h3 := rkey_mono (Y := valI x + valI p) (Z := valI y + valI p) (by omega)
    omega
  · subst h1
    have h2 : fadd 2139095040 p = 2139095040 := by unfold fadd; rw [sum_inf hp.1]; rfl
    rw [h2]
    exact (sumT hx hp).2.1
theorem order_infR {y : Nat} (h : Fin y) : ord y 2139095040 = some .lt ∧ ord 2139095040 y = some .gt := by
  obtain ⟨s, m, k, e, _, _, _⟩ := read_val h
  constructor
  · show single.order y 2139095040 = _
    unfold Format.order
    rw [e, read_infS]
    rfl
  · show single.order 2139095040 y = _
    unfold Format.order
    rw [e, read_infS]
    rfl
theorem sum_lt {x y : Nat} (hx : SumB x) (hy : SumB y) : lt x y = decide (x < y) := by
  unfold SumB at hx hy
  rcases Nat.lt_or_eq_of_le hx with h | h
  · have hF : Fin x := by unfold Fin; omega
    rcases Nat.lt_or_eq_of_le hy with h1 | h1
    · have hG : Fin y := by unfold Fin; omega
      rw [lt_val hF hG]
      have := val_key (x := x) (y := y)
      rw [key_pos (by omega), key_pos (by omega)] at this
      rw [decide_eq_decide, this]
      omega
    · subst h1
      unfold lt
      rw [ord_def, (order_infR hF).1]
      simp [h]
  · subst h
    have h9 : ¬ 2139095040 < y := by omega
    rw [decide_eq_false h9]
    rcases Nat.lt_or_eq_of_le hy with h1 | h1
    · have hG : Fin y := by unfold Fin; omega
      unfold lt
      rw [ord_def, (order_infR hG).2]
      rfl
    · subst h1
      decide +kernel
theorem sum_not_nan {x : Nat} (hx : SumB x) : nanB x = false := by
  unfold SumB at hx
  rcases Nat.lt_or_eq_of_le hx with h | h
  · have hF : Fin x := by unfold Fin; omega
    obtain ⟨s, m, k, e, _, _, _⟩ := read_val hF
    show (single.read x).isNaN = false
    rw [e]
    rfl
  · subst h
    decide +kernel
theorem sum_eq {x : Nat} (hx : SumB x) : FloatKind.f32.format.order x x = some .eq := ord_self (sum_not_nan hx)
theorem sumB_zero : SumB 0 := by unfold SumB; omega
end Go.Proofs.Ytpgdinpckolfpaa
