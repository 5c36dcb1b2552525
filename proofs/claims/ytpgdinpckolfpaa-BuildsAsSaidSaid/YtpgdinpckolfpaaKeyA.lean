/- Singles as integers: their order is that of their keys, and a sum is the rounded sum of their values; rounding is monotone. No program in sight. -/
import Derived.Test.YtpgdinpckolfpaaFloatE
namespace Go.Proofs.Ytpgdinpckolfpaa
open Go.RowKit Ieee

/-- V / 2 ^ d, to the nearest, between two the even one -/
def rne (V d : Nat) : Nat := V / 2 ^ d + (if 2 ^ d < 2 * (V % 2 ^ d) ∨ 2 ^ d = 2 * (V % 2 ^ d) ∧ V / 2 ^ d % 2 = 1 then 1 else 0)
/-- the rung nearest to V units -/
def nearN (V : Nat) : Nat := (V.log2 - 23) * 8388608 + rne V (V.log2 - 23)
/-- the units of a rung -/
def valN (r : Nat) : Nat := if r < 8388608 then r else (8388608 + r % 8388608) * 2 ^ (r / 8388608 - 1)

theorem rne_zero (V : Nat) : rne V 0 = V := by
  unfold rne
  simp [Nat.mod_one]
theorem rne_mono {V W : Nat} (d : Nat) (h : V ≤ W) : rne V d ≤ rne W d := by
  unfold rne
  have hq := Nat.div_le_div_right (c := 2 ^ d) h
  rcases Nat.lt_or_eq_of_le hq with hlt | heq
  · split <;> split <;> omega
  · have hv := Nat.div_add_mod V (2 ^ d)
    have hw := Nat.div_add_mod W (2 ^ d)
    rw [heq] at hv ⊢
    have hr : V % 2 ^ d ≤ W % 2 ^ d := by omega
    split <;> split <;> omega
theorem rne_le {V d c : Nat} (h : V < 2 ^ (c + d)) : rne V d ≤ 2 ^ c := by
  unfold rne
  have : V / 2 ^ d < 2 ^ c := by
    rw [Nat.div_lt_iff_lt_mul (Nat.two_pow_pos d), ← Nat.pow_add]
    exact h
  split <;> omega
theorem rne_ge {V d c : Nat} (h : 2 ^ (c + d) ≤ V) : 2 ^ c ≤ rne V d := by
  unfold rne
  have : 2 ^ c ≤ V / 2 ^ d := by
    rw [Nat.le_div_iff_mul_le (Nat.two_pow_pos d), ← Nat.pow_add]
    exact h
  omega
theorem log_mono {V W : Nat} (h : V ≤ W) : V.log2 ≤ W.log2 := by
  by_cases hv : V = 0
  · subst hv
    simp
  · have hw : W ≠ 0 := by omega
    rw [Nat.le_log2 hw]
    exact Nat.le_trans (Nat.log2_self_le hv) h
theorem nearN_mono {V W : Nat} (h : V ≤ W) : nearN V ≤ nearN W := by
  have hl := log_mono h
  unfold nearN
  rcases Nat.lt_or_eq_of_le (show V.log2 - 23 ≤ W.log2 - 23 by omega) with hlt | heq
  · have hw : W ≠ 0 := by rintro rfl; simp at hlt
    have h1 : rne V (V.log2 - 23) ≤ 2 ^ 24 := by
      refine rne_le ?_
      have : V < 2 ^ (V.log2 + 1) := Nat.lt_log2_self
      exact Nat.lt_of_lt_of_le this (Nat.pow_le_pow_right (by omega) (by omega))
    have h2 : 2 ^ 23 ≤ rne W (W.log2 - 23) := by
      refine rne_ge ?_
      rw [show 23 + (W.log2 - 23) = W.log2 by omega]
      exact Nat.log2_self_le hw
    omega
  · rw [heq]
    have := rne_mono (W.log2 - 23) h
    omega

/-- the sign and the rung as one integer -/
def keyI (b : Nat) : Int := if b / 2147483648 % 2 = 1 then -((b % 2147483648 : Nat) : Int) else ((b % 2147483648 : Nat) : Int)
/-- the value in units, with its sign -/
def valI (b : Nat) : Int := if b / 2147483648 % 2 = 1 then -((valN (b % 2147483648) : Nat) : Int) else ((valN (b % 2147483648) : Nat) : Int)

theorem valN_lt {r s : Nat} (h : r < s) : valN r < valN s := by
  unfold valN
  by_cases hs : s < 8388608
  · rw [if_pos hs, if_pos (by omega)]
    exact h
  · rw [if_neg hs]
    have hp := Nat.two_pow_pos (s / 8388608 - 1)
    by_cases hr : r < 8388608
    · rw [if_pos hr]
      calc r < 8388608 * 1 := by omega
        _ ≤ (8388608 + s % 8388608) * 2 ^ (s / 8388608 - 1) := Nat.mul_le_mul (by omega) hp
    · rw [if_neg hr]
      have hq : r / 8388608 ≤ s / 8388608 := Nat.div_le_div_right (by omega)
      rcases Nat.lt_or_eq_of_le hq with hlt | heq
      · have e : (2 : Nat) ^ (s / 8388608 - 1) = 2 ^ (r / 8388608 - 1) * 2 ^ (s / 8388608 - r / 8388608) := by
          rw [← Nat.pow_add]
          congr 1
          omega
        have h2 : 2 ≤ 2 ^ (s / 8388608 - r / 8388608) := by
          calc 2 = 2 ^ 1 := rfl
            _ ≤ _ := Nat.pow_le_pow_right (by omega) (by omega)
        rw [e]
        have hp2 := Nat.two_pow_pos (r / 8388608 - 1)
        calc (8388608 + r % 8388608) * 2 ^ (r / 8388608 - 1) < 16777216 * 2 ^ (r / 8388608 - 1) := Nat.mul_lt_mul_of_pos_right (by omega) hp2
          _ = 8388608 * (2 ^ (r / 8388608 - 1) * 2) := by omega
          _ ≤ (8388608 + s % 8388608) * (2 ^ (r / 8388608 - 1) * 2 ^ (s / 8388608 - r / 8388608)) := Nat.mul_le_mul (by omega) (Nat.mul_le_mul_left _ h2)
      · rw [heq]
        exact Nat.mul_lt_mul_of_pos_right (by omega) hp
theorem valN_le {r s : Nat} (h : r ≤ s) : valN r ≤ valN s := by
  rcases Nat.lt_or_eq_of_le h with h | rfl
  · exact Nat.le_of_lt (valN_lt h)
  · exact Nat.le_refl _
theorem valN_inj {r s : Nat} (h : valN r = valN s) : r = s := by
  rcases Nat.lt_trichotomy r s with h1 | h1 | h1
  · have := valN_lt h1; omega
  · exact h1
  · have := valN_lt h1; omega
theorem valN_zero : valN 0 = 0 := rfl
theorem valN_pos {r : Nat} (h : 0 < r) : 0 < valN r := by have := valN_lt h; rw [valN_zero] at this; exact this
/-- a rung's value is nearest to that rung -/
theorem nearN_valN (r : Nat) : nearN (valN r) = r := by
  unfold valN
  split
  · rename_i h
    unfold nearN
    by_cases h0 : r = 0
    · subst h0
      simp [rne_zero]
    · have : r.log2 < 23 := (Nat.log2_lt h0).2 h
      rw [show r.log2 - 23 = 0 by omega, rne_zero]
      omega
  · rename_i h
    have hm : 8388608 + r % 8388608 ≠ 0 := by omega
    have hl : (8388608 + r % 8388608).log2 = 23 := by
      rw [Nat.log2_eq_iff hm]
      constructor
      · show 8388608 ≤ _; omega
      · show _ < 16777216; omega
    have hl2 : ((8388608 + r % 8388608) * 2 ^ (r / 8388608 - 1)).log2 = 23 + (r / 8388608 - 1) := by
      have := log_shift (d := r / 8388608 - 1) hm
      rw [Nat.shiftLeft_eq] at this
      rw [this, hl]
    unfold nearN
    rw [hl2, show 23 + (r / 8388608 - 1) - 23 = r / 8388608 - 1 by omega]
    have he : rne ((8388608 + r % 8388608) * 2 ^ (r / 8388608 - 1)) (r / 8388608 - 1) = 8388608 + r % 8388608 := by
      unfold rne
      have hp := Nat.two_pow_pos (r / 8388608 - 1)
      rw [Nat.mul_div_cancel _ hp, Nat.mul_mod_left]
      rw [if_neg (by omega), Nat.add_zero]
    rw [he]
    omega

/-! ### words as keys -/
theorem read_val {b : Nat} (h : b % 2147483648 < 2139095040) : ∃ (s : Bool) (m k : Nat), single.read b = .number s m ((k : Int) - 149) ∧ signed s m k = valI b ∧ m * 2 ^ k = valN (b % 2147483648) ∧ s = (b / 2147483648 % 2 == 1) := by
  have key : ∀ (r : Nat) (s : Bool), s = (b / 2147483648 % 2 == 1) → ∀ m k : Nat, m * 2 ^ k = valN (b % 2147483648) → signed s m k = valI b := by
    intro r s hs m k hv
    unfold signed valI
    rw [Nat.shiftLeft_eq, hv]
    by_cases hb : b / 2147483648 % 2 = 1
    · simp [hs, hb]
    · simp [hs, hb]
  unfold Format.read
  simp only [single_sign, single_binade, single_inf, single_least]
  by_cases h1 : b % 2147483648 < 8388608
  · rw [if_pos h1]
    have hv : b % 2147483648 * 2 ^ 0 = valN (b % 2147483648) := by unfold valN; rw [if_pos h1]; omega
    exact ⟨_, b % 2147483648, 0, rfl, key 0 _ rfl _ _ hv, hv, rfl⟩
  · rw [if_neg h1, if_pos h]
    have hv : (8388608 + b % 2147483648 % 8388608) * 2 ^ (b % 2147483648 / 8388608 - 1) = valN (b % 2147483648) := by unfold valN; rw [if_neg h1]
    exact ⟨_, 8388608 + b % 2147483648 % 8388608, b % 2147483648 / 8388608 - 1, by rw [Int.add_comm (-149)]; rfl, key 0 _ rfl _ _ hv, hv, rfl⟩

/-- no NaN and no infinity -/
def Fin (b : Nat) : Prop := b % 2147483648 < 2139095040
theorem bd_Fin {K b : Nat} (h : Bd K b) (hK : K ≤ 127) : Fin b := by
  unfold Bd at h
  unfold Fin
  omega
theorem ord_valI {x y : Nat} (hx : Fin x) (hy : Fin y) : ord x y = some (compare (valI x) (valI y)) := by
  obtain ⟨s, m, k, e1, v1, _, _⟩ := read_val hx
  obtain ⟨t, n, j, e2, v2, _, _⟩ := read_val hy
  rw [ord_val e1 e2, v1, v2]
theorem val_key {x y : Nat} : valI x < valI y ↔ keyI x < keyI y := by
  have p1 := @valN_lt (x % 2147483648) (y % 2147483648)
  have p2 := @valN_lt (y % 2147483648) (x % 2147483648)
  have p3 := @valN_inj (x % 2147483648) (y % 2147483648)
  have z1 := @valN_pos (x % 2147483648)
  have z2 := @valN_pos (y % 2147483648)
  have z3 : ∀ r, r = 0 → valN r = 0 := fun r h => by rw [h, valN_zero]
  have z4 := z3 (x % 2147483648)
  have z5 := z3 (y % 2147483648)
  have e1 : x % 2147483648 = y % 2147483648 → valN (x % 2147483648) = valN (y % 2147483648) := fun h => by rw [h]
  unfold valI keyI
  generalize valN (x % 2147483648) = a at *
  generalize valN (y % 2147483648) = b at *
  generalize x % 2147483648 = r at *
  generalize y % 2147483648 = s at *
  have h1 : r < s ∨ r = s ∨ s < r := by omega
  have h2 : r = 0 ∨ 0 < r := by omega
  have h3 : s = 0 ∨ 0 < s := by omega
  split <;> split <;> rcases h1 with h1 | h1 | h1 <;> rcases h2 with h2 | h2 <;> rcases h3 with h3 | h3 <;> simp_all <;> omega
theorem val_key_le {x y : Nat} : valI x ≤ valI y ↔ keyI x ≤ keyI y := by
  have := @val_key y x
  omega
theorem val_key_eq {x y : Nat} : valI x = valI y ↔ keyI x = keyI y := by
  have h1 := @val_key y x
  have h2 := @val_key x y
  omega

/-! ### rounding -/
theorem shift_cut {s : Bool} {mag k d : Nat} (hk : k < d) (hd : d ≤ mag.log2 + k) : Toward.even.cut s mag (d - k) = rne (mag * 2 ^ k) d := by
  unfold Toward.cut rne
  have hmin : min (d - k) (mag.log2 + 2) = d - k := by omega
  simp only [hmin]
  rw [Nat.shiftLeft_eq, Nat.one_mul]
  have e : (2 : Nat) ^ d = 2 ^ (d - k) * 2 ^ k := by rw [← Nat.pow_add]; congr 1; omega
  have hp := Nat.two_pow_pos k
  rw [e, Nat.mul_div_mul_right _ _ hp, Nat.mul_mod_mul_right]
  generalize mag % 2 ^ (d - k) = r
  generalize mag / 2 ^ (d - k) = q
  generalize 2 ^ (d - k) = g
  generalize 2 ^ k = u at *
  congr 1
  have h1 : g * u < 2 * (r * u) ↔ g < 2 * r := by
    rw [← Nat.mul_assoc]
    exact Nat.mul_lt_mul_right hp
  have h2 : g * u = 2 * (r * u) ↔ g = 2 * r := by
    rw [← Nat.mul_assoc]
    exact Nat.mul_left_inj (by omega)
  simp only [h1, h2]
  by_cases c1 : g < 2 * r
  · simp [c1]
  · by_cases c2 : g = 2 * r
    · by_cases c3 : q % 2 = 1 <;> simp [c2, c3]
    · simp [c1, c2]
theorem nearest_val (s : Bool) (mag k : Nat) : single.nearest s mag ((k : Int) - 149) = single.word s (min (nearN (mag * 2 ^ k)) 2139095040) := by
  unfold Format.nearest
  by_cases hm : mag = 0
  · subst hm
    rw [if_pos rfl, Nat.zero_mul]
    rfl
  · rw [if_neg hm]
    simp only [single_least, single_frac, single_binade, single_inf]
    have hl : (mag * 2 ^ k).log2 = mag.log2 + k := by
      have := log_shift (d := k) hm
      rwa [Nat.shiftLeft_eq] at this
    unfold nearN
    rw [hl]
    have hlast : max ((k : Int) - 149 + mag.log2 - (23 : Nat)) (-149) = ((mag.log2 + k - 23 : Nat) : Int) - 149 := by omega
    rw [hlast]
    rw [show (((mag.log2 + k - 23 : Nat) : Int) - 149 - -149).toNat = mag.log2 + k - 23 by omega]
    rw [show ((k : Int) - 149 - (((mag.log2 + k - 23 : Nat) : Int) - 149)).toNat = k - (mag.log2 + k - 23) by omega, show (((mag.log2 + k - 23 : Nat) : Int) - 149 - ((k : Int) - 149)).toNat = (mag.log2 + k - 23) - k by omega]
    congr 3
    by_cases hk : k < mag.log2 + k - 23
    · rw [show k - (mag.log2 + k - 23) = 0 by omega, Nat.shiftLeft_zero]
      exact shift_cut hk (by omega)
    · have e : mag * 2 ^ k = mag * 2 ^ (k - (mag.log2 + k - 23)) * 2 ^ (mag.log2 + k - 23) := by
        rw [Nat.mul_assoc, ← Nat.pow_add]
        congr 2
        omega
      rw [show mag.log2 + k - 23 - k = 0 by omega, Nat.shiftLeft_eq]
      generalize mag.log2 + k - 23 = d at *
      rw [e]
      unfold rne Toward.cut
      have hp := Nat.two_pow_pos d
      rw [Nat.mul_div_cancel _ hp, Nat.mul_mod_left]
      rw [if_neg (by omega)]
      simp [Nat.mod_one]
/-- the key of a rounded number -/
def rkey (Z : Int) : Int := if Z < 0 then -((min (nearN Z.natAbs) 2139095040 : Nat) : Int) else ((min (nearN Z.natAbs) 2139095040 : Nat) : Int)
theorem rkey_mono {Y Z : Int} (h : Y ≤ Z) : rkey Y ≤ rkey Z := by
  unfold rkey
  by_cases hy : Y < 0
  · by_cases hz : Z < 0
    · rw [if_pos hy, if_pos hz]
      have := nearN_mono (show Z.natAbs ≤ Y.natAbs by omega)
      omega
    · rw [if_pos hy, if_neg hz]
      omega
  · rw [if_neg hy, if_neg (by omega)]
    have := nearN_mono (show Y.natAbs ≤ Z.natAbs by omega)
    omega
theorem key_word {s : Bool} {r : Nat} (h : r < 2147483648) : keyI (single.word s r) = if s then -(r : Int) else (r : Int) := by
  unfold keyI Format.word
  rw [single_sign]
  cases s
  · simp only [Bool.false_eq_true, if_false]
    rw [if_neg (by omega)]
    omega
  · simp only [if_true]
    rw [if_pos (by omega)]
    omega
theorem nearN_zero : nearN 0 = 0 := by decide +kernel
theorem key_nearest (s : Bool) (mag k : Nat) : keyI (single.nearest s mag ((k : Int) - 149)) = if s then -((min (nearN (mag * 2 ^ k)) 2139095040 : Nat) : Int) else ((min (nearN (mag * 2 ^ k)) 2139095040 : Nat) : Int) := by
  rw [nearest_val, key_word (by omega)]
theorem signed_val (s : Bool) (m k : Nat) : signed s m k = if s then -((m * 2 ^ k : Nat) : Int) else ((m * 2 ^ k : Nat) : Int) := by
  unfold signed
  rw [Nat.shiftLeft_eq]
theorem sum_key {s t : Bool} {m n k j : Nat} {d : Datum} (h : Datum.sum (.number s m ((k : Int) - 149)) (.number t n ((j : Int) - 149)) = some d) : keyI (single.write d) = rkey (signed s m k + signed t n j) := by
  simp only [Datum.sum] at h
  injection h with h
  subst h
  have e : min ((k : Int) - 149) ((j : Int) - 149) = ((min k j : Nat) : Int) - (149 : Nat) := by omega
  simp only [Format.write]
  rw [e]
  rw [show ((k : Int) - 149 - (((min k j : Nat) : Int) - (149 : Nat))).toNat = k - min k j by omega, show ((j : Int) - 149 - (((min k j : Nat) : Int) - (149 : Nat))).toNat = j - min k j by omega]
  have h1 : signed s m k = signed s m (k - min k j) * ((2 ^ min k j : Nat) : Int) := by rw [← signed_scale, Nat.sub_add_cancel (Nat.min_le_left k j)]
  have h2 : signed t n j = signed t n (j - min k j) * ((2 ^ min k j : Nat) : Int) := by rw [← signed_scale, Nat.sub_add_cancel (Nat.min_le_right k j)]
  rw [h1, h2, ← Int.add_mul]
  generalize signed s m (k - min k j) + signed t n (j - min k j) = Z
  have hk := key_nearest (if Z = 0 then s && t else Z < 0) Z.natAbs (min k j)
  rw [show (((min k j : Nat) : Int) - 149) = ((min k j : Nat) : Int) - (149 : Nat) from rfl] at hk
  rw [hk]
  have hp : (0 : Int) < ((2 ^ min k j : Nat) : Int) := by have := Nat.two_pow_pos (min k j); omega
  unfold rkey
  rw [Int.natAbs_mul, Int.natAbs_natCast]
  by_cases h0 : Z = 0
  · subst h0
    simp [nearN_zero]
  · rw [if_neg h0]
    by_cases hz : Z < 0
    · have : Z * ((2 ^ min k j : Nat) : Int) < 0 := Int.mul_neg_of_neg_of_pos hz hp
      rw [if_pos this]
      simp [hz]
    · have : ¬ Z * ((2 ^ min k j : Nat) : Int) < 0 := by
        have := Int.mul_nonneg (show 0 ≤ Z by omega) (Int.le_of_lt hp)
        omega
      rw [if_neg this]
      simp [hz]
theorem add_key {x y r : Nat} (hx : Fin x) (hy : Fin y) (h : single.add x y = some r) : keyI r = rkey (valI x + valI y) := by
  obtain ⟨s, m, k, e1, v1, _, _⟩ := read_val hx
  obtain ⟨t, n, j, e2, v2, _, _⟩ := read_val hy
  unfold Format.add at h
  rw [e1, e2] at h
  obtain ⟨d, hd, rfl⟩ := Option.map_eq_some_iff.1 h
  rw [sum_key hd, v1, v2]
theorem signed_not (s : Bool) (m k : Nat) : signed (!s) m k = -signed s m k := by
  rw [signed_val, signed_val]
  cases s <;> simp
theorem sub_key {x y r : Nat} (hx : Fin x) (hy : Fin y) (h : single.sub x y = some r) : keyI r = rkey (valI x - valI y) := by
  obtain ⟨s, m, k, e1, v1, _, _⟩ := read_val hx
  obtain ⟨t, n, j, e2, v2, _, _⟩ := read_val hy
  unfold Format.sub at h
  rw [e1, e2] at h
  obtain ⟨d, hd, rfl⟩ := Option.map_eq_some_iff.1 h
  rw [sum_key hd, signed_not, v1, v2, Int.sub_eq_add_neg]
theorem rkey_val {b : Nat} (h : Fin b) : rkey (valI b) = keyI b := by
  unfold Fin at h
  unfold rkey valI keyI
  have hn := nearN_valN (b % 2147483648)
  have hz := @valN_pos (b % 2147483648)
  have h0 : b % 2147483648 = 0 → valN (b % 2147483648) = 0 := fun e => by rw [e, valN_zero]
  generalize valN (b % 2147483648) = v at *
  generalize b % 2147483648 = r at *
  by_cases hs : b / 2147483648 % 2 = 1
  · rw [if_pos hs, if_pos hs]
    by_cases hr : r = 0
    · have := h0 hr
      subst this
      subst hr
      simp [nearN_zero]
    · have := hz (by omega)
      rw [if_pos (by omega), Int.natAbs_neg, Int.natAbs_natCast, hn]
      omega
  · rw [if_neg hs, if_neg hs, if_neg (by omega), Int.natAbs_natCast, hn]
    omega
end Go.Proofs.Ytpgdinpckolfpaa
