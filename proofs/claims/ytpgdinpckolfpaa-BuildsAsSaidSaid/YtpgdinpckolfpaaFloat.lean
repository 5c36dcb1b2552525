/- Bounds of single precision: a word below a power of two stands for a number below it, and what is written below a power of two is a word below it; so sums, differences and products of bounded heights are finite. -/
import Derived.Test.YtpgdinpckolfpaaPlain
import Derived.Laws.FloatArith
namespace Go.Proofs.Ytpgdinpckolfpaa
open Ieee

/-- a word of at most 2 ^ K, whatever its sign -/
def Bd (K b : Nat) : Prop := b % 2147483648 ≤ (K + 127) * 8388608
theorem Bd.mono {K J b : Nat} (h : Bd K b) (hk : K ≤ J) : Bd J b := Nat.le_trans h (Nat.mul_le_mul_right _ (Nat.add_le_add_right hk _))

theorem single_sign : single.signWeight = 2147483648 := by decide
theorem single_binade : single.binade = 8388608 := by decide
theorem single_inf : single.infRung = 2139095040 := by decide
theorem single_least : single.leastPlace = -149 := by decide
theorem single_frac : single.fractionBits = 23 := rfl

theorem word_rung {neg : Bool} {r : Nat} (h : r < 2147483648) : single.word neg r % 2147483648 = r := by
  unfold Format.word
  rw [single_sign]
  split <;> omega

theorem read_bd {K b : Nat} (h : Bd K b) (hK : K ≤ 127) : ∃ (s : Bool) (m k : Nat), single.read b = .number s m ((k : Int) - 149) ∧ m * 2 ^ k ≤ 2 ^ (K + 149) := by
  unfold Bd at h
  unfold Format.read
  simp only [single_sign, single_binade, single_inf, single_least]
  have hr : b % 2147483648 < 2139095040 := by omega
  by_cases h1 : b % 2147483648 < 8388608
  · rw [if_pos h1]
    refine ⟨_, b % 2147483648, 0, rfl, ?_⟩
    have : (2 : Nat) ^ 23 ≤ 2 ^ (K + 149) := Nat.pow_le_pow_right (by omega) (by omega)
    simp only [Nat.pow_zero, Nat.mul_one]
    omega
  · rw [if_neg h1, if_pos hr]
    generalize b % 2147483648 = r at *
    refine ⟨_, 8388608 + r % 8388608, r / 8388608 - 1, by rw [Int.add_comm (-149)]; rfl, ?_⟩
    have hq : r / 8388608 ≤ K + 127 := by omega
    by_cases h2 : r / 8388608 = K + 127
    · have ht : r % 8388608 = 0 := by omega
      rw [ht, h2]
      have e : (2 : Nat) ^ (23 + (K + 126)) = 8388608 * 2 ^ (K + 126) := Nat.pow_add 2 23 (K + 126)
      rw [show K + 127 - 1 = K + 126 by omega, show K + 149 = 23 + (K + 126) by omega, e]
      exact Nat.le_refl _
    · have hm : 8388608 + r % 8388608 ≤ 2 ^ 24 := by omega
      calc (8388608 + r % 8388608) * 2 ^ (r / 8388608 - 1) ≤ 2 ^ 24 * 2 ^ (r / 8388608 - 1) := Nat.mul_le_mul_right _ hm
        _ = 2 ^ (24 + (r / 8388608 - 1)) := (Nat.pow_add ..).symm
        _ ≤ 2 ^ (K + 149) := Nat.pow_le_pow_right (by omega) (by omega)

theorem cut_le {neg : Bool} {n drop c : Nat} (h : n.log2 + 1 ≤ c + drop) : Toward.even.cut neg n drop ≤ 2 ^ c := by
  unfold Toward.cut
  simp only [Nat.shiftLeft_eq, Nat.one_mul]
  have hl : n < 2 ^ (n.log2 + 1) := Nat.lt_log2_self
  have hlow : n / 2 ^ min drop (n.log2 + 2) < 2 ^ c := by
    rw [Nat.div_lt_iff_lt_mul (Nat.two_pow_pos _), ← Nat.pow_add]
    refine Nat.lt_of_lt_of_le hl (Nat.pow_le_pow_right (by omega) (by omega))
  have hb : ∀ b : Bool, b.toNat ≤ 1 := fun b => by cases b <;> simp
  have := hb (decide (2 ^ min drop (n.log2 + 2) < 2 * (n % 2 ^ min drop (n.log2 + 2))) || (2 ^ min drop (n.log2 + 2) == 2 * (n % 2 ^ min drop (n.log2 + 2)) && n / 2 ^ min drop (n.log2 + 2) % 2 == 1))
  omega

theorem log_lt {m k c : Nat} (hm : m ≠ 0) (h : m * 2 ^ k < 2 ^ c) : m.log2 + k < c := by
  have h1 : 2 ^ m.log2 ≤ m := Nat.log2_self_le hm
  have h2 : 2 ^ (m.log2 + k) < 2 ^ c := by
    rw [Nat.pow_add]
    exact Nat.lt_of_le_of_lt (Nat.mul_le_mul_right _ h1) h
  exact (Nat.pow_lt_pow_iff_right (by omega)).1 h2

theorem shift_ne {m d : Nat} (hm : m ≠ 0) : m <<< d ≠ 0 := by
  rw [Nat.shiftLeft_eq]
  exact Nat.mul_ne_zero hm (Nat.pos_iff_ne_zero.1 (Nat.two_pow_pos _))
theorem log_shift {m d : Nat} (hm : m ≠ 0) : (m <<< d).log2 = m.log2 + d := by
  rw [Nat.log2_eq_iff (shift_ne hm)]
  rw [Nat.shiftLeft_eq]
  have h1 : 2 ^ m.log2 ≤ m := Nat.log2_self_le hm
  have h2 : m < 2 ^ (m.log2 + 1) := Nat.lt_log2_self
  refine ⟨?_, ?_⟩
  · rw [Nat.pow_add]; exact Nat.mul_le_mul_right _ h1
  · rw [show m.log2 + d + 1 = (m.log2 + 1) + d by omega, Nat.pow_add]; exact (Nat.mul_lt_mul_right (Nat.two_pow_pos d)).2 h2

theorem write_bd {K : Nat} {neg : Bool} {m k N : Nat} (h : m * 2 ^ k < 2 ^ (K + N)) (hK : K ≤ 127) : Bd K (single.nearest neg m ((k : Int) - N)) := by
  unfold Bd Format.nearest
  by_cases hm : m = 0
  · rw [if_pos hm, word_rung (by omega)]
    omega
  · rw [if_neg hm]
    have hl := log_lt hm h
    simp only [single_binade, single_inf, single_least, single_frac]
    have hc : ∀ last : Int, last = max ((k : Int) - N + m.log2 - 23) (-149) → Toward.even.cut neg (m <<< ((k : Int) - N - last).toNat) (last - ((k : Int) - N)).toNat ≤ 2 ^ 24 := by
      intro last hlast
      refine cut_le ?_
      rw [log_shift hm]
      omega
    have := hc _ rfl
    rw [word_rung (by omega)]
    have e : ((max ((k : Int) - N + m.log2 - (23 : Nat)) (-149) - -149).toNat) ≤ K + 125 := by omega
    have := Nat.mul_le_mul_right 8388608 e
    simp only [show ((23 : Nat) : Int) = 23 from rfl] at *
    omega

theorem signed_abs (s : Bool) (m up : Nat) : (signed s m up).natAbs = m * 2 ^ up := by
  unfold signed
  rw [Nat.shiftLeft_eq]
  generalize m * 2 ^ up = q
  split <;> omega

theorem fsum_bd {K : Nat} {s t : Bool} {m n k j : Nat} (hm : m * 2 ^ k ≤ 2 ^ (K + 149)) (hn : n * 2 ^ j ≤ 2 ^ (K + 149)) (hK : K ≤ 125) :
    ∃ r, (Datum.sum (.number s m ((k : Int) - 149)) (.number t n ((j : Int) - 149))).map single.write = some r ∧ Bd (K + 2) r := by
  refine ⟨_, rfl, ?_⟩
  have e : min ((k : Int) - 149) ((j : Int) - 149) = ((min k j : Nat) : Int) - (149 : Nat) := by omega
  simp only [Format.write]
  rw [e]
  refine write_bd ?_ (by omega)
  rw [show ((k : Int) - 149 - (((min k j : Nat) : Int) - (149 : Nat))).toNat = k - min k j by omega, show ((j : Int) - 149 - (((min k j : Nat) : Int) - (149 : Nat))).toNat = j - min k j by omega]
  have h1 := Int.natAbs_add_le (signed s m (k - min k j)) (signed t n (j - min k j))
  rw [signed_abs, signed_abs] at h1
  have h2 := Nat.mul_le_mul_right (2 ^ min k j) h1
  rw [Nat.add_mul, Nat.mul_assoc, Nat.mul_assoc, ← Nat.pow_add, ← Nat.pow_add, Nat.sub_add_cancel (Nat.min_le_left k j), Nat.sub_add_cancel (Nat.min_le_right k j)] at h2
  have h3 : (2 : Nat) ^ (K + 2 + 149) = 4 * 2 ^ (K + 149) := by rw [show K + 2 + 149 = 2 + (K + 149) by omega]; exact Nat.pow_add 2 2 (K + 149)
  have h4 : 0 < 2 ^ (K + 149) := Nat.two_pow_pos _
  omega

theorem fadd_bd {K x y : Nat} (hx : Bd K x) (hy : Bd K y) (hK : K ≤ 125) : ∃ r, single.add x y = some r ∧ Bd (K + 2) r := by
  obtain ⟨s, m, k, e1, h1⟩ := read_bd hx (by omega)
  obtain ⟨t, n, j, e2, h2⟩ := read_bd hy (by omega)
  unfold Format.add
  rw [e1, e2]
  exact fsum_bd h1 h2 hK

theorem fsub_bd {K x y : Nat} (hx : Bd K x) (hy : Bd K y) (hK : K ≤ 125) : ∃ r, single.sub x y = some r ∧ Bd (K + 2) r := by
  obtain ⟨s, m, k, e1, h1⟩ := read_bd hx (by omega)
  obtain ⟨t, n, j, e2, h2⟩ := read_bd hy (by omega)
  unfold Format.sub
  rw [e1, e2]
  exact fsum_bd h1 h2 hK

theorem fmul_bd {K J x y : Nat} (hx : Bd K x) (hy : Bd J y) (hK : K + J ≤ 126) : ∃ r, single.mul x y = some r ∧ Bd (K + J + 1) r := by
  obtain ⟨s, m, k, e1, h1⟩ := read_bd hx (by omega)
  obtain ⟨t, n, j, e2, h2⟩ := read_bd hy (by omega)
  unfold Format.mul
  rw [e1, e2]
  refine ⟨_, rfl, ?_⟩
  simp only [Format.write]
  rw [show ((k : Int) - 149 + ((j : Int) - 149)) = ((k + j : Nat) : Int) - (298 : Nat) by omega]
  refine write_bd ?_ (by omega)
  have h3 := Nat.mul_le_mul h1 h2
  have e3 : m * 2 ^ k * (n * 2 ^ j) = m * n * 2 ^ (k + j) := by rw [Nat.pow_add]; simp only [Nat.mul_assoc, Nat.mul_left_comm]
  rw [e3, ← Nat.pow_add] at h3
  refine Nat.lt_of_le_of_lt h3 (Nat.pow_lt_pow_right (by omega) (by omega))

theorem int_bd {K : Nat} {n : Int} (h : n.natAbs < 2 ^ K) (hK : K ≤ 127) : Bd K (floatOfInt .f32 n) := by
  have := write_bd (K := K) (neg := decide (n < 0)) (m := n.natAbs) (k := 0) (N := 0) (by simpa using h) hK
  show Bd K (single.nearest (decide (n < 0)) n.natAbs 0)
  simpa using this

theorem bd_fin {K b : Nat} (h : Bd K b) (hK : K ≤ 127) : nanB b = false := by
  obtain ⟨s, m, k, e, _⟩ := read_bd h hK
  unfold nanB
  show (single.read b).isNaN = false
  rw [e]
  rfl

theorem read_top : single.read 1233125376 = .number false 8388608 (-3) := by decide +kernel
theorem read_low : single.read 3380609024 = .number true 8388608 (-3) := by decide +kernel

theorem cmp_gt {m up : Nat} (h : 8388608 < m <<< up) : compare (signed false m up) (signed false 8388608 (-3 - -3 : Int).toNat) = .gt := by
  rw [Int.compare_eq_gt]
  show ((8388608 : Nat) : Int) < ((m <<< up : Nat) : Int)
  omega
theorem cmp_lt {m up : Nat} (h : 8388608 < m <<< up) : compare (signed true m up) (signed true 8388608 (-3 - -3 : Int).toNat) = .lt := by
  rw [Int.compare_eq_lt]
  show (-((m <<< up : Nat) : Int)) < -((8388608 : Nat) : Int)
  omega

/-- a height lies within 2 ^ 20 -/
theorem hgt_bd {b : Nat} (h : hgtB b = true) : Bd 20 b := by
  by_cases hn : Bd 20 b
  · exact hn
  exfalso
  have hr : ¬ b % 2147483648 ≤ 1233125376 := hn
  unfold hgtB ord at h
  have ht : FloatKind.f32.format = single := rfl
  rw [ht] at h
  unfold Format.order at h
  rw [read_top, read_low] at h
  unfold Format.read at h
  simp only [single_sign, single_binade, single_inf, single_least] at h
  rw [if_neg (by omega)] at h
  generalize b % 2147483648 = r at *
  split at h
  · have key : ∀ (p : Int), p = -149 + ((r / 8388608 - 1 : Nat) : Int) → 8388608 < (8388608 + r % 8388608) <<< (p - -3).toNat := by
      intro p hp
      rw [Nat.shiftLeft_eq]
      by_cases hq : r / 8388608 = 147
      · have : r % 8388608 ≠ 0 := by omega
        rw [show (p - -3).toNat = 0 by omega]
        omega
      · have h2 : (2 : Nat) ^ 1 ≤ 2 ^ (p - -3).toNat := Nat.pow_le_pow_right (by omega) (by omega)
        have := Nat.mul_le_mul_left (8388608 + r % 8388608) h2
        omega
    have hm : min (-149 + ((r / 8388608 - 1 : Nat) : Int)) (-3) = -3 := by omega
    have := key _ rfl
    simp only [Datum.order, hm] at h
    cases hs : (b / 2147483648 % 2 == 1)
    · rw [hs] at h
      have hc := cmp_gt this
      rw [hc] at h
      simp at h
    · rw [hs] at h
      have hc := cmp_lt this
      rw [hc] at h
      simp at h
  · split at h
    · cases hs : (b / 2147483648 % 2 == 1) <;> simp [hs, Datum.order] at h
    · simp [Datum.order] at h

end Go.Proofs.Ytpgdinpckolfpaa
