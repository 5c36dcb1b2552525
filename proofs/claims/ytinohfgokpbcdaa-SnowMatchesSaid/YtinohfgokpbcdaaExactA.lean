/- What a single, or a double, can hold is written and read back exactly. -/
import Derived.Test.YtinohfgokpbcdaaFloatG
namespace Go.Proofs.Ytinohfgokpbcdaa
open Ieee

/-- a rung below infinity, read -/
theorem read_word_single {s : Bool} {m0 : Nat} {q : Nat} (h1 : m0 < 2 * 8388608) (h2 : q = 0 ∨ 8388608 ≤ m0) (h3 : q * 8388608 + m0 < 2139095040) : single.read (single.word s (q * 8388608 + m0)) = .number s m0 ((q : Int) - 149) := by
  have e1 : single.word s (q * 8388608 + m0) % 2147483648 = q * 8388608 + m0 := word_rung (by omega)
  have e2 : (single.word s (q * 8388608 + m0) / 2147483648 % 2 == 1) = s := by
    unfold Format.word
    rw [single_sign]
    cases s
    · rw [if_neg (by decide), Nat.div_eq_of_lt (by omega)]; rfl
    · rw [if_pos rfl, Nat.add_comm, Nat.add_div_right _ (by omega), Nat.div_eq_of_lt (by omega)]; rfl
  unfold Format.read
  simp only [single_sign, single_binade, single_inf, single_least, e1, e2]
  by_cases h4 : q * 8388608 + m0 < 8388608
  · rw [if_pos h4]
    obtain rfl : q = 0 := by omega
    congr 1 <;> omega
  · rw [if_neg h4, if_pos h3]
    rcases h2 with rfl | h2
    · congr 1 <;> omega
    · congr 1 <;> omega
theorem single_exact (s : Bool) {mag m : Nat} {P i : Int} (hm : m ≠ 0) (hl : m.log2 ≤ 23) (hP : -1200 ≤ P) (hi : -149 ≤ i) (hu : (m.log2 : Int) + i ≤ 127) (hv : mag * 2 ^ (P + 1200).toNat = m * 2 ^ (i + 1200).toNat) :
    ∃ M j : Nat, single.read (single.nearest s mag P) = .number s M ((j : Int) - 149) ∧ M * 2 ^ j = m * 2 ^ (i + 149).toNat := by
  obtain ⟨p0, hp0⟩ : ∃ p0 : Int, max (i + m.log2 - 23) (-149) = p0 := ⟨_, rfl⟩
  obtain ⟨d, hd⟩ : ∃ d : Nat, (i - p0).toNat = d := ⟨_, rfl⟩
  have hlog : (m * 2 ^ d).log2 = m.log2 + d := by rw [← Nat.shiftLeft_eq]; exact log_shift hm
  have hm0 : m * 2 ^ d ≠ 0 := Nat.mul_ne_zero hm (Nat.pos_iff_ne_zero.1 (Nat.two_pow_pos _))
  obtain ⟨q, hq⟩ : ∃ q : Nat, (p0 + 149).toNat = q := ⟨_, rfl⟩
  have hlt : m * 2 ^ d < 2 * 8388608 := by
    have h1 := (Nat.log2_lt hm0 (k := 24)).1 (by omega)
    exact h1
  have hge : q = 0 ∨ 8388608 ≤ m * 2 ^ d := by
    rcases Nat.eq_zero_or_pos q with h | h
    · exact .inl h
    · right
      have h1 := Nat.log2_self_le hm0
      have h2 : (2 : Nat) ^ 23 ≤ 2 ^ (m * 2 ^ d).log2 := Nat.pow_le_pow_right (by omega) (by omega)
      have h3 : (2 : Nat) ^ 23 = 8388608 := by decide
      omega
  have hinf : q * 8388608 + m * 2 ^ d < 2139095040 := by
    have h1 : q ≤ 253 := by omega
    have h2 := Nat.mul_le_mul_right 8388608 h1
    omega
  have h1 := exact_nearest single s (mag := mag) (m0 := m * 2 ^ d) (a := (P + 1200).toNat) (b := (p0 + 1200).toNat) (c := -1200) (p0 := p0) (r := q * 8388608 + m * 2 ^ d) hm0
    (by rw [hv, Nat.mul_assoc, ← Nat.pow_add]; congr 2; omega) (by omega) (by rw [hlog, single_frac, single_least]; omega) (by rw [single_least, single_binade]; congr 2 <;> omega) (by rw [single_inf]; omega)
  rw [show -1200 + (((P + 1200).toNat : Nat) : Int) = P by omega] at h1
  rw [h1]
  generalize hM : m * 2 ^ d = M0 at *
  refine ⟨M0, q, read_word_single hlt hge hinf, ?_⟩
  rw [← hM, Nat.mul_assoc, ← Nat.pow_add]
  congr 2
  omega
theorem single_zero (s : Bool) (P : Int) : single.read (single.nearest s 0 P) = .number s 0 (((0 : Nat) : Int) - 149) := by
  have h := read_word_single (s := s) (m0 := 0) (q := 0) (by omega) (.inl rfl) (by omega)
  unfold Format.nearest
  rw [if_pos rfl]
  rw [Nat.zero_mul, Nat.zero_add] at h
  exact h

/-- a rung below infinity, read -/
theorem read_word_double {s : Bool} {m0 : Nat} {q : Nat} (h1 : m0 < 2 * 4503599627370496) (h2 : q = 0 ∨ 4503599627370496 ≤ m0) (h3 : q * 4503599627370496 + m0 < 9218868437227405312) : double.read (double.word s (q * 4503599627370496 + m0)) = .number s m0 ((q : Int) - 1074) := by
  have e1 : double.word s (q * 4503599627370496 + m0) % 9223372036854775808 = q * 4503599627370496 + m0 := word_rungD (by omega)
  have e2 : (double.word s (q * 4503599627370496 + m0) / 9223372036854775808 % 2 == 1) = s := by
    unfold Format.word
    rw [double_sign]
    cases s
    · rw [if_neg (by decide), Nat.div_eq_of_lt (by omega)]; rfl
    · rw [if_pos rfl, Nat.add_comm, Nat.add_div_right _ (by omega), Nat.div_eq_of_lt (by omega)]; rfl
  unfold Format.read
  simp only [double_sign, double_binade, double_inf, double_least, e1, e2]
  by_cases h4 : q * 4503599627370496 + m0 < 4503599627370496
  · rw [if_pos h4]
    obtain rfl : q = 0 := by omega
    congr 1 <;> omega
  · rw [if_neg h4, if_pos h3]
    rcases h2 with rfl | h2
    · congr 1 <;> omega
    · congr 1 <;> omega
theorem double_exact (s : Bool) {mag m : Nat} {P i : Int} (hm : m ≠ 0) (hl : m.log2 ≤ 52) (hP : -1200 ≤ P) (hi : -1074 ≤ i) (hu : (m.log2 : Int) + i ≤ 1023) (hv : mag * 2 ^ (P + 1200).toNat = m * 2 ^ (i + 1200).toNat) :
    ∃ M j : Nat, double.read (double.nearest s mag P) = .number s M ((j : Int) - 1074) ∧ M * 2 ^ j = m * 2 ^ (i + 1074).toNat := by
  obtain ⟨p0, hp0⟩ : ∃ p0 : Int, max (i + m.log2 - 52) (-1074) = p0 := ⟨_, rfl⟩
  obtain ⟨d, hd⟩ : ∃ d : Nat, (i - p0).toNat = d := ⟨_, rfl⟩
  have hlog : (m * 2 ^ d).log2 = m.log2 + d := by rw [← Nat.shiftLeft_eq]; exact log_shift hm
  have hm0 : m * 2 ^ d ≠ 0 := Nat.mul_ne_zero hm (Nat.pos_iff_ne_zero.1 (Nat.two_pow_pos _))
  obtain ⟨q, hq⟩ : ∃ q : Nat, (p0 + 1074).toNat = q := ⟨_, rfl⟩
  have hlt : m * 2 ^ d < 2 * 4503599627370496 := by
    have h1 := (Nat.log2_lt hm0 (k := 53)).1 (by omega)
    exact h1
  have hge : q = 0 ∨ 4503599627370496 ≤ m * 2 ^ d := by
    rcases Nat.eq_zero_or_pos q with h | h
    · exact .inl h
    · right
      have h1 := Nat.log2_self_le hm0
      have h2 : (2 : Nat) ^ 52 ≤ 2 ^ (m * 2 ^ d).log2 := Nat.pow_le_pow_right (by omega) (by omega)
      have h3 : (2 : Nat) ^ 52 = 4503599627370496 := by decide
      omega
  have hinf : q * 4503599627370496 + m * 2 ^ d < 9218868437227405312 := by
    have h1 : q ≤ 2045 := by omega
    have h2 := Nat.mul_le_mul_right 4503599627370496 h1
    omega
  have h1 := exact_nearest double s (mag := mag) (m0 := m * 2 ^ d) (a := (P + 1200).toNat) (b := (p0 + 1200).toNat) (c := -1200) (p0 := p0) (r := q * 4503599627370496 + m * 2 ^ d) hm0
    (by rw [hv, Nat.mul_assoc, ← Nat.pow_add]; congr 2; omega) (by omega) (by rw [hlog, double_frac, double_least]; omega) (by rw [double_least, double_binade]; congr 2 <;> omega) (by rw [double_inf]; omega)
  rw [show -1200 + (((P + 1200).toNat : Nat) : Int) = P by omega] at h1
  rw [h1]
  generalize hM : m * 2 ^ d = M0 at *
  refine ⟨M0, q, read_word_double hlt hge hinf, ?_⟩
  rw [← hM, Nat.mul_assoc, ← Nat.pow_add]
  congr 2
  omega
theorem double_zero (s : Bool) (P : Int) : double.read (double.nearest s 0 P) = .number s 0 (((0 : Nat) : Int) - 1074) := by
  have h := read_word_double (s := s) (m0 := 0) (q := 0) (by omega) (.inl rfl) (by omega)
  unfold Format.nearest
  rw [if_pos rfl]
  rw [Nat.zero_mul, Nat.zero_add] at h
  exact h
end Go.Proofs.Ytinohfgokpbcdaa
