/- A single made a double, without its sign, and made a single again is that single without its sign. -/
import Derived.Test.YtpgdinpckolfpaaFloatD
namespace Go.Proofs.Ytpgdinpckolfpaa
open Ieee

theorem cut_exact (neg : Bool) {m0 d : Nat} (hm : m0 ≠ 0) : Toward.even.cut neg (m0 * 2 ^ d) d = m0 := by
  have hl : (m0 * 2 ^ d).log2 = m0.log2 + d := by rw [← Nat.shiftLeft_eq]; exact log_shift hm
  have hp := Nat.two_pow_pos d
  unfold Toward.cut
  simp only [hl, Nat.shiftLeft_eq, Nat.one_mul]
  rw [Nat.min_eq_left (by omega), Nat.mul_div_cancel _ hp, Nat.mul_mod_left]
  have h1 : (decide (2 ^ d < 2 * 0) || (2 ^ d == 2 * 0 && m0 % 2 == 1)) = false := by
    simp
  rw [h1]
  rfl

theorem exact_nearest (f : Format) (neg : Bool) {mag m0 a b r : Nat} {c p0 : Int} (hm : m0 ≠ 0) (hv : mag * 2 ^ a = m0 * 2 ^ b) (hp0 : p0 = c + b)
    (hlast : max (p0 + m0.log2 - f.fractionBits) f.leastPlace = p0) (hr : (p0 - f.leastPlace).toNat * f.binade + m0 = r) (hinf : r ≤ f.infRung) : f.nearest neg mag (c + a) = f.word neg r := by
  have hmag : mag ≠ 0 := by
    rintro rfl
    rw [Nat.zero_mul] at hv
    exact absurd hv.symm (Nat.mul_ne_zero hm (Nat.pos_iff_ne_zero.1 (Nat.two_pow_pos b)))
  have hlog : mag.log2 + a = m0.log2 + b := by
    have h1 := log_shift (d := a) hmag
    rw [Nat.shiftLeft_eq, hv, ← Nat.shiftLeft_eq, log_shift hm] at h1
    omega
  unfold Format.nearest
  rw [if_neg hmag]
  have hl : max (c + a + mag.log2 - f.fractionBits) f.leastPlace = p0 := by
    rw [show c + a + mag.log2 - f.fractionBits = p0 + m0.log2 - f.fractionBits by omega]
    exact hlast
  simp only [hl]
  have hk : Toward.even.cut neg (mag <<< (c + a - p0).toNat) (p0 - (c + a)).toNat = m0 := by
    rcases Nat.le_total b a with h | h
    · rw [show (p0 - (c + a)).toNat = 0 by omega, show (c + a - p0).toNat = a - b by omega, Nat.shiftLeft_eq]
      have e : mag * 2 ^ (a - b) = m0 := by
        have h1 : mag * 2 ^ (a - b) * 2 ^ b = m0 * 2 ^ b := by rw [Nat.mul_assoc, ← Nat.pow_add, Nat.sub_add_cancel h]; exact hv
        exact Nat.eq_of_mul_eq_mul_right (Nat.two_pow_pos b) h1
      rw [e]
      have h2 := cut_exact neg (d := 0) hm
      rwa [Nat.pow_zero, Nat.mul_one] at h2
    · rw [show (c + a - p0).toNat = 0 by omega, show (p0 - (c + a)).toNat = b - a by omega, Nat.shiftLeft_zero]
      have e : mag = m0 * 2 ^ (b - a) := by
        have h1 : mag * 2 ^ a = m0 * 2 ^ (b - a) * 2 ^ a := by rw [Nat.mul_assoc, ← Nat.pow_add, Nat.sub_add_cancel h]; exact hv
        exact Nat.eq_of_mul_eq_mul_right (Nat.two_pow_pos a) h1
      rw [e]
      exact cut_exact neg hm
  rw [hk, hr, Nat.min_eq_left hinf]

theorem double_sign : double.signWeight = 9223372036854775808 := by decide
theorem double_binade : double.binade = 4503599627370496 := by decide
theorem double_inf : double.infRung = 9218868437227405312 := by decide
theorem double_least : double.leastPlace = -1074 := by decide
theorem double_frac : double.fractionBits = 52 := rfl

/-- what a finite word that is not zero stands for -/
theorem read_num {b : Nat} (h : b % 2147483648 < 2139095040) (h0 : b % 2147483648 ≠ 0) : ∃ (s : Bool) (m k : Nat), single.read b = .number s m ((k : Int) - 149) ∧ m ≠ 0 ∧ m.log2 ≤ 23 ∧ k ≤ 253 ∧
    max ((k : Int) - 149 + m.log2 - (23 : Nat)) (-149) = (k : Int) - 149 ∧ k * 8388608 + m = b % 2147483648 := by
  unfold Format.read
  simp only [single_sign, single_binade, single_inf, single_least]
  generalize b % 2147483648 = r at *
  by_cases h1 : r < 8388608
  · rw [if_pos h1]
    have hl : r.log2 < 23 := (Nat.log2_lt h0).2 (by show r < 8388608; exact h1)
    exact ⟨_, r, 0, rfl, h0, by omega, by omega, by omega, by omega⟩
  · rw [if_neg h1, if_pos h]
    have hm : 8388608 + r % 8388608 ≠ 0 := by omega
    have hl : (8388608 + r % 8388608).log2 = 23 := by
      rw [Nat.log2_eq_iff hm]
      constructor
      · show 8388608 ≤ _; omega
      · show _ < 16777216; omega
    refine ⟨_, 8388608 + r % 8388608, r / 8388608 - 1, by rw [Int.add_comm (-149)]; rfl, hm, by omega, by omega, by rw [hl]; omega, by omega⟩

/-- without the sign -/
def absB (b : Nat) : Nat := b % 2147483648
theorem there_and_back {b : Nat} (h : b % 2147483648 < 2139095040) : ∃ d, double.write (single.read b) = d ∧ d % 9223372036854775808 < 9218868437227405312 ∧ single.write (double.read (d % 9223372036854775808)) = absB b := by
  by_cases h0 : b % 2147483648 = 0
  · have e : ∃ s, single.read b = .number s 0 (-149) := by
      unfold Format.read
      simp only [single_sign, single_binade, single_inf, single_least]
      rw [h0, if_pos (by omega)]
      exact ⟨_, rfl⟩
    obtain ⟨s, e⟩ := e
    refine ⟨_, rfl, ?_⟩
    rw [e]
    unfold absB
    rw [h0]
    cases s <;> decide +kernel
  · obtain ⟨s, m, k, e, hm, hlm, hk, hlast, hr⟩ := read_num h h0
    have hm52 : m * 2 ^ (52 - m.log2) ≠ 0 := Nat.mul_ne_zero hm (Nat.pos_iff_ne_zero.1 (Nat.two_pow_pos _))
    have hl52 : (m * 2 ^ (52 - m.log2)).log2 = 52 := by
      rw [← Nat.shiftLeft_eq, log_shift hm]
      omega
    obtain ⟨b1, b2⟩ := (Nat.log2_eq_iff hm52).1 hl52
    have b1' : 4503599627370496 ≤ m * 2 ^ (52 - m.log2) := b1
    have b2' : m * 2 ^ (52 - m.log2) < 9007199254740992 := b2
    have hw : ∀ neg, double.nearest neg m ((k : Int) - 149) = double.word neg ((k + 925 - (52 - m.log2)) * 4503599627370496 + m * 2 ^ (52 - m.log2)) := by
      intro neg
      have h1 := exact_nearest double neg (mag := m) (m0 := m * 2 ^ (52 - m.log2)) (a := 52 - m.log2) (b := 0) (c := (k : Int) - 149 - ((52 - m.log2 : Nat) : Int)) (p0 := (k : Int) - 149 - ((52 - m.log2 : Nat) : Int))
        (r := (k + 925 - (52 - m.log2)) * 4503599627370496 + m * 2 ^ (52 - m.log2)) hm52 (by rw [Nat.pow_zero, Nat.mul_one]) (by omega)
        (by rw [hl52, double_frac, double_least]; omega) (by rw [double_least, double_binade]; congr 2; omega) (by rw [double_inf]; omega)
      rw [show (k : Int) - 149 - ((52 - m.log2 : Nat) : Int) + ((52 - m.log2 : Nat) : Int) = (k : Int) - 149 by omega] at h1
      exact h1
    refine ⟨_, rfl, ?_⟩
    rw [e]
    simp only [Format.write]
    rw [hw s]
    generalize hq : k + 925 - (52 - m.log2) = q
    generalize hM : m * 2 ^ (52 - m.log2) = M at *
    have hq1 : q ≤ 1200 := by omega
    have hmod : double.word s (q * 4503599627370496 + M) % 9223372036854775808 = q * 4503599627370496 + M := by
      unfold Format.word
      rw [double_sign]
      split <;> omega
    rw [hmod]
    refine ⟨by omega, ?_⟩
    have hread : double.read (q * 4503599627370496 + M) = .number false M (-1074 + (q : Int)) := by
      unfold Format.read
      simp only [double_sign, double_binade, double_inf, double_least]
      rw [show (q * 4503599627370496 + M) % 9223372036854775808 = q * 4503599627370496 + M by omega, if_neg (by omega), if_pos (by omega)]
      have e1 : ((q * 4503599627370496 + M) / 9223372036854775808 % 2 == 1) = false := by
        rw [show (q * 4503599627370496 + M) / 9223372036854775808 = 0 by omega]
        rfl
      rw [e1]
      congr 1 <;> omega
    rw [hread]
    show single.nearest false M (-1074 + (q : Int)) = absB b
    have h2 := exact_nearest single false (mag := M) (m0 := m) (a := 0) (b := 52 - m.log2) (c := -1074 + (q : Int)) (p0 := (k : Int) - 149) (r := absB b) hm (by rw [Nat.pow_zero, Nat.mul_one]; exact hM.symm) (by omega)
      (by rw [single_frac, single_least]; exact hlast) (by rw [single_least, single_binade]; unfold absB; rw [← hr]; congr 2; omega) (by rw [single_inf]; unfold absB; omega)
    rw [show -1074 + (q : Int) + ((0 : Nat) : Int) = -1074 + (q : Int) by omega] at h2
    rw [h2]
    rfl
theorem not_inf {f : Format} {b : Nat} (h : b % f.signWeight < f.infRung) : (f.read b).isInfinity = false := by
  unfold Format.read
  simp only []
  split
  · rfl
  · rfl
theorem read_fin {f : Format} {b : Nat} (h : b % f.signWeight < f.infRung) : ∃ s m p, f.read b = .number s m p := by
  unfold Format.read
  simp only []
  split
  · exact ⟨_, _, _, rfl⟩
  · exact ⟨_, _, _, rfl⟩
/-- what noise.Magnitude reckons -/
theorem mag_conv {b : Nat} (h : b % 2147483648 < 2139095040) : ∃ d, floatToFloatBits .f32 b .f64 = some d ∧ floatToFloatBits .f64 (d % 9223372036854775808) .f32 = some (absB b) := by
  obtain ⟨d, hd, hd2, hd3⟩ := there_and_back h
  refine ⟨d, ?_, ?_⟩
  · unfold floatToFloatBits
    rw [if_neg (by decide)]
    show (match single.read b with | .nan _ _ => none | .infinity s => _ | .number s m e => _) = _
    obtain ⟨s, m, p, e⟩ := read_fin (f := single) (b := b) (by rw [single_sign, single_inf]; exact h)
    rw [e] at hd ⊢
    show (if (double.read (double.write (.number s m p))).isInfinity = true then none else some (double.write (.number s m p))) = _
    rw [hd, not_inf (by rw [double_sign, double_inf]; exact hd2), if_neg (by decide)]
  · unfold floatToFloatBits
    rw [if_neg (by decide)]
    show (match double.read (d % 9223372036854775808) with | .nan _ _ => none | .infinity s => _ | .number s m e => _) = _
    obtain ⟨s, m, p, e⟩ := read_fin (f := double) (b := d % 9223372036854775808) (by rw [double_sign, double_inf, Nat.mod_mod]; exact hd2)
    rw [e] at hd3 ⊢
    show (if (single.read (single.write (.number s m p))).isInfinity = true then none else some (single.write (.number s m p))) = _
    rw [hd3, not_inf (by rw [single_sign, single_inf]; unfold absB; rw [Nat.mod_mod]; exact h), if_neg (by decide)]
end Go.Proofs.Ytpgdinpckolfpaa
