/- The greatest whole number that is not greater than a single: what float32(math.Floor(float64(q))) is. No program in sight. -/
import Derived.Test.YtinohfgokpbcdaaExactA
namespace Go.Proofs.Ytinohfgokpbcdaa
open Ieee

theorem ordD_val {x y : Nat} {s t : Bool} {m n k j : Nat} (hx : double.read x = .number s m ((k : Int) - 1074)) (hy : double.read y = .number t n ((j : Int) - 1074)) : double.order x y = some (compare (signed s m k) (signed t n j)) := by
  unfold Format.order
  rw [hx, hy]
  simp only [Datum.order]
  have e : min ((k : Int) - 1074) ((j : Int) - 1074) = ((min k j : Nat) : Int) - (1074 : Nat) := by omega
  rw [e, show ((k : Int) - 1074 - (((min k j : Nat) : Int) - (1074 : Nat))).toNat = k - min k j by omega, show ((j : Int) - 1074 - (((min k j : Nat) : Int) - (1074 : Nat))).toNat = j - min k j by omega]
  have h1 : signed s m k = signed s m (k - min k j) * ((2 ^ min k j : Nat) : Int) := by rw [← signed_scale, Nat.sub_add_cancel (Nat.min_le_left k j)]
  have h2 : signed t n j = signed t n (j - min k j) * ((2 ^ min k j : Nat) : Int) := by rw [← signed_scale, Nat.sub_add_cancel (Nat.min_le_right k j)]
  have hc : 0 < ((2 ^ min k j : Nat) : Int) := by have := Nat.two_pow_pos (min k j); omega
  rw [h1, h2, cmp_scale hc]

/-- what a single that is no NaN stands for -/
theorem cls {q : Nat} (h : nanB q = false) : (∃ s, single.read q = .infinity s) ∨ (∃ s, single.read q = .number s 0 (((0 : Nat) : Int) - 149)) ∨
    ∃ (s : Bool) (m k : Nat), single.read q = .number s m ((k : Int) - 149) ∧ m ≠ 0 ∧ m.log2 ≤ 23 ∧ k ≤ 253 := by
  rcases Nat.lt_or_ge (q % 2147483648) 2139095040 with h1 | h1
  · by_cases h0 : q % 2147483648 = 0
    · right; left
      unfold Format.read
      simp only [single_sign, single_binade, single_inf, single_least]
      rw [h0, if_pos (by omega)]
      exact ⟨_, rfl⟩
    · obtain ⟨s, m, k, e, hm, hl, hk, _⟩ := read_num h1 h0
      exact .inr (.inr ⟨s, m, k, e, hm, hl, hk⟩)
  · left
    have e : (single.read q).isNaN = false := h
    unfold Format.read at *
    simp only [single_sign, single_binade, single_inf, single_least] at *
    rw [if_neg (by omega), if_neg (by omega)] at *
    by_cases h2 : q % 2147483648 = 2139095040
    · rw [if_pos h2]
      exact ⟨_, rfl⟩
    · rw [if_neg h2] at e
      cases e

theorem up_exact {q : Nat} {s : Bool} {m k : Nat} (e : single.read q = .number s m ((k : Int) - 149)) (hm : m ≠ 0) (hl : m.log2 ≤ 23) (hk : k ≤ 253) :
    ∃ d M j : Nat, floatToFloatBits .f32 q .f64 = some d ∧ double.read d = .number s M ((j : Int) - 1074) ∧ M * 2 ^ j = m * 2 ^ (k + 925) := by
  obtain ⟨M, j, h1, h2⟩ := double_exact s (mag := m) (m := m) (P := (k : Int) - 149) (i := (k : Int) - 149) hm (by omega) (by omega) (by omega) (by omega) rfl
  refine ⟨double.nearest s m ((k : Int) - 149), M, j, ?_, h1, ?_⟩
  · unfold floatToFloatBits
    rw [if_neg (by decide)]
    show (match single.read q with | .nan _ _ => none | .infinity s => _ | .number s m e => _) = _
    rw [e]
    show (if (double.read (double.nearest s m ((k : Int) - 149))).isInfinity = true then none else some (double.nearest s m ((k : Int) - 149))) = _
    rw [h1, if_neg (fun h => by cases h)]
  · rw [h2]
    congr 2
    omega

/-- a whole number that a single holds, written as a double and made a single -/
theorem whole_exact (s : Bool) {c m i : Nat} (hm : m ≠ 0) (hl : m.log2 ≤ 23) (hu : m.log2 + i ≤ 127) (hc : c = m * 2 ^ i) :
    ∃ t M j : Nat, floatToFloatBits .f64 (double.nearest s c 0) .f32 = some t ∧ single.read t = .number s M ((j : Int) - 149) ∧ M * 2 ^ j = c * 2 ^ 149 := by
  subst hc
  obtain ⟨M, j, h1, h2⟩ := double_exact s (mag := m * 2 ^ i) (m := m) (P := 0) (i := (i : Int)) hm (by omega) (by omega) (by omega) (by omega) (by rw [Nat.mul_assoc, ← Nat.pow_add]; congr 2 <;> omega)
  obtain ⟨M', j', h3, h4⟩ := single_exact s (mag := M) (m := m) (P := (j : Int) - 1074) (i := (i : Int)) hm hl (by omega) (by omega) (by omega) (by
    rw [show ((j : Int) - 1074 + 1200).toNat = j + 126 by omega, Nat.pow_add, ← Nat.mul_assoc, h2, Nat.mul_assoc, ← Nat.pow_add]
    congr 2 <;> omega)
  refine ⟨single.nearest s M ((j : Int) - 1074), M', j', ?_, h3, ?_⟩
  · unfold floatToFloatBits
    rw [if_neg (by decide)]
    show (match double.read (double.nearest s (m * 2 ^ i) 0) with | .nan _ _ => none | .infinity s => _ | .number s m e => _) = _
    rw [h1]
    show (if (single.read (single.nearest s M ((j : Int) - 1074))).isInfinity = true then none else some (single.nearest s M ((j : Int) - 1074))) = _
    rw [h3, if_neg (fun h => by cases h)]
  · rw [h4, Nat.mul_assoc, ← Nat.pow_add]
    congr 2
theorem whole_zero (s : Bool) : ∃ t : Nat, floatToFloatBits .f64 (double.nearest s 0 0) .f32 = some t ∧ single.read t = .number s 0 (((0 : Nat) : Int) - 149) := by
  refine ⟨single.nearest s 0 (((0 : Nat) : Int) - 1074), ?_, single_zero s _⟩
  unfold floatToFloatBits
  rw [if_neg (by decide)]
  show (match double.read (double.nearest s 0 0) with | .nan _ _ => none | .infinity s => _ | .number s m e => _) = _
  rw [double_zero]
  show (if (single.read (single.nearest s 0 (((0 : Nat) : Int) - 1074))).isInfinity = true then none else some (single.nearest s 0 (((0 : Nat) : Int) - 1074))) = _
  rw [single_zero, if_neg (fun h => by cases h)]

/-- rounded down -/
theorem cut_down (s : Bool) {n drop : Nat} : Toward.down.cut s n drop = n / 2 ^ drop + (s && n % 2 ^ drop != 0).toNat := by
  unfold Toward.cut
  simp only [Nat.shiftLeft_eq, Nat.one_mul]
  rcases Nat.le_total drop (n.log2 + 2) with h | h
  · rw [Nat.min_eq_left h]
  · rw [Nat.min_eq_right h]
    have h1 : n < 2 ^ (n.log2 + 1) := Nat.lt_log2_self
    have h2 : n < 2 ^ (n.log2 + 2) := Nat.lt_of_lt_of_le h1 (Nat.pow_le_pow_right (by omega) (by omega))
    have h3 : n < 2 ^ drop := Nat.lt_of_lt_of_le h2 (Nat.pow_le_pow_right (by omega) h)
    rw [Nat.div_eq_of_lt h2, Nat.div_eq_of_lt h3, Nat.mod_eq_of_lt h2, Nat.mod_eq_of_lt h3]
theorem cut_val (s : Bool) {M j V T : Nat} (hV : M * 2 ^ j = V) : Toward.down.cut s (M <<< ((j : Int) - T).toNat) (-((j : Int) - T)).toNat = V / 2 ^ T + (s && V % 2 ^ T != 0).toNat := by
  rw [cut_down, Nat.shiftLeft_eq]
  have hp := Nat.two_pow_pos j
  rcases Nat.le_total T j with h | h
  · have e0 : j - T + T = j := Nat.sub_add_cancel h
    have e : V = M * 2 ^ (j - T) * 2 ^ T := by rw [← hV, Nat.mul_assoc, ← Nat.pow_add, e0]
    have e1 : (-((j : Int) - T)).toNat = 0 := by clear hV e hp; omega
    have e2 : ((j : Int) - T).toNat = j - T := by clear hV e hp; omega
    rw [e1, e2, Nat.pow_zero, Nat.div_one, Nat.mod_one, e, Nat.mul_div_cancel _ (Nat.two_pow_pos _), Nat.mul_mod_left]
  · have e : V = M * 2 ^ j := hV.symm
    have e0 : T - j + j = T := Nat.sub_add_cancel h
    have e2 : (2 : Nat) ^ T = 2 ^ (T - j) * 2 ^ j := by rw [← Nat.pow_add, e0]
    have e3 : ((j : Int) - T).toNat = 0 := by clear hV e e2 hp; omega
    have e4 : (-((j : Int) - T)).toNat = T - j := by clear hV e e2 hp; omega
    rw [e3, e4, Nat.pow_zero, Nat.mul_one, e, e2, Nat.mul_div_mul_right _ _ hp, Nat.mul_mod_mul_right]
    congr 2
    by_cases h0 : M % 2 ^ (T - j) = 0
    · rw [h0, Nat.zero_mul]
    · have h1 : M % 2 ^ (T - j) * 2 ^ j ≠ 0 := Nat.mul_ne_zero h0 (Nat.pos_iff_ne_zero.1 hp)
      rw [bne_iff_ne.2 h0, bne_iff_ne.2 h1]

def floorB (q : Nat) : Nat := ((floatToFloatBits .f32 q .f64).bind fun d => floatToFloatBits .f64 (double.write ((double.read d).integral .down)) .f32).getD 0
theorem floorB_eq {q d t : Nat} (h1 : floatToFloatBits .f32 q .f64 = some d) (h2 : floatToFloatBits .f64 (double.write ((double.read d).integral .down)) .f32 = some t) : floorB q = t := by
  unfold floorB
  rw [h1]
  show (floatToFloatBits .f64 (double.write ((double.read d).integral .down)) .f32).getD 0 = t
  rw [h2]
  rfl
/-- the whole number: pure -/
theorem floor_val (s : Bool) {m k C Md jd a b T : Nat} (hT : b + a = T) (hm : m ≠ 0) (h3 : Md * 2 ^ jd = m * 2 ^ (k + a)) (hC : Toward.down.cut s (Md <<< ((jd : Int) - T).toNat) (-((jd : Int) - T)).toNat = C) :
    (s = false → C = m * 2 ^ k / 2 ^ b) ∧ (s = true → C ≠ 0) ∧ (b ≤ k → C = m * 2 ^ (k - b)) ∧ C ≤ m * 2 ^ k / 2 ^ b + 1 := by
  have hv := cut_val s (T := T) h3
  rw [hC] at hv
  have e1 : m * 2 ^ (k + a) = m * 2 ^ k * 2 ^ a := by rw [Nat.pow_add, Nat.mul_assoc]
  have e2 : (2 : Nat) ^ T = 2 ^ b * 2 ^ a := by rw [← Nat.pow_add, hT]
  have hq : m * 2 ^ (k + a) / 2 ^ T = m * 2 ^ k / 2 ^ b := by rw [e1, e2, Nat.mul_div_mul_right _ _ (Nat.two_pow_pos _)]
  have hb : ∀ b : Bool, b.toNat ≤ 1 := fun b => by cases b <;> simp
  refine ⟨?_, ?_, ?_, ?_⟩
  · rintro rfl
    rw [hv, hq]
    rfl
  · rintro rfl h0
    rw [h0] at hv
    have hV : m * 2 ^ (k + a) ≠ 0 := Nat.mul_ne_zero hm (Nat.pos_iff_ne_zero.1 (Nat.two_pow_pos _))
    have h5 := Nat.div_add_mod (m * 2 ^ (k + a)) (2 ^ T)
    clear e1 e2 hq hC h3
    generalize m * 2 ^ (k + a) = V at *
    generalize 2 ^ T = D at *
    have h6 := Nat.add_eq_zero_iff.1 hv.symm
    by_cases h4 : V % D = 0
    · rw [h4, h6.1, Nat.mul_zero] at h5
      exact hV h5.symm
    · have h7 : (true && V % D != 0) = true := by simp [h4]
      rw [h7] at h6
      exact absurd h6.2 (by decide)
  · intro hk
    have e3 : m * 2 ^ (k + a) = m * 2 ^ (k - b) * 2 ^ T := by
      rw [Nat.mul_assoc, ← Nat.pow_add]
      congr 2
      clear hv hq e1 e2 hC h3
      omega
    rw [hv, e3, Nat.mul_div_cancel _ (Nat.two_pow_pos _), Nat.mul_mod_left]
    simp
  · have h8 := hb (s && m * 2 ^ (k + a) % 2 ^ T != 0)
    rw [hv, hq]
    clear hv hq e1 e2 hC h3
    generalize m * 2 ^ k / 2 ^ b = Q at *
    generalize (s && m * 2 ^ (k + a) % 2 ^ T != 0).toNat = z at *
    omega
theorem floor_rep {m k C b : Nat} (hm : m ≠ 0) (hl : m.log2 ≤ 23) (hk : k ≤ b + 104) (h0 : C ≠ 0) (h1 : b ≤ k → C = m * 2 ^ (k - b)) (h2 : C ≤ m * 2 ^ k / 2 ^ b + 1) :
    ∃ m' i', m' ≠ 0 ∧ m'.log2 ≤ 23 ∧ m'.log2 + i' ≤ 127 ∧ C = m' * 2 ^ i' := by
  rcases Nat.le_total b k with hk' | hk'
  · exact ⟨m, k - b, hm, hl, by omega, h1 hk'⟩
  · refine ⟨C, 0, h0, ?_, ?_, by rw [Nat.pow_zero, Nat.mul_one]⟩
    all_goals
      have hm24 : m < 2 ^ 24 := (Nat.log2_lt hm).1 (by omega)
      have h7 : C < 2 ^ 24 := by
        rcases Nat.eq_or_lt_of_le hk' with he | he
        · rw [h1 (by omega), he]
          simpa using hm24
        · have e3 : (2 : Nat) ^ b = 2 ^ (b - k) * 2 ^ k := by rw [← Nat.pow_add]; congr 1; omega
          rw [e3, Nat.mul_div_mul_right _ _ (Nat.two_pow_pos _)] at h2
          have h8 : m / 2 ^ (b - k) ≤ m / 2 := by
            refine Nat.div_le_div_left ?_ (by omega)
            have : (2 : Nat) ^ 1 ≤ 2 ^ (b - k) := Nat.pow_le_pow_right (by omega) (by omega)
            exact this
          omega
      have h9 := (Nat.log2_lt h0 (k := 24)).2 h7
      omega
theorem floor_num {q : Nat} {s : Bool} {m k : Nat} (e : single.read q = .number s m ((k : Int) - 149)) (hm : m ≠ 0) (hl : m.log2 ≤ 23) (hk : k ≤ 253) :
    ∃ d Md jd C M j : Nat, floatToFloatBits .f32 q .f64 = some d ∧ double.read d = .number s Md ((jd : Int) - 1074) ∧ Md * 2 ^ jd = m * 2 ^ (k + 925) ∧
      floatToFloatBits .f64 (double.write ((double.read d).integral .down)) .f32 = some (floorB q) ∧ single.read (floorB q) = .number s M ((j : Int) - 149) ∧ M * 2 ^ j = C * 2 ^ 149 ∧
      (s = false → C = m * 2 ^ k / 2 ^ 149) ∧ (s = true → C ≠ 0) := by
  obtain ⟨d, Md, jd, h1, h2, h3⟩ := up_exact e hm hl hk
  obtain ⟨C, hC⟩ : ∃ C, Toward.down.cut s (Md <<< ((jd : Int) - (1074 : Nat)).toNat) (-((jd : Int) - (1074 : Nat))).toNat = C := ⟨_, rfl⟩
  have hi : double.write ((double.read d).integral .down) = double.nearest s C 0 := by
    rw [h2]
    show double.nearest s (Toward.down.cut s (Md <<< ((jd : Int) - (1074 : Nat)).toNat) (-((jd : Int) - (1074 : Nat))).toNat) 0 = _
    rw [hC]
  obtain ⟨hpos, hneg, hbig, hle⟩ := floor_val s (b := 149) (a := 925) (T := 1074) rfl hm h3 hC
  by_cases h0 : C = 0
  · obtain ⟨t, z1, z2⟩ := whole_zero s
    rw [h0] at hi
    rw [← hi] at z1
    have et : floorB q = t := floorB_eq h1 z1
    refine ⟨d, Md, jd, 0, 0, 0, h1, h2, h3, by rw [et]; exact z1, by rw [et]; exact z2, by simp, fun h => by rw [← hpos h, h0], fun h => absurd h0 (hneg h)⟩
  · obtain ⟨m', i', r1, r2, r3, r4⟩ := floor_rep (b := 149) hm hl hk h0 hbig hle
    obtain ⟨t, M, j, w1, w2, w3⟩ := whole_exact s r1 r2 r3 r4
    rw [← hi] at w1
    have et : floorB q = t := floorB_eq h1 w1
    exact ⟨d, Md, jd, C, M, j, h1, h2, h3, by rw [et]; exact w1, by rw [et]; exact w2, w3, hpos, hneg⟩
end Go.Proofs.Ytinohfgokpbcdaa
