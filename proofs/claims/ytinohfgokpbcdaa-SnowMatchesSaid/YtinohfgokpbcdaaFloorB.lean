/- The whole part of a single is compared, and made an integer, as the single itself. No program in sight. -/
import Derived.Test.YtinohfgokpbcdaaFloorA
namespace Go.Proofs.Ytinohfgokpbcdaa
open Ieee

theorem cut_zero (s : Bool) {n drop : Nat} : Toward.zero.cut s n drop = n / 2 ^ drop := by
  unfold Toward.cut
  simp only [Nat.shiftLeft_eq, Nat.one_mul, Bool.toNat_false, Nat.add_zero]
  rcases Nat.le_total drop (n.log2 + 2) with h | h
  · rw [Nat.min_eq_left h]
  · rw [Nat.min_eq_right h]
    have h1 : n < 2 ^ (n.log2 + 1) := Nat.lt_log2_self
    have h2 : n < 2 ^ (n.log2 + 2) := Nat.lt_of_lt_of_le h1 (Nat.pow_le_pow_right (by omega) (by omega))
    have h3 : n < 2 ^ drop := Nat.lt_of_lt_of_le h2 (Nat.pow_le_pow_right (by omega) h)
    rw [Nat.div_eq_of_lt h2, Nat.div_eq_of_lt h3]
theorem cut_zero_val (s : Bool) {M j V T : Nat} (hV : M * 2 ^ j = V) : Toward.zero.cut s (M <<< ((j : Int) - T).toNat) (-((j : Int) - T)).toNat = V / 2 ^ T := by
  rw [cut_zero, Nat.shiftLeft_eq]
  have hp := Nat.two_pow_pos j
  rcases Nat.le_total T j with h | h
  · have e0 : j - T + T = j := Nat.sub_add_cancel h
    have e : V = M * 2 ^ (j - T) * 2 ^ T := by rw [← hV, Nat.mul_assoc, ← Nat.pow_add, e0]
    have e1 : (-((j : Int) - T)).toNat = 0 := by clear hV e hp; omega
    have e2 : ((j : Int) - T).toNat = j - T := by clear hV e hp; omega
    rw [e1, e2, Nat.pow_zero, Nat.div_one, e, Nat.mul_div_cancel _ (Nat.two_pow_pos _)]
  · have e : V = M * 2 ^ j := hV.symm
    have e0 : T - j + j = T := Nat.sub_add_cancel h
    have e2 : (2 : Nat) ^ T = 2 ^ (T - j) * 2 ^ j := by rw [← Nat.pow_add, e0]
    have e3 : ((j : Int) - T).toNat = 0 := by clear hV e e2 hp; omega
    have e4 : (-((j : Int) - T)).toNat = T - j := by clear hV e e2 hp; omega
    rw [e3, e4, Nat.pow_zero, Nat.mul_one, e, e2, Nat.mul_div_mul_right _ _ hp]
theorem to_int {q M j V : Nat} (e : single.read q = .number false M ((j : Int) - (149 : Nat))) (hV : M * 2 ^ j = V) (hs : V / 2 ^ 149 < 9223372036854775808) : floatToIntVal .f32 q .i64 = some ((V / 2 ^ 149 : Nat) : Int) := by
  unfold floatToIntVal
  have h1 : (FloatKind.f32.decode q).toInt .zero = some ((V / 2 ^ 149 : Nat) : Int) := by
    show (single.read q).toInt .zero = _
    rw [e]
    show some (signed false (Toward.zero.cut false (M <<< ((j : Int) - (149 : Nat)).toNat) (-((j : Int) - (149 : Nat))).toNat) 0) = _
    rw [cut_zero_val false hV]
    unfold signed
    rw [if_neg (by decide), Nat.shiftLeft_zero]
  rw [h1]
  generalize V / 2 ^ 149 = n at *
  have h2 : IntKind.i64.min = -9223372036854775808 := by decide
  have h3 : IntKind.i64.max = 9223372036854775807 := by decide
  show (if IntKind.i64.min ≤ (n : Int) ∧ (n : Int) ≤ IntKind.i64.max then some (n : Int) else none) = _
  rw [h2, h3, if_pos ⟨by omega, by omega⟩]

theorem signed_nat (m k : Nat) : signed false m k = ((m * 2 ^ k : Nat) : Int) := by
  unfold signed
  rw [if_neg (by decide), Nat.shiftLeft_eq]
theorem signed_neg (m k : Nat) : signed true m k = -((m * 2 ^ k : Nat) : Int) := by
  unfold signed
  rw [if_pos rfl, Nat.shiftLeft_eq]
theorem int_single {n : Nat} (h0 : n ≠ 0) (h : n < 16777216) : ∃ M j : Nat, single.read (floatOfInt .f32 (n : Int)) = .number false M ((j : Int) - 149) ∧ M * 2 ^ j = n * 2 ^ 149 := by
  have hl : n.log2 < 24 := (Nat.log2_lt h0).2 h
  obtain ⟨M, j, h1, h2⟩ := single_exact false (mag := n) (m := n) (P := 0) (i := 0) h0 (by omega) (by omega) (by omega) (by omega) rfl
  exact ⟨M, j, h1, h2⟩
theorem int_double {n T : Nat} (hT : T = 1074) (h0 : n ≠ 0) (h : n ≤ 16777216) : ∃ M j : Nat, double.read (floatOfInt .f64 (n : Int)) = .number false M ((j : Int) - 1074) ∧ M * 2 ^ j = n * 2 ^ T := by
  have hl : n.log2 < 25 := (Nat.log2_lt h0).2 (by show n < 33554432; omega)
  obtain ⟨M, j, h1, h2⟩ := double_exact false (mag := n) (m := n) (P := 0) (i := 0) h0 (by omega) (by omega) (by omega) (by omega) rfl
  refine ⟨M, j, h1, ?_⟩
  have e : ((0 : Int) + 1074).toNat = T := by rw [hT]; rfl
  rw [h2, e]

/-- at least, of doubles -/
def geD (a b : Nat) : Bool := FloatKind.f64.format.order a b == some .gt || FloatKind.f64.format.order a b == some .eq
theorem cmp_mul {a b : Nat} {c : Nat} (hc : 0 < c) : compare ((a * c : Nat) : Int) ((b * c : Nat) : Int) = compare (a : Int) (b : Int) := by
  rw [Int.natCast_mul, Int.natCast_mul]
  exact cmp_scale (by omega)
theorem gt_floor {V n : Nat} {D : Nat} (hD : 0 < D) : (compare ((V / D : Nat) : Int) ((n : Nat) : Int) == .gt) = (compare ((V : Nat) : Int) (((n + 1) * D : Nat) : Int) == .gt || compare ((V : Nat) : Int) (((n + 1) * D : Nat) : Int) == .eq) := by
  have h := Nat.le_div_iff_mul_le (x := n + 1) (y := V) hD
  generalize (n + 1) * D = B at *
  rcases Nat.lt_or_ge V B with h1 | h1
  · have h2 : V / D ≤ n := by
      rcases Nat.lt_or_ge n (V / D) with h3 | h3
      · have := h.1 h3
        omega
      · exact h3
    rw [Int.compare_eq_lt.2 (show ((V : Nat) : Int) < (B : Int) by omega)]
    rcases Nat.eq_or_lt_of_le h2 with h3 | h3
    · rw [h3, Int.compare_eq_eq.2 rfl]; rfl
    · rw [Int.compare_eq_lt.2 (by omega)]; rfl
  · have h2 := h.2 h1
    rw [Int.compare_eq_gt.2 (by omega)]
    rcases Nat.eq_or_lt_of_le h1 with h3 | h3
    · rw [h3, Int.compare_eq_eq.2 rfl]; rfl
    · rw [Int.compare_eq_gt.2 (by omega)]; rfl

/-- what a level of a height asks of a single and of its whole part -/
structure Whole (q most : Nat) : Prop where
  conv : ∃ d, floatToFloatBits .f32 q .f64 = some d ∧ (double.read d).isNaN = false ∧ floatToFloatBits .f64 (double.write ((double.read d).integral .down)) .f32 = some (floorB q) ∧
    (lt q 0 = false → gt (floorB q) (floatOfInt .f32 (most : Int)) = geD d (floatOfInt .f64 ((most + 1 : Nat) : Int)))
  neg : lt (floorB q) 0 = lt q 0
  int : lt q 0 = false → gt (floorB q) (floatOfInt .f32 (most : Int)) = false → ∃ n : Nat, n ≤ most ∧ floatToIntVal .f32 (floorB q) .i64 = some (n : Int) ∧ floatToIntVal .f32 q .i64 = some (n : Int)

theorem lt_def {a b : Nat} {o : Ordering} (h : ord a b = some o) : lt a b = (o == .lt) := by
  unfold lt
  rw [ord_def, h]
  cases o <;> rfl
theorem gt_def {a b : Nat} {o : Ordering} (h : ord a b = some o) : gt a b = (o == .gt) := by
  unfold gt
  rw [ord_def, h]
  cases o <;> rfl
theorem geD_def {a b : Nat} {o : Ordering} (h : double.order a b = some o) : geD a b = (o == .gt || o == .eq) := by
  have h2 : FloatKind.f64.format.order a b = some o := h
  unfold geD
  rw [h2]
  cases o <;> rfl
theorem nonneg_lt {q m k : Nat} (e : single.read q = .number false m ((k : Int) - 149)) : lt q 0 = false := by
  rw [lt_def (ord_val e read_zero), signed_nat, signed_zero]
  rcases Nat.eq_zero_or_pos (m * 2 ^ k) with h | h
  · rw [h]; rfl
  · rw [Int.compare_eq_gt.2 (by omega)]; rfl
theorem zero_lt {q : Nat} {s : Bool} (e : single.read q = .number s 0 (((0 : Nat) : Int) - 149)) : lt q 0 = false := by
  rw [lt_def (ord_val e read_zero), signed_zero]
  cases s <;> decide
theorem neg_lt {q m k : Nat} (hm : m ≠ 0) (e : single.read q = .number true m ((k : Int) - 149)) : lt q 0 = true := by
  rw [lt_def (ord_val e read_zero), signed_neg, signed_zero]
  have h := Nat.mul_pos (Nat.pos_of_ne_zero hm) (Nat.two_pow_pos k)
  rw [Int.compare_eq_lt.2 (by omega)]; rfl

theorem whole_num {q most : Nat} {s : Bool} {m k : Nat} (h1 : 1 ≤ most) (h2 : most < 16777216) (e : single.read q = .number s m ((k : Int) - 149)) (hm : m ≠ 0) (hl : m.log2 ≤ 23) (hk : k ≤ 253) : Whole q most := by
  obtain ⟨d, Md, jd, C, M, j, f1, f2, f3, f4, f5, f6, f7, f8⟩ := floor_num e hm hl hk
  cases s with
  | true =>
    have n1 : lt q 0 = true := neg_lt hm e
    have hM : M ≠ 0 := by
      rintro rfl
      rw [Nat.zero_mul] at f6
      exact Nat.mul_ne_zero (f8 rfl) (Nat.pos_iff_ne_zero.1 (Nat.two_pow_pos _)) f6.symm
    refine ⟨⟨d, f1, by rw [f2]; rfl, f4, fun h => by rw [n1] at h; cases h⟩, by rw [n1]; exact neg_lt hM f5, fun h => by rw [n1] at h; cases h⟩
  | false =>
    have hC := f7 rfl
    obtain ⟨M2, j2, g1, g2⟩ := int_single (n := most) (by omega) h2
    have hg : gt (floorB q) (floatOfInt .f32 (most : Int)) = (compare (C : Int) (most : Int) == .gt) := by
      rw [gt_def (ord_val f5 g1), signed_nat, signed_nat, f6, g2, cmp_mul (Nat.two_pow_pos 149)]
    refine ⟨⟨d, f1, by rw [f2]; rfl, f4, fun _ => ?_⟩, by rw [nonneg_lt e, nonneg_lt f5], fun _ h => ?_⟩
    · obtain ⟨T, hT⟩ : ∃ T : Nat, T = 1074 := ⟨_, rfl⟩
      obtain ⟨a, ha⟩ : ∃ a : Nat, a = 925 := ⟨_, rfl⟩
      obtain ⟨M3, j3, k1, k2⟩ := int_double (n := most + 1) hT (by omega) (by omega)
      rw [hg, geD_def (ordD_val f2 k1), signed_nat, signed_nat, f3, k2, ← ha]
      have e1 : m * 2 ^ (k + a) = m * 2 ^ k * 2 ^ a := by rw [Nat.pow_add, Nat.mul_assoc]
      have e2 : (most + 1) * 2 ^ T = (most + 1) * 2 ^ 149 * 2 ^ a := by
        have e0 : T = 149 + a := by rw [hT, ha]
        rw [e0, Nat.pow_add, Nat.mul_assoc]
      rw [e1, e2, cmp_mul (Nat.two_pow_pos a), hC]
      exact gt_floor (Nat.two_pow_pos 149)
    · rw [hg] at h
      have hle : C ≤ most := by
        rcases Nat.lt_or_ge most C with h3 | h3
        · rw [Int.compare_eq_gt.2 (by omega)] at h
          cases h
        · exact h3
      have i1 := to_int f5 f6 (by rw [Nat.mul_div_cancel _ (Nat.two_pow_pos _)]; omega)
      rw [Nat.mul_div_cancel _ (Nat.two_pow_pos _)] at i1
      have i2 := to_int e rfl (by rw [← hC]; omega)
      rw [← hC] at i2
      exact ⟨C, hle, i1, i2⟩
theorem cut_nil (s : Bool) (T : Nat) : Toward.down.cut s (0 <<< (((0 : Nat) : Int) - T).toNat) (-(((0 : Nat) : Int) - T)).toNat = 0 := by
  rw [cut_val s (M := 0) (j := 0) (V := 0) (by rw [Nat.zero_mul]), Nat.zero_div, Nat.zero_mod]
  cases s <;> rfl
theorem whole_nil {q most : Nat} {s : Bool} (h1 : 1 ≤ most) (h2 : most < 16777216) (e : single.read q = .number s 0 (((0 : Nat) : Int) - 149)) : Whole q most := by
  have c1 : floatToFloatBits .f32 q .f64 = some (double.nearest s 0 (((0 : Nat) : Int) - 149)) := by
    unfold floatToFloatBits
    rw [if_neg (by decide)]
    show (match single.read q with | .nan _ _ => none | .infinity s => _ | .number s m e => _) = _
    rw [e]
    show (if (double.read (double.nearest s 0 (((0 : Nat) : Int) - 149))).isInfinity = true then none else some (double.nearest s 0 (((0 : Nat) : Int) - 149))) = _
    rw [double_zero, if_neg (fun h => by cases h)]
  obtain ⟨t, z1, z2⟩ := whole_zero s
  have c2 : double.write ((double.read (double.nearest s 0 (((0 : Nat) : Int) - 149))).integral .down) = double.nearest s 0 0 := by
    rw [double_zero]
    show double.nearest s (Toward.down.cut s (0 <<< ((((0 : Nat) : Int) - (1074 : Nat))).toNat) (-((((0 : Nat) : Int) - (1074 : Nat)))).toNat) 0 = _
    rw [cut_nil]
  rw [← c2] at z1
  have et : floorB q = t := floorB_eq c1 z1
  rw [← et] at z1 z2
  obtain ⟨M2, j2, g1, g2⟩ := int_single (n := most) (by omega) h2
  have hs0 : ∀ k, signed s 0 k = 0 := fun k => by cases s <;> simp [signed]
  have hg : gt (floorB q) (floatOfInt .f32 (most : Int)) = false := by
    rw [gt_def (ord_val z2 g1), hs0, signed_nat, g2]
    have h := Nat.mul_pos (show 0 < most by omega) (Nat.two_pow_pos 149)
    rw [Int.compare_eq_lt.2 (by omega)]; rfl
  refine ⟨⟨_, c1, by rw [double_zero]; rfl, z1, fun _ => ?_⟩, by rw [zero_lt e, zero_lt z2], fun _ _ => ⟨0, by omega, ?_⟩⟩
  · obtain ⟨T, hT⟩ : ∃ T : Nat, T = 1074 := ⟨_, rfl⟩
    obtain ⟨M3, j3, k1, k2⟩ := int_double (n := most + 1) hT (by omega) (by omega)
    rw [hg, geD_def (ordD_val (double_zero s _) k1), hs0, signed_nat, k2]
    have h := Nat.mul_pos (show 0 < most + 1 by omega) (Nat.two_pow_pos T)
    clear k2 hT
    generalize (most + 1) * 2 ^ T = B at *
    rw [Int.compare_eq_lt.2 (by omega)]; rfl
  · have h3 : ∀ x, single.read x = .number s 0 (((0 : Nat) : Int) - 149) → floatToIntVal .f32 x .i64 = some ((0 : Nat) : Int) := by
      intro x hx
      unfold floatToIntVal
      have h4 : (FloatKind.f32.decode x).toInt .zero = some 0 := by
        show (single.read x).toInt .zero = _
        rw [hx]
        cases s <;> decide
      rw [h4]
      rfl
    exact ⟨h3 _ z2, h3 _ e⟩
theorem whole_inf {q most : Nat} {s : Bool} (h1 : 1 ≤ most) (h2 : most < 16777216) (e : single.read q = .infinity s) : Whole q most := by
  have c1 : floatToFloatBits .f32 q .f64 = some (double.write (.infinity s)) := by
    unfold floatToFloatBits
    rw [if_neg (by decide)]
    show (match single.read q with | .nan _ _ => none | .infinity s => some (double.write (.infinity s)) | .number s m e => _) = _
    rw [e]
  have r1 : double.read (double.write (.infinity s)) = .infinity s := by cases s <;> decide +kernel
  have c2 : floatToFloatBits .f64 (double.write ((double.read (double.write (.infinity s))).integral .down)) .f32 = some (single.write (.infinity s)) := by
    rw [r1]
    show floatToFloatBits .f64 (double.write (.infinity s)) .f32 = _
    unfold floatToFloatBits
    rw [if_neg (by decide)]
    show (match double.read (double.write (.infinity s)) with | .nan _ _ => none | .infinity s => some (single.write (.infinity s)) | .number s m e => _) = _
    rw [r1]
  have et : floorB q = single.write (.infinity s) := floorB_eq c1 c2
  have r2 : single.read (floorB q) = .infinity s := by rw [et]; cases s <;> decide +kernel
  rw [← et] at c2
  obtain ⟨M2, j2, g1, g2⟩ := int_single (n := most) (by omega) h2
  have hlt : ∀ x, single.read x = .infinity s → lt x 0 = s := by
    intro x hx
    have h : ord x 0 = some (if s then .lt else .gt) := by
      show single.order x 0 = _
      unfold Format.order
      rw [hx, read_zero]
      rfl
    rw [lt_def h]
    cases s <;> rfl
  refine ⟨⟨_, c1, by rw [r1]; rfl, c2, fun h => ?_⟩, by rw [hlt _ e, hlt _ r2], fun h h3 => ?_⟩
  · rw [hlt _ e] at h
    subst h
    obtain ⟨M3, j3, k1, _⟩ := int_double (n := most + 1) rfl (by omega) (by omega)
    have o1 : ord (floorB q) (floatOfInt .f32 (most : Int)) = some .gt := by
      show single.order _ _ = _
      unfold Format.order
      rw [r2, g1]
      rfl
    have o2 : double.order (double.write (.infinity false)) (floatOfInt .f64 ((most + 1 : Nat) : Int)) = some .gt := by
      unfold Format.order
      rw [r1, k1]
      rfl
    rw [gt_def o1, geD_def o2]
    rfl
  · rw [hlt _ e] at h
    subst h
    have o1 : ord (floorB q) (floatOfInt .f32 (most : Int)) = some .gt := by
      show single.order _ _ = _
      unfold Format.order
      rw [r2, g1]
      rfl
    rw [gt_def o1] at h3
    cases h3
theorem whole_any {q most : Nat} (h1 : 1 ≤ most) (h2 : most < 16777216) (h : nanB q = false) : Whole q most := by
  rcases cls h with ⟨s, e⟩ | ⟨s, e⟩ | ⟨s, m, k, e, hm, hl, hk⟩
  · exact whole_inf h1 h2 e
  · exact whole_nil h1 h2 e
  · exact whole_num h1 h2 e hm hl hk
end Go.Proofs.Ytinohfgokpbcdaa
