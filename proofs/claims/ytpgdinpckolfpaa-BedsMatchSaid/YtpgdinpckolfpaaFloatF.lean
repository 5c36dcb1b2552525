/- Double precision: bounds; the square root of a single; quotients by what is not too small; thresholds that are powers of two. -/
import Derived.Test.YtpgdinpckolfpaaFloatE
namespace Go.Proofs.Ytpgdinpckolfpaa
open Ieee

/-- a finite double of at most 2^K -/
def BdD (K b : Nat) : Prop := b % 9223372036854775808 ≤ (K + 1023) * 4503599627370496

theorem word_rungD {neg : Bool} {r : Nat} (h : r < 9223372036854775808) : double.word neg r % 9223372036854775808 = r := by
  unfold Format.word
  rw [double_sign]
  split <;> omega

theorem read_bdD {K b : Nat} (h : BdD K b) (hK : K ≤ 1023) : ∃ (s : Bool) (m k : Nat), double.read b = .number s m ((k : Int) - 1074) ∧ m * 2 ^ k ≤ 2 ^ (K + 1074) ∧ s = (b / 9223372036854775808 % 2 == 1) := by
  unfold BdD at h
  unfold Format.read
  simp only [double_sign, double_binade, double_inf, double_least]
  have hr : b % 9223372036854775808 < 9218868437227405312 := by omega
  by_cases h1 : b % 9223372036854775808 < 4503599627370496
  · rw [if_pos h1]
    refine ⟨_, b % 9223372036854775808, 0, rfl, ?_, rfl⟩
    have : (2 : Nat) ^ 52 ≤ 2 ^ (K + 1074) := Nat.pow_le_pow_right (by omega) (by omega)
    simp only [Nat.pow_zero, Nat.mul_one]
    omega
  · rw [if_neg h1, if_pos hr]
    generalize b % 9223372036854775808 = r at *
    refine ⟨_, 4503599627370496 + r % 4503599627370496, r / 4503599627370496 - 1, by rw [Int.add_comm (-1074)]; rfl, ?_, rfl⟩
    have hq : r / 4503599627370496 ≤ K + 1023 := by omega
    by_cases h2 : r / 4503599627370496 = K + 1023
    · have ht : r % 4503599627370496 = 0 := by omega
      rw [ht, h2]
      have e : (2 : Nat) ^ (52 + (K + 1022)) = 4503599627370496 * 2 ^ (K + 1022) := Nat.pow_add 2 52 (K + 1022)
      rw [show K + 1023 - 1 = K + 1022 by omega, show K + 1074 = 52 + (K + 1022) by omega, e]
      exact Nat.le_refl _
    · have hm : 4503599627370496 + r % 4503599627370496 ≤ 2 ^ 53 := by omega
      calc (4503599627370496 + r % 4503599627370496) * 2 ^ (r / 4503599627370496 - 1) ≤ 2 ^ 53 * 2 ^ (r / 4503599627370496 - 1) := Nat.mul_le_mul_right _ hm
        _ = 2 ^ (53 + (r / 4503599627370496 - 1)) := (Nat.pow_add ..).symm
        _ ≤ 2 ^ (K + 1074) := Nat.pow_le_pow_right (by omega) (by omega)

theorem write_bdD {K : Nat} {neg : Bool} {m k N : Nat} (h : m * 2 ^ k < 2 ^ (K + N)) (hK : K ≤ 1023) : BdD K (double.nearest neg m ((k : Int) - N)) := by
  unfold BdD Format.nearest
  by_cases hm : m = 0
  · rw [if_pos hm, word_rungD (by omega)]
    omega
  · rw [if_neg hm]
    have hl := log_lt hm h
    simp only [double_binade, double_inf, double_least, double_frac]
    have hc : ∀ last : Int, last = max ((k : Int) - N + m.log2 - 52) (-1074) → Toward.even.cut neg (m <<< ((k : Int) - N - last).toNat) (last - ((k : Int) - N)).toNat ≤ 2 ^ 53 := by
      intro last hlast
      refine cut_le ?_
      rw [log_shift hm]
      omega
    have := hc _ rfl
    rw [word_rungD (by omega)]
    have e : ((max ((k : Int) - N + m.log2 - (52 : Nat)) (-1074) - -1074).toNat) ≤ K + 1021 := by omega
    have := Nat.mul_le_mul_right 4503599627370496 e
    simp only [show ((52 : Nat) : Int) = 52 from rfl] at *
    omega
theorem near_falseD (m : Nat) (p : Int) : double.nearest false m p < 9223372036854775808 := by
  have hw : ∀ r, double.word false r = r := fun r => by unfold Format.word; rw [if_neg (by decide)]
  unfold Format.nearest
  split
  · rw [hw]
    omega
  · rw [hw]
    simp only [double_inf]
    omega
theorem bdD_inf {K b : Nat} (h : BdD K b) (hK : K ≤ 1023) : (double.read b).isInfinity = false := by
  refine not_inf ?_
  rw [double_sign, double_inf]
  unfold BdD at h
  omega
theorem bd_inf {K b : Nat} (h : Bd K b) (hK : K ≤ 127) : (single.read b).isInfinity = false := by
  refine not_inf ?_
  rw [single_sign, single_inf]
  unfold Bd at h
  omega
theorem sign_false {b : Nat} {s : Bool} {m : Nat} {p : Int} (h : b < 2147483648) (e : single.read b = .number s m p) : s = false := by
  unfold Format.read at e
  simp only [single_sign] at e
  have hs : (b / 2147483648 % 2 == 1) = false := by rw [Nat.div_eq_of_lt h]; rfl
  rw [hs] at e
  split at e
  · injection e with e; exact e.symm
  · split at e
    · injection e with e; exact e.symm
    · split at e <;> cases e

/-- a single made a double -/
theorem conv_up {K b : Nat} (h : Bd K b) (hK : K ≤ 127) : ∃ d, floatToFloatBits .f32 b .f64 = some d ∧ BdD (K + 1) d ∧ (b < 2147483648 → d < 9223372036854775808) := by
  obtain ⟨s, m, k, e, hm⟩ := read_bd h hK
  have hb : BdD (K + 1) (double.nearest s m ((k : Int) - (149 : Nat))) := write_bdD (Nat.lt_of_le_of_lt hm (Nat.pow_lt_pow_right (by omega) (by omega))) (by omega)
  refine ⟨double.nearest s m ((k : Int) - (149 : Nat)), ?_, hb, ?_⟩
  · unfold floatToFloatBits
    rw [if_neg (by decide)]
    show (match single.read b with | .nan _ _ => none | .infinity s => _ | .number s m e => _) = _
    rw [e]
    show (if (double.read (double.nearest s m ((k : Int) - (149 : Nat)))).isInfinity = true then none else some (double.nearest s m ((k : Int) - (149 : Nat)))) = _
    rw [bdD_inf hb (by omega), if_neg (by decide)]
  · intro hs
    rw [sign_false hs e]
    exact near_falseD _ _
/-- a double made a single -/
theorem conv_down {J d : Nat} (h : BdD J d) (hJ : J ≤ 126) : ∃ r, floatToFloatBits .f64 d .f32 = some r ∧ Bd (J + 1) r ∧ (d < 9223372036854775808 → r < 2147483648) := by
  obtain ⟨s, m, k, e, hm, hs⟩ := read_bdD h (by omega)
  have hb : Bd (J + 1) (single.nearest s m ((k : Int) - (1074 : Nat))) := write_bd (Nat.lt_of_le_of_lt hm (Nat.pow_lt_pow_right (by omega) (by omega))) (by omega)
  refine ⟨single.nearest s m ((k : Int) - (1074 : Nat)), ?_, hb, ?_⟩
  · unfold floatToFloatBits
    rw [if_neg (by decide)]
    show (match double.read d with | .nan _ _ => none | .infinity s => _ | .number s m e => _) = _
    rw [e]
    show (if (single.read (single.nearest s m ((k : Int) - (1074 : Nat)))).isInfinity = true then none else some (single.nearest s m ((k : Int) - (1074 : Nat)))) = _
    rw [bd_inf hb (by omega), if_neg (by decide)]
  · intro hd
    rw [Nat.div_eq_of_lt hd] at hs
    have hs' : s = false := hs
    rw [hs']
    exact near_false _ _

theorem rootFrom_lt (n : Nat) : ∀ (todo root : Nat), Datum.rootFrom n todo root < root + 2 ^ todo
  | 0, root => by simp [Datum.rootFrom]
  | todo + 1, root => by
    unfold Datum.rootFrom
    have h1 := rootFrom_lt n todo root
    have h2 := rootFrom_lt n todo (root + 2 ^ todo)
    have h3 : 2 ^ (todo + 1) = 2 ^ todo + 2 ^ todo := by rw [Nat.pow_succ]; omega
    have h4 : root + 1 <<< todo = root + 2 ^ todo := by rw [Nat.shiftLeft_eq, Nat.one_mul]
    have h5 := Nat.two_pow_pos todo
    simp only [h4]
    split
    · omega
    · omega
theorem root_num {m : Nat} {i : Int} {K : Nat} (hm : m ≠ 0) (hl : (m.log2 : Int) + i ≤ K) : ∃ M k N : Nat, (Datum.number false m i).root 54 = some (.number false M ((k : Int) - N)) ∧ M * 2 ^ k < 2 ^ (K + 3 + N) := by
  obtain ⟨more, hmore⟩ : ∃ more, 2 * 54 - m.log2 + ((i - (2 * 54 - m.log2 : Nat)) % 2).toNat = more := ⟨_, rfl⟩
  obtain ⟨p, hp⟩ : ∃ p : Int, (i - more) / 2 - 1 = p := ⟨_, rfl⟩
  have hw := rootFrom_lt (m <<< more) ((m <<< more).log2 / 2 + 1) 0
  have hlog : (m <<< more).log2 = m.log2 + more := log_shift hm
  obtain ⟨M, hM⟩ : ∃ M, 2 * Datum.rootFrom (m <<< more) ((m <<< more).log2 / 2 + 1) 0 + (Datum.rootFrom (m <<< more) ((m <<< more).log2 / 2 + 1) 0 * Datum.rootFrom (m <<< more) ((m <<< more).log2 / 2 + 1) 0 != m <<< more).toNat = M := ⟨_, rfl⟩
  refine ⟨M, p.toNat, (-p).toNat, ?_, ?_⟩
  · unfold Datum.root
    simp only [if_neg hm, Bool.false_eq_true, if_false]
    rw [hmore, hM, hp, show ((p.toNat : Nat) : Int) - ((-p).toNat : Nat) = p by omega]
  · have hb : ∀ b : Bool, b.toNat ≤ 1 := fun b => by cases b <;> simp
    have hb' := hb (Datum.rootFrom (m <<< more) ((m <<< more).log2 / 2 + 1) 0 * Datum.rootFrom (m <<< more) ((m <<< more).log2 / 2 + 1) 0 != m <<< more)
    generalize (Datum.rootFrom (m <<< more) ((m <<< more).log2 / 2 + 1) 0 * Datum.rootFrom (m <<< more) ((m <<< more).log2 / 2 + 1) 0 != m <<< more).toNat = z at *
    generalize Datum.rootFrom (m <<< more) ((m <<< more).log2 / 2 + 1) 0 = R at *
    rw [hlog] at hw
    have h1 : M < 2 ^ ((m.log2 + more) / 2 + 2) := by
      have h3 : 2 ^ ((m.log2 + more) / 2 + 2) = 2 * 2 ^ ((m.log2 + more) / 2 + 1) := by rw [Nat.pow_succ, Nat.mul_comm]
      omega
    have h2 : M * 2 ^ p.toNat < 2 ^ ((m.log2 + more) / 2 + 2 + p.toNat) := by rw [Nat.pow_add]; exact (Nat.mul_lt_mul_right (Nat.two_pow_pos _)).2 h1
    exact Nat.lt_of_lt_of_le h2 (Nat.pow_le_pow_right (by omega) (by omega))

/-- float32(math.Sqrt(float64(b))) -/
def rootB (b : Nat) : Nat := ((floatToFloatBits .f32 b .f64).bind fun d => (double.sqrt d).bind fun r => floatToFloatBits .f64 r .f32).getD 0
theorem root_okD {K b : Nat} (hb : Bd K b) (hs : b < 2147483648) (hK : K ≤ 110) :
    ∃ d r, floatToFloatBits .f32 b .f64 = some d ∧ double.sqrt d = some r ∧ floatToFloatBits .f64 r .f32 = some (rootB b) ∧ Bd (K + 7) (rootB b) ∧ rootB b < 2147483648 ∧ BdD (K + 5) r := by
  obtain ⟨d, h1, h2, h3⟩ := conv_up hb (by omega)
  have hd := h3 hs
  obtain ⟨s, m, k, e, hm, hsg⟩ := read_bdD h2 (by omega)
  rw [Nat.div_eq_of_lt hd] at hsg
  obtain rfl : s = false := hsg
  have key : ∃ r, double.sqrt d = some r ∧ BdD (K + 5) r ∧ r < 9223372036854775808 := by
    unfold Format.sqrt
    rw [e, double_frac]
    by_cases h0 : m = 0
    · subst h0
      refine ⟨double.nearest false 0 ((k : Int) - (1074 : Nat)), ?_, write_bdD (by rw [Nat.zero_mul]; exact Nat.two_pow_pos _) (by omega), near_falseD _ _⟩
      rfl
    · have hl := log_lt h0 (show m * 2 ^ k < 2 ^ (K + 1 + 1074 + 1) from Nat.lt_of_le_of_lt hm (Nat.pow_lt_pow_right (by omega) (by omega)))
      obtain ⟨M, k', N, er, hM⟩ := root_num (m := m) (i := (k : Int) - 1074) (K := K + 1) h0 (by omega)
      refine ⟨double.nearest false M ((k' : Int) - N), ?_, write_bdD (Nat.lt_of_lt_of_le hM (Nat.pow_le_pow_right (by omega) (by omega))) (by omega), near_falseD _ _⟩
      show (Datum.root 54 _).map double.write = _
      rw [er]
      rfl
  obtain ⟨r, h4, h5, h6⟩ := key
  obtain ⟨q, h7, h8, h9⟩ := conv_down h5 (by omega)
  have e2 : rootB b = q := by
    unfold rootB
    rw [h1]
    show ((double.sqrt d).bind fun r => floatToFloatBits .f64 r .f32).getD 0 = q
    rw [h4]
    show (floatToFloatBits .f64 r .f32).getD 0 = q
    rw [h7]
    rfl
  rw [e2]
  exact ⟨d, r, h1, h4, h7, h8.mono (by omega), h9 h6, h5⟩

theorem root_ok {K b : Nat} (hb : Bd K b) (hs : b < 2147483648) (hK : K ≤ 110) :
    ∃ d r, floatToFloatBits .f32 b .f64 = some d ∧ double.sqrt d = some r ∧ floatToFloatBits .f64 r .f32 = some (rootB b) ∧ Bd (K + 7) (rootB b) ∧ rootB b < 2147483648 := by
  obtain ⟨d, r, h1, h2, h3, h4, h5, _⟩ := root_okD hb hs hK
  exact ⟨d, r, h1, h2, h3, h4, h5⟩

/-! ### signs -/
theorem square_nonneg {K x r : Nat} (hx : Bd K x) (hK : K ≤ 127) (h : single.mul x x = some r) : r < 2147483648 := by
  obtain ⟨s, m, k, e, _⟩ := read_bd hx hK
  unfold Format.mul at h
  rw [e] at h
  simp only [Datum.product, Option.map_some, Bool.xor_self, Option.some.injEq] at h
  rw [← h]
  exact near_false _ _
theorem sum_nonneg {K x y r : Nat} (hx : Bd K x) (hy : Bd K y) (hK : K ≤ 127) (sx : x < 2147483648) (sy : y < 2147483648) (h : single.add x y = some r) : r < 2147483648 := by
  obtain ⟨s, m, k, e, _⟩ := read_bd hx hK
  obtain ⟨t, n, j, e2, _⟩ := read_bd hy hK
  obtain rfl := sign_false sx e
  obtain rfl := sign_false sy e2
  unfold Format.add at h
  rw [e, e2] at h
  simp only [Datum.sum, Option.map_some, Option.some.injEq] at h
  rw [← h]
  have h1 := signed_false m ((k : Int) - 149 - min ((k : Int) - 149) ((j : Int) - 149)).toNat
  have h2 := signed_false n ((j : Int) - 149 - min ((k : Int) - 149) ((j : Int) - 149)).toNat
  generalize signed false m ((k : Int) - 149 - min ((k : Int) - 149) ((j : Int) - 149)).toNat = A at *
  generalize signed false n ((j : Int) - 149 - min ((k : Int) - 149) ((j : Int) - 149)).toNat = B at *
  have h3 : (if A + B = 0 then false && false else decide (A + B < 0)) = false := by
    split
    · rfl
    · exact decide_eq_false (by omega)
  show single.nearest (if A + B = 0 then false && false else decide (A + B < 0)) _ _ < _
  rw [h3]
  exact near_false _ _

/-! ### thresholds that are powers of two -/
theorem read_pow {j : Nat} (h1 : 1 ≤ j) (h2 : j ≤ 254) : single.read (j * 8388608) = .number false 8388608 (((j - 1 : Nat) : Int) - 149) := by
  unfold Format.read
  simp only [single_sign, single_binade, single_inf, single_least]
  have e : j * 8388608 % 2147483648 = j * 8388608 := Nat.mod_eq_of_lt (by omega)
  have e2 : (j * 8388608 / 2147483648 % 2 == 1) = false := by rw [Nat.div_eq_of_lt (by omega)]; rfl
  rw [e, e2, if_neg (by omega), if_pos (by omega)]
  congr 1 <;> omega
theorem read_under {j a : Nat} (h1 : 1 ≤ j) (h2 : j ≤ 254) (h : a % 2147483648 < j * 8388608) : ∃ (s : Bool) (m k : Nat), single.read a = .number s m ((k : Int) - 149) ∧ m * 2 ^ k < 2 ^ (22 + j) := by
  unfold Format.read
  simp only [single_sign, single_binade, single_inf, single_least]
  generalize a % 2147483648 = r at *
  by_cases h3 : r < 8388608
  · rw [if_pos h3]
    refine ⟨_, r, 0, rfl, ?_⟩
    have : (2 : Nat) ^ 23 ≤ 2 ^ (22 + j) := Nat.pow_le_pow_right (by omega) (by omega)
    simp only [Nat.pow_zero, Nat.mul_one]
    omega
  · rw [if_neg h3, if_pos (by omega)]
    refine ⟨_, 8388608 + r % 8388608, r / 8388608 - 1, by rw [Int.add_comm (-149)]; rfl, ?_⟩
    have hm : 8388608 + r % 8388608 < 2 ^ 24 := by omega
    have h4 : (8388608 + r % 8388608) * 2 ^ (r / 8388608 - 1) < 2 ^ (24 + (r / 8388608 - 1)) := by rw [Nat.pow_add]; exact (Nat.mul_lt_mul_right (Nat.two_pow_pos _)).2 hm
    exact Nat.lt_of_lt_of_le h4 (Nat.pow_le_pow_right (by omega) (by omega))
theorem ge_of_not_lt {a j : Nat} (h1 : 1 ≤ j) (h2 : j ≤ 254) (h : lt a (j * 8388608) = false) : j * 8388608 ≤ a % 2147483648 := by
  rcases Nat.lt_or_ge (a % 2147483648) (j * 8388608) with h3 | h3
  · obtain ⟨s, m, k, e, hm⟩ := read_under h1 h2 h3
    have ho := ord_val e (read_pow h1 h2)
    have hc : compare (signed s m k) (signed false 8388608 (j - 1)) = .lt := by
      rw [Int.compare_eq_lt]
      have e3 : signed false 8388608 (j - 1) = ((2 ^ (22 + j) : Nat) : Int) := by
        unfold signed
        rw [if_neg (by decide), Nat.shiftLeft_eq]
        congr 1
        have : (2 : Nat) ^ (23 + (j - 1)) = 8388608 * 2 ^ (j - 1) := Nat.pow_add 2 23 (j - 1)
        rw [← this]
        congr 1
        omega
      have e4 := signed_abs s m k
      rw [e3]
      omega
    rw [hc] at ho
    have := lt_ord.2 ho
    rw [this] at h
    cases h
  · exact h3

/-! ### quotients by what is not too small -/
def GeJ (j b : Nat) : Prop := j * 8388608 ≤ b % 2147483648 ∧ b % 2147483648 < 2139095040
theorem read_geJ {j b : Nat} (hj : 1 ≤ j) (h : GeJ j b) : ∃ (s : Bool) (m k : Nat), single.read b = .number s m ((k : Int) - 149) ∧ 2 ^ (22 + j) ≤ m * 2 ^ k ∧ m ≠ 0 := by
  obtain ⟨h, hi⟩ := h
  unfold Format.read
  simp only [single_sign, single_binade, single_inf, single_least]
  rw [if_neg (by omega), if_pos hi]
  generalize b % 2147483648 = r at *
  refine ⟨_, 8388608 + r % 8388608, r / 8388608 - 1, by rw [Int.add_comm (-149)]; rfl, ?_, by omega⟩
  have e : (2 : Nat) ^ (23 + (r / 8388608 - 1)) = 8388608 * 2 ^ (r / 8388608 - 1) := Nat.pow_add 2 23 _
  have h1 : (2 : Nat) ^ (22 + j) ≤ 2 ^ (23 + (r / 8388608 - 1)) := Nat.pow_le_pow_right (by omega) (by omega)
  have h2 : 8388608 * 2 ^ (r / 8388608 - 1) ≤ (8388608 + r % 8388608) * 2 ^ (r / 8388608 - 1) := Nat.mul_le_mul_right _ (by omega)
  omega
theorem fdiv_geJ {K x y j : Nat} (hx : Bd K x) (hj : 1 ≤ j) (hj2 : j ≤ 127) (hy : GeJ j y) (hK : K + (127 - j) ≤ 120) : ∃ r, single.div x y = some r ∧ Bd (K + (127 - j) + 2) r := by
  obtain ⟨s, m, k, e1, h1⟩ := read_bd hx (by omega)
  obtain ⟨t, n, i, e2, h2, hn⟩ := read_geJ hj hy
  obtain ⟨g, hg⟩ : ∃ g, 127 - j = g := ⟨_, rfl⟩
  rw [hg] at hK ⊢
  unfold Format.div
  rw [e1, e2]
  simp only [Datum.quotient, if_neg hn]
  refine ⟨_, rfl, ?_⟩
  simp only [Format.write, single_frac]
  generalize hmore : 23 + 2 + n.log2 - m.log2 = more
  rw [show ((k : Int) - 149 - ((i : Int) - 149) - more - 1) = (k : Int) - ((i + more + 1 : Nat) : Int) by omega]
  refine write_bd ?_ (by omega)
  rw [Nat.shiftLeft_eq]
  by_cases hm : m = 0
  · subst hm
    simp only [Nat.zero_mul, Nat.zero_div, Nat.zero_mod, Nat.mul_zero, Nat.zero_add]
    show 0 * 2 ^ k < _
    rw [Nat.zero_mul]
    exact Nat.two_pow_pos _
  have hb : ∀ b : Bool, b.toNat ≤ 1 := fun b => by cases b <;> simp
  have hb' := hb (m * 2 ^ more % n != 0)
  refine Nat.lt_of_mul_lt_mul_left (a := n) ?_
  have hq : n * (m * 2 ^ more / n) ≤ m * 2 ^ more := Nat.mul_div_le _ _
  have h3 : n * ((2 * (m * 2 ^ more / n) + (m * 2 ^ more % n != 0).toNat) * 2 ^ k) ≤ (2 * (m * 2 ^ more) + n) * 2 ^ k := by
    rw [← Nat.mul_assoc]
    refine Nat.mul_le_mul_right _ ?_
    rw [Nat.mul_add]
    have h5 : n * (m * 2 ^ more % n != 0).toNat ≤ n * 1 := Nat.mul_le_mul_left _ hb'
    have h6 : n * (2 * (m * 2 ^ more / n)) = 2 * (n * (m * 2 ^ more / n)) := Nat.mul_left_comm ..
    omega
  refine Nat.lt_of_le_of_lt h3 ?_
  rw [Nat.add_mul]
  have a1 : 2 * (m * 2 ^ more) * 2 ^ k = (m * 2 ^ k) * 2 ^ (more + 1) := by rw [Nat.pow_succ]; simp only [Nat.mul_assoc, Nat.mul_left_comm, Nat.mul_comm]
  have a2 : (m * 2 ^ k) * 2 ^ (more + 1) ≤ 2 ^ (K + 149) * 2 ^ (more + 1) := Nat.mul_le_mul_right _ h1
  have a3 : 2 ^ (K + 149) * 2 ^ (more + 1) = 2 ^ (22 + j) * 2 ^ (K + g + more + 1) := by rw [← Nat.pow_add, ← Nat.pow_add]; congr 1; omega
  have a4 : 2 ^ (22 + j) * 2 ^ (K + g + more + 1) ≤ n * 2 ^ i * 2 ^ (K + g + more + 1) := Nat.mul_le_mul_right _ h2
  have a5 : n * 2 ^ i * 2 ^ (K + g + more + 1) = n * 2 ^ (K + g + i + more + 1) := by rw [Nat.mul_assoc, ← Nat.pow_add]; congr 2; omega
  have b1 : k ≤ K + g + i + more + 1 := by
    have hl := log_lt hm (show m * 2 ^ k < 2 ^ (K + 150) from Nat.lt_of_le_of_lt h1 (Nat.pow_lt_pow_right (by omega) (by omega)))
    have hg := log_ge h2
    omega
  have b2 : n * 2 ^ k ≤ n * 2 ^ (K + g + i + more + 1) := Nat.mul_le_mul_left _ (Nat.pow_le_pow_right (by omega) b1)
  have c1 : n * 2 ^ (K + g + 2 + (i + more + 1)) = 4 * (n * 2 ^ (K + g + i + more + 1)) := by
    rw [show K + g + 2 + (i + more + 1) = 2 + (K + g + i + more + 1) by omega, Nat.pow_add, Nat.mul_left_comm]
  have c2 : 0 < n * 2 ^ (K + g + i + more + 1) := Nat.mul_pos (by omega) (Nat.two_pow_pos _)
  omega
end Go.Proofs.Ytpgdinpckolfpaa
