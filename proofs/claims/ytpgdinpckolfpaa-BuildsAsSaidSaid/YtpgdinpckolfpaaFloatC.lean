/- Quotients of singles of which the lesser is divided by the greater; differences of a greater single and a lesser one. -/
import Derived.Test.YtpgdinpckolfpaaFloatB
namespace Go.Proofs.Ytpgdinpckolfpaa
open Ieee

theorem signed_scale (s : Bool) (m a b : Nat) : signed s m (a + b) = signed s m a * ((2 ^ b : Nat) : Int) := by
  unfold signed
  simp only [Nat.shiftLeft_eq, Nat.pow_add]
  split
  · rw [Int.neg_mul, ← Int.natCast_mul, Nat.mul_assoc]
  · rw [← Int.natCast_mul, Nat.mul_assoc]
theorem cmp_scale {a b c : Int} (hc : 0 < c) : compare (a * c) (b * c) = compare a b := by
  rcases Int.lt_trichotomy a b with h | h | h
  · rw [Int.compare_eq_lt.2 h, Int.compare_eq_lt.2 (Int.mul_lt_mul_of_pos_right h hc)]
  · subst h
    simp
  · rw [Int.compare_eq_gt.2 h, Int.compare_eq_gt.2 (Int.mul_lt_mul_of_pos_right h hc)]
theorem ord_val {x y : Nat} {s t : Bool} {m n k j : Nat} (hx : single.read x = .number s m ((k : Int) - 149)) (hy : single.read y = .number t n ((j : Int) - 149)) : ord x y = some (compare (signed s m k) (signed t n j)) := by
  show single.order x y = _
  unfold Format.order
  rw [hx, hy]
  simp only [Datum.order]
  have e : min ((k : Int) - 149) ((j : Int) - 149) = ((min k j : Nat) : Int) - (149 : Nat) := by omega
  rw [e, show ((k : Int) - 149 - (((min k j : Nat) : Int) - (149 : Nat))).toNat = k - min k j by omega, show ((j : Int) - 149 - (((min k j : Nat) : Int) - (149 : Nat))).toNat = j - min k j by omega]
  have h1 : signed s m k = signed s m (k - min k j) * ((2 ^ min k j : Nat) : Int) := by rw [← signed_scale, Nat.sub_add_cancel (Nat.min_le_left k j)]
  have h2 : signed t n j = signed t n (j - min k j) * ((2 ^ min k j : Nat) : Int) := by rw [← signed_scale, Nat.sub_add_cancel (Nat.min_le_right k j)]
  have hc : 0 < ((2 ^ min k j : Nat) : Int) := by have := Nat.two_pow_pos (min k j); omega
  rw [h1, h2, cmp_scale hc]
theorem read_zero : single.read 0 = .number false 0 (((0 : Nat) : Int) - 149) := by decide +kernel
theorem signed_zero (k : Nat) : signed false 0 k = 0 := by simp [signed]
theorem signed_false (m k : Nat) : 0 ≤ signed false m k := by
  unfold signed
  rw [if_neg (by decide)]
  exact Int.natCast_nonneg _

theorem log_le {m n k j : Nat} (hm : m ≠ 0) (h : m * 2 ^ k ≤ n * 2 ^ j) : m.log2 + k ≤ n.log2 + j := by
  have h1 : 2 ^ m.log2 ≤ m := Nat.log2_self_le hm
  have h2 : n < 2 ^ (n.log2 + 1) := Nat.lt_log2_self
  have h3 : 2 ^ (m.log2 + k) < 2 ^ (n.log2 + 1 + j) := by
    rw [Nat.pow_add, Nat.pow_add 2 (n.log2 + 1) j]
    exact Nat.lt_of_le_of_lt (Nat.mul_le_mul_right _ h1) (Nat.lt_of_le_of_lt h ((Nat.mul_lt_mul_right (Nat.two_pow_pos j)).2 h2))
  have := (Nat.pow_lt_pow_iff_right (by omega)).1 h3
  omega

/-- what is not greater, divided by what is greater than zero, is at most about one -/
theorem quot_le {K J x y : Nat} (hx : Bd K x) (hy : Bd J y) (hK : K ≤ 127) (hJ : J ≤ 127) (h0 : ord x 0 ≠ some .lt) (hy0 : ord 0 y = some .lt) (hle : ord x y ≠ some .gt) : ∃ r, single.div x y = some r ∧ Bd 2 r := by
  obtain ⟨s, m, k, e1, _⟩ := read_bd hx hK
  obtain ⟨t, n, j, e2, _⟩ := read_bd hy hJ
  rw [ord_val e1 read_zero, signed_zero] at h0
  rw [ord_val read_zero e2, signed_zero] at hy0
  rw [ord_val e1 e2] at hle
  have q0 : ¬ signed s m k < 0 := fun h => h0 (by rw [Int.compare_eq_lt.2 h])
  have q1 : 0 < signed t n j := Int.compare_eq_lt.1 (by simpa using hy0)
  have q2 : ¬ signed t n j < signed s m k := fun h => hle (by rw [Int.compare_eq_gt.2 h])
  have a1 := signed_abs s m k
  have a2 := signed_abs t n j
  have hmn : m * 2 ^ k ≤ n * 2 ^ j := by omega
  have hn : n ≠ 0 := by
    rintro rfl
    simp at a2
    omega
  unfold Format.div
  rw [e1, e2]
  simp only [Datum.quotient, if_neg hn]
  refine ⟨_, rfl, ?_⟩
  simp only [Format.write, single_frac]
  generalize hmore : 23 + 2 + n.log2 - m.log2 = more
  rw [show ((k : Int) - 149 - ((j : Int) - 149) - more - 1) = (k : Int) - ((j + more + 1 : Nat) : Int) by omega]
  refine write_bd ?_ (by omega)
  rw [Nat.shiftLeft_eq]
  by_cases hm : m = 0
  · subst hm
    simp only [Nat.zero_mul, Nat.zero_div, Nat.zero_mod, Nat.mul_zero, Nat.zero_add]
    show 0 * 2 ^ k < _
    rw [Nat.zero_mul]
    exact Nat.two_pow_pos _
  have hb : ∀ b : Bool, b.toNat ≤ 1 := fun b => by cases b <;> simp
  have hb' := hb (m * 2 ^ more % n != 0)
  have hl := log_le hm hmn
  refine Nat.lt_of_mul_lt_mul_left (a := n) ?_
  have hq : n * (m * 2 ^ more / n) ≤ m * 2 ^ more := Nat.mul_div_le _ _
  have h3 : n * ((2 * (m * 2 ^ more / n) + (m * 2 ^ more % n != 0).toNat) * 2 ^ k) ≤ (2 * (m * 2 ^ more) + n) * 2 ^ k := by
    rw [← Nat.mul_assoc]
    refine Nat.mul_le_mul_right _ ?_
    rw [Nat.mul_add]
    have h5 : n * (m * 2 ^ more % n != 0).toNat ≤ n * 1 := Nat.mul_le_mul_left _ hb'
    have h6 : n * (2 * (m * 2 ^ more / n)) = 2 * (n * (m * 2 ^ more / n)) := Nat.mul_left_comm ..
    omega
  refine Nat.lt_of_le_of_lt h3 ?_
  rw [Nat.add_mul]
  have a3 : 2 * (m * 2 ^ more) * 2 ^ k = (m * 2 ^ k) * 2 ^ (more + 1) := by rw [Nat.pow_succ]; simp only [Nat.mul_assoc, Nat.mul_left_comm, Nat.mul_comm]
  have a4 : (m * 2 ^ k) * 2 ^ (more + 1) ≤ n * 2 ^ j * 2 ^ (more + 1) := Nat.mul_le_mul_right _ hmn
  have a5 : n * 2 ^ j * 2 ^ (more + 1) = n * 2 ^ (j + more + 1) := by rw [Nat.mul_assoc, ← Nat.pow_add]; rfl
  have b1 : k ≤ j + more + 1 := by omega
  have b2 : n * 2 ^ k ≤ n * 2 ^ (j + more + 1) := Nat.mul_le_mul_left _ (Nat.pow_le_pow_right (by omega) b1)
  have c1 : n * 2 ^ (2 + (j + more + 1)) = 4 * (n * 2 ^ (j + more + 1)) := by
    rw [Nat.pow_add, Nat.mul_left_comm]
  have c2 : 0 < n * 2 ^ (j + more + 1) := Nat.mul_pos (by omega) (Nat.two_pow_pos _)
  omega

theorem pos_of_lt {K J x y : Nat} (hx : Bd K x) (hy : Bd J y) (hK : K ≤ 127) (hJ : J ≤ 127) (h0 : ord x 0 ≠ some .lt) (h : ord x y = some .lt) : ord 0 y = some .lt := by
  obtain ⟨s, m, k, e1, _⟩ := read_bd hx hK
  obtain ⟨t, n, j, e2, _⟩ := read_bd hy hJ
  rw [ord_val e1 read_zero, signed_zero] at h0
  rw [ord_val read_zero e2, signed_zero]
  rw [ord_val e1 e2] at h
  have q0 : ¬ signed s m k < 0 := fun h => h0 (by rw [Int.compare_eq_lt.2 h])
  have q1 : signed s m k < signed t n j := Int.compare_eq_lt.1 (by simpa using h)
  rw [Int.compare_eq_lt.2 (by omega)]

theorem near_false (m : Nat) (p : Int) : single.nearest false m p < 2147483648 := by
  have hw : ∀ r, r < 2147483648 → single.word false r < 2147483648 := fun r h => by
    have := word_rung (neg := false) h
    unfold Format.word at *
    simp at *
    omega
  unfold Format.nearest
  split
  · exact hw 0 (by omega)
  · refine hw _ ?_
    simp only [single_inf]
    omega
theorem nonneg_word {K r : Nat} (h : r < 2147483648) (hb : Bd K r) (hK : K ≤ 127) : ord r 0 ≠ some .lt := by
  obtain ⟨s, m, k, e, _⟩ := read_bd hb hK
  have hs : s = false := by
    have h1 : (single.read r).neg = (r / single.signWeight % 2 == 1) := by
      unfold Format.read
      simp only []
      (repeat' split) <;> rfl
    rw [e, single_sign] at h1
    have h2 : r / 2147483648 = 0 := Nat.div_eq_of_lt h
    rw [h2] at h1
    simpa [Datum.neg] using h1
  subst hs
  rw [ord_val e read_zero, signed_zero]
  intro hc
  have := Int.compare_eq_lt.1 (by simpa using hc : compare (signed false m k) 0 = .lt)
  have := signed_false m k
  omega
theorem sub_nonneg {x y r : Nat} (hx : Bd 20 x) (hy : Bd 20 y) (h : ord x y = some .lt) (hr : single.sub y x = some r) (hb : Bd 22 r) : ord r 0 ≠ some .lt := by
  obtain ⟨s, m, k, e1, _⟩ := read_bd hx (by omega)
  obtain ⟨t, n, j, e2, _⟩ := read_bd hy (by omega)
  rw [ord_val e1 e2] at h
  have q1 : signed s m k < signed t n j := Int.compare_eq_lt.1 (by simpa using h)
  refine nonneg_word ?_ hb (by omega)
  unfold Format.sub at hr
  rw [e1, e2] at hr
  simp only [Datum.opposite, Datum.sum, Option.map_some, Option.some.injEq] at hr
  have e : min ((j : Int) - 149) ((k : Int) - 149) = ((min k j : Nat) : Int) - (149 : Nat) := by omega
  rw [e, show ((k : Int) - 149 - (((min k j : Nat) : Int) - (149 : Nat))).toNat = k - min k j by omega, show ((j : Int) - 149 - (((min k j : Nat) : Int) - (149 : Nat))).toNat = j - min k j by omega] at hr
  have h1 : signed s m k = signed s m (k - min k j) * ((2 ^ min k j : Nat) : Int) := by rw [← signed_scale, Nat.sub_add_cancel (Nat.min_le_left k j)]
  have h2 : signed t n j = signed t n (j - min k j) * ((2 ^ min k j : Nat) : Int) := by rw [← signed_scale, Nat.sub_add_cancel (Nat.min_le_right k j)]
  have hc : 0 < ((2 ^ min k j : Nat) : Int) := by have := Nat.two_pow_pos (min k j); omega
  rw [h1, h2] at q1
  have q2 : signed s m (k - min k j) < signed t n (j - min k j) := Int.lt_of_mul_lt_mul_right q1 (by omega)
  have h3 : signed (!s) m (k - min k j) = - signed s m (k - min k j) := by unfold signed; cases s <;> simp
  rw [h3, if_neg (by omega), decide_eq_false (by omega)] at hr
  rw [← hr]
  exact near_false _ _
end Go.Proofs.Ytpgdinpckolfpaa
