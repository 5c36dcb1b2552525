/- Rounding does not pass a number that a single can hold; sums and means of what lies between zero and a bound. No program in sight. -/
import Derived.Test.YtgaonoklbihkjaaDoorExactA
import Derived.Test.YtgaonoklbihkjaaDoorExtrQ
import Derived.Test.YtgaonoklbihkjaaDoorCrowdP
namespace Go.Proofs.YtgaonoklbihkjaaDoor
open Ieee Go.RowKit

theorem cut_le_mul {neg : Bool} {n d v : Nat} (h : n ≤ v * 2 ^ d) : Toward.even.cut neg n d ≤ v := by
  unfold Toward.cut
  simp only [Nat.shiftLeft_eq, Nat.one_mul]
  have hl : n < 2 ^ (n.log2 + 1) := Nat.lt_log2_self
  rcases Nat.le_total d (n.log2 + 2) with hd | hd
  · rw [Nat.min_eq_left hd]
    have hp := Nat.two_pow_pos d
    have hdiv := Nat.div_add_mod n (2 ^ d)
    have hmod := Nat.mod_lt n hp
    have hle : n / 2 ^ d ≤ v := (Nat.div_le_iff_le_mul_add_pred hp).2 (by rw [Nat.mul_comm]; omega)
    rcases Nat.lt_or_eq_of_le hle with h1 | h1
    · have hb : ∀ b : Bool, b.toNat ≤ 1 := fun b => by cases b <;> simp
      have := hb (decide (2 ^ d < 2 * (n % 2 ^ d)) || (2 ^ d == 2 * (n % 2 ^ d) && n / 2 ^ d % 2 == 1))
      omega
    · have hz : n % 2 ^ d = 0 := by
        rw [h1, Nat.mul_comm] at hdiv
        omega
      have e1 : decide (2 ^ d < 2 * (n % 2 ^ d)) = false := by rw [hz]; simp
      have e2 : (2 ^ d == 2 * (n % 2 ^ d)) = false := by rw [hz]; simp
      rw [e1, e2]
      simp
      omega
  · rw [Nat.min_eq_right hd]
    have hp : (2 : Nat) ^ (n.log2 + 2) = 2 * 2 ^ (n.log2 + 1) := by rw [Nat.pow_succ 2 (n.log2 + 1)]; omega
    have h0 : n / 2 ^ (n.log2 + 2) = 0 := Nat.div_eq_of_lt (by omega)
    have h1 : n % 2 ^ (n.log2 + 2) = n := Nat.mod_eq_of_lt (by omega)
    rw [h0, h1]
    have e1 : decide (2 ^ (n.log2 + 2) < 2 * n) = false := by simp; omega
    have e2 : (2 ^ (n.log2 + 2) == 2 * n) = false := by simp; omega
    rw [e1, e2]
    simp

theorem near_le (s : Bool) {m k N m0 e : Nat} (hm0 : m0 < 16777216) (he : m0 * 2 ^ e < 2 ^ 200) (hv : m * 2 ^ k * 2 ^ 149 ≤ m0 * 2 ^ e * 2 ^ N) : ∃ M j : Nat, single.read (single.nearest s m ((k : Int) - N)) = .number s M ((j : Int) - 149) ∧ M * 2 ^ j ≤ m0 * 2 ^ e := by
  by_cases hm : m = 0
  · subst hm
    exact ⟨0, 0, single_zero _ _, by simp⟩
  obtain ⟨last, hlast⟩ : ∃ last : Int, max ((k : Int) - N + m.log2 - (23 : Nat)) (-149) = last := ⟨_, rfl⟩
  obtain ⟨q, hq⟩ : ∃ q : Nat, last = (q : Int) - 149 := ⟨(last + 149).toNat, by omega⟩
  obtain ⟨up, hup⟩ : ∃ up : Nat, ((k : Int) - N - last).toNat = up := ⟨_, rfl⟩
  obtain ⟨d, hd⟩ : ∃ d : Nat, (last - ((k : Int) - N)).toNat = d := ⟨_, rfl⟩
  obtain ⟨c0, hc0⟩ : ∃ c0 : Nat, Toward.even.cut s (m <<< up) d = c0 := ⟨_, rfl⟩
  have hlog : (m <<< up).log2 = m.log2 + up := log_shift hm
  have hB : c0 ≤ 2 ^ 24 := by rw [← hc0]; exact cut_le (by rw [hlog]; omega)
  have hC : q = 0 ∨ 8388608 ≤ c0 := by
    rcases Nat.eq_zero_or_pos q with h | h
    · exact .inl h
    · right
      have : 2 ^ 23 ≤ c0 := by rw [← hc0]; exact cut_ge (shift_ne hm) (by rw [hlog]; omega)
      exact this
  have hm1 : 2 ^ m.log2 ≤ m := Nat.log2_self_le hm
  have hA : c0 * 2 ^ q ≤ m0 * 2 ^ e := by
    rcases Nat.lt_or_ge e q with hqe | hqe
    · exfalso
      have h1 : 2 ^ (23 + q + N) ≤ m * 2 ^ k * 2 ^ 149 := by
        rw [Nat.mul_assoc, ← Nat.pow_add, show 23 + q + N = m.log2 + (k + 149) by omega, Nat.pow_add]
        exact Nat.mul_le_mul_right _ hm1
      have h2 : m0 * 2 ^ e * 2 ^ N < 2 ^ (24 + e + N) := by
        rw [Nat.mul_assoc, ← Nat.pow_add, Nat.add_assoc 24, Nat.pow_add 2 24]
        exact (Nat.mul_lt_mul_right (Nat.two_pow_pos _)).2 hm0
      have h3 : 2 ^ (24 + e + N) ≤ 2 ^ (23 + q + N) := Nat.pow_le_pow_right (by omega) (by omega)
      exact absurd (Nat.lt_of_le_of_lt hv h2) (by have := Nat.le_trans h3 h1; exact Nat.not_lt.2 this)
    · have hs : m <<< up ≤ m0 * 2 ^ (e - q) * 2 ^ d := by
        rw [Nat.shiftLeft_eq]
        refine Nat.le_of_mul_le_mul_right (c := 2 ^ (q + N)) ?_ (Nat.two_pow_pos _)
        have r1 : m * 2 ^ up * 2 ^ (q + N) = m * 2 ^ k * 2 ^ 149 * 2 ^ d := by
          rw [Nat.mul_assoc, ← Nat.pow_add, Nat.mul_assoc, Nat.mul_assoc, ← Nat.pow_add, ← Nat.pow_add]
          congr 2
          omega
        have r2 : m0 * 2 ^ (e - q) * 2 ^ d * 2 ^ (q + N) = m0 * 2 ^ e * 2 ^ N * 2 ^ d := by
          rw [Nat.mul_assoc, Nat.mul_assoc, ← Nat.pow_add, ← Nat.pow_add, Nat.mul_assoc, Nat.mul_assoc, ← Nat.pow_add, ← Nat.pow_add]
          congr 2
          omega
        rw [r1, r2]
        exact Nat.mul_le_mul_right _ hv
      have h1 : c0 ≤ m0 * 2 ^ (e - q) := by rw [← hc0]; exact cut_le_mul hs
      have h2 := Nat.mul_le_mul_right (2 ^ q) h1
      rw [Nat.mul_assoc, ← Nat.pow_add, Nat.sub_add_cancel hqe] at h2
      exact h2
  have hq2 : q * 8388608 + c0 < 2139095040 := by
    rcases hC with rfl | h
    · have : (2 : Nat) ^ 24 = 16777216 := by decide
      omega
    · have h1 : 2 ^ (23 + q) < 2 ^ 200 := by
        rw [Nat.pow_add]
        exact Nat.lt_of_le_of_lt (Nat.mul_le_mul_right _ h) (Nat.lt_of_le_of_lt hA he)
      have h2 := (Nat.pow_lt_pow_iff_right (by omega : 1 < 2)).1 h1
      have h3 : (2 : Nat) ^ 24 = 16777216 := by decide
      omega
  have hw : single.nearest s m ((k : Int) - N) = single.word s (q * 8388608 + c0) := by
    unfold Format.nearest
    rw [if_neg hm]
    simp only [single_binade, single_inf, single_least, single_frac]
    rw [hlast, hup, hd, hc0, show (last - -149).toNat = q by omega, Nat.min_eq_left (Nat.le_of_lt hq2)]
  rw [hw]
  rcases Nat.lt_or_ge c0 16777216 with h | h
  · exact ⟨c0, q, read_word_single (by omega) hC hq2, hA⟩
  · have h3 : (2 : Nat) ^ 24 = 16777216 := by decide
    obtain rfl : c0 = 16777216 := by omega
    refine ⟨8388608, q + 1, ?_, ?_⟩
    · rw [show q * 8388608 + 16777216 = (q + 1) * 8388608 + 8388608 by omega]
      exact read_word_single (by omega) (.inr (by omega)) (by omega)
    · have e5 : 8388608 * 2 ^ (q + 1) = 16777216 * 2 ^ q := by
        rw [Nat.pow_succ]
        generalize 2 ^ q = z
        omega
      rw [e5]
      exact hA

/-- between zero and c times 2 ^ 20 -/
def UpTo (c x : Nat) : Prop := ∃ (s : Bool) (m k : Nat), single.read x = .number s m ((k : Int) - 149) ∧ (s = false ∨ m = 0) ∧ m * 2 ^ k ≤ c * 2 ^ 169
theorem UpTo.num {c x : Nat} (h : UpTo c x) : Num x := by
  obtain ⟨s, m, k, e, _⟩ := h
  exact ⟨s, m, k, e⟩
theorem UpTo.nan {c x : Nat} (h : UpTo c x) : nanB x = false := by
  obtain ⟨s, m, k, e, _⟩ := h
  show (single.read x).isNaN = false
  rw [e]
  rfl
theorem upto_zero (c : Nat) : UpTo c 0 := ⟨false, 0, 0, read_zero, .inl rfl, by simp⟩
theorem signed_up {s : Bool} {m : Nat} (h : s = false ∨ m = 0) (k : Nat) : signed s m k = ((m * 2 ^ k : Nat) : Int) := by
  rcases h with rfl | rfl
  · exact signed_nat m k
  · cases s
    · exact signed_nat 0 k
    · rw [signed_neg]; simp
theorem upto_size {x : Nat} (h : numE [x] = 0) (h0 : lt x 0 = false) : UpTo 1 x := by
  obtain ⟨s, m, k, e, hb⟩ := read_bd (num_bd' h x (by simp)) (by omega)
  refine ⟨s, m, k, e, ?_, by rw [Nat.one_mul]; exact hb⟩
  rw [lt_def (ord_val e read_zero), signed_zero] at h0
  cases s with
  | false => exact .inl rfl
  | true =>
    right
    rw [signed_neg] at h0
    rcases Nat.eq_zero_or_pos m with hm | hm
    · exact hm
    · have : 0 < m * 2 ^ k := Nat.mul_pos hm (Nat.two_pow_pos _)
      rw [Int.compare_eq_lt.2 (by omega)] at h0
      cases h0
theorem upto_add {c x y : Nat} (hx : UpTo c x) (hy : UpTo 1 y) (hc : c ≤ 4000) : floatBits .add .f32 x y = some (fadd x y) ∧ UpTo (c + 1) (fadd x y) := by
  obtain ⟨s, m, k, e1, s1, b1⟩ := hx
  obtain ⟨t, n, j, e2, s2, b2⟩ := hy
  refine ⟨(add_any (by show (single.read x).isNaN = false; rw [e1]; rfl) e2).1, ?_⟩
  obtain ⟨g, f1, f2⟩ := add_val e1 e2
  rw [signed_up s1, signed_up s2] at f1 f2
  obtain ⟨M, i, g1, g2⟩ := near_le g (m := m * 2 ^ (k - min k j) + n * 2 ^ (j - min k j)) (k := min k j) (N := 149) (m0 := c + 1) (e := 169) (by omega) (by
    have : (c + 1) * 2 ^ 169 ≤ 4001 * 2 ^ 169 := Nat.mul_le_mul_right _ (by omega)
    exact Nat.lt_of_le_of_lt this (by decide)) (by
    refine Nat.mul_le_mul_right _ ?_
    rw [Nat.add_mul, Nat.mul_assoc, Nat.mul_assoc, ← Nat.pow_add, ← Nat.pow_add, Nat.sub_add_cancel (Nat.min_le_left k j), Nat.sub_add_cancel (Nat.min_le_right k j), Nat.add_mul]
    exact Nat.add_le_add b1 b2)
  have e3 : (((m * 2 ^ (k - min k j) : Nat) : Int) + ((n * 2 ^ (j - min k j) : Nat) : Int)).natAbs = m * 2 ^ (k - min k j) + n * 2 ^ (j - min k j) := by omega
  rw [e3] at f1
  have f1 : fadd x y = single.nearest g (m * 2 ^ (k - min k j) + n * 2 ^ (j - min k j)) (((min k j : Nat) : Int) - (149 : Nat)) := f1
  rw [← f1] at g1
  refine ⟨g, M, i, g1, ?_, g2⟩
  by_cases hz : m * 2 ^ (k - min k j) + n * 2 ^ (j - min k j) = 0
  · right
    rw [f1, hz, single_zero] at g1
    injection g1 with _ h2 _
    exact h2.symm
  · left
    have := f2 (by omega)
    rw [this, decide_eq_false (by omega)]
theorem upto_mean {c x : Nat} (hx : UpTo c x) (h1 : 1 ≤ c) (hc : c ≤ 4001) : floatBits .quo .f32 x (floatOfInt .f32 (c : Int)) = some (fdiv x (floatOfInt .f32 (c : Int))) ∧ UpTo 1 (fdiv x (floatOfInt .f32 (c : Int))) := by
  obtain ⟨s, m, k, e1, s1, b1⟩ := hx
  obtain ⟨n, j, e2, b2⟩ := int_single (n := c) (by omega) (by omega)
  have hn : n ≠ 0 := by
    rintro rfl
    rw [Nat.zero_mul] at b2
    exact absurd b2.symm (Nat.mul_ne_zero (by omega) (Nat.pos_iff_ne_zero.1 (Nat.two_pow_pos _)))
  obtain ⟨d1, _⟩ := div_any e1 e2 hn
  refine ⟨d1, ?_⟩
  have hd : single.div x (floatOfInt .f32 (c : Int)) = some (fdiv x (floatOfInt .f32 (c : Int))) := d1
  unfold Format.div at hd
  rw [e1, e2] at hd
  simp only [Datum.quotient, if_neg hn, Option.map_some, Format.write, single_frac] at hd
  injection hd with hd
  rw [← hd]
  generalize hmore : 23 + 2 + n.log2 - m.log2 = more
  rw [show ((k : Int) - 149 - ((j : Int) - 149) - more - 1) = (k : Int) - ((j + more + 1 : Nat) : Int) by omega]
  have hxs : ∀ b : Bool, (s != false) = s := fun _ => by cases s <;> rfl
  by_cases hm : m = 0
  · subst hm
    simp only [Nat.shiftLeft_eq, Nat.zero_mul, Nat.zero_div, Nat.zero_mod, Nat.mul_zero, Nat.zero_add]
    refine ⟨_, 0, 0, single_zero _ _, .inr rfl, by simp⟩
  have hs : s = false := s1.resolve_right hm
  subst hs
  have hle : m * 2 ^ k ≤ n * 2 ^ (j + 20) := by
    rw [Nat.pow_add, ← Nat.mul_assoc, b2, Nat.mul_assoc, ← Nat.pow_add]
    exact b1
  have hl := log_le hm hle
  have hT : k ≤ more + j + 20 := by omega
  have hD : m * 2 ^ more ≤ n * 2 ^ (more + j + 20 - k) := by
    refine Nat.le_of_mul_le_mul_right (c := 2 ^ k) ?_ (Nat.two_pow_pos _)
    rw [Nat.mul_assoc n, ← Nat.pow_add, Nat.sub_add_cancel hT, Nat.mul_right_comm, show more + j + 20 = (j + 20) + more by omega, Nat.pow_add 2 (j + 20), ← Nat.mul_assoc]
    exact Nat.mul_le_mul_right _ hle
  rw [Nat.shiftLeft_eq]
  generalize hT' : more + j + 20 - k = T at *
  have hQ : 2 * (m * 2 ^ more / n) + (m * 2 ^ more % n != 0).toNat ≤ 2 ^ (T + 1) := by
    have hdiv := Nat.div_add_mod (m * 2 ^ more) n
    have hp : (2 : Nat) ^ (T + 1) = 2 * 2 ^ T := by rw [Nat.pow_succ]; omega
    rw [hp]
    clear hd d1 hle hl b1 hmore hT'
    generalize m * 2 ^ more = A at *
    obtain ⟨D, hDD⟩ : ∃ D, A / n = D := ⟨_, rfl⟩
    obtain ⟨R, hRR⟩ : ∃ R, A % n = R := ⟨_, rfl⟩
    rw [hDD, hRR] at hdiv ⊢
    clear hDD hRR
    generalize 2 ^ T = Z at *
    by_cases hr : R = 0
    · have : D ≤ Z := by
        refine Nat.le_of_mul_le_mul_left (c := n) ?_ (by omega)
        omega
      rw [hr]
      simp
      omega
    · have : D < Z := by
        refine Nat.lt_of_mul_lt_mul_left (a := n) ?_
        omega
      have e : (R != 0).toNat = 1 := by simp [hr]
      rw [e]
      omega
  obtain ⟨M, i, g1, g2⟩ := near_le false (m := 2 * (m * 2 ^ more / n) + (m * 2 ^ more % n != 0).toNat) (k := k) (N := j + more + 1) (m0 := 1) (e := 169) (by omega) (by decide) (by
    rw [Nat.one_mul]
    have h2 := Nat.mul_le_mul_right (2 ^ 149) (Nat.mul_le_mul_right (2 ^ k) hQ)
    refine Nat.le_trans h2 (Nat.le_of_eq ?_)
    rw [← Nat.pow_add, ← Nat.pow_add, ← Nat.pow_add]
    congr 1
    omega)
  exact ⟨_, M, i, g1, .inl rfl, g2⟩
theorem upto_hgt {x : Nat} (h : UpTo 1 x) : numE [x] = 0 := by
  obtain ⟨s, m, k, e, s1, b⟩ := h
  have r1 : single.read 1233125376 = .number false 8388608 (((146 : Nat) : Int) - 149) := by decide +kernel
  have r2 : single.read 3380609024 = .number true 8388608 (((146 : Nat) : Int) - 149) := by decide +kernel
  have o1 := ord_val e r1
  have o2 := ord_val e r2
  rw [signed_up s1] at o1 o2
  rw [signed_nat] at o1
  rw [signed_neg] at o2
  have hp : (8388608 : Nat) * 2 ^ 146 = 1 * 2 ^ 169 := by decide
  have o3 : (ord x 3380609024 == some .gt) = true := by
    rw [o2, Int.compare_eq_gt.2]
    · rfl
    · have : (0 : Nat) < 8388608 * 2 ^ 146 := by decide
      omega
  have o4 : (ord x 1233125376 == some .lt || ord x 1233125376 == some .eq) = true := by
    rw [o1]
    rcases Nat.lt_or_eq_of_le b with hb | hb
    · rw [Int.compare_eq_lt.2 (by rw [hp]; omega)]; rfl
    · rw [Int.compare_eq_eq.2 (by rw [hp]; omega)]; rfl
  have hh : hgtB x = true := by
    unfold hgtB
    rw [o3, o4]
    rfl
  have r3 : single.read 2139095039 = .number false 16777215 (((253 : Nat) : Int) - 149) := by decide +kernel
  have r4 : single.read 4286578687 = .number true 16777215 (((253 : Nat) : Int) - 149) := by decide +kernel
  have u1 := ord_val e r3
  have u2 := ord_val e r4
  rw [signed_up s1] at u1 u2
  rw [signed_nat] at u1
  rw [signed_neg] at u2
  have hq : (1 : Nat) * 2 ^ 169 < 16777215 * 2 ^ 253 := by decide +kernel
  generalize (1 : Nat) * 2 ^ 169 = V1 at *
  generalize (16777215 : Nat) * 2 ^ 253 = V2 at *
  have u3 : (ord x 4286578687 == some .gt) = true := by
    rw [u2, Int.compare_eq_gt.2 (by omega)]
    rfl
  have u4 : (ord x 2139095039 == some .lt) = true := by
    rw [u1, Int.compare_eq_lt.2 (by omega)]
    rfl
  have hf : finB x = true := by
    unfold finB
    rw [u3, u4]
    rfl
  exact numE_ok (by simpa using hf) (by simpa using hh)
end Go.Proofs.YtgaonoklbihkjaaDoor
