/- Bounds of single precision: what is at least one stays at least one, and a bounded number divided by one of at least one is bounded. -/
import Derived.Test.YtpgdinpckolfpaaFloat
namespace Go.Proofs.Ytpgdinpckolfpaa
open Ieee

/-- a finite word of at least 1, whatever its sign -/
def Ge1 (b : Nat) : Prop := 127 * 8388608 ≤ b % 2147483648 ∧ b % 2147483648 < 2139095040

theorem read_ge {b : Nat} (h : Ge1 b) : ∃ (s : Bool) (m k : Nat), single.read b = .number s m ((k : Int) - 149) ∧ 2 ^ 149 ≤ m * 2 ^ k ∧ m ≠ 0 := by
  obtain ⟨h, hi⟩ := h
  unfold Format.read
  simp only [single_sign, single_binade, single_inf, single_least]
  rw [if_neg (by omega), if_pos hi]
  generalize b % 2147483648 = r at *
  refine ⟨_, 8388608 + r % 8388608, r / 8388608 - 1, by rw [Int.add_comm (-149)]; rfl, ?_, by omega⟩
  have e : (2 : Nat) ^ (23 + (r / 8388608 - 1)) = 8388608 * 2 ^ (r / 8388608 - 1) := Nat.pow_add 2 23 _
  have h1 : (2 : Nat) ^ 149 ≤ 2 ^ (23 + (r / 8388608 - 1)) := Nat.pow_le_pow_right (by omega) (by omega)
  have h2 : 8388608 * 2 ^ (r / 8388608 - 1) ≤ (8388608 + r % 8388608) * 2 ^ (r / 8388608 - 1) := Nat.mul_le_mul_right _ (by omega)
  omega

theorem cut_ge {neg : Bool} {n drop c : Nat} (hn : n ≠ 0) (h : c + drop ≤ n.log2) : 2 ^ c ≤ Toward.even.cut neg n drop := by
  unfold Toward.cut
  simp only [Nat.shiftLeft_eq, Nat.one_mul]
  have hl : 2 ^ n.log2 ≤ n := Nat.log2_self_le hn
  have hlow : 2 ^ c ≤ n / 2 ^ min drop (n.log2 + 2) := by
    rw [Nat.le_div_iff_mul_le (Nat.two_pow_pos _), ← Nat.pow_add]
    exact Nat.le_trans (Nat.pow_le_pow_right (by omega) (by omega)) hl
  omega

theorem log_ge {m k c : Nat} (h : 2 ^ c ≤ m * 2 ^ k) : c ≤ m.log2 + k := by
  have h1 : m < 2 ^ (m.log2 + 1) := Nat.lt_log2_self
  have h2 : (2 : Nat) ^ c < 2 ^ (m.log2 + 1 + k) := by
    rw [Nat.pow_add _ _ k]
    exact Nat.lt_of_le_of_lt h ((Nat.mul_lt_mul_right (Nat.two_pow_pos k)).2 h1)
  have := (Nat.pow_lt_pow_iff_right (by omega)).1 h2
  omega

theorem write_ge {K : Nat} {neg : Bool} {m k N : Nat} (h0 : 2 ^ N ≤ m * 2 ^ k) (h : m * 2 ^ k < 2 ^ (K + N)) (hK : K ≤ 127) : Ge1 (single.nearest neg m ((k : Int) - N)) := by
  have hb : (single.nearest neg m ((k : Int) - N)) % 2147483648 ≤ (K + 127) * 8388608 := write_bd h hK
  have hm : m ≠ 0 := by
    rintro rfl
    have := Nat.two_pow_pos N
    omega
  have hl := log_lt hm h
  have hg := log_ge h0
  refine ⟨?_, by omega⟩
  clear hb
  unfold Format.nearest
  rw [if_neg hm]
  simp only [single_binade, single_inf, single_least, single_frac]
  have hc : ∀ last : Int, last = max ((k : Int) - N + m.log2 - 23) (-149) → 2 ^ 23 ≤ Toward.even.cut neg (m <<< ((k : Int) - N - last).toNat) (last - ((k : Int) - N)).toNat := by
    intro last hlast
    refine cut_ge (shift_ne hm) ?_
    rw [log_shift hm]
    omega
  have := hc _ rfl
  rw [word_rung (by omega)]
  have e : 126 ≤ ((max ((k : Int) - N + m.log2 - (23 : Nat)) (-149) - -149).toNat) := by omega
  have := Nat.mul_le_mul_right 8388608 e
  simp only [show ((23 : Nat) : Int) = 23 from rfl] at *
  omega

theorem int_ge {n : Int} (h : 0 < n.natAbs) (hn : n.natAbs < 2 ^ 127) : Ge1 (floatOfInt .f32 n) := by
  have := write_ge (K := 127) (neg := decide (n < 0)) (m := n.natAbs) (k := 0) (N := 0) (by rw [Nat.pow_zero, Nat.mul_one]; exact h) (by simpa using hn) (by omega)
  show Ge1 (single.nearest (decide (n < 0)) n.natAbs 0)
  simpa using this

theorem ge_bd {b : Nat} (h : Ge1 b) : Bd 127 b ∨ Bd 128 b := by
  right
  unfold Bd
  have := h.2
  omega

theorem fmul_ge {K J x y : Nat} (hx : Bd K x) (hy : Bd J y) (gx : Ge1 x) (gy : Ge1 y) (hK : K + J ≤ 126) : ∃ r, single.mul x y = some r ∧ Bd (K + J + 1) r ∧ Ge1 r := by
  obtain ⟨s, m, k, e1, h1⟩ := read_bd hx (by omega)
  obtain ⟨t, n, j, e2, h2⟩ := read_bd hy (by omega)
  obtain ⟨s', m', k', e3, g1, _⟩ := read_ge gx
  obtain ⟨t', n', j', e4, g2, _⟩ := read_ge gy
  obtain ⟨rfl, rfl, hk⟩ : s' = s ∧ m' = m ∧ (k' : Int) - 149 = (k : Int) - 149 := by
    have := e3.symm.trans e1; injection this with a b c; exact ⟨a, b, c⟩
  obtain ⟨rfl, rfl, hj⟩ : t' = t ∧ n' = n ∧ (j' : Int) - 149 = (j : Int) - 149 := by
    have := e4.symm.trans e2; injection this with a b c; exact ⟨a, b, c⟩
  obtain rfl : k' = k := by omega
  obtain rfl : j' = j := by omega
  unfold Format.mul
  rw [e1, e2]
  refine ⟨_, rfl, ?_⟩
  simp only [Format.write]
  rw [show ((k' : Int) - 149 + ((j' : Int) - 149)) = ((k' + j' : Nat) : Int) - ((149 + 149 : Nat) : Int) by omega]
  have e5 : m' * 2 ^ k' * (n' * 2 ^ j') = m' * n' * 2 ^ (k' + j') := by rw [Nat.pow_add]; simp only [Nat.mul_assoc, Nat.mul_left_comm]
  have h3 := Nat.mul_le_mul h1 h2
  rw [e5, ← Nat.pow_add] at h3
  have h4 : m' * n' * 2 ^ (k' + j') < 2 ^ (K + J + 1 + (149 + 149)) := Nat.lt_of_le_of_lt h3 (Nat.pow_lt_pow_right (by omega) (by omega))
  have g3 := Nat.mul_le_mul g1 g2
  rw [e5, ← Nat.pow_add] at g3
  exact ⟨write_bd h4 (by omega), write_ge g3 h4 (by omega)⟩

theorem fdiv_bd {K x y : Nat} (hx : Bd K x) (hy : Ge1 y) (hK : K ≤ 120) : ∃ r, single.div x y = some r ∧ Bd (K + 2) r := by
  obtain ⟨s, m, k, e1, h1⟩ := read_bd hx (by omega)
  obtain ⟨t, n, j, e2, h2, hn⟩ := read_ge hy
  unfold Format.div
  rw [e1, e2]
  simp only [Datum.quotient, if_neg hn]
  refine ⟨_, rfl, ?_⟩
  simp only [Format.write, single_frac]
  generalize hmore : 23 + 2 + n.log2 - m.log2 = more
  rw [show ((k : Int) - 149 - ((j : Int) - 149) - more - 1) = (k : Int) - ((j + more + 1 : Nat) : Int) by omega]
  refine write_bd ?_ (by omega)
  rw [Nat.shiftLeft_eq]
  by_cases hm : m = 0
  · subst hm
    simp only [Nat.zero_mul, Nat.zero_div, Nat.zero_mod, Nat.mul_zero, Nat.zero_add]
    show 0 * 2 ^ k < _
    rw [Nat.zero_mul]
    exact Nat.two_pow_pos _
  have hb : ∀ b : Bool, b.toNat ≤ 1 := fun b => by cases b <;> simp
  have hb' := hb (m * 2 ^ more % n != 0)
  refine Nat.lt_of_mul_lt_mul_left (a := n) ?_
  have hq : n * (m * 2 ^ more / n) ≤ m * 2 ^ more := Nat.mul_div_le _ _
  have h3 : n * ((2 * (m * 2 ^ more / n) + (m * 2 ^ more % n != 0).toNat) * 2 ^ k) ≤ (2 * (m * 2 ^ more) + n) * 2 ^ k := by
    rw [← Nat.mul_assoc]
    refine Nat.mul_le_mul_right _ ?_
    rw [Nat.mul_add]
    have h5 : n * (m * 2 ^ more % n != 0).toNat ≤ n * 1 := Nat.mul_le_mul_left _ hb'
    have h6 : n * (2 * (m * 2 ^ more / n)) = 2 * (n * (m * 2 ^ more / n)) := Nat.mul_left_comm ..
    omega
  refine Nat.lt_of_le_of_lt h3 ?_
  rw [Nat.add_mul]
  -- the first part
  have a1 : 2 * (m * 2 ^ more) * 2 ^ k = (m * 2 ^ k) * 2 ^ (more + 1) := by rw [Nat.pow_succ]; simp only [Nat.mul_assoc, Nat.mul_left_comm, Nat.mul_comm]
  have a2 : (m * 2 ^ k) * 2 ^ (more + 1) ≤ 2 ^ (K + 149) * 2 ^ (more + 1) := Nat.mul_le_mul_right _ h1
  have a3 : 2 ^ (K + 149) * 2 ^ (more + 1) = 2 ^ 149 * 2 ^ (K + more + 1) := by rw [← Nat.pow_add, ← Nat.pow_add]; congr 1; omega
  have a4 : 2 ^ 149 * 2 ^ (K + more + 1) ≤ n * 2 ^ j * 2 ^ (K + more + 1) := Nat.mul_le_mul_right _ h2
  have a5 : n * 2 ^ j * 2 ^ (K + more + 1) = n * 2 ^ (K + j + more + 1) := by rw [Nat.mul_assoc, ← Nat.pow_add]; congr 2; omega
  -- the second part
  have b1 : k ≤ K + j + more + 1 := by
    · have hl := log_lt hm (show m * 2 ^ k < 2 ^ (K + 150) from Nat.lt_of_le_of_lt h1 (Nat.pow_lt_pow_right (by omega) (by omega)))
      have hg := log_ge h2
      omega
  have b2 : n * 2 ^ k ≤ n * 2 ^ (K + j + more + 1) := Nat.mul_le_mul_left _ (Nat.pow_le_pow_right (by omega) b1)
  have c1 : n * 2 ^ (K + 2 + (j + more + 1)) = 4 * (n * 2 ^ (K + j + more + 1)) := by
    rw [show K + 2 + (j + more + 1) = 2 + (K + j + more + 1) by omega, Nat.pow_add, Nat.mul_left_comm]
  have c2 : 0 < n * 2 ^ (K + j + more + 1) := Nat.mul_pos (by omega) (Nat.two_pow_pos _)
  omega
end Go.Proofs.Ytpgdinpckolfpaa
