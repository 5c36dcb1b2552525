/- The least spills, plainly: what they are, that they are one, and how a heap finds them. No program in sight. -/
import Derived.Test.YtinohfgokpbcdaaDsAB
namespace Go.Proofs.Ytinohfgokpbcdaa
open Ieee

theorem signed_scale (s : Bool) (m a b : Nat) : signed s m (a + b) = signed s m a * ((2 ^ b : Nat) : Int) := by
  unfold signed
  simp only [Nat.shiftLeft_eq, Nat.pow_add]
  split
  · rw [Int.neg_mul, ← Int.natCast_mul, Nat.mul_assoc]
  · rw [← Int.natCast_mul, Nat.mul_assoc]
theorem cmp_scale {a b c : Int} (hc : 0 < c) : compare (a * c) (b * c) = compare a b := by
  rcases Int.lt_trichotomy a b with h | h | h
  · rw [Int.compare_eq_lt.2 h, Int.compare_eq_lt.2 (Int.mul_lt_mul_of_pos_right h hc)]
  · subst h
    simp
  · rw [Int.compare_eq_gt.2 h, Int.compare_eq_gt.2 (Int.mul_lt_mul_of_pos_right h hc)]
theorem ord_val {x y : Nat} {s t : Bool} {m n k j : Nat} (hx : single.read x = .number s m ((k : Int) - 149)) (hy : single.read y = .number t n ((j : Int) - 149)) : ord x y = some (compare (signed s m k) (signed t n j)) := by
  show single.order x y = _
  unfold Format.order
  rw [hx, hy]
  simp only [Datum.order]
  have e : min ((k : Int) - 149) ((j : Int) - 149) = ((min k j : Nat) : Int) - (149 : Nat) := by omega
  rw [e, show ((k : Int) - 149 - (((min k j : Nat) : Int) - (149 : Nat))).toNat = k - min k j by omega, show ((j : Int) - 149 - (((min k j : Nat) : Int) - (149 : Nat))).toNat = j - min k j by omega]
  have h1 : signed s m k = signed s m (k - min k j) * ((2 ^ min k j : Nat) : Int) := by rw [← signed_scale, Nat.sub_add_cancel (Nat.min_le_left k j)]
  have h2 : signed t n j = signed t n (j - min k j) * ((2 ^ min k j : Nat) : Int) := by rw [← signed_scale, Nat.sub_add_cancel (Nat.min_le_right k j)]
  have hc : 0 < ((2 ^ min k j : Nat) : Int) := by have := Nat.two_pow_pos (min k j); omega
  rw [h1, h2, cmp_scale hc]
theorem read_zero : single.read 0 = .number false 0 (((0 : Nat) : Int) - 149) := by decide +kernel
theorem signed_zero (k : Nat) : signed false 0 k = 0 := by simp [signed]
theorem signed_false (m k : Nat) : 0 ≤ signed false m k := by
  unfold signed
  rw [if_neg (by decide)]
  exact Int.natCast_nonneg _

theorem log_le {m n k j : Nat} (hm : m ≠ 0) (h : m * 2 ^ k ≤ n * 2 ^ j) : m.log2 + k ≤ n.log2 + j := by
  have h1 : 2 ^ m.log2 ≤ m := Nat.log2_self_le hm
  have h2 : n < 2 ^ (n.log2 + 1) := Nat.lt_log2_self
  have h3 : 2 ^ (m.log2 + k) < 2 ^ (n.log2 + 1 + j) := by
    rw [Nat.pow_add, Nat.pow_add 2 (n.log2 + 1) j]
    exact Nat.lt_of_le_of_lt (Nat.mul_le_mul_right _ h1) (Nat.lt_of_le_of_lt h ((Nat.mul_lt_mul_right (Nat.two_pow_pos j)).2 h2))
  have := (Nat.pow_lt_pow_iff_right (by omega)).1 h3
  omega

/-- what is not greater, divided by what is greater than zero, is at most about one -/
theorem quot_le {K J x y : Nat} (hx : Bd K x) (hy : Bd J y) (hK : K ≤ 127) (hJ : J ≤ 127) (h0 : ord x 0 ≠ some .lt) (hy0 : ord 0 y = some .lt) (hle : ord x y ≠ some .gt) : ∃ r, single.div x y = some r ∧ Bd 2 r := by
  obtain ⟨s, m, k, e1, _⟩ := read_bd hx hK
  obtain ⟨t, n, j, e2, _⟩ := read_bd hy hJ
  rw [ord_val e1 read_zero, signed_zero] at h0
  rw [ord_val read_zero e2, signed_zero] at hy0
  rw [ord_val e1 e2] at hle
  have q0 : ¬ signed s m k < 0 := fun h => h0 (by rw [Int.compare_eq_lt.2 h])
  have q1 : 0 < signed t n j := Int.compare_eq_lt.1 (by simpa using hy0)
  have q2 : ¬ signed t n j < signed s m k := fun h => hle (by rw [Int.compare_eq_gt.2 h])
  have a1 := signed_abs s m k
  have a2 := signed_abs t n j
  have hmn : m * 2 ^ k ≤ n * 2 ^ j := by omega
  have hn : n ≠ 0 := by
    rintro rfl
    simp at a2
    omega
  unfold Format.div
  rw [e1, e2]
  simp only [Datum.quotient, if_neg hn]
  refine ⟨_, rfl, ?_⟩
  simp only [Format.write, single_frac]
  generalize hmore : 23 + 2 + n.log2 - m.log2 = more
  rw [show ((k : Int) - 149 - ((j : Int) - 149) - more - 1) = (k : Int) - ((j + more + 1 : Nat) : Int) by omega]
  refine write_bd ?_ (by omega)
  rw [Nat.shiftLeft_eq]
  by_cases hm : m = 0
  · subst hm
    simp only [Nat.zero_mul, Nat.zero_div, Nat.zero_mod, Nat.mul_zero, Nat.zero_add]
    show 0 * 2 ^ k < _
    rw [Nat.zero_mul]
    exact Nat.two_pow_pos _
  have hb : ∀ b : Bool, b.toNat ≤ 1 := fun b => by cases b <;> simp
  have hb' := hb (m * 2 ^ more % n != 0)
  have hl := log_le hm hmn
  refine Nat.lt_of_mul_lt_mul_left (a := n) ?_
  have hq : n * (m * 2 ^ more / n) ≤ m * 2 ^ more := Nat.mul_div_le _ _
  have h3 : n * ((2 * (m * 2 ^ more / n) + (m * 2 ^ more % n != 0).toNat) * 2 ^ k) ≤ (2 * (m * 2 ^ more) + n) * 2 ^ k := by
    rw [← Nat.mul_assoc]
    refine Nat.mul_le_mul_right _ ?_
    rw [Nat.mul_add]
    have h5 : n * (m * 2 ^ more % n != 0).toNat ≤ n * 1 := Nat.mul_le_mul_left _ hb'
    have h6 : n * (2 * (m * 2 ^ more / n)) = 2 * (n * (m * 2 ^ more / n)) := Nat.mul_left_comm ..
    omega
  refine Nat.lt_of_le_of_lt h3 ?_
  rw [Nat.add_mul]
  have a3 : 2 * (m * 2 ^ more) * 2 ^ k = (m * 2 ^ k) * 2 ^ (more + 1) := by rw [Nat.pow_succ]; simp only [Nat.mul_assoc, Nat.mul_left_comm, Nat.mul_comm]
  have a4 : (m * 2 ^ k) * 2 ^ (more + 1) ≤ n * 2 ^ j * 2 ^ (more + 1) := Nat.mul_le_mul_right _ hmn
  have a5 : n * 2 ^ j * 2 ^ (more + 1) = n * 2 ^ (j + more + 1) := by rw [Nat.mul_assoc, ← Nat.pow_add]; rfl
  have b1 : k ≤ j + more + 1 := by omega
  have b2 : n * 2 ^ k ≤ n * 2 ^ (j + more + 1) := Nat.mul_le_mul_left _ (Nat.pow_le_pow_right (by omega) b1)
  have c1 : n * 2 ^ (2 + (j + more + 1)) = 4 * (n * 2 ^ (j + more + 1)) := by
    rw [Nat.pow_add, Nat.mul_left_comm]
  have c2 : 0 < n * 2 ^ (j + more + 1) := Nat.mul_pos (by omega) (Nat.two_pow_pos _)
  omega

theorem pos_of_lt {K J x y : Nat} (hx : Bd K x) (hy : Bd J y) (hK : K ≤ 127) (hJ : J ≤ 127) (h0 : ord x 0 ≠ some .lt) (h : ord x y = some .lt) : ord 0 y = some .lt := by
  obtain ⟨s, m, k, e1, _⟩ := read_bd hx hK
  obtain ⟨t, n, j, e2, _⟩ := read_bd hy hJ
  rw [ord_val e1 read_zero, signed_zero] at h0
  rw [ord_val read_zero e2, signed_zero]
  rw [ord_val e1 e2] at h
  have q0 : ¬ signed s m k < 0 := fun h => h0 (by rw [Int.compare_eq_lt.2 h])
  have q1 : signed s m k < signed t n j := Int.compare_eq_lt.1 (by simpa using h)
  rw [Int.compare_eq_lt.2 (by omega)]

theorem near_false (m : Nat) (p : Int) : single.nearest false m p < 2147483648 := by
  have hw : ∀ r, r < 2147483648 → single.word false r < 2147483648 := fun r h => by
    have := word_rung (neg := false) h
    unfold Format.word at *
    simp at *
    omega
  unfold Format.nearest
  split
  · exact hw 0 (by omega)
  · refine hw _ ?_
    simp only [single_inf]
    omega
theorem nonneg_word {K r : Nat} (h : r < 2147483648) (hb : Bd K r) (hK : K ≤ 127) : ord r 0 ≠ some .lt := by
  obtain ⟨s, m, k, e, _⟩ := read_bd hb hK
  have hs : s = false := by
    have h1 : (single.read r).neg = (r / single.signWeight % 2 == 1) := by
      unfold Format.read
      simp only []
      (repeat' split) <;> rfl
    rw [e, single_sign] at h1
    have h2 : r / 2147483648 = 0 := Nat.div_eq_of_lt h
    rw [h2] at h1
    simpa [Datum.neg] using h1
  subst hs
  rw [ord_val e read_zero, signed_zero]
  intro hc
  have := Int.compare_eq_lt.1 (by simpa using hc : compare (signed false m k) 0 = .lt)
  have := signed_false m k
  omega
theorem sub_nonneg {x y r : Nat} (hx : Bd 20 x) (hy : Bd 20 y) (h : ord x y = some .lt) (hr : single.sub y x = some r) (hb : Bd 22 r) : ord r 0 ≠ some .lt := by
  obtain ⟨s, m, k, e1, _⟩ := read_bd hx (by omega)
  obtain ⟨t, n, j, e2, _⟩ := read_bd hy (by omega)
  rw [ord_val e1 e2] at h
  have q1 : signed s m k < signed t n j := Int.compare_eq_lt.1 (by simpa using h)
  refine nonneg_word ?_ hb (by omega)
  unfold Format.sub at hr
  rw [e1, e2] at hr
  simp only [Datum.opposite, Datum.sum, Option.map_some, Option.some.injEq] at hr
  have e : min ((j : Int) - 149) ((k : Int) - 149) = ((min k j : Nat) : Int) - (149 : Nat) := by omega
  rw [e, show ((k : Int) - 149 - (((min k j : Nat) : Int) - (149 : Nat))).toNat = k - min k j by omega, show ((j : Int) - 149 - (((min k j : Nat) : Int) - (149 : Nat))).toNat = j - min k j by omega] at hr
  have h1 : signed s m k = signed s m (k - min k j) * ((2 ^ min k j : Nat) : Int) := by rw [← signed_scale, Nat.sub_add_cancel (Nat.min_le_left k j)]
  have h2 : signed t n j = signed t n (j - min k j) * ((2 ^ min k j : Nat) : Int) := by rw [← signed_scale, Nat.sub_add_cancel (Nat.min_le_right k j)]
  have hc : 0 < ((2 ^ min k j : Nat) : Int) := by have := Nat.two_pow_pos (min k j); omega
  rw [h1, h2] at q1
  have q2 : signed s m (k - min k j) < signed t n (j - min k j) := Int.lt_of_mul_lt_mul_right q1 (by omega)
  have h3 : signed (!s) m (k - min k j) = - signed s m (k - min k j) := by unfold signed; cases s <;> simp
  rw [h3, if_neg (by omega), decide_eq_false (by omega)] at hr
  rw [← hr]
  exact near_false _ _
end Go.Proofs.Ytinohfgokpbcdaa
namespace Go.Proofs.Ytinohfgokpbcdaa
open Go.RowKit

def fadd (x y : Nat) : Nat := (floatBits .add .f32 x y).getD 0
def fsub (x y : Nat) : Nat := (floatBits .sub .f32 x y).getD 0
def fmul (x y : Nat) : Nat := (floatBits .mul .f32 x y).getD 0
def fdiv (x y : Nat) : Nat := (floatBits .quo .f32 x y).getD 0
theorem fadd_ok {K x y : Nat} (hx : Bd K x) (hy : Bd K y) (hK : K ≤ 120) : floatBits .add .f32 x y = some (fadd x y) ∧ Bd (K + 2) (fadd x y) := by
  obtain ⟨r, e, hb⟩ := fadd_bd hx hy (by omega)
  have e' : floatBits .add .f32 x y = some r := e
  simp [fadd, e', hb]
theorem fsub_ok {K x y : Nat} (hx : Bd K x) (hy : Bd K y) (hK : K ≤ 120) : floatBits .sub .f32 x y = some (fsub x y) ∧ Bd (K + 2) (fsub x y) := by
  obtain ⟨r, e, hb⟩ := fsub_bd hx hy (by omega)
  have e' : floatBits .sub .f32 x y = some r := e
  simp [fsub, e', hb]
theorem fmul_ok {K J x y : Nat} (hx : Bd K x) (hy : Bd J y) (hK : K + J ≤ 120) : floatBits .mul .f32 x y = some (fmul x y) ∧ Bd (K + J + 1) (fmul x y) := by
  obtain ⟨r, e, hb⟩ := fmul_bd hx hy (by omega)
  have e' : floatBits .mul .f32 x y = some r := e
  simp [fmul, e', hb]
theorem fquot_ok {K J x y : Nat} (hx : Bd K x) (hy : Bd J y) (hK : K ≤ 127) (hJ : J ≤ 127) (h0 : ord x 0 ≠ some .lt) (hy0 : ord 0 y = some .lt) (hle : ord x y ≠ some .gt) : floatBits .quo .f32 x y = some (fdiv x y) ∧ Bd 2 (fdiv x y) := by
  obtain ⟨r, e, hb⟩ := quot_le hx hy hK hJ h0 hy0 hle
  have e' : floatBits .quo .f32 x y = some r := e
  simp [fdiv, e', hb]

def lt (a b : Nat) : Bool := FloatKind.f32.format.order a b == some .lt
def gt (a b : Nat) : Bool := FloatKind.f32.format.order a b == some .gt
theorem lt_ord {a b : Nat} : lt a b = true ↔ ord a b = some .lt := by unfold lt; rw [ord_def]; simp
theorem gt_ord {a b : Nat} : gt a b = true ↔ ord a b = some .gt := by unfold gt; rw [ord_def]; simp
theorem ord_swap {K J x y : Nat} (hx : Bd K x) (hy : Bd J y) (hK : K ≤ 127) (hJ : J ≤ 127) : ord x y = some .gt ↔ ord y x = some .lt := by
  obtain ⟨s, m, k, e1, _⟩ := read_bd hx hK
  obtain ⟨t, n, j, e2, _⟩ := read_bd hy hJ
  rw [ord_val e1 e2, ord_val e2 e1]
  simp only [Option.some.injEq]
  rw [Int.compare_eq_gt, Int.compare_eq_lt]

/-! ### how well a value lies between two others -/
def tailF (d soft : Nat) : Nat := if lt d soft = true then fsub 1065353216 (fdiv d soft) else 0
def slackF (v low high soft : Nat) : Nat := if lt v low = true then tailF (fsub low v) soft else if gt v high = true then tailF (fsub v high) soft else 1065353216
theorem one_bd : Bd 0 1065353216 := by unfold Bd; decide
theorem half_bd : Bd 0 1056964608 := by unfold Bd; decide
theorem zero_bd : Bd 0 0 := by unfold Bd; decide
theorem tail_ok {d soft : Nat} (hd : Bd 22 d) (hs : Bd 22 soft) (h0 : ord d 0 ≠ some .lt) (h : lt d soft = true) :
    floatBits .quo .f32 d soft = some (fdiv d soft) ∧ floatBits .sub .f32 1065353216 (fdiv d soft) = some (fsub 1065353216 (fdiv d soft)) ∧ Bd 4 (fsub 1065353216 (fdiv d soft)) := by
  have hl := lt_ord.1 h
  obtain ⟨q1, b1⟩ := fquot_ok hd hs (by omega) (by omega) h0 (pos_of_lt hd hs (by omega) (by omega) h0 hl) (by rw [hl]; decide)
  obtain ⟨q2, b2⟩ := fsub_ok (one_bd.mono (show 0 ≤ 2 by omega)) b1 (by omega)
  exact ⟨q1, q2, b2⟩
theorem tail_bd {d soft : Nat} (hd : Bd 22 d) (hs : Bd 22 soft) (h0 : ord d 0 ≠ some .lt) : Bd 4 (tailF d soft) := by
  unfold tailF
  split
  · exact (tail_ok hd hs h0 (by assumption)).2.2
  · exact zero_bd.mono (by omega)
/-- the difference of a greater height and a lesser one -/
theorem diff_ok {x y : Nat} (hx : Bd 20 x) (hy : Bd 20 y) (h : ord x y = some .lt) : floatBits .sub .f32 y x = some (fsub y x) ∧ Bd 22 (fsub y x) ∧ ord (fsub y x) 0 ≠ some .lt := by
  obtain ⟨q, b⟩ := fsub_ok hy hx (by omega)
  exact ⟨q, b, sub_nonneg hx hy h q b⟩
theorem slack_bd {v low high soft : Nat} (hv : Bd 20 v) (hl : Bd 20 low) (hh : Bd 20 high) (hs : Bd 22 soft) : Bd 4 (slackF v low high soft) := by
  unfold slackF
  split
  · obtain ⟨_, b, n⟩ := diff_ok hv hl (lt_ord.1 (by assumption))
    exact tail_bd b hs n
  · split
    · obtain ⟨_, b, n⟩ := diff_ok hh hv ((ord_swap hv hh (by omega) (by omega)).1 (gt_ord.1 (by assumption)))
      exact tail_bd b hs n
    · exact one_bd.mono (by omega)
theorem ret_f {k : FloatKind} {a b : Nat} (h : a = b) : Ending.returned (.float k a) = .returned (.float k b) := by rw [h]
end Go.Proofs.Ytinohfgokpbcdaa
namespace Go.Proofs.Ytinohfgokpbcdaa
open Ieee

theorem cut_exact (neg : Bool) {m0 d : Nat} (hm : m0 ≠ 0) : Toward.even.cut neg (m0 * 2 ^ d) d = m0 := by
  have hl : (m0 * 2 ^ d).log2 = m0.log2 + d := by rw [← Nat.shiftLeft_eq]; exact log_shift hm
  have hp := Nat.two_pow_pos d
  unfold Toward.cut
  simp only [hl, Nat.shiftLeft_eq, Nat.one_mul]
  rw [Nat.min_eq_left (by omega), Nat.mul_div_cancel _ hp, Nat.mul_mod_left]
  have h1 : (decide (2 ^ d < 2 * 0) || (2 ^ d == 2 * 0 && m0 % 2 == 1)) = false := by
    simp
  rw [h1]
  rfl

theorem exact_nearest (f : Format) (neg : Bool) {mag m0 a b r : Nat} {c p0 : Int} (hm : m0 ≠ 0) (hv : mag * 2 ^ a = m0 * 2 ^ b) (hp0 : p0 = c + b)
    (hlast : max (p0 + m0.log2 - f.fractionBits) f.leastPlace = p0) (hr : (p0 - f.leastPlace).toNat * f.binade + m0 = r) (hinf : r ≤ f.infRung) : f.nearest neg mag (c + a) = f.word neg r := by
  have hmag : mag ≠ 0 := by
    rintro rfl
    rw [Nat.zero_mul] at hv
    exact absurd hv.symm (Nat.mul_ne_zero hm (Nat.pos_iff_ne_zero.1 (Nat.two_pow_pos b)))
  have hlog : mag.log2 + a = m0.log2 + b := by
    have h1 := log_shift (d := a) hmag
    rw [Nat.shiftLeft_eq, hv, ← Nat.shiftLeft_eq, log_shift hm] at h1
    omega
  unfold Format.nearest
  rw [if_neg hmag]
  have hl : max (c + a + mag.log2 - f.fractionBits) f.leastPlace = p0 := by
    rw [show c + a + mag.log2 - f.fractionBits = p0 + m0.log2 - f.fractionBits by omega]
    exact hlast
  simp only [hl]
  have hk : Toward.even.cut neg (mag <<< (c + a - p0).toNat) (p0 - (c + a)).toNat = m0 := by
    rcases Nat.le_total b a with h | h
    · rw [show (p0 - (c + a)).toNat = 0 by omega, show (c + a - p0).toNat = a - b by omega, Nat.shiftLeft_eq]
      have e : mag * 2 ^ (a - b) = m0 := by
        have h1 : mag * 2 ^ (a - b) * 2 ^ b = m0 * 2 ^ b := by rw [Nat.mul_assoc, ← Nat.pow_add, Nat.sub_add_cancel h]; exact hv
        exact Nat.eq_of_mul_eq_mul_right (Nat.two_pow_pos b) h1
      rw [e]
      have h2 := cut_exact neg (d := 0) hm
      rwa [Nat.pow_zero, Nat.mul_one] at h2
    · rw [show (c + a - p0).toNat = 0 by omega, show (p0 - (c + a)).toNat = b - a by omega, Nat.shiftLeft_zero]
      have e : mag = m0 * 2 ^ (b - a) := by
        have h1 : mag * 2 ^ a = m0 * 2 ^ (b - a) * 2 ^ a := by rw [Nat.mul_assoc, ← Nat.pow_add, Nat.sub_add_cancel h]; exact hv
        exact Nat.eq_of_mul_eq_mul_right (Nat.two_pow_pos a) h1
      rw [e]
      exact cut_exact neg hm
  rw [hk, hr, Nat.min_eq_left hinf]

theorem double_sign : double.signWeight = 9223372036854775808 := by decide
theorem double_binade : double.binade = 4503599627370496 := by decide
theorem double_inf : double.infRung = 9218868437227405312 := by decide
theorem double_least : double.leastPlace = -1074 := by decide
theorem double_frac : double.fractionBits = 52 := rfl

/-- what a finite word that is not zero stands for -/
theorem read_num {b : Nat} (h : b % 2147483648 < 2139095040) (h0 : b % 2147483648 ≠ 0) : ∃ (s : Bool) (m k : Nat), single.read b = .number s m ((k : Int) - 149) ∧ m ≠ 0 ∧ m.log2 ≤ 23 ∧ k ≤ 253 ∧
    max ((k : Int) - 149 + m.log2 - (23 : Nat)) (-149) = (k : Int) - 149 ∧ k * 8388608 + m = b % 2147483648 := by
  unfold Format.read
  simp only [single_sign, single_binade, single_inf, single_least]
  generalize b % 2147483648 = r at *
  by_cases h1 : r < 8388608
  · rw [if_pos h1]
    have hl : r.log2 < 23 := (Nat.log2_lt h0).2 (by show r < 8388608; exact h1)
    exact ⟨_, r, 0, rfl, h0, by omega, by omega, by omega, by omega⟩
  · rw [if_neg h1, if_pos h]
    have hm : 8388608 + r % 8388608 ≠ 0 := by omega
    have hl : (8388608 + r % 8388608).log2 = 23 := by
      rw [Nat.log2_eq_iff hm]
      constructor
      · show 8388608 ≤ _; omega
      · show _ < 16777216; omega
    refine ⟨_, 8388608 + r % 8388608, r / 8388608 - 1, by rw [Int.add_comm (-149)]; rfl, hm, by omega, by omega, by rw [hl]; omega, by omega⟩

/-- without the sign -/
def absB (b : Nat) : Nat := b % 2147483648
theorem there_and_back {b : Nat} (h : b % 2147483648 < 2139095040) : ∃ d, double.write (single.read b) = d ∧ d % 9223372036854775808 < 9218868437227405312 ∧ single.write (double.read (d % 9223372036854775808)) = absB b := by
  by_cases h0 : b % 2147483648 = 0
  · have e : ∃ s, single.read b = .number s 0 (-149) := by
      unfold Format.read
      simp only [single_sign, single_binade, single_inf, single_least]
      rw [h0, if_pos (by omega)]
      exact ⟨_, rfl⟩
    obtain ⟨s, e⟩ := e
    refine ⟨_, rfl, ?_⟩
    rw [e]
    unfold absB
    rw [h0]
    cases s <;> decide +kernel
  · obtain ⟨s, m, k, e, hm, hlm, hk, hlast, hr⟩ := read_num h h0
    have hm52 : m * 2 ^ (52 - m.log2) ≠ 0 := Nat.mul_ne_zero hm (Nat.pos_iff_ne_zero.1 (Nat.two_pow_pos _))
    have hl52 : (m * 2 ^ (52 - m.log2)).log2 = 52 := by
      rw [← Nat.shiftLeft_eq, log_shift hm]
      omega
    obtain ⟨b1, b2⟩ := (Nat.log2_eq_iff hm52).1 hl52
    have b1' : 4503599627370496 ≤ m * 2 ^ (52 - m.log2) := b1
    have b2' : m * 2 ^ (52 - m.log2) < 9007199254740992 := b2
    have hw : ∀ neg, double.nearest neg m ((k : Int) - 149) = double.word neg ((k + 925 - (52 - m.log2)) * 4503599627370496 + m * 2 ^ (52 - m.log2)) := by
      intro neg
      have h1 := exact_nearest double neg (mag := m) (m0 := m * 2 ^ (52 - m.log2)) (a := 52 - m.log2) (b := 0) (c := (k : Int) - 149 - ((52 - m.log2 : Nat) : Int)) (p0 := (k : Int) - 149 - ((52 - m.log2 : Nat) : Int))
        (r := (k + 925 - (52 - m.log2)) * 4503599627370496 + m * 2 ^ (52 - m.log2)) hm52 (by rw [Nat.pow_zero, Nat.mul_one]) (by omega)
        (by rw [hl52, double_frac, double_least]; omega) (by rw [double_least, double_binade]; congr 2; omega) (by rw [double_inf]; omega)
      rw [show (k : Int) - 149 - ((52 - m.log2 : Nat) : Int) + ((52 - m.log2 : Nat) : Int) = (k : Int) - 149 by omega] at h1
      exact h1
    refine ⟨_, rfl, ?_⟩
    rw [e]
    simp only [Format.write]
    rw [hw s]
    generalize hq : k + 925 - (52 - m.log2) = q
    generalize hM : m * 2 ^ (52 - m.log2) = M at *
    have hq1 : q ≤ 1200 := by omega
    have hmod : double.word s (q * 4503599627370496 + M) % 9223372036854775808 = q * 4503599627370496 + M := by
      unfold Format.word
      rw [double_sign]
      split <;> omega
    rw [hmod]
    refine ⟨by omega, ?_⟩
    have hread : double.read (q * 4503599627370496 + M) = .number false M (-1074 + (q : Int)) := by
      unfold Format.read
      simp only [double_sign, double_binade, double_inf, double_least]
      rw [show (q * 4503599627370496 + M) % 9223372036854775808 = q * 4503599627370496 + M by omega, if_neg (by omega), if_pos (by omega)]
      have e1 : ((q * 4503599627370496 + M) / 9223372036854775808 % 2 == 1) = false := by
        rw [show (q * 4503599627370496 + M) / 9223372036854775808 = 0 by omega]
        rfl
      rw [e1]
      congr 1 <;> omega
    rw [hread]
    show single.nearest false M (-1074 + (q : Int)) = absB b
    have h2 := exact_nearest single false (mag := M) (m0 := m) (a := 0) (b := 52 - m.log2) (c := -1074 + (q : Int)) (p0 := (k : Int) - 149) (r := absB b) hm (by rw [Nat.pow_zero, Nat.mul_one]; exact hM.symm) (by omega)
      (by rw [single_frac, single_least]; exact hlast) (by rw [single_least, single_binade]; unfold absB; rw [← hr]; congr 2; omega) (by rw [single_inf]; unfold absB; omega)
    rw [show -1074 + (q : Int) + ((0 : Nat) : Int) = -1074 + (q : Int) by omega] at h2
    rw [h2]
    rfl
theorem not_inf {f : Format} {b : Nat} (h : b % f.signWeight < f.infRung) : (f.read b).isInfinity = false := by
  unfold Format.read
  simp only []
  split
  · rfl
  · rfl
theorem read_fin {f : Format} {b : Nat} (h : b % f.signWeight < f.infRung) : ∃ s m p, f.read b = .number s m p := by
  unfold Format.read
  simp only []
  split
  · exact ⟨_, _, _, rfl⟩
  · exact ⟨_, _, _, rfl⟩
/-- what noise.Magnitude reckons -/
theorem mag_conv {b : Nat} (h : b % 2147483648 < 2139095040) : ∃ d, floatToFloatBits .f32 b .f64 = some d ∧ floatToFloatBits .f64 (d % 9223372036854775808) .f32 = some (absB b) := by
  obtain ⟨d, hd, hd2, hd3⟩ := there_and_back h
  refine ⟨d, ?_, ?_⟩
  · unfold floatToFloatBits
    rw [if_neg (by decide)]
    show (match single.read b with | .nan _ _ => none | .infinity s => _ | .number s m e => _) = _
    obtain ⟨s, m, p, e⟩ := read_fin (f := single) (b := b) (by rw [single_sign, single_inf]; exact h)
    rw [e] at hd ⊢
    show (if (double.read (double.write (.number s m p))).isInfinity = true then none else some (double.write (.number s m p))) = _
    rw [hd, not_inf (by rw [double_sign, double_inf]; exact hd2), if_neg (by decide)]
  · unfold floatToFloatBits
    rw [if_neg (by decide)]
    show (match double.read (d % 9223372036854775808) with | .nan _ _ => none | .infinity s => _ | .number s m e => _) = _
    obtain ⟨s, m, p, e⟩ := read_fin (f := double) (b := d % 9223372036854775808) (by rw [double_sign, double_inf, Nat.mod_mod]; exact hd2)
    rw [e] at hd3 ⊢
    show (if (single.read (single.write (.number s m p))).isInfinity = true then none else some (single.write (.number s m p))) = _
    rw [hd3, not_inf (by rw [single_sign, single_inf]; unfold absB; rw [Nat.mod_mod]; exact h), if_neg (by decide)]
end Go.Proofs.Ytinohfgokpbcdaa
namespace Go.Proofs.Ytinohfgokpbcdaa
open Go.RowKit Ieee

/-- V / 2 ^ d, to the nearest, between two the even one -/
def rne (V d : Nat) : Nat := V / 2 ^ d + (if 2 ^ d < 2 * (V % 2 ^ d) ∨ 2 ^ d = 2 * (V % 2 ^ d) ∧ V / 2 ^ d % 2 = 1 then 1 else 0)
/-- the rung nearest to V units -/
def nearN (V : Nat) : Nat := (V.log2 - 23) * 8388608 + rne V (V.log2 - 23)
/-- the units of a rung -/
def valN (r : Nat) : Nat := if r < 8388608 then r else (8388608 + r % 8388608) * 2 ^ (r / 8388608 - 1)

theorem rne_zero (V : Nat) : rne V 0 = V := by
  unfold rne
  simp [Nat.mod_one]
theorem rne_mono {V W : Nat} (d : Nat) (h : V ≤ W) : rne V d ≤ rne W d := by
  unfold rne
  have hq := Nat.div_le_div_right (c := 2 ^ d) h
  rcases Nat.lt_or_eq_of_le hq with hlt | heq
  · split <;> split <;> omega
  · have hv := Nat.div_add_mod V (2 ^ d)
    have hw := Nat.div_add_mod W (2 ^ d)
    rw [heq] at hv ⊢
    have hr : V % 2 ^ d ≤ W % 2 ^ d := by omega
    split <;> split <;> omega
theorem rne_le {V d c : Nat} (h : V < 2 ^ (c + d)) : rne V d ≤ 2 ^ c := by
  unfold rne
  have : V / 2 ^ d < 2 ^ c := by
    rw [Nat.div_lt_iff_lt_mul (Nat.two_pow_pos d), ← Nat.pow_add]
    exact h
  split <;> omega
theorem rne_ge {V d c : Nat} (h : 2 ^ (c + d) ≤ V) : 2 ^ c ≤ rne V d := by
  unfold rne
  have : 2 ^ c ≤ V / 2 ^ d := by
    rw [Nat.le_div_iff_mul_le (Nat.two_pow_pos d), ← Nat.pow_add]
    exact h
  omega
theorem log_mono {V W : Nat} (h : V ≤ W) : V.log2 ≤ W.log2 := by
  by_cases hv : V = 0
  · subst hv
    simp
  · have hw : W ≠ 0 := by omega
    rw [Nat.le_log2 hw]
    exact Nat.le_trans (Nat.log2_self_le hv) h
theorem nearN_mono {V W : Nat} (h : V ≤ W) : nearN V ≤ nearN W := by
  have hl := log_mono h
  unfold nearN
  rcases Nat.lt_or_eq_of_le (show V.log2 - 23 ≤ W.log2 - 23 by omega) with hlt | heq
  · have hw : W ≠ 0 := by rintro rfl; simp at hlt
    have h1 : rne V (V.log2 - 23) ≤ 2 ^ 24 := by
      refine rne_le ?_
      have : V < 2 ^ (V.log2 + 1) := Nat.lt_log2_self
      exact Nat.lt_of_lt_of_le this (Nat.pow_le_pow_right (by omega) (by omega))
    have h2 : 2 ^ 23 ≤ rne W (W.log2 - 23) := by
      refine rne_ge ?_
      rw [show 23 + (W.log2 - 23) = W.log2 by omega]
      exact Nat.log2_self_le hw
    omega
  · rw [heq]
    have := rne_mono (W.log2 - 23) h
    omega

/-- the sign and the rung as one integer -/
def keyI (b : Nat) : Int := if b / 2147483648 % 2 = 1 then -((b % 2147483648 : Nat) : Int) else ((b % 2147483648 : Nat) : Int)
/-- the value in units, with its sign -/
def valI (b : Nat) : Int := if b / 2147483648 % 2 = 1 then -((valN (b % 2147483648) : Nat) : Int) else ((valN (b % 2147483648) : Nat) : Int)

theorem valN_lt {r s : Nat} (h : r < s) : valN r < valN s := by
  unfold valN
  by_cases hs : s < 8388608
  · rw [if_pos hs, if_pos (by omega)]
    exact h
  · rw [if_neg hs]
    have hp := Nat.two_pow_pos (s / 8388608 - 1)
    by_cases hr : r < 8388608
    · rw [if_pos hr]
      calc r < 8388608 * 1 := by omega
        _ ≤ (8388608 + s % 8388608) * 2 ^ (s / 8388608 - 1) := Nat.mul_le_mul (by omega) hp
    · rw [if_neg hr]
      have hq : r / 8388608 ≤ s / 8388608 := Nat.div_le_div_right (by omega)
      rcases Nat.lt_or_eq_of_le hq with hlt | heq
      · have e : (2 : Nat) ^ (s / 8388608 - 1) = 2 ^ (r / 8388608 - 1) * 2 ^ (s / 8388608 - r / 8388608) := by
          rw [← Nat.pow_add]
          congr 1
          omega
        have h2 : 2 ≤ 2 ^ (s / 8388608 - r / 8388608) := by
          calc 2 = 2 ^ 1 := rfl
            _ ≤ _ := Nat.pow_le_pow_right (by omega) (by omega)
        rw [e]
        have hp2 := Nat.two_pow_pos (r / 8388608 - 1)
        calc (8388608 + r % 8388608) * 2 ^ (r / 8388608 - 1) < 16777216 * 2 ^ (r / 8388608 - 1) := Nat.mul_lt_mul_of_pos_right (by omega) hp2
          _ = 8388608 * (2 ^ (r / 8388608 - 1) * 2) := by omega
          _ ≤ (8388608 + s % 8388608) * (2 ^ (r / 8388608 - 1) * 2 ^ (s / 8388608 - r / 8388608)) := Nat.mul_le_mul (by omega) (Nat.mul_le_mul_left _ h2)
      · rw [heq]
        exact Nat.mul_lt_mul_of_pos_right (by omega) hp
theorem valN_le {r s : Nat} (h : r ≤ s) : valN r ≤ valN s := by
  rcases Nat.lt_or_eq_of_le h with h | rfl
  · exact Nat.le_of_lt (valN_lt h)
  · exact Nat.le_refl _
theorem valN_inj {r s : Nat} (h : valN r = valN s) : r = s := by
  rcases Nat.lt_trichotomy r s with h1 | h1 | h1
  · have := valN_lt h1; omega
  · exact h1
  · have := valN_lt h1; omega
theorem valN_zero : valN 0 = 0 := rfl
theorem valN_pos {r : Nat} (h : 0 < r) : 0 < valN r := by have := valN_lt h; rw [valN_zero] at this; exact this
/-- a rung's value is nearest to that rung -/
theorem nearN_valN (r : Nat) : nearN (valN r) = r := by
  unfold valN
  split
  · rename_i h
    unfold nearN
    by_cases h0 : r = 0
    · subst h0
      simp [rne_zero]
    · have : r.log2 < 23 := (Nat.log2_lt h0).2 h
      rw [show r.log2 - 23 = 0 by omega, rne_zero]
      omega
  · rename_i h
    have hm : 8388608 + r % 8388608 ≠ 0 := by omega
    have hl : (8388608 + r % 8388608).log2 = 23 := by
      rw [Nat.log2_eq_iff hm]
      constructor
      · show 8388608 ≤ _; omega
      · show _ < 16777216; omega
    have hl2 : ((8388608 + r % 8388608) * 2 ^ (r / 8388608 - 1)).log2 = 23 + (r / 8388608 - 1) := by
      have := log_shift (d := r / 8388608 - 1) hm
      rw [Nat.shiftLeft_eq] at this
      rw [this, hl]
    unfold nearN
    rw [hl2, show 23 + (r / 8388608 - 1) - 23 = r / 8388608 - 1 by omega]
    have he : rne ((8388608 + r % 8388608) * 2 ^ (r / 8388608 - 1)) (r / 8388608 - 1) = 8388608 + r % 8388608 := by
      unfold rne
      have hp := Nat.two_pow_pos (r / 8388608 - 1)
      rw [Nat.mul_div_cancel _ hp, Nat.mul_mod_left]
      rw [if_neg (by omega), Nat.add_zero]
    rw [he]
    omega

/-! ### words as keys -/
theorem read_val {b : Nat} (h : b % 2147483648 < 2139095040) : ∃ (s : Bool) (m k : Nat), single.read b = .number s m ((k : Int) - 149) ∧ signed s m k = valI b ∧ m * 2 ^ k = valN (b % 2147483648) ∧ s = (b / 2147483648 % 2 == 1) := by
  have key : ∀ (r : Nat) (s : Bool), s = (b / 2147483648 % 2 == 1) → ∀ m k : Nat, m * 2 ^ k = valN (b % 2147483648) → signed s m k = valI b := by
    intro r s hs m k hv
    unfold signed valI
    rw [Nat.shiftLeft_eq, hv]
    by_cases hb : b / 2147483648 % 2 = 1
    · simp [hs, hb]
    · simp [hs, hb]
  unfold Format.read
  simp only [single_sign, single_binade, single_inf, single_least]
  by_cases h1 : b % 2147483648 < 8388608
  · rw [if_pos h1]
    have hv : b % 2147483648 * 2 ^ 0 = valN (b % 2147483648) := by unfold valN; rw [if_pos h1]; omega
    exact ⟨_, b % 2147483648, 0, rfl, key 0 _ rfl _ _ hv, hv, rfl⟩
  · rw [if_neg h1, if_pos h]
    have hv : (8388608 + b % 2147483648 % 8388608) * 2 ^ (b % 2147483648 / 8388608 - 1) = valN (b % 2147483648) := by unfold valN; rw [if_neg h1]
    exact ⟨_, 8388608 + b % 2147483648 % 8388608, b % 2147483648 / 8388608 - 1, by rw [Int.add_comm (-149)]; rfl, key 0 _ rfl _ _ hv, hv, rfl⟩

/-- no NaN and no infinity -/
def Fin (b : Nat) : Prop := b % 2147483648 < 2139095040
theorem bd_Fin {K b : Nat} (h : Bd K b) (hK : K ≤ 127) : Fin b := by
  unfold Bd at h
  unfold Fin
  omega
theorem ord_valI {x y : Nat} (hx : Fin x) (hy : Fin y) : ord x y = some (compare (valI x) (valI y)) := by
  obtain ⟨s, m, k, e1, v1, _, _⟩ := read_val hx
  obtain ⟨t, n, j, e2, v2, _, _⟩ := read_val hy
  rw [ord_val e1 e2, v1, v2]
theorem val_key {x y : Nat} : valI x < valI y ↔ keyI x < keyI y := by
  have p1 := @valN_lt (x % 2147483648) (y % 2147483648)
  have p2 := @valN_lt (y % 2147483648) (x % 2147483648)
  have p3 := @valN_inj (x % 2147483648) (y % 2147483648)
  have z1 := @valN_pos (x % 2147483648)
  have z2 := @valN_pos (y % 2147483648)
  have z3 : ∀ r, r = 0 → valN r = 0 := fun r h => by rw [h, valN_zero]
  have z4 := z3 (x % 2147483648)
  have z5 := z3 (y % 2147483648)
  have e1 : x % 2147483648 = y % 2147483648 → valN (x % 2147483648) = valN (y % 2147483648) := fun h => by rw [h]
  unfold valI keyI
  generalize valN (x % 2147483648) = a at *
  generalize valN (y % 2147483648) = b at *
  generalize x % 2147483648 = r at *
  generalize y % 2147483648 = s at *
  have h1 : r < s ∨ r = s ∨ s < r := by omega
  have h2 : r = 0 ∨ 0 < r := by omega
  have h3 : s = 0 ∨ 0 < s := by omega
  split <;> split <;> rcases h1 with h1 | h1 | h1 <;> rcases h2 with h2 | h2 <;> rcases h3 with h3 | h3 <;> simp_all <;> omega
theorem val_key_le {x y : Nat} : valI x ≤ valI y ↔ keyI x ≤ keyI y := by
  have := @val_key y x
  omega
theorem val_key_eq {x y : Nat} : valI x = valI y ↔ keyI x = keyI y := by
  have h1 := @val_key y x
  have h2 := @val_key x y
  omega

/-! ### rounding -/
theorem shift_cut {s : Bool} {mag k d : Nat} (hk : k < d) (hd : d ≤ mag.log2 + k) : Toward.even.cut s mag (d - k) = rne (mag * 2 ^ k) d := by
  unfold Toward.cut rne
  have hmin : min (d - k) (mag.log2 + 2) = d - k := by omega
  simp only [hmin]
  rw [Nat.shiftLeft_eq, Nat.one_mul]
  have e : (2 : Nat) ^ d = 2 ^ (d - k) * 2 ^ k := by rw [← Nat.pow_add]; congr 1; omega
  have hp := Nat.two_pow_pos k
  rw [e, Nat.mul_div_mul_right _ _ hp, Nat.mul_mod_mul_right]
  generalize mag % 2 ^ (d - k) = r
  generalize mag / 2 ^ (d - k) = q
  generalize 2 ^ (d - k) = g
  generalize 2 ^ k = u at *
  congr 1
  have h1 : g * u < 2 * (r * u) ↔ g < 2 * r := by
    rw [← Nat.mul_assoc]
    exact Nat.mul_lt_mul_right hp
  have h2 : g * u = 2 * (r * u) ↔ g = 2 * r := by
    rw [← Nat.mul_assoc]
    exact Nat.mul_left_inj (by omega)
  simp only [h1, h2]
  by_cases c1 : g < 2 * r
  · simp [c1]
  · by_cases c2 : g = 2 * r
    · by_cases c3 : q % 2 = 1 <;> simp [c2, c3]
    · simp [c1, c2]
theorem nearest_val (s : Bool) (mag k : Nat) : single.nearest s mag ((k : Int) - 149) = single.word s (min (nearN (mag * 2 ^ k)) 2139095040) := by
  unfold Format.nearest
  by_cases hm : mag = 0
  · subst hm
    rw [if_pos rfl, Nat.zero_mul]
    rfl
  · rw [if_neg hm]
    simp only [single_least, single_frac, single_binade, single_inf]
    have hl : (mag * 2 ^ k).log2 = mag.log2 + k := by
      have := log_shift (d := k) hm
      rwa [Nat.shiftLeft_eq] at this
    unfold nearN
    rw [hl]
    have hlast : max ((k : Int) - 149 + mag.log2 - (23 : Nat)) (-149) = ((mag.log2 + k - 23 : Nat) : Int) - 149 := by omega
    rw [hlast]
    rw [show (((mag.log2 + k - 23 : Nat) : Int) - 149 - -149).toNat = mag.log2 + k - 23 by omega]
    rw [show ((k : Int) - 149 - (((mag.log2 + k - 23 : Nat) : Int) - 149)).toNat = k - (mag.log2 + k - 23) by omega, show (((mag.log2 + k - 23 : Nat) : Int) - 149 - ((k : Int) - 149)).toNat = (mag.log2 + k - 23) - k by omega]
    congr 3
    by_cases hk : k < mag.log2 + k - 23
    · rw [show k - (mag.log2 + k - 23) = 0 by omega, Nat.shiftLeft_zero]
      exact shift_cut hk (by omega)
    · have e : mag * 2 ^ k = mag * 2 ^ (k - (mag.log2 + k - 23)) * 2 ^ (mag.log2 + k - 23) := by
        rw [Nat.mul_assoc, ← Nat.pow_add]
        congr 2
        omega
      rw [show mag.log2 + k - 23 - k = 0 by omega, Nat.shiftLeft_eq]
      generalize mag.log2 + k - 23 = d at *
      rw [e]
      unfold rne Toward.cut
      have hp := Nat.two_pow_pos d
      rw [Nat.mul_div_cancel _ hp, Nat.mul_mod_left]
      rw [if_neg (by omega)]
      simp [Nat.mod_one]
/-- the key of a rounded number -/
def rkey (Z : Int) : Int := if Z < 0 then -((min (nearN Z.natAbs) 2139095040 : Nat) : Int) else ((min (nearN Z.natAbs) 2139095040 : Nat) : Int)
theorem rkey_mono {Y Z : Int} (h : Y ≤ Z) : rkey Y ≤ rkey Z := by
  unfold rkey
  by_cases hy : Y < 0
  · by_cases hz : Z < 0
    · rw [if_pos hy, if_pos hz]
      have := nearN_mono (show Z.natAbs ≤ Y.natAbs by omega)
      omega
    · rw [if_pos hy, if_neg hz]
      omega
  · rw [if_neg hy, if_neg (by omega)]
    have := nearN_mono (show Y.natAbs ≤ Z.natAbs by omega)
    omega
theorem key_word {s : Bool} {r : Nat} (h : r < 2147483648) : keyI (single.word s r) = if s then -(r : Int) else (r : Int) := by
  unfold keyI Format.word
  rw [single_sign]
  cases s
  · simp only [Bool.false_eq_true, if_false]
    rw [if_neg (by omega)]
    omega
  · simp only [if_true]
    rw [if_pos (by omega)]
    omega
theorem nearN_zero : nearN 0 = 0 := by decide +kernel
theorem key_nearest (s : Bool) (mag k : Nat) : keyI (single.nearest s mag ((k : Int) - 149)) = if s then -((min (nearN (mag * 2 ^ k)) 2139095040 : Nat) : Int) else ((min (nearN (mag * 2 ^ k)) 2139095040 : Nat) : Int) := by
  rw [nearest_val, key_word (by omega)]
theorem signed_val (s : Bool) (m k : Nat) : signed s m k = if s then -((m * 2 ^ k : Nat) : Int) else ((m * 2 ^ k : Nat) : Int) := by
  unfold signed
  rw [Nat.shiftLeft_eq]
theorem sum_key {s t : Bool} {m n k j : Nat} {d : Datum} (h : Datum.sum (.number s m ((k : Int) - 149)) (.number t n ((j : Int) - 149)) = some d) : keyI (single.write d) = rkey (signed s m k + signed t n j) := by
  simp only [Datum.sum] at h
  injection h with h
  subst h
  have e : min ((k : Int) - 149) ((j : Int) - 149) = ((min k j : Nat) : Int) - (149 : Nat) := by omega
  simp only [Format.write]
  rw [e]
  rw [show ((k : Int) - 149 - (((min k j : Nat) : Int) - (149 : Nat))).toNat = k - min k j by omega, show ((j : Int) - 149 - (((min k j : Nat) : Int) - (149 : Nat))).toNat = j - min k j by omega]
  have h1 : signed s m k = signed s m (k - min k j) * ((2 ^ min k j : Nat) : Int) := by rw [← signed_scale, Nat.sub_add_cancel (Nat.min_le_left k j)]
  have h2 : signed t n j = signed t n (j - min k j) * ((2 ^ min k j : Nat) : Int) := by rw [← signed_scale, Nat.sub_add_cancel (Nat.min_le_right k j)]
  rw [h1, h2, ← Int.add_mul]
  generalize signed s m (k - min k j) + signed t n (j - min k j) = Z
  have hk := key_nearest (if Z = 0 then s && t else Z < 0) Z.natAbs (min k j)
  rw [show (((min k j : Nat) : Int) - 149) = ((min k j : Nat) : Int) - (149 : Nat) from rfl] at hk
  rw [hk]
  have hp : (0 : Int) < ((2 ^ min k j : Nat) : Int) := by have := Nat.two_pow_pos (min k j); omega
  unfold rkey
  rw [Int.natAbs_mul, Int.natAbs_natCast]
  by_cases h0 : Z = 0
  · subst h0
    simp [nearN_zero]
  · rw [if_neg h0]
    by_cases hz : Z < 0
    · have : Z * ((2 ^ min k j : Nat) : Int) < 0 := Int.mul_neg_of_neg_of_pos hz hp
      rw [if_pos this]
      simp [hz]
    · have : ¬ Z * ((2 ^ min k j : Nat) : Int) < 0 := by
        have := Int.mul_nonneg (show 0 ≤ Z by omega) (Int.le_of_lt hp)
        omega
      rw [if_neg this]
      simp [hz]
theorem add_key {x y r : Nat} (hx : Fin x) (hy : Fin y) (h : single.add x y = some r) : keyI r = rkey (valI x + valI y) := by
  obtain ⟨s, m, k, e1, v1, _, _⟩ := read_val hx
  obtain ⟨t, n, j, e2, v2, _, _⟩ := read_val hy
  unfold Format.add at h
  rw [e1, e2] at h
  obtain ⟨d, hd, rfl⟩ := Option.map_eq_some_iff.1 h
  rw [sum_key hd, v1, v2]
theorem signed_not (s : Bool) (m k : Nat) : signed (!s) m k = -signed s m k := by
  rw [signed_val, signed_val]
  cases s <;> simp
theorem sub_key {x y r : Nat} (hx : Fin x) (hy : Fin y) (h : single.sub x y = some r) : keyI r = rkey (valI x - valI y) := by
  obtain ⟨s, m, k, e1, v1, _, _⟩ := read_val hx
  obtain ⟨t, n, j, e2, v2, _, _⟩ := read_val hy
  unfold Format.sub at h
  rw [e1, e2] at h
  obtain ⟨d, hd, rfl⟩ := Option.map_eq_some_iff.1 h
  rw [sum_key hd, signed_not, v1, v2, Int.sub_eq_add_neg]
theorem rkey_val {b : Nat} (h : Fin b) : rkey (valI b) = keyI b := by
  unfold Fin at h
  unfold rkey valI keyI
  have hn := nearN_valN (b % 2147483648)
  have hz := @valN_pos (b % 2147483648)
  have h0 : b % 2147483648 = 0 → valN (b % 2147483648) = 0 := fun e => by rw [e, valN_zero]
  generalize valN (b % 2147483648) = v at *
  generalize b % 2147483648 = r at *
  by_cases hs : b / 2147483648 % 2 = 1
  · rw [if_pos hs, if_pos hs]
    by_cases hr : r = 0
    · have := h0 hr
      subst this
      subst hr
      simp [nearN_zero]
    · have := hz (by omega)
      rw [if_pos (by omega), Int.natAbs_neg, Int.natAbs_natCast, hn]
      omega
  · rw [if_neg hs, if_neg hs, if_neg (by omega), Int.natAbs_natCast, hn]
    omega
end Go.Proofs.Ytinohfgokpbcdaa
namespace Go.Proofs.Ytinohfgokpbcdaa
open Go.RowKit Ieee

theorem lt_val {x y : Nat} (hx : Fin x) (hy : Fin y) : lt x y = decide (valI x < valI y) := by
  unfold lt
  rw [ord_def, ord_valI hx hy, Bool.eq_iff_iff]
  simp [Int.compare_eq_lt]
theorem gt_val {x y : Nat} (hx : Fin x) (hy : Fin y) : gt x y = decide (valI y < valI x) := by
  unfold gt
  rw [ord_def, ord_valI hx hy, Bool.eq_iff_iff]
  simp [Int.compare_eq_gt]
theorem eq_val {x y : Nat} (hx : Fin x) (hy : Fin y) : ord x y = some .eq ↔ valI x = valI y := by
  rw [ord_valI hx hy]
  simp
theorem fadd_key {K x y : Nat} (hx : Bd K x) (hy : Bd K y) (hK : K ≤ 120) : keyI (fadd x y) = rkey (valI x + valI y) := by
  obtain ⟨r, hr, _⟩ := fadd_bd hx hy (by omega)
  have e := (fadd_ok hx hy hK).1
  have e2 : single.add x y = some (fadd x y) := by
    rw [← e]
    rfl
  exact add_key (bd_Fin hx (by omega)) (bd_Fin hy (by omega)) e2
theorem fsub_key {K x y : Nat} (hx : Bd K x) (hy : Bd K y) (hK : K ≤ 120) : keyI (fsub x y) = rkey (valI x - valI y) := by
  have e := (fsub_ok hx hy hK).1
  have e2 : single.sub x y = some (fsub x y) := by
    rw [← e]
    rfl
  exact sub_key (bd_Fin hx (by omega)) (bd_Fin hy (by omega)) e2
/-- a sum rises with what is added -/
theorem fadd_mono {K x y x' y' : Nat} (hx : Bd K x) (hy : Bd K y) (hx' : Bd K x') (hy' : Bd K y') (hK : K ≤ 120) (h : valI x ≤ valI x') (h' : valI y ≤ valI y') : valI (fadd x y) ≤ valI (fadd x' y') := by
  rw [val_key_le, fadd_key hx hy hK, fadd_key hx' hy' hK]
  exact rkey_mono (by omega)
theorem fadd_ge {K x y : Nat} (hx : Bd K x) (hy : Bd K y) (hK : K ≤ 120) (h : 0 ≤ valI y) : valI x ≤ valI (fadd x y) := by
  rw [val_key_le, fadd_key hx hy hK, ← rkey_val (bd_Fin hx (by omega))]
  exact rkey_mono (by omega)
theorem fadd_le {K x y : Nat} (hx : Bd K x) (hy : Bd K y) (hK : K ≤ 120) (h : valI y ≤ 0) : valI (fadd x y) ≤ valI x := by
  rw [val_key_le, fadd_key hx hy hK, ← rkey_val (bd_Fin hx (by omega))]
  exact rkey_mono (by omega)
theorem fadd_same {K x y x' y' : Nat} (hx : Bd K x) (hy : Bd K y) (hx' : Bd K x') (hy' : Bd K y') (hK : K ≤ 120) (h : valI x = valI x') (h' : valI y = valI y') : valI (fadd x y) = valI (fadd x' y') := by
  rw [val_key_eq, fadd_key hx hy hK, fadd_key hx' hy' hK, h, h']
theorem val_zero : valI 0 = 0 := rfl
theorem bd_val {K b : Nat} (hK : K ≤ 127) : Bd K b ↔ valN (b % 2147483648) ≤ 2 ^ (K + 149) := by
  have e : 2 ^ (K + 149) = valN ((K + 127) * 8388608) := by
    unfold valN
    rw [if_neg (by omega), Nat.mul_mod_left, Nat.mul_div_cancel _ (by decide)]
    have : (2 : Nat) ^ (23 + (K + 126)) = 8388608 * 2 ^ (K + 126) := Nat.pow_add 2 23 (K + 126)
    rw [show K + 149 = 23 + (K + 126) by omega, this]
    rfl
  rw [e]
  unfold Bd
  constructor
  · exact valN_le
  · intro h
    rcases Nat.lt_or_ge ((K + 127) * 8388608) (b % 2147483648) with hlt | hge
    · have := valN_lt hlt
      omega
    · exact hge
theorem bd_valI {K b : Nat} (hK : K ≤ 127) : Bd K b ↔ (valI b).natAbs ≤ 2 ^ (K + 149) := by
  rw [bd_val hK]
  unfold valI
  split <;> omega
theorem lt_trans' {a b c : Nat} (ha : Fin a) (hb : Fin b) (hc : Fin c) (h : lt a b = true) (k : lt b c = true) : lt a c = true := by
  rw [lt_val ha hb] at h
  rw [lt_val hb hc] at k
  rw [lt_val ha hc]
  simp at *
  omega
theorem hgt_Fin {b : Nat} (h : hgtB b = true) : Fin b := bd_Fin (hgt_bd h) (by omega)
end Go.Proofs.Ytinohfgokpbcdaa
namespace Go.Proofs.Ytinohfgokpbcdaa
open Go.RowKit

section
variable (N : Nat) (nb : Nat → Nat → Option Nat) (edge : Nat → Bool) (H : Nat → Int) (up : Int → Int)

/-- z is the spill of a way to k -/
inductive Way : Nat → Int → Prop
  | start {k : Nat} : k < N → edge k = true → Way k (H k)
  | step {n d k : Nat} {z : Int} : Way n z → n < N → d < 8 → nb n d = some k → k < N → Way k (max (H k) (up z))
def Least (r : Nat → Int) : Prop := (∀ k, k < N → Way N nb edge H up k (r k)) ∧ ∀ k z, Way N nb edge H up k z → r k ≤ z
variable {N nb edge H up}
theorem Least.unique {r r' : Nat → Int} (h : Least N nb edge H up r) (h' : Least N nb edge H up r') {k : Nat} (hk : k < N) : r k = r' k :=
  Int.le_antisymm (h.2 k _ (h'.1 k hk)) (h'.2 k _ (h.1 k hk))
theorem Least.mk' (mono : ∀ x y, x ≤ y → up x ≤ up y) {r : Nat → Int} (ha : ∀ k, k < N → Way N nb edge H up k (r k)) (hb : ∀ k, k < N → edge k = true → r k ≤ H k)
    (hc : ∀ n d k, n < N → d < 8 → nb n d = some k → k < N → r k ≤ max (H k) (up (r n))) : Least N nb edge H up r := ⟨ha, fun k z hw => by
  induction hw with
  | start hk he => exact hb _ hk he
  | @step n d k z hw hn hd hnb hk ih =>
    have h1 := hc n d k hn hd hnb hk
    have h2 := mono _ _ ih
    omega⟩

/-- what holds while the heap is looked at; c: the cell whose neighbours are looked at, up to which direction, and its spill -/
structure DI (N : Nat) (nb : Nat → Nat → Option Nat) (edge : Nat → Bool) (H : Nat → Int) (up : Int → Int) (c : Option (Nat × Nat × Int)) (done seen : Nat → Bool) (o : Nat → Int) (xs : List (Int × Nat)) : Prop where
  h1 : ∀ z k, (z, k) ∈ xs → k < N ∧ seen k = true ∧ o k ≤ z
  h2 : ∀ k, k < N → seen k = true → done k = false → (o k, k) ∈ xs
  h3 : ∀ k, k < N → done k = true → seen k = true
  h4 : ∀ k, k < N → done k = true → ∀ z j, (z, j) ∈ xs → o k ≤ z
  h5 : ∀ k, k < N → seen k = true → Way N nb edge H up k (o k)
  h6 : ∀ k, k < N → edge k = true → seen k = true ∧ o k = H k
  h7 : ∀ n d m, n < N → done n = true → d < 8 → nb n d = some m → (∀ k0 d0 z0, c = some (k0, d0, z0) → n = k0 → d < d0) → seen m = true ∧ o m ≤ max (H m) (up (o n))
  h8 : ∀ k0 d0 z0, c = some (k0, d0, z0) → k0 < N ∧ done k0 = true ∧ o k0 = z0 ∧ (∀ k, k < N → done k = true → o k ≤ z0) ∧ ∀ z j, (z, j) ∈ xs → z0 ≤ z

def updF {α : Type} (f : Nat → α) (i : Nat) (x : α) : Nat → α := fun k => if k = i then x else f k
theorem updF_same {α : Type} (f : Nat → α) (i : Nat) (x : α) : updF f i x i = x := if_pos rfl
theorem updF_ne {α : Type} (f : Nat → α) {i k : Nat} (x : α) (h : k ≠ i) : updF f i x k = f k := if_neg h

theorem DI.perm {c : Option (Nat × Nat × Int)} {done seen : Nat → Bool} {o : Nat → Int} {xs ys : List (Int × Nat)} (h : DI N nb edge H up c done seen o xs) (hp : ys.Perm xs) : DI N nb edge H up c done seen o ys :=
  ⟨fun z k hm => h.h1 z k (hp.mem_iff.1 hm), fun k a b c => hp.mem_iff.2 (h.h2 k a b c), h.h3, fun k a b z j hm => h.h4 k a b z j (hp.mem_iff.1 hm), h.h5, h.h6, h.h7,
    fun k0 d0 z0 e => ⟨(h.h8 k0 d0 z0 e).1, (h.h8 k0 d0 z0 e).2.1, (h.h8 k0 d0 z0 e).2.2.1, (h.h8 k0 d0 z0 e).2.2.2.1, fun z j hm => (h.h8 k0 d0 z0 e).2.2.2.2 z j (hp.mem_iff.1 hm)⟩⟩
/-- the first one was looked at already -/
theorem DI.skip {done seen : Nat → Bool} {o : Nat → Int} {z : Int} {k0 : Nat} {xs : List (Int × Nat)} (h : DI N nb edge H up none done seen o ((z, k0) :: xs)) (hd : done k0 = true) : DI N nb edge H up none done seen o xs :=
  ⟨fun z k hm => h.h1 z k (List.mem_cons_of_mem _ hm), fun k a b c => by
    rcases List.mem_cons.1 (h.h2 k a b c) with e | e
    · injection e with _ e
      subst e
      rw [hd] at c
      cases c
    · exact e, h.h3, fun k a b z j hm => h.h4 k a b z j (List.mem_cons_of_mem _ hm), h.h5, h.h6, h.h7, fun _ _ _ e => by cases e⟩
theorem DI.value {done seen : Nat → Bool} {o : Nat → Int} {z : Int} {k0 : Nat} {xs : List (Int × Nat)} (h : DI N nb edge H up none done seen o ((z, k0) :: xs)) (hl : ∀ y j, (y, j) ∈ xs → z ≤ y) (hd : done k0 = false) : k0 < N ∧ o k0 = z := by
  obtain ⟨a, b, c⟩ := h.h1 z k0 (List.mem_cons_self ..)
  refine ⟨a, ?_⟩
  rcases List.mem_cons.1 (h.h2 k0 a b hd) with e | e
  · injection e with e _
  · have := hl _ _ e
    omega
/-- the first one is looked at now -/
theorem DI.take {done seen : Nat → Bool} {o : Nat → Int} {z : Int} {k0 : Nat} {xs : List (Int × Nat)} (h : DI N nb edge H up none done seen o ((z, k0) :: xs)) (hl : ∀ y j, (y, j) ∈ xs → z ≤ y) (hd : done k0 = false) : DI N nb edge H up (some (k0, 0, z)) (updF done k0 true) seen o xs := by
  obtain ⟨hk0, hz⟩ := h.value hl hd
  obtain ⟨_, hs0, _⟩ := h.h1 z k0 (List.mem_cons_self ..)
  have hdn : ∀ k, updF done k0 true k = true → k = k0 ∨ done k = true := fun k hk => by
    by_cases e : k = k0
    · exact .inl e
    · rw [updF_ne _ _ e] at hk; exact .inr hk
  refine ⟨fun z k hm => h.h1 z k (List.mem_cons_of_mem _ hm), fun k a b c => ?_, fun k a b => ?_, fun k a b z' j hm => ?_, h.h5, h.h6, fun n d m hn hdo hd8 hnb hc => ?_, fun k1 d1 z1 e => ?_⟩
  · by_cases e : k = k0
    · subst e; rw [updF_same] at c; cases c
    · rw [updF_ne _ _ e] at c
      rcases List.mem_cons.1 (h.h2 k a b c) with e2 | e2
      · injection e2 with _ e2
        exact absurd e2 e
      · exact e2
  · rcases hdn k b with rfl | h2
    · exact hs0
    · exact h.h3 k a h2
  · rcases hdn k b with rfl | h2
    · have := hl _ _ hm; omega
    · exact h.h4 k a h2 _ _ (List.mem_cons_of_mem _ hm)
  · rcases hdn n hdo with rfl | h2
    · have := hc _ _ _ rfl rfl; omega
    · exact h.h7 n d m hn h2 hd8 hnb (fun _ _ _ e => by cases e)
  · injection e with e
    injection e with e1 e2
    injection e2 with e2 e3
    subst e1
    subst e2
    subst e3
    refine ⟨hk0, updF_same _ _ _, hz, fun k a b => ?_, hl⟩
    rcases hdn k b with rfl | h2
    · omega
    · exact h.h4 k a h2 _ _ (List.mem_cons_self ..)
/-- all directions are looked at -/
theorem DI.all {done seen : Nat → Bool} {o : Nat → Int} {z : Int} {k0 : Nat} {xs : List (Int × Nat)} (h : DI N nb edge H up (some (k0, 8, z)) done seen o xs) : DI N nb edge H up none done seen o xs :=
  ⟨h.h1, h.h2, h.h3, h.h4, h.h5, h.h6, fun n d m hn hd h8 hnb _ => h.h7 n d m hn hd h8 hnb (fun _ _ _ e _ => by injection e with e; injection e with _ e; injection e with e _; omega), fun _ _ _ e => by cases e⟩
/-- there is no neighbour -/
theorem DI.miss {done seen : Nat → Bool} {o : Nat → Int} {z : Int} {k0 d0 : Nat} {xs : List (Int × Nat)} (h : DI N nb edge H up (some (k0, d0, z)) done seen o xs) (hn : nb k0 d0 = none) : DI N nb edge H up (some (k0, d0 + 1, z)) done seen o xs :=
  ⟨h.h1, h.h2, h.h3, h.h4, h.h5, h.h6, fun n d m hn' hd h8 hnb hc => h.h7 n d m hn' hd h8 hnb (fun k1 d1 z1 e e2 => by
      injection e with e
      injection e with e1 e3
      injection e3 with e3 e4
      subst e1
      subst e3
      subst e4
      have := hc _ _ _ rfl e2
      rcases Nat.lt_or_eq_of_le (Nat.le_of_lt_succ this) with hlt | heq
      · exact hlt
      · subst heq
        subst e2
        rw [hn] at hnb
        cases hnb), fun k1 d1 z1 e => by
      injection e with e
      injection e with e1 e3
      injection e3 with e3 e4
      subst e1
      subst e4
      exact h.h8 _ _ _ rfl⟩
/-- a neighbour that stays as it is -/
theorem DI.stay {done seen : Nat → Bool} {o : Nat → Int} {z : Int} {k0 d0 m : Nat} {xs : List (Int × Nat)} (h : DI N nb edge H up (some (k0, d0, z)) done seen o xs) (hnb : nb k0 d0 = some m) (hm : m < N) (infl : z ≤ up z)
    (hs : done m = true ∨ seen m = true ∧ ¬ max (H m) (up z) < o m) : DI N nb edge H up (some (k0, d0 + 1, z)) done seen o xs := by
  obtain ⟨a1, a2, a3, a4, a5⟩ := h.h8 _ _ _ rfl
  refine ⟨h.h1, h.h2, h.h3, h.h4, h.h5, h.h6, fun n d m' hn' hd h8 hnb' hc => ?_, fun k1 d1 z1 e => by
      injection e with e
      injection e with e1 e3
      injection e3 with e3 e4
      subst e1
      subst e4
      exact h.h8 _ _ _ rfl⟩
  by_cases hh : n = k0 ∧ d = d0
  · obtain ⟨rfl, rfl⟩ := hh
    rw [hnb] at hnb'
    injection hnb' with hnb'
    subst hnb'
    rcases hs with hs | ⟨hs1, hs2⟩
    · refine ⟨h.h3 m hm hs, ?_⟩
      have := a4 m hm hs
      rw [a3]
      omega
    · refine ⟨hs1, ?_⟩
      rw [a3]
      omega
  · refine h.h7 n d m' hn' hd h8 hnb' (fun k1 d1 z1 e e2 => ?_)
    injection e with e
    injection e with e1 e3
    injection e3 with e3 e4
    subst e1
    subst e3
    subst e4
    have := hc _ _ _ rfl e2
    omega
/-- a neighbour that is reached anew, or by a lesser spill -/
theorem DI.push {done seen : Nat → Bool} {o : Nat → Int} {z : Int} {k0 d0 m : Nat} {xs : List (Int × Nat)} (h : DI N nb edge H up (some (k0, d0, z)) done seen o xs) (hd0 : d0 < 8) (hnb : nb k0 d0 = some m) (hm : m < N) (infl : z ≤ up z)
    (hd : done m = false) (hs : seen m = false ∨ max (H m) (up z) < o m) : DI N nb edge H up (some (k0, d0 + 1, z)) done (updF seen m true) (updF o m (max (H m) (up z))) (xs ++ [(max (H m) (up z), m)]) := by
  obtain ⟨a1, a2, a3, a4, a5⟩ := h.h8 _ _ _ rfl
  have hne : ∀ k, done k = true → k ≠ m := fun k hk e => by subst e; rw [hd] at hk; cases hk
  have hlow : seen m = true → max (H m) (up z) < o m := fun hh => by
    rcases hs with hs | hs
    · rw [hs] at hh; cases hh
    · exact hs
  refine ⟨fun z' k hmem => ?_, fun k a b c => ?_, fun k a b => ?_, fun k a b z' j hmem => ?_, fun k a b => ?_, fun k a b => ?_, fun n d m' hn' hdo h8 hnb' hc => ?_, fun k1 d1 z1 e => ?_⟩
  · rcases List.mem_append.1 hmem with hh | hh
    · obtain ⟨b1, b2, b3⟩ := h.h1 z' k hh
      by_cases e : k = m
      · subst e
        refine ⟨b1, updF_same _ _ _, ?_⟩
        rw [updF_same]
        have := hlow b2
        omega
      · exact ⟨b1, by rw [updF_ne _ _ e]; exact b2, by rw [updF_ne _ _ e]; exact b3⟩
    · simp at hh
      obtain ⟨rfl, rfl⟩ := hh
      exact ⟨hm, updF_same _ _ _, by rw [updF_same]; exact Int.le_refl _⟩
  · by_cases e : k = m
    · subst e
      rw [updF_same]
      exact List.mem_append_right _ (by simp)
    · rw [updF_ne _ _ e] at b ⊢
      exact List.mem_append_left _ (h.h2 k a b c)
  · rw [updF_ne _ _ (hne k b)]
    exact h.h3 k a b
  · rw [updF_ne _ _ (hne k b)]
    rcases List.mem_append.1 hmem with hh | hh
    · exact h.h4 k a b z' j hh
    · simp at hh
      obtain ⟨rfl, rfl⟩ := hh
      have := a4 k a b
      omega
  · by_cases e : k = m
    · subst e
      rw [updF_same]
      have hw := h.h5 k0 a1 (h.h3 k0 a1 a2)
      rw [a3] at hw
      exact .step hw a1 hd0 hnb hm
    · rw [updF_ne _ _ e] at b ⊢
      exact h.h5 k a b
  · obtain ⟨b1, b2⟩ := h.h6 k a b
    have e : k ≠ m := fun e => by
      subst e
      have := hlow b1
      omega
    exact ⟨by rw [updF_ne _ _ e]; exact b1, by rw [updF_ne _ _ e]; exact b2⟩
  · have en := hne n hdo
    rw [updF_ne o _ en]
    by_cases hh : n = k0 ∧ d = d0
    · obtain ⟨rfl, rfl⟩ := hh
      rw [hnb] at hnb'
      injection hnb' with hnb'
      subst hnb'
      rw [updF_same, updF_same, a3]
      exact ⟨rfl, Int.le_refl _⟩
    · obtain ⟨b1, b2⟩ := h.h7 n d m' hn' hdo h8 hnb' (fun k1 d1 z1 e e2 => by
        injection e with e
        injection e with e1 e3
        injection e3 with e3 e4
        subst e1
        subst e3
        subst e4
        have := hc _ _ _ rfl e2
        omega)
      by_cases e : m' = m
      · subst e
        rw [updF_same, updF_same]
        have := hlow b1
        exact ⟨rfl, by omega⟩
      · rw [updF_ne _ _ e, updF_ne _ _ e]
        exact ⟨b1, b2⟩
  · injection e with e
    injection e with e1 e3
    injection e3 with e3 e4
    subst e1
    subst e4
    refine ⟨a1, a2, by rw [updF_ne _ _ (hne k0 a2)]; exact a3, fun k a b => by rw [updF_ne _ _ (hne k b)]; exact a4 k a b, fun z' j hmem => ?_⟩
    rcases List.mem_append.1 hmem with hh | hh
    · exact a5 z' j hh
    · simp at hh
      obtain ⟨rfl, rfl⟩ := hh
      omega
/-- nothing is left: the spills are the least -/
theorem DI.least (mono : ∀ x y, x ≤ y → up x ≤ up y) {done seen : Nat → Bool} {o : Nat → Int} (h : DI N nb edge H up none done seen o []) (conn : ∀ P : Nat → Prop, (∀ k, k < N → edge k = true → P k) → (∀ n d m, n < N → P n → d < 8 → nb n d = some m → P m) → ∀ k, k < N → P k) :
    Least N nb edge H up o := by
  have hdone : ∀ k, k < N → seen k = true → done k = true := fun k hk hs => by
    cases hd : done k
    · have := h.h2 k hk hs hd
      cases this
    · rfl
  have hall : ∀ k, k < N → seen k = true := conn (fun k => seen k = true) (fun k hk he => (h.h6 k hk he).1) (fun n d m hn hs hd hnb => (h.h7 n d m hn (hdone n hn hs) hd hnb (fun _ _ _ e => by cases e)).1)
  refine Least.mk' mono (fun k hk => h.h5 k hk (hall k hk)) (fun k hk he => Int.le_of_eq (h.h6 k hk he).2) (fun n d k hn hd hnb hk => (h.h7 n d k hn (hdone n hn (hall n hn)) hd hnb (fun _ _ _ e => by cases e)).2)
end
end Go.Proofs.Ytinohfgokpbcdaa
