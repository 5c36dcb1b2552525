/- The square root of a whole number is compared with a small whole number as the squares are. No program in sight. -/
import Derived.Test.YtgaonoklbihkjaaDoorFloorB
namespace Go.Proofs.YtgaonoklbihkjaaDoor
open Ieee

/-! ### roots that are at least 64 -/
theorem rootFrom_ge (n : Nat) : ∀ (todo root : Nat), n < (root + 2 ^ todo) * (root + 2 ^ todo) → n < (Datum.rootFrom n todo root + 1) * (Datum.rootFrom n todo root + 1)
  | 0, root, h => by simpa [Datum.rootFrom] using h
  | todo + 1, root, h => by
    unfold Datum.rootFrom
    have h4 : root + 1 <<< todo = root + 2 ^ todo := by rw [Nat.shiftLeft_eq, Nat.one_mul]
    have h3 : root + 2 ^ (todo + 1) = root + 2 ^ todo + 2 ^ todo := by rw [Nat.pow_succ]; omega
    rw [h3] at h
    simp only [h4]
    split
    · exact rootFrom_ge n todo _ h
    · rename_i h5
      exact rootFrom_ge n todo root (by omega)
theorem rootFrom_pow {n c : Nat} (h : 2 ^ (2 * c) ≤ n) : 2 ^ c ≤ Datum.rootFrom n (n.log2 / 2 + 1) 0 := by
  have hl : n < 2 ^ (n.log2 + 1) := Nat.lt_log2_self
  have h1 : n < (0 + 2 ^ (n.log2 / 2 + 1)) * (0 + 2 ^ (n.log2 / 2 + 1)) := by
    rw [Nat.zero_add, ← Nat.pow_add]
    exact Nat.lt_of_lt_of_le hl (Nat.pow_le_pow_right (by omega) (by omega))
  have h2 := rootFrom_ge n _ _ h1
  generalize Datum.rootFrom n (n.log2 / 2 + 1) 0 = R at *
  rcases Nat.lt_or_ge R (2 ^ c) with h3 | h3
  · have h4 : (R + 1) * (R + 1) ≤ 2 ^ c * 2 ^ c := Nat.mul_le_mul h3 h3
    rw [← Nat.pow_add, ← Nat.two_mul] at h4
    omega
  · exact h3
/-- a value of at least 2^12 has a root of at least 2^6 -/
theorem root_ge {m : Nat} {i : Int} (hm : m ≠ 0) (h : 12 ≤ (m.log2 : Int) + i) :
    ∃ (M : Nat) (p : Int), (Datum.number false m i).root 54 = some (.number false M p) ∧ M ≠ 0 ∧ 6 ≤ (M.log2 : Int) + p := by
  obtain ⟨more, hmore⟩ : ∃ more, 2 * 54 - m.log2 + ((i - (2 * 54 - m.log2 : Nat)) % 2).toNat = more := ⟨_, rfl⟩
  obtain ⟨e, he⟩ : ∃ e : Int, (i - more) / 2 = e := ⟨_, rfl⟩
  have he2 : i - more = 2 * e := by omega
  obtain ⟨M, hM⟩ : ∃ M, 2 * Datum.rootFrom (m <<< more) ((m <<< more).log2 / 2 + 1) 0 + (Datum.rootFrom (m <<< more) ((m <<< more).log2 / 2 + 1) 0 * Datum.rootFrom (m <<< more) ((m <<< more).log2 / 2 + 1) 0 != m <<< more).toNat = M := ⟨_, rfl⟩
  have hn0 : (m <<< more) ≠ 0 := shift_ne hm
  have hlog : (m <<< more).log2 = m.log2 + more := log_shift hm
  have hR := rootFrom_pow (n := m <<< more) (c := (m <<< more).log2 / 2) (Nat.le_trans (Nat.pow_le_pow_right (by omega) (by omega)) (Nat.log2_self_le hn0))
  have hM2 : 2 ^ ((m <<< more).log2 / 2 + 1) ≤ M := by
    rw [Nat.pow_succ]
    omega
  have hM0 : M ≠ 0 := by
    have := Nat.two_pow_pos ((m <<< more).log2 / 2 + 1)
    omega
  have hM3 := (Nat.le_log2 hM0).2 hM2
  refine ⟨M, e - 1, ?_, hM0, ?_⟩
  · unfold Datum.root
    simp only [if_neg hm, Bool.false_eq_true, if_false]
    rw [hmore, hM, he]
  · rw [hlog] at hM3
    clear hM2 hR hM hn0 hlog
    omega
theorem least_sum {c d B t k I : Nat} (h : (c + d) * B ≤ t * B) (hk : B ≤ k) (hi : (c + (d + 1)) * B ≤ I) : (c + (d + 1)) * B ≤ min (t * B + k) I := by
  have e : (c + (d + 1)) * B = (c + d) * B + B := by rw [← Nat.add_assoc, Nat.succ_mul]
  rw [e] at hi ⊢
  exact Nat.le_min.2 ⟨Nat.add_le_add h hk, hi⟩
set_option maxRecDepth 20000 in
theorem near_geD {M : Nat} {p : Int} {c : Nat} (hM : M ≠ 0) (h : (c : Int) ≤ (M.log2 : Int) + p) (hc : c ≤ 1000) : (c + 1023) * 4503599627370496 ≤ double.nearest false M p % 9223372036854775808 := by
  have hI : (c + (1022 + 1)) * 4503599627370496 ≤ 9218868437227405312 := by omega
  unfold Format.nearest
  rw [if_neg hM]
  simp only [double_binade, double_inf, double_least, double_frac]
  have hk : ∀ last : Int, last = max (p + M.log2 - 52) (-1074) → 2 ^ 52 ≤ Toward.even.cut false (M <<< (p - last).toNat) (last - p).toNat := by
    intro last hlast
    refine cut_ge (shift_ne hM) ?_
    rw [log_shift hM]
    omega
  have := hk _ rfl
  rw [word_rungD (by omega)]
  have e : c + 1022 ≤ ((max (p + M.log2 - (52 : Nat)) (-1074) - -1074).toNat) := by omega
  have e2 := Nat.mul_le_mul_right 4503599627370496 e
  simp only [show ((52 : Nat) : Int) = 52 from rfl] at *
  exact least_sum e2 this hI
set_option maxRecDepth 20000 in
theorem near_geS {M : Nat} {p : Int} {c : Nat} (hM : M ≠ 0) (h : (c : Int) ≤ (M.log2 : Int) + p) (hc : c ≤ 100) : (c + 127) * 8388608 ≤ single.nearest false M p % 2147483648 := by
  have hI : (c + (126 + 1)) * 8388608 ≤ 2139095040 := by omega
  unfold Format.nearest
  rw [if_neg hM]
  simp only [single_binade, single_inf, single_least, single_frac]
  have hk : ∀ last : Int, last = max (p + M.log2 - 23) (-149) → 2 ^ 23 ≤ Toward.even.cut false (M <<< (p - last).toNat) (last - p).toNat := by
    intro last hlast
    refine cut_ge (shift_ne hM) ?_
    rw [log_shift hM]
    omega
  have := hk _ rfl
  rw [word_rung (by omega)]
  have e : c + 126 ≤ ((max (p + M.log2 - (23 : Nat)) (-149) - -149).toNat) := by omega
  have e2 := Nat.mul_le_mul_right 8388608 e
  simp only [show ((23 : Nat) : Int) = 23 from rfl] at *
  exact least_sum e2 this hI
set_option maxRecDepth 20000 in
theorem read_geD {b c : Nat} (h : (c + 1023) * 4503599627370496 ≤ b % 9223372036854775808) (hi : b % 9223372036854775808 < 9218868437227405312) (hs : b < 9223372036854775808) :
    ∃ (m : Nat) (p : Int), double.read b = .number false m p ∧ m ≠ 0 ∧ (c : Int) ≤ (m.log2 : Int) + p := by
  unfold Format.read
  simp only [double_sign, double_binade, double_inf, double_least]
  have e2 : (b / 9223372036854775808 % 2 == 1) = false := by rw [Nat.div_eq_of_lt hs]; rfl
  rw [if_neg (by omega), if_pos hi, e2]
  generalize b % 9223372036854775808 = r at *
  have hm : 4503599627370496 + r % 4503599627370496 ≠ 0 := by omega
  have hl : (4503599627370496 + r % 4503599627370496).log2 = 52 := by
    rw [Nat.log2_eq_iff hm]
    constructor
    · show 4503599627370496 ≤ _; omega
    · show _ < 9007199254740992; omega
  refine ⟨_, _, rfl, hm, ?_⟩
  rw [hl]
  omega
theorem ge_val {x c : Nat} (h : (c + 127) * 8388608 ≤ x % 2147483648) (hi : x % 2147483648 < 2139095040) (hs : x < 2147483648) :
    ∃ (m k : Nat), single.read x = .number false m ((k : Int) - 149) ∧ 2 ^ (c + 149) ≤ m * 2 ^ k := by
  obtain ⟨s, m, k, e, h1, _⟩ := read_geJ (j := c + 127) (by omega) ⟨h, hi⟩
  obtain rfl := sign_false hs e
  exact ⟨m, k, e, by rw [show c + 149 = 22 + (c + 127) by omega]; exact h1⟩

/-! ### whole numbers -/
theorem int_bd' {n : Nat} (h : n < 2 ^ 60) : Bd 60 (floatOfInt .f32 (n : Int)) := int_bd (by simpa using h) (by omega)
theorem int_pos (n : Nat) : floatOfInt .f32 (n : Int) < 2147483648 := by
  show single.nearest (decide ((n : Int) < 0)) (n : Int).natAbs 0 < _
  rw [decide_eq_false (by omega)]
  exact near_false _ _
theorem conv_up_eq {K b : Nat} {s : Bool} {m k : Nat} (h : Bd K b) (hK : K ≤ 127) (e : single.read b = .number s m ((k : Int) - 149)) : floatToFloatBits .f32 b .f64 = some (double.nearest s m ((k : Int) - (149 : Nat))) := by
  obtain ⟨s', m', k', e', hm⟩ := read_bd h hK
  rw [e] at e'
  injection e' with a1 a2 a3
  subst a1
  subst a2
  have a4 : k' = k := by omega
  subst a4
  have hb : BdD (K + 1) (double.nearest s m ((k' : Int) - (149 : Nat))) := write_bdD (Nat.lt_of_le_of_lt hm (Nat.pow_lt_pow_right (by omega) (by omega))) (by omega)
  unfold floatToFloatBits
  rw [if_neg (by decide)]
  show (match single.read b with | .nan _ _ => none | .infinity s => _ | .number s m e => _) = _
  rw [e]
  show (if (double.read (double.nearest s m ((k' : Int) - (149 : Nat)))).isInfinity = true then none else some (double.nearest s m ((k' : Int) - (149 : Nat)))) = _
  rw [bdD_inf hb (by omega), if_neg (by decide)]
theorem conv_down_eq {r q : Nat} {s : Bool} {m : Nat} {p : Int} (e : double.read r = .number s m p) (h : floatToFloatBits .f64 r .f32 = some q) : q = single.nearest s m p := by
  unfold floatToFloatBits at h
  rw [if_neg (by decide)] at h
  have f4 : (match double.read r with | .nan _ _ => none | .infinity s => some (single.write (.infinity s)) | .number s m e => if (single.read (single.write (.number s m e))).isInfinity = true then none else some (single.write (.number s m e))) = some q := h
  rw [e] at f4
  simp only at f4
  split at f4
  · cases f4
  · injection f4 with f4
    exact f4.symm
set_option maxRecDepth 20000 in
theorem root_big {n : Nat} (h : 4096 ≤ n) (hn : n < 2 ^ 60) : ∃ m k : Nat, single.read (rootB (floatOfInt .f32 (n : Int))) = .number false m ((k : Int) - 149) ∧ 2 ^ (6 + 149) ≤ m * 2 ^ k := by
  have hb := int_bd' hn
  have hs := int_pos n
  have h1 : (12 + 127) * 8388608 ≤ floatOfInt .f32 (n : Int) % 2147483648 := by
    have h2 := near_geS (M := n) (p := 0) (c := 12) (by omega) (by have := (Nat.le_log2 (show n ≠ 0 by omega) (k := 12)).2 h; omega) (by omega)
    show _ ≤ single.nearest (decide ((n : Int) < 0)) (n : Int).natAbs 0 % _
    rw [decide_eq_false (by omega)]
    exact h2
  obtain ⟨d, r, c1, c2, c3, c4, c5, c6⟩ := root_okD hb hs (by omega)
  generalize floatOfInt .f32 (n : Int) = x at *
  obtain ⟨m0, k0, e0, v0⟩ := ge_val h1 (by unfold Bd at hb; omega) hs
  have hm0 : m0 ≠ 0 := by
    rintro rfl
    rw [Nat.zero_mul] at v0
    have := Nat.two_pow_pos (12 + 149)
    omega
  have hl0 := log_ge v0
  have d1 := conv_up_eq hb (by omega) e0
  obtain ⟨d', d2, d3, d4⟩ := conv_up hb (by omega)
  have hdd : d' = d := by rw [c1] at d2; injection d2 with d2; exact d2.symm
  subst hdd
  have hdv : d' = double.nearest false m0 ((k0 : Int) - (149 : Nat)) := by rw [c1] at d1; injection d1
  have g1 := near_geD (M := m0) (p := (k0 : Int) - (149 : Nat)) (c := 12) hm0 (by omega) (by omega)
  rw [← hdv] at g1
  obtain ⟨m1, p1, e1, hm1, hl1⟩ := read_geD g1 (by unfold BdD at d3; omega) (d4 hs)
  obtain ⟨M, p2, e2, hM, hl2⟩ := root_ge hm1 hl1
  have hr : r = double.nearest false M p2 := by
    have h9 : double.sqrt d' = some (double.nearest false M p2) := by
      unfold Format.sqrt
      rw [e1, double_frac]
      show (Datum.root 54 _).map double.write = _
      rw [e2]
      rfl
    rw [c2] at h9
    injection h9
  have g2 := near_geD (M := M) (p := p2) (c := 6) hM hl2 (by omega)
  rw [← hr] at g2
  have hrs : r < 9223372036854775808 := by rw [hr]; exact near_falseD _ _
  have hri : r % 9223372036854775808 < 9218868437227405312 := by
    unfold BdD at c6
    omega
  obtain ⟨m3, p3, e3, hm3, hl3⟩ := read_geD g2 hri hrs
  have hq := conv_down_eq e3 c3
  have g3 := near_geS (M := m3) (p := p3) (c := 6) hm3 hl3 (by omega)
  rw [← hq] at g3
  exact ge_val g3 (by unfold Bd at c4; omega) c5

theorem lt_small {x r : Nat} {m k : Nat} (e : single.read x = .number false m ((k : Int) - 149)) (h : 2 ^ (6 + 149) ≤ m * 2 ^ k) (hr : r ≤ 64) : lt x (floatOfInt .f32 (r : Int)) = false := by
  by_cases h0 : r = 0
  · subst h0
    exact nonneg_lt e
  · obtain ⟨M, j, g1, g2⟩ := int_single h0 (by omega)
    rw [lt_def (ord_val e g1), signed_nat, signed_nat, g2]
    have h2 : r * 2 ^ 149 ≤ 2 ^ (6 + 149) := by
      rw [Nat.pow_add]
      exact Nat.mul_le_mul_right _ hr
    generalize m * 2 ^ k = V at *
    generalize r * 2 ^ 149 = U at *
    rcases Nat.eq_or_lt_of_le (show U ≤ V by omega) with h3 | h3
    · rw [h3, Int.compare_eq_eq.2 rfl]; rfl
    · rw [Int.compare_eq_gt.2 (by omega)]; rfl
theorem lt_int {x r : Nat} {m k : Nat} (e : single.read x = .number false m ((k : Int) - 149)) (hr : r < 16777216) : lt x (floatOfInt .f32 (r : Int)) = decide (m * 2 ^ k < r * 2 ^ 149) := by
  by_cases h0 : r = 0
  · subst h0
    rw [Nat.zero_mul, decide_eq_false (by omega)]
    exact nonneg_lt e
  · obtain ⟨M, j, g1, g2⟩ := int_single h0 hr
    rw [lt_def (ord_val e g1), signed_nat, signed_nat, g2]
    generalize m * 2 ^ k = V at *
    generalize r * 2 ^ 149 = U at *
    rcases Nat.lt_trichotomy V U with h3 | h3 | h3
    · rw [Int.compare_eq_lt.2 (by omega), decide_eq_true h3]; rfl
    · rw [h3, Int.compare_eq_eq.2 rfl, decide_eq_false (by omega)]; rfl
    · rw [Int.compare_eq_gt.2 (by omega), decide_eq_false (by omega)]; rfl
def rootOk (s k : Nat) : Bool := lt (rootB (floatOfInt .f32 ((s * s + k : Nat) : Int))) (floatOfInt .f32 ((s + 1 : Nat) : Int)) && !lt (rootB (floatOfInt .f32 ((s * s + k : Nat) : Int))) (floatOfInt .f32 (s : Int))
set_option maxHeartbeats 0 in
theorem root_tab0 : ∀ s, s < 4 → ∀ k, k < 2 * (0 + s) + 1 → rootOk (0 + s) k = true := by decide +kernel
set_option maxHeartbeats 0 in
theorem root_tab1 : ∀ s, s < 4 → ∀ k, k < 2 * (4 + s) + 1 → rootOk (4 + s) k = true := by decide +kernel
set_option maxHeartbeats 0 in
theorem root_tab2 : ∀ s, s < 4 → ∀ k, k < 2 * (8 + s) + 1 → rootOk (8 + s) k = true := by decide +kernel
set_option maxHeartbeats 0 in
theorem root_tab3 : ∀ s, s < 4 → ∀ k, k < 2 * (12 + s) + 1 → rootOk (12 + s) k = true := by decide +kernel
set_option maxHeartbeats 0 in
theorem root_tab4 : ∀ s, s < 4 → ∀ k, k < 2 * (16 + s) + 1 → rootOk (16 + s) k = true := by decide +kernel
set_option maxHeartbeats 0 in
theorem root_tab5 : ∀ s, s < 4 → ∀ k, k < 2 * (20 + s) + 1 → rootOk (20 + s) k = true := by decide +kernel
set_option maxHeartbeats 0 in
theorem root_tab6 : ∀ s, s < 4 → ∀ k, k < 2 * (24 + s) + 1 → rootOk (24 + s) k = true := by decide +kernel
set_option maxHeartbeats 0 in
theorem root_tab7 : ∀ s, s < 4 → ∀ k, k < 2 * (28 + s) + 1 → rootOk (28 + s) k = true := by decide +kernel
set_option maxHeartbeats 0 in
theorem root_tab8 : ∀ s, s < 4 → ∀ k, k < 2 * (32 + s) + 1 → rootOk (32 + s) k = true := by decide +kernel
set_option maxHeartbeats 0 in
theorem root_tab9 : ∀ s, s < 4 → ∀ k, k < 2 * (36 + s) + 1 → rootOk (36 + s) k = true := by decide +kernel
set_option maxHeartbeats 0 in
theorem root_tab10 : ∀ s, s < 4 → ∀ k, k < 2 * (40 + s) + 1 → rootOk (40 + s) k = true := by decide +kernel
set_option maxHeartbeats 0 in
theorem root_tab11 : ∀ s, s < 4 → ∀ k, k < 2 * (44 + s) + 1 → rootOk (44 + s) k = true := by decide +kernel
set_option maxHeartbeats 0 in
theorem root_tab12 : ∀ s, s < 4 → ∀ k, k < 2 * (48 + s) + 1 → rootOk (48 + s) k = true := by decide +kernel
set_option maxHeartbeats 0 in
theorem root_tab13 : ∀ s, s < 4 → ∀ k, k < 2 * (52 + s) + 1 → rootOk (52 + s) k = true := by decide +kernel
set_option maxHeartbeats 0 in
theorem root_tab14 : ∀ s, s < 4 → ∀ k, k < 2 * (56 + s) + 1 → rootOk (56 + s) k = true := by decide +kernel
set_option maxHeartbeats 0 in
theorem root_tab15 : ∀ s, s < 4 → ∀ k, k < 2 * (60 + s) + 1 → rootOk (60 + s) k = true := by decide +kernel
theorem root_tab (s : Nat) (h : s < 64) (k : Nat) (hk : k < 2 * s + 1) : rootOk s k = true := by
  by_cases h0 : s < 4
  · have := root_tab0 (s - 0) (by omega) k (by omega)
    rwa [show 0 + (s - 0) = s by omega] at this
  by_cases h1 : s < 8
  · have := root_tab1 (s - 4) (by omega) k (by omega)
    rwa [show 4 + (s - 4) = s by omega] at this
  by_cases h2 : s < 12
  · have := root_tab2 (s - 8) (by omega) k (by omega)
    rwa [show 8 + (s - 8) = s by omega] at this
  by_cases h3 : s < 16
  · have := root_tab3 (s - 12) (by omega) k (by omega)
    rwa [show 12 + (s - 12) = s by omega] at this
  by_cases h4 : s < 20
  · have := root_tab4 (s - 16) (by omega) k (by omega)
    rwa [show 16 + (s - 16) = s by omega] at this
  by_cases h5 : s < 24
  · have := root_tab5 (s - 20) (by omega) k (by omega)
    rwa [show 20 + (s - 20) = s by omega] at this
  by_cases h6 : s < 28
  · have := root_tab6 (s - 24) (by omega) k (by omega)
    rwa [show 24 + (s - 24) = s by omega] at this
  by_cases h7 : s < 32
  · have := root_tab7 (s - 28) (by omega) k (by omega)
    rwa [show 28 + (s - 28) = s by omega] at this
  by_cases h8 : s < 36
  · have := root_tab8 (s - 32) (by omega) k (by omega)
    rwa [show 32 + (s - 32) = s by omega] at this
  by_cases h9 : s < 40
  · have := root_tab9 (s - 36) (by omega) k (by omega)
    rwa [show 36 + (s - 36) = s by omega] at this
  by_cases h10 : s < 44
  · have := root_tab10 (s - 40) (by omega) k (by omega)
    rwa [show 40 + (s - 40) = s by omega] at this
  by_cases h11 : s < 48
  · have := root_tab11 (s - 44) (by omega) k (by omega)
    rwa [show 44 + (s - 44) = s by omega] at this
  by_cases h12 : s < 52
  · have := root_tab12 (s - 48) (by omega) k (by omega)
    rwa [show 48 + (s - 48) = s by omega] at this
  by_cases h13 : s < 56
  · have := root_tab13 (s - 52) (by omega) k (by omega)
    rwa [show 52 + (s - 52) = s by omega] at this
  by_cases h14 : s < 60
  · have := root_tab14 (s - 56) (by omega) k (by omega)
    rwa [show 56 + (s - 56) = s by omega] at this
  by_cases h15 : s < 64
  · have := root_tab15 (s - 60) (by omega) k (by omega)
    rwa [show 60 + (s - 60) = s by omega] at this
  omega
theorem root_small {n : Nat} (h : n < 4096) : ∃ s, s < 64 ∧ s * s ≤ n ∧ n < (s + 1) * (s + 1) ∧ lt (rootB (floatOfInt .f32 (n : Int))) (floatOfInt .f32 ((s + 1 : Nat) : Int)) = true ∧ lt (rootB (floatOfInt .f32 (n : Int))) (floatOfInt .f32 (s : Int)) = false := by
  have key : ∀ t, n < t * t → ∃ s, s < t ∧ s * s ≤ n ∧ n < (s + 1) * (s + 1) := by
    intro t
    induction t with
    | zero => intro h; omega
    | succ t ih =>
      intro h
      rcases Nat.lt_or_ge n (t * t) with h1 | h1
      · obtain ⟨s, a, b, c⟩ := ih h1
        exact ⟨s, by omega, b, c⟩
      · exact ⟨t, by omega, h1, h⟩
  obtain ⟨s, a, b, c⟩ := key 64 (by omega)
  have e : (s + 1) * (s + 1) = s * s + 2 * s + 1 := by rw [Nat.add_mul, Nat.mul_add]; omega
  have h1 := root_tab s a (n - s * s) (by omega)
  unfold rootOk at h1
  rw [show s * s + (n - s * s) = n by omega] at h1
  rw [Bool.and_eq_true] at h1
  exact ⟨s, a, b, c, h1.1, by simpa using h1.2⟩
theorem root_lt {n r : Nat} (hn : n < 2 ^ 60) (hr : r ≤ 64) : lt (rootB (floatOfInt .f32 (n : Int))) (floatOfInt .f32 (r : Int)) = decide (n < r * r) := by
  rcases Nat.lt_or_ge n 4096 with h | h
  · obtain ⟨s, a, b, c, h1, h2⟩ := root_small h
    obtain ⟨_, _, _, _, _, b1, b2⟩ := root_ok (int_bd' hn) (int_pos n) (by omega)
    obtain ⟨g, m, k, e⟩ := (show ∃ (g : Bool) (m k : Nat), single.read (rootB (floatOfInt .f32 (n : Int))) = .number g m ((k : Int) - 149) from by
      obtain ⟨g, m, k, e, _⟩ := read_bd b1 (by omega)
      exact ⟨g, m, k, e⟩)
    obtain rfl := sign_false b2 e
    rw [lt_int e (by omega)] at h1 h2
    rw [lt_int e (by omega)]
    have h3 := of_decide_eq_true h1
    have h4 := of_decide_eq_false h2
    generalize m * 2 ^ k = V at *
    have h5 := Nat.two_pow_pos 149
    generalize 2 ^ 149 = T at *
    rcases Nat.lt_or_ge s r with h6 | h6
    · have h7 : (s + 1) * T ≤ r * T := Nat.mul_le_mul_right _ h6
      have h8 : (s + 1) * (s + 1) ≤ r * r := Nat.mul_le_mul h6 h6
      rw [decide_eq_true (show V < r * T by omega), decide_eq_true (show n < r * r by omega)]
    · have h7 : r * T ≤ s * T := Nat.mul_le_mul_right _ h6
      have h8 : r * r ≤ s * s := Nat.mul_le_mul h6 h6
      rw [decide_eq_false (show ¬ V < r * T by omega), decide_eq_false (show ¬ n < r * r by omega)]
  · obtain ⟨m, k, e, hv⟩ := root_big h hn
    rw [lt_small e hv hr]
    have h2 : r * r ≤ 64 * 64 := Nat.mul_le_mul hr hr
    exact (decide_eq_false (by omega)).symm
end Go.Proofs.YtgaonoklbihkjaaDoor
