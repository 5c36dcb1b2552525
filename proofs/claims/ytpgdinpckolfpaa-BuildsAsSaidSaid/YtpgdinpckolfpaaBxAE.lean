/- What a function returns behind field.Result, in parts, and the law's result of it. -/
import Derived.Test.YtpgdinpckolfpaaBxAA
import Derived.Test.YtpgdinpckolfpaaBxAD
import Derived.Test.YtpgdinpckolfpaaCheckP
import Derived.Test.YtpgdinpckolfpaaKeyB
import Derived.Test.YtpgdinpckolfpaaPlaces
import Derived.Deep.DeepCutAuto
import Derived.Test.YtpgdinpckolfpaaRdE
namespace Go.Proofs.Ytpgdinpckolfpaa
open Go.RowKit Ieee

/-- the nearest of the first i places that are near enough, and its distance -/
def nrS (inb : Nat → Bool) (ds : Nat → Int) : Nat → Int × Int
  | 0 => (-1, 0)
  | i + 1 => if inb i = true ∧ ((nrS inb ds i).1 < 0 ∨ ds i < (nrS inb ds i).2) then ((i : Int), ds i) else nrS inb ds i
/-- the nearest of the first i places, and its distance -/
def rfS (ds : Nat → Int) : Nat → Int × Int
  | 0 => (0, -1)
  | i + 1 => if (rfS ds i).2 < 0 ∨ ds i < (rfS ds i).2 then ((i : Int), ds i) else rfS ds i
theorem nrS_spec (inb : Nat → Bool) (ds : Nat → Int) : ∀ i, (nrS inb ds i = (-1, 0) ∧ ∀ j, j < i → inb j = false) ∨ ∃ b : Nat, b < i ∧ nrS inb ds i = ((b : Int), ds b) ∧ inb b = true ∧ (∀ j, j < i → inb j = true → ds b ≤ ds j) ∧ ∀ j, j < b → inb j = true → ds b < ds j
  | 0 => .inl ⟨rfl, fun j h => absurd h (Nat.not_lt_zero j)⟩
  | i + 1 => by
    have ih := nrS_spec inb ds i
    show (ite _ _ _ = _ ∧ _) ∨ ∃ b : Nat, b < i + 1 ∧ ite _ _ _ = _ ∧ _
    rcases ih with ⟨h1, h2⟩ | ⟨b, h1, h2, h3, h4, h5⟩
    · rw [h1]
      cases hi : inb i
      · left
        rw [if_neg (by simp)]
        refine ⟨rfl, fun j hj => ?_⟩
        by_cases e : j = i
        · subst e; exact hi
        · exact h2 j (by omega)
      · right
        refine ⟨i, by omega, by rw [if_pos ⟨rfl, .inl (by decide)⟩], hi, fun j hj hjb => ?_, fun j hj hjb => ?_⟩
        · by_cases e : j = i
          · subst e; exact Int.le_refl _
          · rw [h2 j (by omega)] at hjb; cases hjb
        · rw [h2 j hj] at hjb; cases hjb
    · right
      rw [h2]
      by_cases hc : inb i = true ∧ ((b : Int) < 0 ∨ ds i < ds b)
      · rw [if_pos hc]
        refine ⟨i, by omega, rfl, hc.1, fun j hj hjb => ?_, fun j hj hjb => ?_⟩
        · by_cases e : j = i
          · subst e; exact Int.le_refl _
          · have := h4 j (by omega) hjb; omega
        · have := h4 j hj hjb; omega
      · rw [if_neg hc]
        refine ⟨b, by omega, rfl, h3, fun j hj hjb => ?_, h5⟩
        by_cases e : j = i
        · subst e
          have h6 : ¬ (ds j < ds b) := fun h => hc ⟨hjb, .inr h⟩
          omega
        · exact h4 j (by omega) hjb
theorem rfS_spec (ds : Nat → Int) (h0 : ∀ j, 0 ≤ ds j) : ∀ i, 0 < i → ∃ b : Nat, b < i ∧ rfS ds i = ((b : Int), ds b) ∧ (∀ j, j < i → ds b ≤ ds j) ∧ ∀ j, j < b → ds b < ds j
  | 0, h => absurd h (Nat.lt_irrefl 0)
  | i + 1, _ => by
    show ∃ b : Nat, b < i + 1 ∧ ite _ _ _ = _ ∧ _
    rcases Nat.eq_zero_or_pos i with rfl | hi
    · exact ⟨0, by omega, by rw [if_pos (.inl (show (-1 : Int) < 0 by decide))], fun j hj => by rw [show j = 0 by omega]; exact Int.le_refl _, fun j hj => absurd hj (Nat.not_lt_zero j)⟩
    · obtain ⟨b, h1, h2, h4, h5⟩ := rfS_spec ds h0 i hi
      rw [h2]
      by_cases hc : ds b < 0 ∨ ds i < ds b
      · have hlt : ds i < ds b := by have := h0 b; omega
        rw [if_pos hc]
        refine ⟨i, by omega, rfl, fun j hj => ?_, fun j hj => ?_⟩
        · by_cases e : j = i
          · subst e; exact Int.le_refl _
          · have := h4 j (by omega); omega
        · have := h4 j hj; omega
      · rw [if_neg hc]
        refine ⟨b, by omega, rfl, fun j hj => ?_, h5⟩
        by_cases e : j = i
        · subst e; omega
        · exact h4 j (by omega)
theorem near_same {inb : Nat → Bool} {ds : Nat → Int} {T : Int} {n : Nat} (h0 : ∀ j, 0 ≤ ds j) (hT : ∀ j, j < n → inb j = false → T ≤ ds j) (hn : 0 < n) :
    ((rfS ds n).2 < T → nrS inb ds n = rfS ds n) ∧ (T ≤ (rfS ds n).2 → (nrS inb ds n).1 = -1 ∨ (0 ≤ (nrS inb ds n).1 ∧ (nrS inb ds n).1 < n ∧ T ≤ (nrS inb ds n).2)) := by
  obtain ⟨b, b1, b2, b3, b4⟩ := rfS_spec ds h0 n hn
  rw [b2]
  rcases nrS_spec inb ds n with ⟨h1, h2⟩ | ⟨c, c1, c2, c3, c4, c5⟩
  · rw [h1]
    refine ⟨fun h => ?_, fun _ => .inl rfl⟩
    have := hT b b1 (h2 b b1)
    dsimp only at h
    omega
  · rw [c2]
    refine ⟨fun h => ?_, fun h => .inr ⟨by dsimp only; omega, by dsimp only; omega, ?_⟩⟩
    · dsimp only at h
      have hb : inb b = true := by
        cases hb : inb b
        · have := hT b b1 hb; omega
        · rfl
      have e1 := c4 b b1 hb
      have e2 := b3 c c1
      have e : c = b := by
        rcases Nat.lt_trichotomy c b with h9 | h9 | h9
        · have := b4 c h9; omega
        · exact h9
        · have := c5 b h9 hb; omega
      subst e
      rfl
    · dsimp only at h ⊢
      have := b3 c c1
      omega
theorem rfS_in {ds : Nat → Int} {n : Nat} (h0 : ∀ j, 0 ≤ ds j) (hn : 0 < n) : 0 ≤ (rfS ds n).1 ∧ (rfS ds n).1 < n ∧ ∃ b, b < n ∧ (rfS ds n).2 = ds b := by
  obtain ⟨b, b1, b2, _, _⟩ := rfS_spec ds h0 n hn
  rw [b2]
  exact ⟨by dsimp only; omega, by dsimp only; omega, b, b1, rfl⟩

/-- which share of the soft part lies behind -/
def shF (wide soft : Nat) (l : Int) : Nat := fdiv (fsub (rootB (floatOfInt .f32 l)) (floatOfInt .f32 (wide : Int))) (floatOfInt .f32 (soft : Int))
def easeB (s : Nat) : Nat := fmul (fmul s s) (fsub 1077936128 (fmul 1073741824 s))
/-- what a cell becomes where the place b is the nearest -/
def valW (wide soft : Nat) (bed : Nat → Nat) (v : Nat) (b : Int × Int) : Nat :=
  if b.2 ≤ (wide : Int) * wide then bed b.1.toNat else if lt (shF wide soft b.2) 1065353216 = true then mixB (bed b.1.toNat) v (easeB (shF wide soft b.2)) else v
def bldW (wide soft : Nat) (bed : Nat → Nat) (v : Nat) (b : Int × Int) : Nat := if b.1 < 0 then v else valW wide soft bed v b
theorem write_ge0 {neg : Bool} {m k N : Nat} (h0 : 2 ^ N ≤ m * 2 ^ k) : 127 * 8388608 ≤ (single.nearest neg m ((k : Int) - N)) % 2147483648 := by
  have hm : m ≠ 0 := by
    rintro rfl
    have := Nat.two_pow_pos N
    omega
  have hg := log_ge h0
  unfold Format.nearest
  rw [if_neg hm]
  simp only [single_binade, single_inf, single_least, single_frac]
  have hc : ∀ last : Int, last = max ((k : Int) - N + m.log2 - 23) (-149) → 2 ^ 23 ≤ Toward.even.cut neg (m <<< ((k : Int) - N - last).toNat) (last - ((k : Int) - N)).toNat := by
    intro last hlast
    refine cut_ge (shift_ne hm) ?_
    rw [log_shift hm]
    omega
  have := hc _ rfl
  rw [word_rung (by omega)]
  have e : 126 ≤ ((max ((k : Int) - N + m.log2 - (23 : Nat)) (-149) - -149).toNat) := by omega
  have := Nat.mul_le_mul_right 8388608 e
  simp only [show ((23 : Nat) : Int) = 23 from rfl] at *
  omega
theorem quot_core {m n k j more : Nat} (hn : n ≠ 0) (hmore : more = 23 + 2 + n.log2 - m.log2) (h : n * 2 ^ j ≤ m * 2 ^ k) : 2 ^ (j + more + 1) ≤ (2 * (m * 2 ^ more / n) + (m * 2 ^ more % n != 0).toNat) * 2 ^ k := by
  have hm : m ≠ 0 := by
    rintro rfl
    rw [Nat.zero_mul] at h
    have := Nat.mul_pos (Nat.pos_of_ne_zero hn) (Nat.two_pow_pos j)
    omega
  have hq1 : 1 ≤ m * 2 ^ more / n := by
    refine (Nat.one_le_div_iff (by omega)).2 ?_
    have h1 : 2 ^ m.log2 ≤ m := Nat.log2_self_le hm
    have h2 : n < 2 ^ (n.log2 + 1) := Nat.lt_log2_self
    have h3 : 2 ^ m.log2 * 2 ^ more ≤ m * 2 ^ more := Nat.mul_le_mul_right _ h1
    rw [← Nat.pow_add] at h3
    have h4 : 2 ^ (n.log2 + 1) ≤ 2 ^ (m.log2 + more) := Nat.pow_le_pow_right (by omega) (by omega)
    omega
  have key : 2 ^ (j + more) ≤ m * 2 ^ more / n * 2 ^ k := by
    rcases Nat.lt_or_ge (j + more) k with hk | hk
    · have h5 : 2 ^ (j + more) ≤ 2 ^ k := Nat.pow_le_pow_right (by omega) (by omega)
      have h6 : 1 * 2 ^ k ≤ m * 2 ^ more / n * 2 ^ k := Nat.mul_le_mul_right _ hq1
      omega
    · have e : j + more = (j + more - k) + k := by omega
      have h7 : 2 ^ (j + more - k) ≤ m * 2 ^ more / n := by
        rw [Nat.le_div_iff_mul_le (Nat.pos_of_ne_zero hn)]
        refine Nat.le_of_mul_le_mul_right (c := 2 ^ k) ?_ (Nat.two_pow_pos k)
        have e1 : 2 ^ (j + more - k) * n * 2 ^ k = n * 2 ^ j * 2 ^ more := by
          rw [Nat.mul_comm _ n, Nat.mul_assoc, ← Nat.pow_add, Nat.mul_assoc, ← Nat.pow_add, ← e]
        have e2 : m * 2 ^ more * 2 ^ k = m * 2 ^ k * 2 ^ more := by simp only [Nat.mul_assoc, Nat.mul_comm, Nat.mul_left_comm]
        rw [e1, e2]
        exact Nat.mul_le_mul_right _ h
      rw [e, Nat.pow_add]
      exact Nat.mul_le_mul_right _ h7
  rw [Nat.pow_succ, Nat.add_mul]
  have e3 : 2 * (m * 2 ^ more / n) * 2 ^ k = m * 2 ^ more / n * 2 ^ k * 2 := by rw [Nat.mul_assoc, Nat.mul_comm 2]
  rw [e3]
  omega
theorem quot_ge {K x y : Nat} (hx : Bd K x) (hK : K ≤ 120) (hy : Ge1 y) (sy : y < 2147483648) (hyx : valI y ≤ valI x) (h0 : 0 < valI y) (hB : Fin (fdiv x y)) : lt (fdiv x y) 1065353216 = false := by
  have hFx := bd_Fin hx (by omega)
  have hFy : Fin y := hy.2
  obtain ⟨s, m, k, e1, v1, _, _⟩ := read_val hFx
  obtain ⟨t, n, j, e2, v2, _, _⟩ := read_val hFy
  have ht := sign_false sy e2
  subst ht
  have hs : s = false := by
    cases s
    · rfl
    · rw [signed_val, if_pos rfl] at v1
      omega
  subst hs
  rw [signed_val, if_neg (by decide)] at v1 v2
  have hn : n ≠ 0 := by
    rintro rfl
    rw [Nat.zero_mul] at v2
    omega
  have hle : n * 2 ^ j ≤ m * 2 ^ k := by omega
  have hd : floatBits .quo .f32 x y = single.div x y := rfl
  have hr : 127 * 8388608 ≤ fdiv x y % 2147483648 ∧ fdiv x y < 2147483648 := by
    unfold fdiv
    rw [hd]
    unfold Format.div
    rw [e1, e2]
    simp only [Datum.quotient, if_neg hn, Option.map_some, Option.getD_some, Format.write, single_frac]
    generalize hmore : 23 + 2 + n.log2 - m.log2 = more
    rw [show ((k : Int) - 149 - ((j : Int) - 149) - more - 1) = (k : Int) - ((j + more + 1 : Nat) : Int) by omega]
    rw [Nat.shiftLeft_eq]
    exact ⟨write_ge0 (quot_core hn hmore.symm hle), near_false _ _⟩
  generalize fdiv x y = r at *
  have h1 : Fin 1065353216 := bd_Fin one_bd (by omega)
  rw [lt_val hB h1]
  refine decide_eq_false ?_
  have a1 := valN_le hr.1
  have a2 : valN (127 * 8388608) = 2 ^ 149 := by decide +kernel
  have a3 : valI 1065353216 = ((2 ^ 149 : Nat) : Int) := by decide +kernel
  have a4 : valI r = ((valN (r % 2147483648) : Nat) : Int) := by
    unfold valI
    rw [if_neg (by omega)]
  rw [a3, a4]
  rw [a2] at a1
  omega
end Go.Proofs.Ytpgdinpckolfpaa

namespace Go.Proofs.Ytpgdinpckolfpaa
open Go.RowKit Ieee

theorem int_tab : ∀ a, a < 21 → ∀ b, b < 21 → valI (floatOfInt .f32 ((a + b + 1 : Nat) : Int)) = valI (floatOfInt .f32 (a : Int)) + valI (floatOfInt .f32 ((b + 1 : Nat) : Int)) := by decide +kernel
theorem int5 {n : Nat} (h : n < 32) : Bd 5 (floatOfInt .f32 (n : Int)) := int_bd (by simpa using h) (by omega)
theorem int_nn (n : Nat) : 0 ≤ valI (floatOfInt .f32 (n : Int)) := valI_lt (int_pos n)
theorem int_gt0 {n : Nat} (h : 1 ≤ n) (hn : n < 32) : Ge1 (floatOfInt .f32 (n : Int)) ∧ 0 < valI (floatOfInt .f32 (n : Int)) := by
  have hg : Ge1 (floatOfInt .f32 (n : Int)) := int_ge (by simp; omega) (by
    have : (2 : Nat) ^ 5 ≤ 2 ^ 127 := Nat.pow_le_pow_right (by omega) (by omega)
    simp
    omega)
  refine ⟨hg, ?_⟩
  have hp := int_pos n
  have h2 : 0 < floatOfInt .f32 (n : Int) % 2147483648 := by have := hg.1; omega
  have h3 := valN_pos h2
  unfold valI
  rw [if_neg (by omega)]
  omega
theorem int_succ {n : Nat} (h : n < 21) : valI (floatOfInt .f32 (n : Int)) ≤ valI (floatOfInt .f32 ((n + 1 : Nat) : Int)) := by
  have t2 := int_tab n h 0 (by omega)
  have t3 := int_nn (0 + 1)
  rw [Nat.add_zero] at t2
  generalize valI (floatOfInt .f32 ((n + 1 : Nat) : Int)) = va at *
  generalize valI (floatOfInt .f32 ((0 + 1 : Nat) : Int)) = vb at *
  generalize valI (floatOfInt .f32 (n : Int)) = vc at *
  omega
theorem rkey_0 : rkey 0 = 0 := by
  have h := rkey_val (b := 0) (bd_Fin zero_bd (by omega))
  rw [val_zero] at h
  rw [h]
  decide
theorem sh_ok {wide soft m : Nat} (hw : wide ≤ 20) (h1 : 1 ≤ soft) (hs : soft ≤ 20) (hm : m < 2 ^ 60) (hl : wide * wide < m) :
    floatBits .sub .f32 (rootB (floatOfInt .f32 (m : Int))) (floatOfInt .f32 (wide : Int)) = some (fsub (rootB (floatOfInt .f32 (m : Int))) (floatOfInt .f32 (wide : Int))) ∧
      floatBits .quo .f32 (fsub (rootB (floatOfInt .f32 (m : Int))) (floatOfInt .f32 (wide : Int))) (floatOfInt .f32 (soft : Int)) = some (shF wide soft m) ∧ Bd 71 (shF wide soft m) ∧ 0 ≤ valI (shF wide soft m) ∧
      ((wide + soft + 1) * (wide + soft + 1) ≤ m → lt (shF wide soft m) 1065353216 = false) := by
  obtain ⟨_, _, _, _, _, hR, hRs⟩ := root_ok (int_bd' hm) (int_pos m) (by omega)
  have hW : Bd 67 (floatOfInt .f32 (wide : Int)) := (int5 (by omega)).mono (by omega)
  obtain ⟨s1, s2⟩ := fsub_ok hR hW (by omega)
  obtain ⟨hg, hg0⟩ := int_gt0 h1 (by omega)
  obtain ⟨r, q1, q2⟩ := fdiv_bd s2 hg (by omega)
  have hq : floatBits .quo .f32 (fsub (rootB (floatOfInt .f32 (m : Int))) (floatOfInt .f32 (wide : Int))) (floatOfInt .f32 (soft : Int)) = some r := q1
  have hf : shF wide soft m = r := by unfold shF fdiv; rw [hq]; rfl
  have hRF := bd_Fin hR (by omega)
  have hWF := bd_Fin hW (by omega)
  have hk := fsub_key hR hW (by omega)
  have r1 := root_lt (r := wide) hm (by omega)
  rw [lt_val hRF hWF, decide_eq_decide] at r1
  have hv0 : valI (floatOfInt .f32 (wide : Int)) ≤ valI (rootB (floatOfInt .f32 (m : Int))) := by
    rcases Int.lt_or_le (valI (rootB (floatOfInt .f32 (m : Int)))) (valI (floatOfInt .f32 (wide : Int))) with h | h
    · have := r1.1 h; omega
    · exact h
  have hsn : 0 ≤ valI (fsub (rootB (floatOfInt .f32 (m : Int))) (floatOfInt .f32 (wide : Int))) := by
    rw [← val_zero, val_key_le, hk]
    have e : keyI 0 = 0 := by decide
    rw [e, ← rkey_0]
    exact rkey_mono (by omega)
  rw [hf]
  refine ⟨s1, hq, q2, ?_, fun hT => ?_⟩
  · rw [← hf]
    exact div_nonneg s2 (by omega) hg (int_nn soft) hsn
  · have r2 := root_lt (r := wide + soft + 1) hm (by omega)
    have hF2 : Fin (floatOfInt .f32 ((wide + soft + 1 : Nat) : Int)) := bd_Fin (int_bd (K := 6) (by simp; omega) (by omega)) (by omega)
    rw [lt_val hRF hF2, decide_eq_decide] at r2
    have hv1 : valI (floatOfInt .f32 ((wide + soft + 1 : Nat) : Int)) ≤ valI (rootB (floatOfInt .f32 (m : Int))) := by
      rcases Int.lt_or_le (valI (rootB (floatOfInt .f32 (m : Int)))) (valI (floatOfInt .f32 ((wide + soft + 1 : Nat) : Int))) with h | h
      · have := r2.1 h; omega
      · exact h
    have t1 := int_tab wide (by omega) soft (by omega)
    have t2 := int_succ (n := soft) (by omega)
    have hF3 : Fin (floatOfInt .f32 ((soft + 1 : Nat) : Int)) := bd_Fin (int5 (by omega)) (by omega)
    have hge : valI (floatOfInt .f32 ((soft + 1 : Nat) : Int)) ≤ valI (fsub (rootB (floatOfInt .f32 (m : Int))) (floatOfInt .f32 (wide : Int))) := by
      rw [val_key_le, hk, ← rkey_val hF3]
      refine rkey_mono ?_
      clear hk hW hR s1 s2 q1 q2 hq hf
      generalize valI (floatOfInt .f32 ((wide + soft + 1 : Nat) : Int)) = va at *
      generalize valI (floatOfInt .f32 ((soft + 1 : Nat) : Int)) = vb at *
      generalize valI (floatOfInt .f32 (wide : Int)) = vc at *
      generalize valI (rootB (floatOfInt .f32 (m : Int))) = vd at *
      omega
    rw [← hf]
    refine quot_ge s2 (by omega) hg (int_pos soft) ?_ hg0 ?_
    · exact Int.le_trans t2 hge
    · have : Fin r := bd_Fin q2 (by omega)
      rw [← hf] at this
      exact this
theorem valW_far {wide soft : Nat} {bed : Nat → Nat} {v : Nat} {b : Int × Int} (hw : wide ≤ 20) (h1 : 1 ≤ soft) (hs : soft ≤ 20) (hT : ((wide + soft + 1 : Nat) : Int) * ((wide + soft + 1 : Nat) : Int) ≤ b.2) (hb : b.2 < 2 ^ 60) : valW wide soft bed v b = v := by
  obtain ⟨m, hm⟩ : ∃ m : Nat, b.2 = m := ⟨b.2.toNat, by
    have : (0 : Int) ≤ ((wide + soft + 1 : Nat) : Int) * ((wide + soft + 1 : Nat) : Int) := Int.mul_nonneg (by omega) (by omega)
    omega⟩
  have hT' : (wide + soft + 1) * (wide + soft + 1) ≤ m := by
    rw [hm, ← Int.natCast_mul] at hT
    exact Int.ofNat_le.1 hT
  have hww : wide * wide < (wide + soft + 1) * (wide + soft + 1) := Nat.mul_lt_mul'' (by omega) (by omega)
  have hm60 : m < 2 ^ 60 := by
    rw [hm] at hb
    have h9 : (m : Int) < ((2 ^ 60 : Nat) : Int) := by simpa using hb
    exact Int.ofNat_lt.1 h9
  obtain ⟨_, _, _, _, h⟩ := sh_ok hw h1 hs hm60 (by omega : wide * wide < m)
  unfold valW
  rw [hm, if_neg (by rw [← Int.natCast_mul]; omega), h hT', if_neg (by decide)]
theorem bld_eq {wide soft n : Nat} {inb : Nat → Bool} {ds : Nat → Int} {bed : Nat → Nat} {v : Nat} (hw : wide ≤ 20) (h1 : 1 ≤ soft) (hs : soft ≤ 20) (h0 : ∀ j, 0 ≤ ds j) (hb : ∀ j, ds j < 2 ^ 60)
    (hT : ∀ j, j < n → inb j = false → ((wide + soft + 1 : Nat) : Int) * ((wide + soft + 1 : Nat) : Int) ≤ ds j) (hn : 0 < n) : bldW wide soft bed v (nrS inb ds n) = valW wide soft bed v (rfS ds n) := by
  obtain ⟨a1, a2⟩ := near_same h0 hT hn
  obtain ⟨r1, _, c, _, r3⟩ := rfS_in h0 hn
  rcases Int.lt_or_le (rfS ds n).2 (((wide + soft + 1 : Nat) : Int) * ((wide + soft + 1 : Nat) : Int)) with h | h
  · rw [a1 h]
    unfold bldW
    rw [if_neg (by omega)]
  · rw [valW_far hw h1 hs h (by rw [r3]; exact hb c)]
    unfold bldW
    rcases a2 h with e | ⟨e1, _, e2⟩
    · rw [e, if_pos (by decide)]
    · rw [if_neg (by omega)]
      refine valW_far hw h1 hs e2 ?_
      rcases nrS_spec inb ds n with ⟨q, _⟩ | ⟨d, _, q, _⟩
      · rw [q]; decide
      · rw [q]; exact hb d
theorem share_bd {s : Nat} (hF : Fin s) (h0 : 0 ≤ valI s) (h : lt s 1065353216 = true) : Bd 0 s := by
  rw [lt_val hF (bd_Fin one_bd (by omega))] at h
  have h1 : valI s < valI 1065353216 := of_decide_eq_true h
  have a3 : valI 1065353216 = ((2 ^ 149 : Nat) : Int) := by decide +kernel
  rw [a3] at h1
  rw [bd_valI (by omega)]
  rw [Nat.zero_add]
  omega
theorem ease_ok {s : Nat} (hs : Bd 0 s) : floatBits .mul .f32 s s = some (fmul s s) ∧ floatBits .mul .f32 1073741824 s = some (fmul 1073741824 s) ∧ floatBits .sub .f32 1077936128 (fmul 1073741824 s) = some (fsub 1077936128 (fmul 1073741824 s)) ∧
    floatBits .mul .f32 (fmul s s) (fsub 1077936128 (fmul 1073741824 s)) = some (easeB s) ∧ Bd 6 (easeB s) := by
  obtain ⟨a1, a2⟩ := fmul_ok hs hs (by omega)
  obtain ⟨b1, b2⟩ := fmul_ok (K := 1) (x := 1073741824) (by unfold Bd; decide) hs (by omega)
  obtain ⟨c1, c2⟩ := fsub_ok (K := 2) (x := 1077936128) (by unfold Bd; decide) b2 (by omega)
  obtain ⟨d1, d2⟩ := fmul_ok a2 c2 (by omega)
  exact ⟨a1, b1, c1, d1, d2⟩
theorem mix6_ok {p q t : Nat} (hp : Bd 20 p) (hq : Bd 20 q) (ht : Bd 6 t) : floatBits .sub .f32 q p = some (fsub q p) ∧ floatBits .mul .f32 (fsub q p) t = some (fmul (fsub q p) t) ∧ floatBits .add .f32 p (fmul (fsub q p) t) = some (mixB p q t) ∧ Bd 31 (mixB p q t) := by
  have h1 := fsub_ok hq hp (by omega)
  have h2 := fmul_ok h1.2 ht (by omega)
  have h3 := fadd_ok (K := 29) (hp.mono (by omega)) (h2.2.mono (by omega)) (by omega)
  exact ⟨h1.1, h2.1, h3.1, h3.2⟩
end Go.Proofs.Ytpgdinpckolfpaa

namespace Go.Proofs.Ytpgdinpckolfpaa
open Go.RowKit
attribute [local go_sem ↓] Go.wp_at_zero Go.wp_at_succ
attribute [local go_sem] run_store_float

theorem ease_any {s : Nat} (hs : Bd 0 s) (w : World) : Calls Try.prog 122 #[.float .f32 s] w fun e w' => e = .returned (.float .f32 (easeB s)) ∧ w' = w := by
  obtain ⟨h1, h2, h3, h4, _⟩ := ease_ok hs
  have q1 := fun (w : World) => run_float_arith (P := Try.prog) w .mul 27 .f32 _ _ _ h1
  have q2 := fun (w : World) => run_float_arith (P := Try.prog) w .mul 27 .f32 _ _ _ h2
  have q3 := fun (w : World) => run_float_arith (P := Try.prog) w .sub 27 .f32 _ _ _ h3
  have q4 := fun (w : World) => run_float_arith (P := Try.prog) w .mul 27 .f32 _ _ _ h4
  clear h1 h2 h3 h4 hs
  generalize easeB s = r at *
  generalize fsub 1077936128 (fmul 1073741824 s) = u at *
  generalize fmul 1073741824 s = v at *
  generalize fmul s s = z at *
  go_enter Try.func122, Try.ntmps122
  go_wp2
  go_ret
  exact ⟨rfl, rfl⟩
theorem easeOf_any {s : Nat} (hs : Bd 0 s) (w : World) : Calls Try.prog 100 #[.float .f32 s] w fun e w' => e = .returned (.float .f32 (easeB s)) ∧ w' = w := by
  obtain ⟨h1, h2, h3, h4, _⟩ := ease_ok hs
  have q1 := fun (w : World) => run_float_arith (P := Try.prog) w .mul 27 .f32 _ _ _ h1
  have q2 := fun (w : World) => run_float_arith (P := Try.prog) w .mul 27 .f32 _ _ _ h2
  have q3 := fun (w : World) => run_float_arith (P := Try.prog) w .sub 27 .f32 _ _ _ h3
  have q4 := fun (w : World) => run_float_arith (P := Try.prog) w .mul 27 .f32 _ _ _ h4
  clear h1 h2 h3 h4 hs
  generalize easeB s = r at *
  generalize fsub 1077936128 (fmul 1073741824 s) = u at *
  generalize fmul 1073741824 s = v at *
  generalize fmul s s = z at *
  go_enter Try.func100, Try.ntmps100
  go_wp2
  go_ret
  exact ⟨rfl, rfl⟩
theorem share_any {s : Nat} (hF : finB s = true) (h0 : lt s 0 = false) (h1 : gt s 1065353216 = false) (w : World) : Calls Try.prog 121 #[.float .f32 s] w fun e w' => e = .returned (.int .i64 0) ∧ Ext w w' := by
  have HFi := fun (g : Nat) (w' : World) (h : Bk w' g 27 #[.float .f32 s]) => hidA (Finite_any (some ⟨g, 0, none⟩) 1 1 [s] w' rfl (fun _ => ⟨_, rfl, h.lt, fun j u hu => by rw [lit_add, h.cell]; simpa [flt] using hu⟩) (by omega))
  rw [finE_one, hF, if_pos rfl] at HFi
  have c0 : (FloatKind.f32.format.order s 0 == some .lt) = false := h0
  have c1 : (FloatKind.f32.format.order s 1065353216 == some .gt) = false := h1
  clear hF h0 h1
  go_enter Try.func121, Try.ntmps121
  go_wp2_with (go_at_call 114; refine ((HFi _ _ (Bk.new' rfl)).out).mono ?_; rintro e w2 ⟨rfl, hw2⟩; subst hw2)
  go_ret
  exact ⟨rfl, (by repeat (first | exact Ext.refl _ | assumption | refine Ext.setCell ?_ (by first | (simp; done) | (simp; omega)) _ | refine Ext.drewN ?_ _ | refine Ext.alloc ?_ _ | refine Ext.drew ?_ | refine Ext.trans ?_ (by assumption)))⟩
theorem Ease_any {s : Nat} (hs : Bd 0 s) (h0 : lt s 0 = false) (h1 : gt s 1065353216 = false) (w : World) : Calls Try.prog 97 #[.float .f32 s] w fun e w' => e = .returned (.tuple #[.float .f32 (easeB s), .int .i64 0]) ∧ Ext w w' := by
  have HS := fun (w : World) => hidA (share_any (bd_finB hs (by omega)) h0 h1 w)
  have HE := fun (w : World) => hidA (ease_any hs w)
  clear hs h0 h1
  go_enter Try.func97, Try.ntmps97
  go_wp2_with (first | (go_at_call 121; refine ((HS _).out).mono ?_; rintro e w1 ⟨rfl, hx1⟩) | (go_at_call 122; refine ((HE _).out).mono ?_; rintro e w2 ⟨rfl, hw2⟩; subst hw2))
  go_ret2
  exact ⟨rfl, (by repeat (first | exact Ext.refl _ | assumption | refine Ext.setCell ?_ (by first | (simp; done) | (simp; omega)) _ | refine Ext.drewN ?_ _ | refine Ext.alloc ?_ _ | refine Ext.drew ?_ | refine Ext.trans ?_ (by assumption)))⟩
theorem mix6_any {p q t : Nat} (w : World) (hp : Bd 20 p) (hq : Bd 20 q) (ht : Bd 6 t) :
    Calls Try.prog 81 #[.float .f32 p, .float .f32 q, .float .f32 t] w fun e w' => e = .returned (.float .f32 (mixB p q t)) ∧ w' = w := by
  obtain ⟨h1, h2, h3, _⟩ := mix6_ok hp hq ht
  have q1 := fun (w : World) => run_float_arith (P := Try.prog) w .sub 27 .f32 _ _ _ h1
  have q2 := fun (w : World) => run_float_arith (P := Try.prog) w .mul 27 .f32 _ _ _ h2
  have q3 := fun (w : World) => run_float_arith (P := Try.prog) w .add 27 .f32 _ _ _ h3
  clear h1 h2 h3 hp hq ht
  generalize mixB p q t = r at *
  generalize fmul (fsub q p) t = u at *
  generalize fsub q p = d at *
  go_enter Try.func81, Try.ntmps81
  go_wp2
  go_ret
  exact ⟨rfl, rfl⟩
set_option maxRecDepth 100000 in
set_option maxHeartbeats 3200000 in
theorem Copy_any (X Y : Int) (Wn Hn N c : Nat) (ad : Addr) (l : List Nat) (w : World) (hl : l.length = N) (hV : Rd w (some ad) (flt l)) (h1 : 1 ≤ N) (hb : N ≤ 262144) :
    Calls Try.prog 95 #[.agg #[.int .i64 X, .int .i64 Y, .int .i64 (Wn : Int), .int .i64 (Hn : Int), .slice (some ad) N c]] w fun e w' => ∃ g cap cur, e = .returned (.agg #[.int .i64 X, .int .i64 Y, .int .i64 (Wn : Int), .int .i64 (Hn : Int), .slice (some ⟨g, 0, none⟩) N cap]) ∧ w.heap.size ≤ g ∧ Cl w' g cap cur N (fun k => l.getD k 0) ∧ Ext w w' := by
  have HC := fun (wa : World) (hx : Ext w wa) => hidA (Clone_any ad N c l wa hl (hV.ext hx) h1 hb)
  clear hl hV
  go_enter Try.func95, Try.ntmps95
  go_upto_region 1 with fail
  have kA : Bk (w.alloc (.cells #[.int .i64 X, .int .i64 Y, .int .i64 (Wn : Int), .int .i64 (Hn : Int), .slice (some ad) N c] 26)) w.heap.size 26 #[.int .i64 X, .int .i64 Y, .int .i64 (Wn : Int), .int .i64 (Hn : Int), .slice (some ad) N c] := Bk.new' rfl
  have hxA : Ext w (w.alloc (.cells #[.int .i64 X, .int .i64 Y, .int .i64 (Wn : Int), .int .i64 (Hn : Int), .slice (some ad) N c] 26)) := (Ext.refl w).alloc _
  have hsz : (w.alloc (.cells #[.int .i64 X, .int .i64 Y, .int .i64 (Wn : Int), .int .i64 (Hn : Int), .slice (some ad) N c] 26)).heap.size = w.heap.size + 1 := by simp
  generalize w.alloc (.cells #[.int .i64 X, .int .i64 Y, .int .i64 (Wn : Int), .int .i64 (Hn : Int), .slice (some ad) N c] 26) = w0 at *
  have c0 : ∀ w', Ext w0 w' → w'.cell? ⟨w.heap.size, 0, none⟩ = some (.int .i64 X) := fun w' h => (kA.ext h).cell 0
  have c1 : ∀ w', Ext w0 w' → w'.cell? ⟨w.heap.size, 1, none⟩ = some (.int .i64 Y) := fun w' h => (kA.ext h).cell 1
  have c2 : ∀ w', Ext w0 w' → w'.cell? ⟨w.heap.size, 2, none⟩ = some (.int .i64 (Wn : Int)) := fun w' h => (kA.ext h).cell 2
  have c3 : ∀ w', Ext w0 w' → w'.cell? ⟨w.heap.size, 3, none⟩ = some (.int .i64 (Hn : Int)) := fun w' h => (kA.ext h).cell 3
  have c4 : ∀ w', Ext w0 w' → w'.cell? ⟨w.heap.size, 4, none⟩ = some (.slice (some ad) N c) := fun w' h => (kA.ext h).cell 4
  have kB : Bk (w0.alloc (.cells #[.int .i64 0, .int .i64 0, .int .i64 0, .int .i64 0, .slice none 0 0] 26)) (w.heap.size + 1) 26 #[.int .i64 0, .int .i64 0, .int .i64 0, .int .i64 0, .slice none 0 0] := Bk.new' hsz.symm
  have hle : w0.heap.size ≤ w.heap.size + 1 := by omega
  have hxB : Ext w0 (w0.alloc (.cells #[.int .i64 0, .int .i64 0, .int .i64 0, .int .i64 0, .slice none 0 0] 26)) := (Ext.refl w0).alloc _
  refine wp_region_noPanic ?_
  refine wp_region_held_drew (S := fun w' => Ext w0 w') (by kernel_rfl) ?_ (fun hHeld => ?_)
  · (repeat (first | (with_reducible exact Ext.refl _) | (with_reducible assumption) | (with_reducible refine Ext.setCell ?_ (by first | (simp; done) | (simp; omega)) _) | (with_reducible refine Ext.drewN ?_ _) | (with_reducible refine Ext.alloc ?_ _) | (with_reducible refine Ext.drew ?_) | (with_reducible refine Ext.trans ?_ (by assumption))))
  refine wpAnyH_take (i := 0) (oi := ?o1x0) (v := ?v1x0) ?hi1x0 (by kernel_rfl) ?hf1x0 ?hr1x0 (fun _ _ _ h => h) ?hy1x0 (by assumption) ?rest1x0
  case hi1x0 => (simp only [List.getElem?_toArray, List.getElem?_cons_zero]; exact rfl)
  case hf1x0 => kernel_rfl
  case hr1x0 => kernel_rfl
  case hy1x0 => (refine Or.inl ⟨by rfl, ?_⟩; intro w hSw; (try dsimp only at hSw); go_simp; try with_reducible rfl)
  simp only [put_mk, List.set_cons_succ, List.set_cons_zero]
  refine wpAnyH_take (i := 1) (oi := ?o1x1) (v := ?v1x1) ?hi1x1 (by kernel_rfl) ?hf1x1 ?hr1x1 (fun _ _ _ h => h) ?hy1x1 (by assumption) ?rest1x1
  case hi1x1 => (simp only [List.getElem?_toArray, List.getElem?_cons_succ, List.getElem?_cons_zero]; exact rfl)
  case hf1x1 => kernel_rfl
  case hr1x1 => kernel_rfl
  case hy1x1 => (refine Or.inl ⟨by rfl, ?_⟩; intro w hSw; (try dsimp only at hSw); go_simp; try with_reducible rfl)
  simp only [put_mk, List.set_cons_succ, List.set_cons_zero]
  refine wpAnyH_take (i := 2) (oi := ?o1x2) (v := ?v1x2) ?hi1x2 (by kernel_rfl) ?hf1x2 ?hr1x2 (fun _ _ _ h => h) ?hy1x2 (by assumption) ?rest1x2
  case hi1x2 => (simp only [List.getElem?_toArray, List.getElem?_cons_succ, List.getElem?_cons_zero]; exact rfl)
  case hf1x2 => kernel_rfl
  case hr1x2 => kernel_rfl
  case hy1x2 => (refine Or.inl ⟨by rfl, ?_⟩; intro w hSw; (try dsimp only at hSw); go_simp; try with_reducible rfl)
  simp only [put_mk, List.set_cons_succ, List.set_cons_zero]
  refine wpAnyH_take (i := 3) (oi := ?o1x3) (v := ?v1x3) ?hi1x3 (by kernel_rfl) ?hf1x3 ?hr1x3 (fun _ _ _ h => h) ?hy1x3 (by assumption) ?rest1x3
  case hi1x3 => (simp only [List.getElem?_toArray, List.getElem?_cons_succ, List.getElem?_cons_zero]; exact rfl)
  case hf1x3 => kernel_rfl
  case hr1x3 => kernel_rfl
  case hy1x3 => (refine Or.inl ⟨by rfl, ?_⟩; intro w hSw; (try dsimp only at hSw); go_simp; try with_reducible rfl)
  simp only [put_mk, List.set_cons_succ, List.set_cons_zero]
  refine wpAnyH_ready (rs := [4]) (by kernel_rfl) (by simp) ?_
  refine AllReadyH.cons (o := ?o1x4) ?hi1x4 (fun K hK => ?_) AllReadyH.nil
  case hi1x4 => (simp only [List.getElem?_toArray, List.getElem?_cons_succ, List.getElem?_cons_zero]; exact rfl)
  go_simp
  refine ((HC _ (hxA.trans (by repeat (first | (with_reducible exact Ext.refl _) | (with_reducible assumption) | (with_reducible refine Ext.setCell ?_ (by first | (simp; done) | (simp; omega)) _) | (with_reducible refine Ext.drewN ?_ _) | (with_reducible refine Ext.alloc ?_ _) | (with_reducible refine Ext.drew ?_) | (with_reducible refine Ext.trans ?_ (by assumption)))))).out).mono ?_
  rintro e w3 ⟨g, cap, cur, rfl, hge, hC, hx3⟩
  have kB3 := (Bk.drew kB).ext hx3
  have z0 := kB3.cell 0
  have z1 := kB3.cell 1
  have z2 := kB3.cell 2
  have z3 := kB3.cell 3
  have z4 := kB3.cell 4
  have y0 := kB3.frozen 0
  have y1 := kB3.frozen 1
  have y2 := kB3.frozen 2
  have y3 := kB3.frozen 3
  have y4 := kB3.frozen 4
  refine hK.out _ _ ?_ (fun hHeld => ?_)
  · (repeat (first | (with_reducible exact Ext.refl _) | (with_reducible assumption) | (with_reducible refine Ext.setCell ?_ (by first | (simp; done) | (simp; omega)) _) | (with_reducible refine Ext.drewN ?_ _) | (with_reducible refine Ext.alloc ?_ _) | (with_reducible refine Ext.drew ?_) | (with_reducible refine Ext.trans ?_ (by assumption))))
  clear hK K
  refine wpAnyH_take (i := 5) (oi := ?o1x5) (v := ?v1x5) ?hi1x5 (by kernel_rfl) ?hf1x5 ?hr1x5 (fun _ _ _ h => h) ?hy1x5 (by assumption) ?rest1x5
  case hi1x5 => (simp only [List.getElem?_toArray, List.getElem?_cons_succ, List.getElem?_cons_zero]; exact rfl)
  case hf1x5 => kernel_rfl
  case hr1x5 => kernel_rfl
  case hy1x5 => (refine Or.inl ⟨by rfl, ?_⟩; intro w hSw; (try dsimp only at hSw); go_simp; try with_reducible rfl)
  simp only [put_mk, List.set_cons_succ, List.set_cons_zero]
  refine wpAnyH_ready (rs := [6]) (by kernel_rfl) (by simp) ?_
  refine AllReadyH.cons (o := ?o1x6) ?hi1x6 (fun K hK => ?_) AllReadyH.nil
  case hi1x6 => (simp only [List.getElem?_toArray, List.getElem?_cons_succ, List.getElem?_cons_zero]; exact rfl)
  go_simp
  refine hK.out _ _ ?_ (fun hHeld => ?_)
  · (repeat (first | (with_reducible exact Ext.refl _) | (with_reducible assumption) | (with_reducible refine Ext.setCell ?_ (by first | (simp; done) | (simp; omega)) _) | (with_reducible refine Ext.drewN ?_ _) | (with_reducible refine Ext.alloc ?_ _) | (with_reducible refine Ext.drew ?_) | (with_reducible refine Ext.trans ?_ (by assumption))))
  clear hK K
  refine wpAnyH_done (by kernel_rfl) ?_ _
  refine NoPanic.normal ?_
  have hgn : g ≠ w.heap.size + 1 := by simp at hge; omega
  have hgw : w.heap.size ≤ g := by simp at hge; omega
  have hxw : Ext w w3 := hxA.trans ((hxB.drew).trans hx3)
  have hC5 := ((((hC.far (p := ⟨w.heap.size + 1, 0, none⟩) hgn (.int .i64 X)).far (p := ⟨w.heap.size + 1, 1, none⟩) hgn (.int .i64 Y)).far (p := ⟨w.heap.size + 1, 2, none⟩) hgn (.int .i64 (Wn : Int))).far (p := ⟨w.heap.size + 1, 3, none⟩) hgn (.int .i64 (Hn : Int))).far (p := ⟨w.heap.size + 1, 4, none⟩) hgn (.slice (some ⟨g, 0, none⟩) N cap)
  have hx5 := ((((hxw.setCell (p := ⟨w.heap.size + 1, 0, none⟩) (by simp) (.int .i64 X)).setCell (p := ⟨w.heap.size + 1, 1, none⟩) (by simp) (.int .i64 Y)).setCell (p := ⟨w.heap.size + 1, 2, none⟩) (by simp) (.int .i64 (Wn : Int))).setCell (p := ⟨w.heap.size + 1, 3, none⟩) (by simp) (.int .i64 (Hn : Int))).setCell (p := ⟨w.heap.size + 1, 4, none⟩) (by simp) (.slice (some ⟨g, 0, none⟩) N cap)
  have HC5 := hidA hC5
  have HX5 := hidA hx5
  clear hC5 hx5 hxw hC hx3 hHeld
  go_wp2
  refine bodyPost_ret (v := .agg #[.int .i64 X, .int .i64 Y, .int .i64 (Wn : Int), .int .i64 (Hn : Int), .slice (some ⟨g, 0, none⟩) N cap]) (by simp [results, Try.results95, go_sem, z0, z1, z2, z3, z4]) rfl ?_
  exact ⟨g, cap, cur, rfl, hgw, HC5.out, HX5.out⟩
end Go.Proofs.Ytpgdinpckolfpaa

namespace Go.Proofs.Ytpgdinpckolfpaa
open Go.RowKit
attribute [local go_sem ↓] Go.wp_at_zero Go.wp_at_succ

set_option maxHeartbeats 1600000 in
theorem result_any (x y ww hh : Int) (A : Option Addr) (n c : Nat) (l : List Nat) (w : World) (hn : l.length = n) (hr : Rd w A (flt l)) (hb : n ≤ 140737488351232) :
    Calls Try.prog 98 #[.agg #[.int .i64 x, .int .i64 y, .int .i64 ww, .int .i64 hh, .slice A n c]] w fun e w' =>
      (l.all hgtB = true ∧ e = .returned (.tuple #[.agg #[.int .i64 x, .int .i64 y, .int .i64 ww, .int .i64 hh, .slice A n c], .int .i64 0]) ∨ l.all hgtB = false ∧ e = .returned (.tuple #[.agg #[.int .i64 0, .int .i64 0, .int .i64 0, .int .i64 0, .slice none 0 0], .int .i64 3])) ∧ Ext w w' := by
  have Hn := hidA hn
  clear hn
  go_enter Try.func98, Try.ntmps98
  go_wp2
  go_loop [9] (fun i => ∃ k : Nat, k ≤ n ∧ i = .int .i64 k ∧ ∀ b ∈ l.take k, hgtB b = true) (fun i => n - (intOf i).toNat)
  case atStart => exact ⟨0, Nat.zero_le _, rfl, by simp⟩
  case round =>
    obtain ⟨k, hk, rfl, hpre⟩ := hrel
    by_cases hlt : k < n
    · have hkl : k < l.length := by have := Hn.out; omega
      obtain ⟨ad, rfl, hbk, hc⟩ := ((hr.alloc (.cells #[.int .i64 x, .int .i64 y, .int .i64 ww, .int .i64 hh, .slice A n c] 26)).alloc (.cells #[.int .i64 0, .int .i64 0, .int .i64 0, .int .i64 0, .slice none 0 0] 26)).at (k := k) (by simpa using hkl)
      have hck := hc k _ (flt_get hkl)
      have HS := hidA (show ∀ h : hgtB l[k] = true, ∀ b ∈ l.take (k + 1), hgtB b = true from fun h b hb => by
        rw [List.take_succ_eq_append_getElem hkl] at hb
        rcases List.mem_append.1 hb with hb | hb
        · exact hpre b hb
        · simp at hb; rw [hb]; exact h)
      have HB := hidA (show hgtB l[k] = false → l.all hgtB = false from fun h => by
        rw [List.all_eq_false]
        exact ⟨l[k], List.getElem_mem hkl, by rw [h]; decide⟩)
      clear hc hr hbk hpre
      cases hfin : hgtB l[k]
      · go_wp2_with (go_at_call 102; refine (height_any _ _).mono ?_; rintro e w' ⟨rfl, rfl⟩)
        refine bodyPost_ret (v := .tuple #[.agg #[.int .i64 0, .int .i64 0, .int .i64 0, .int .i64 0, .slice none 0 0], .int .i64 3]) (by simp [results, Try.results98, go_sem]) rfl ⟨.inr ⟨HB.out hfin, rfl⟩, ?_⟩
        repeat (first | exact Ext.refl _ | assumption | refine Ext.setCell ?_ (by simp) _ | refine Ext.alloc ?_ _ | refine Ext.drew ?_ | refine Ext.trans ?_ (by assumption))
      · have HS2 := hidA (HS.out hfin)
        go_wp2_with (go_at_call 102; refine (height_any _ _).mono ?_; rintro e w' ⟨rfl, rfl⟩)
        go_round
        case rel => exact ⟨k + 1, by omega, by go_num, HS2.out⟩
        case measure => simp [intOf]; omega
    · have hall : l.all hgtB = true := by
        rw [List.all_eq_true]
        intro b hb
        refine hpre b ?_
        rw [List.take_of_length_le (by have := Hn.out; omega)]
        exact hb
      have Ha := hidA hall
      clear hpre hall
      go_wp2
      refine bodyPost_ret (v := .tuple #[.agg #[.int .i64 x, .int .i64 y, .int .i64 ww, .int .i64 hh, .slice A n c], .int .i64 0]) (by simp [results, Try.results98, go_sem]) rfl ⟨.inl ⟨by first | exact Ha.out | simpa using Ha.out, rfl⟩, ?_⟩
      exact ((Ext.refl _).alloc _).alloc _

set_option maxHeartbeats 1600000 in
theorem empty_zero (w : World) : Calls Try.prog 55 #[.agg #[.int .i64 0, .int .i64 0, .int .i64 0, .int .i64 0, .slice none 0 0]] w fun e w' => e = .returned (.bool true) ∧ Ext w w' := by
  go_enter Try.func55, Try.ntmps55
  go_wp2
  go_ret
  exact ⟨rfl, (by repeat (first | exact Ext.refl _ | assumption | refine Ext.setCell ?_ (by first | (simp; done) | (simp; omega)) _ | refine Ext.drewN ?_ _ | refine Ext.alloc ?_ _ | refine Ext.drew ?_ | refine Ext.trans ?_ (by assumption)))⟩
theorem hgt_fin {b : Nat} (h : hgtB b = true) : finB b = true := bd_finB (hgt_bd h) (by omega)
/-- all are heights: no error -/
theorem numE_all {l : List Nat} (h : l.all hgtB = true) : numE l = 0 := by
  rw [List.all_eq_true] at h
  refine numE_ok (fun b hb => hgt_fin (h b hb)) h
theorem numE_not {l : List Nat} (h : l.all hgtB = false) : numE l ≠ 0 := fun e => by
  have h2 := (numE_zero e).2
  rw [List.all_eq_false] at h
  obtain ⟨b, hb, h3⟩ := h
  exact h3 (h2 b hb)
/-- what Result gives: the field, or nothing -/
def ResR (x y ww hh : Int) (sv : Value) (l : List Nat) (a b c d : Int) (v : Value) (ec : Int) : Prop :=
  l.all hgtB = true ∧ a = x ∧ b = y ∧ c = ww ∧ d = hh ∧ v = sv ∧ ec = 0 ∨ l.all hgtB = false ∧ a = 0 ∧ b = 0 ∧ c = 0 ∧ d = 0 ∧ v = .slice none 0 0 ∧ ec = 3
theorem result_one (x y ww hh : Int) (A : Option Addr) (n c : Nat) (l : List Nat) (w : World) (hn : l.length = n) (hr : Rd w A (flt l)) (hb : n ≤ 140737488351232) :
    Calls Try.prog 98 #[.agg #[.int .i64 x, .int .i64 y, .int .i64 ww, .int .i64 hh, .slice A n c]] w fun e w' => ∃ (a b c' d : Int) (vA : Option Addr) (vn vc : Nat) (ec : Int), e = .returned (.tuple #[.agg #[.int .i64 a, .int .i64 b, .int .i64 c', .int .i64 d, .slice vA vn vc], .int .i64 ec]) ∧ ResR x y ww hh (.slice A n c) l a b c' d (.slice vA vn vc) ec ∧ Ext w w' := by
  refine (result_any x y ww hh A n c l w hn hr hb).mono ?_
  rintro e w' ⟨⟨ha, rfl⟩ | ⟨ha, rfl⟩, hx⟩
  · exact ⟨_, _, _, _, _, _, _, _, rfl, .inl ⟨ha, rfl, rfl, rfl, rfl, rfl, rfl⟩, hx⟩
  · exact ⟨_, _, _, _, _, _, _, _, rfl, .inr ⟨ha, rfl, rfl, rfl, rfl, rfl, rfl⟩, hx⟩
theorem hgt_iff {b : Nat} : hgtB b = true ↔ Bd 20 b := ⟨hgt_bd, fun h => bd_hgt h (by omega)⟩
theorem hgt_val {a b : Nat} (h : valI a = valI b) : hgtB a = hgtB b := by
  rw [Bool.eq_iff_iff, hgt_iff, hgt_iff, bd_valI (by omega), bd_valI (by omega), h]
end Go.Proofs.Ytpgdinpckolfpaa

namespace Go.Proofs.Ytpgdinpckolfpaa
open Go.RowKit
attribute [local go_sem ↓] Go.wp_at_zero Go.wp_at_succ

theorem add_two (ad : Addr) (i j : Nat) (h : 0 < j) : (⟨(ad.add i).block, (ad.add i).off + j, none⟩ : Addr) = ad.add (i + j) := add_off ad i h

set_option maxRecDepth 100000 in
set_option maxHeartbeats 3200000 in
theorem checkAll_any (X Y W H X' Y' W' H' : Int) (A A' B : Option Addr) (n c n' c' : Nat) (l l' : List Nat) (w : World) (hn : l.length = n) (hn' : l'.length = n') (hd : Rd w A (flt l)) (hd' : Rd w A' (flt l')) (hb : n ≤ 140737488351232) (hb' : n' ≤ 140737488351232)
    (hB : Rd w B [.int .i64 X, .int .i64 Y, .int .i64 W, .int .i64 H, .slice A n c, .int .i64 X', .int .i64 Y', .int .i64 W', .int .i64 H', .slice A' n' c']) :
    Calls Try.prog 60 #[.slice B 2 2] w fun e w' => e = .returned (.int .i64 (firstE [fieldE X Y W H l, fieldE X' Y' W' H' l'])) ∧ Ext w w' := by
  obtain ⟨ad, rfl, hbk, hc⟩ := hB (by simp)
  have C0 := fun (w' : World) (h : Ext w w') (j : Nat) u (hu : [Value.int .i64 X, .int .i64 Y, .int .i64 W, .int .i64 H, .slice A n c, .int .i64 X', .int .i64 Y', .int .i64 W', .int .i64 H', .slice A' n' c'][j]? = some u) => (h.cell (ad.add j) (by rw [add_block]; exact hbk)).trans (hc j u hu)
  have HC := fun (w' : World) (h : Ext w w') => hidA (check_any X Y W H A n c l w' hn (hd.ext h) hb)
  have HC' := fun (w' : World) (h : Ext w w') => hidA (check_any X' Y' W' H' A' n' c' l' w' hn' (hd'.ext h) hb')
  clear hn hn' hd hd' hb hb' hB hc
  go_enter Try.func60, Try.ntmps60
  go_wp2_with fail
  go_loopw [8] (fun i wr => ∃ k : Nat, k ≤ 2 ∧ i = .int .i64 k ∧ (1 ≤ k → fieldE X Y W H l = 0) ∧ (2 ≤ k → fieldE X' Y' W' H' l' = 0) ∧ Ext w wr) (fun i _ => 2 - (intOf i).toNat)
  case atStart => exact ⟨0, by omega, rfl, fun h => by omega, fun h => by omega, (by repeat (first | exact Ext.refl _ | assumption | refine Ext.setCell ?_ (by first | (simp; done) | (simp; omega)) _ | refine Ext.drewN ?_ _ | refine Ext.alloc ?_ _ | refine Ext.drew ?_ | refine Ext.trans ?_ (by assumption)))⟩
  case round =>
    obtain ⟨k, hk, rfl, h1, h2, hx⟩ := hrel
    have H1 := hidA h1
    have H2 := hidA h2
    clear h1 h2
    rcases (by omega : k = 0 ∨ k = 1 ∨ k = 2) with rfl | rfl | rfl
    · have d0 := C0 wr hx 0 _ rfl
      have d1 := C0 wr hx 1 _ rfl
      have d2 := C0 wr hx 2 _ rfl
      have d3 := C0 wr hx 3 _ rfl
      have d4 := C0 wr hx 4 _ rfl
      rw [show ad.add 0 = ad from rfl] at d0
      rw [add_pos _ (by omega)] at d1 d2 d3 d4
      clear C0
      go_wp2_with fail
      refine ((HC _ ?_).out).mono ?_
      · (repeat (first | exact Ext.refl _ | assumption | refine Ext.setCell ?_ (by first | (simp; done) | (simp; omega)) _ | refine Ext.drewN ?_ _ | refine Ext.alloc ?_ _ | refine Ext.drew ?_ | refine Ext.trans ?_ (by assumption)))
      rintro e w5 ⟨rfl, hb5⟩
      by_cases hz : fieldE X Y W H l = 0
      · have b0 : (fieldE X Y W H l != 0) = false := by simpa using hz
        have Hz := hidA hz
        clear hz
        go_wp2_with fail
        go_roundw
        case rel => exact ⟨1, by omega, rfl, fun _ => Hz.out, fun h => by omega, (by repeat (first | exact Ext.refl _ | assumption | refine Ext.setCell ?_ (by first | (simp; done) | (simp; omega)) _ | refine Ext.drewN ?_ _ | refine Ext.alloc ?_ _ | refine Ext.drew ?_ | refine Ext.trans ?_ (by assumption)))⟩
        case measure => decide
      · have b0 : (fieldE X Y W H l != 0) = true := by simpa using hz
        have HN : Hid (fieldE X Y W H l = firstE [fieldE X Y W H l, fieldE X' Y' W' H' l']) := by show _ = _; simp [firstE, hz]
        clear hz
        go_wp2
        go_ret
        exact ⟨ret_i HN.out, (by repeat (first | exact Ext.refl _ | assumption | refine Ext.setCell ?_ (by first | (simp; done) | (simp; omega)) _ | refine Ext.drewN ?_ _ | refine Ext.alloc ?_ _ | refine Ext.drew ?_ | refine Ext.trans ?_ (by assumption)))⟩
    · have d0 := C0 wr hx 5 _ rfl
      have d1 := C0 wr hx 6 _ rfl
      have d2 := C0 wr hx 7 _ rfl
      have d3 := C0 wr hx 8 _ rfl
      have d4 := C0 wr hx 9 _ rfl
      rw [add_pos _ (by omega)] at d0 d1 d2 d3 d4
      have e1 : ad.add 5 = ⟨ad.block, ad.off + 5, none⟩ := add_pos _ (by omega)
      have hz1 := H1.out (by omega)
      clear C0
      go_wp2_with fail
      refine ((HC' _ ?_).out).mono ?_
      · (repeat (first | exact Ext.refl _ | assumption | refine Ext.setCell ?_ (by first | (simp; done) | (simp; omega)) _ | refine Ext.drewN ?_ _ | refine Ext.alloc ?_ _ | refine Ext.drew ?_ | refine Ext.trans ?_ (by assumption)))
      rintro e w5 ⟨rfl, hb5⟩
      by_cases hz : fieldE X' Y' W' H' l' = 0
      · have b0 : (fieldE X' Y' W' H' l' != 0) = false := by simpa using hz
        have Hz := hidA hz
        have Hz1 := hidA hz1
        clear hz hz1
        go_wp2_with fail
        go_roundw
        case rel => exact ⟨2, by omega, rfl, fun _ => Hz1.out, fun _ => Hz.out, (by repeat (first | exact Ext.refl _ | assumption | refine Ext.setCell ?_ (by first | (simp; done) | (simp; omega)) _ | refine Ext.drewN ?_ _ | refine Ext.alloc ?_ _ | refine Ext.drew ?_ | refine Ext.trans ?_ (by assumption)))⟩
        case measure => decide
      · have b0 : (fieldE X' Y' W' H' l' != 0) = true := by simpa using hz
        have HN : Hid (fieldE X' Y' W' H' l' = firstE [fieldE X Y W H l, fieldE X' Y' W' H' l']) := by show _ = _; simp [firstE, hz1]
        clear hz hz1
        go_wp2
        go_ret
        exact ⟨ret_i HN.out, (by repeat (first | exact Ext.refl _ | assumption | refine Ext.setCell ?_ (by first | (simp; done) | (simp; omega)) _ | refine Ext.drewN ?_ _ | refine Ext.alloc ?_ _ | refine Ext.drew ?_ | refine Ext.trans ?_ (by assumption)))⟩
    · have HN : Hid (0 = firstE [fieldE X Y W H l, fieldE X' Y' W' H' l']) := by show _ = _; simp [firstE, H1.out (by omega), H2.out (by omega)]
      clear C0
      go_wp2
      go_ret
      exact ⟨ret_i HN.out, (by repeat (first | exact Ext.refl _ | assumption | refine Ext.setCell ?_ (by first | (simp; done) | (simp; omega)) _ | refine Ext.drewN ?_ _ | refine Ext.alloc ?_ _ | refine Ext.drew ?_ | refine Ext.trans ?_ (by assumption)))⟩
end Go.Proofs.Ytpgdinpckolfpaa

namespace Go.Proofs.Ytpgdinpckolfpaa
open Go.RowKit
attribute [local go_sem ↓] Go.wp_at_zero Go.wp_at_succ
attribute [local go_sem] run_store_float

/-- what was cut away of the first cells -/
def erA (f g : Nat → Nat) : Nat → Nat
  | 0 => 0
  | k + 1 => if lt (g k) (f k) = true then fadd (erA f g k) (fsub (f k) (g k)) else erA f g k
/-- what was filled of the first cells -/
def erM (f g : Nat → Nat) : Nat → Nat
  | 0 => 0
  | k + 1 => if gt (g k) (f k) = true then fadd (erM f g k) (fsub (g k) (f k)) else erM f g k
theorem sub_pos {a b : Nat} (ha : Bd 20 a) (hb : Bd 20 b) (h : valI b ≤ valI a) : floatBits .sub .f32 a b = some (fsub a b) ∧ Bd 22 (fsub a b) ∧ 0 ≤ valI (fsub a b) := by
  obtain ⟨h1, h2⟩ := fsub_ok ha hb (by omega)
  refine ⟨h1, h2, ?_⟩
  rw [← val_zero, val_key_le, fsub_key ha hb (by omega)]
  have e : keyI 0 = 0 := by decide
  have r0 : rkey 0 = 0 := by
    have h := rkey_val (b := 0) (bd_Fin zero_bd (by omega))
    rw [val_zero] at h
    rw [h]
    decide
  rw [e, ← r0]
  exact rkey_mono (by omega)
theorem erA_bd {f g : Nat → Nat} {N : Nat} (hf : ∀ k, k < N → Bd 20 (f k)) (hg : ∀ k, k < N → Bd 20 (g k)) : ∀ k, k ≤ N → Bd 84 (erA f g k)
  | 0, _ => by unfold erA Bd; omega
  | k + 1, h => by
    have ih := erA_bd hf hg k (by omega)
    unfold erA
    split
    · rename_i hl
      have h1 := hf k (by omega)
      have h2 := hg k (by omega)
      rw [lt_val (bd_Fin h2 (by omega)) (bd_Fin h1 (by omega))] at hl
      have hl' := of_decide_eq_true hl
      obtain ⟨_, s2, s3⟩ := sub_pos h1 h2 (by omega)
      exact fadd_cap ih (s2.mono (by omega)) s3
    · exact ih
theorem erM_bd {f g : Nat → Nat} {N : Nat} (hf : ∀ k, k < N → Bd 20 (f k)) (hg : ∀ k, k < N → Bd 20 (g k)) : ∀ k, k ≤ N → Bd 84 (erM f g k)
  | 0, _ => by unfold erM Bd; omega
  | k + 1, h => by
    have ih := erM_bd hf hg k (by omega)
    unfold erM
    split
    · rename_i hl
      have h1 := hf k (by omega)
      have h2 := hg k (by omega)
      rw [gt_val (bd_Fin h2 (by omega)) (bd_Fin h1 (by omega))] at hl
      have hl' := of_decide_eq_true hl
      obtain ⟨_, s2, s3⟩ := sub_pos h2 h1 (by omega)
      exact fadd_cap ih (s2.mono (by omega)) s3
    · exact ih
set_option maxRecDepth 100000 in
set_option maxHeartbeats 6400000 in
theorem Earth_ok (X Y W H : Int) (adF adG : Addr) (N c c' : Nat) (lf lg : List Nat) (w : World) (hlf : lf.length = N) (hlg : lg.length = N) (hf : ∀ j, j < N → Bd 20 (lf.getD j 0)) (hg : ∀ j, j < N → Bd 20 (lg.getD j 0)) (hV : Rd w (some adF) (flt lf)) (hG : Rd w (some adG) (flt lg)) (h0 : fieldE X Y W H lf = 0) (h1 : fieldE X Y W H lg = 0) (hN6 : N ≤ 65536) :
    Calls Try.prog 58 #[.agg #[.int .i64 X, .int .i64 Y, .int .i64 W, .int .i64 H, .slice (some adF) N c], .agg #[.int .i64 X, .int .i64 Y, .int .i64 W, .int .i64 H, .slice (some adG) N c']] w fun e w' => e = .returned (.tuple #[.float .f32 (erA (fun k => lf.getD k 0) (fun k => lg.getD k 0) N), .float .f32 (erM (fun k => lf.getD k 0) (fun k => lg.getD k 0) N), .int .i64 0]) ∧ Ext w w' := by
  have HC := fun (w' : World) (B : Option Addr) (h : Ext w w') (hB : Rd w' B [.int .i64 X, .int .i64 Y, .int .i64 W, .int .i64 H, .slice (some adF) N c, .int .i64 X, .int .i64 Y, .int .i64 W, .int .i64 H, .slice (some adG) N c']) => hidA (checkAll_any X Y W H X Y W H (some adF) (some adG) B N c N c' lf lg w' hlf hlg (hV.ext h) (hG.ext h) (by omega) (by omega) hB)
  rw [h0, h1] at HC
  have HVc : Hid (∀ w' k, k < N → Ext w w' → w'.cell? (adF.add k) = some (.float .f32 (lf.getD k 0))) := fun w' k hk h => by
    obtain ⟨ad', e, _, hcv⟩ := (hV.ext h).at (k := k) (by simp [flt]; omega)
    injection e with e
    subst e
    rw [hcv k _ (flt_get (by omega : k < lf.length))]
    simp [List.getD_eq_getElem?_getD, show k < lf.length by omega]
  have HGc : Hid (∀ w' k, k < N → Ext w w' → w'.cell? (adG.add k) = some (.float .f32 (lg.getD k 0))) := fun w' k hk h => by
    obtain ⟨ad', e, _, hcv⟩ := (hG.ext h).at (k := k) (by simp [flt]; omega)
    injection e with e
    subst e
    rw [hcv k _ (flt_get (by omega : k < lg.length))]
    simp [List.getD_eq_getElem?_getD, show k < lg.length by omega]
  obtain ⟨fv, hfv⟩ : ∃ fv : Nat → Nat, fv = fun k => lf.getD k 0 := ⟨_, rfl⟩
  obtain ⟨gv, hgv⟩ : ∃ gv : Nat → Nat, gv = fun k => lg.getD k 0 := ⟨_, rfl⟩
  have HF := hidA (fun w' k (hk : k < N) (h : Ext w w') => show w'.cell? (adF.add k) = some (.float .f32 (fv k)) from by rw [hfv]; exact HVc.out w' k hk h)
  have HGv := hidA (fun w' k (hk : k < N) (h : Ext w w') => show w'.cell? (adG.add k) = some (.float .f32 (gv k)) from by rw [hgv]; exact HGc.out w' k hk h)
  have Bf := hidA (fun j (hj : j < N) => show Bd 20 (fv j) from by rw [hfv]; exact hf j hj)
  have Bg := hidA (fun j (hj : j < N) => show Bd 20 (gv j) from by rw [hgv]; exact hg j hj)
  rw [← hfv, ← hgv]
  clear hlf hlg hf hg hV hG h0 h1 HVc HGc hfv hgv
  go_enter Try.func58, Try.ntmps58
  go_upto_region 1 with fail
  have kF : Bk ((w.alloc (.cells #[.int .i64 X, .int .i64 Y, .int .i64 W, .int .i64 H, .slice (some adF) N c] 26)).alloc (.cells #[.int .i64 X, .int .i64 Y, .int .i64 W, .int .i64 H, .slice (some adG) N c'] 26)) w.heap.size 26 #[.int .i64 X, .int .i64 Y, .int .i64 W, .int .i64 H, .slice (some adF) N c] := (Bk.new' rfl).alloc _
  have kG : Bk ((w.alloc (.cells #[.int .i64 X, .int .i64 Y, .int .i64 W, .int .i64 H, .slice (some adF) N c] 26)).alloc (.cells #[.int .i64 X, .int .i64 Y, .int .i64 W, .int .i64 H, .slice (some adG) N c'] 26)) (w.heap.size + 1) 26 #[.int .i64 X, .int .i64 Y, .int .i64 W, .int .i64 H, .slice (some adG) N c'] := Bk.new' (by simp)
  have hx0 : Ext w ((w.alloc (.cells #[.int .i64 X, .int .i64 Y, .int .i64 W, .int .i64 H, .slice (some adF) N c] 26)).alloc (.cells #[.int .i64 X, .int .i64 Y, .int .i64 W, .int .i64 H, .slice (some adG) N c'] 26)) := ((Ext.refl w).alloc _).alloc _
  generalize (w.alloc (.cells #[.int .i64 X, .int .i64 Y, .int .i64 W, .int .i64 H, .slice (some adF) N c] 26)).alloc (.cells #[.int .i64 X, .int .i64 Y, .int .i64 W, .int .i64 H, .slice (some adG) N c'] 26) = w0 at *
  generalize w.heap.size + 1 = hg at *
  generalize hfe : w.heap.size = hf at kF ⊢
  clear hfe
  have f0 := kF.cell 0
  have f1 := kF.cell 1
  have f2 := kF.cell 2
  have f3 := kF.cell 3
  have f4 := kF.cell 4
  have g0 := kG.cell 0
  have g1 := kG.cell 1
  have g2 := kG.cell 2
  have g3 := kG.cell 3
  have g4 := kG.cell 4
  go_upto_region 4 with (go_at_call 60; refine ((HC _ _ (hx0.alloc _) (Rd.new (by first | rfl | simp) (by first | rfl | simp))).out).mono ?_; rintro e w1 ⟨rfl, hx1⟩)
  have hxa : Ext w0 w1 := (by repeat (first | exact Ext.refl _ | assumption | refine Ext.setCell ?_ (by first | (simp; done) | (simp; omega)) _ | refine Ext.drewN ?_ _ | refine Ext.alloc ?_ _ | refine Ext.drew ?_ | refine Ext.trans ?_ (by assumption)))
  have kF1 := kF.ext hxa
  have kG1 := kG.ext hxa
  have hxb := hx0.trans hxa
  clear f0 f1 f2 f3 f4 g0 g1 g2 g3 g4 kF kG hx0 hx1 hxa HC
  have f0 := kF1.cell 0
  have f1 := kF1.cell 1
  have f2 := kF1.cell 2
  have f3 := kF1.cell 3
  have f4 := kF1.cell 4
  have g0 := kG1.cell 0
  have g1 := kG1.cell 1
  have g2 := kG1.cell 2
  have g3 := kG1.cell 3
  have g4 := kG1.cell 4
  have qX : (X == X) = true := by simp
  have qY : (Y == Y) = true := by simp
  have qW : (W == W) = true := by simp
  have qH : (H == H) = true := by simp
  go_upto_region 7 with fail
  clear f0 f1 f2 f3 f4 g0 g1 g2 g3 g4 qX qY qW qH
  have HkG := hidA kG1
  have Hxb := hidA hxb
  clear kF1 kG1 hxb
  go_loopw [4, 5, 26] (fun s4 s5 s26 wr => ∃ k : Nat, k ≤ N ∧ s26 = .int .i64 k ∧ s4 = .float .f32 (erA fv gv k) ∧ s5 = .float .f32 (erM fv gv k) ∧ Ext w1 wr) (fun _ _ s26 _ => N - (intOf s26).toNat)
  case atStart => exact ⟨0, Nat.zero_le _, rfl, rfl, rfl, Ext.refl _⟩
  case round =>
    obtain ⟨k, hk, rfl, rfl, rfl, hx⟩ := hrel
    by_cases hkN : k < N
    · have Hk := hidA hkN
      have c1 := HF.out wr k hkN (Hxb.out.trans hx)
      have c2 := HGv.out wr k hkN (Hxb.out.trans hx)
      have g4 := (HkG.out.ext hx).cell 4
      have i0 : (0 : Int) ≤ k := by omega
      have i1 : (k : Int) < N := by omega
      have bf := Bf.out k hkN
      have bg := Bg.out k hkN
      have hA := hidA (show erA fv gv (k + 1) = if lt (gv k) (fv k) = true then fadd (erA fv gv k) (fsub (fv k) (gv k)) else erA fv gv k from rfl)
      have hM := hidA (show erM fv gv (k + 1) = if gt (gv k) (fv k) = true then fadd (erM fv gv k) (fsub (gv k) (fv k)) else erM fv gv k from rfl)
      have bA := erA_bd (N := N) (fun k h => Bf.out k h) (fun k h => Bg.out k h) k hk
      have bM := erM_bd (N := N) (fun k h => Bf.out k h) (fun k h => Bg.out k h) k hk
      have lv := lt_val (bd_Fin bg (by omega)) (bd_Fin bf (by omega))
      have gv' := gt_val (bd_Fin bg (by omega)) (bd_Fin bf (by omega))
      have Hx := hidA hx
      generalize erA fv gv k = a at *
      generalize erM fv gv k = m at *
      generalize fv k = x at *
      generalize gv k = y at *
      clear hk hkN hx
      cases hl : lt y x
      · have hl' : (FloatKind.f32.format.order y x == some .lt) = false := hl
        have HL := hidA hl
        cases hgt : gt y x
        · have hg' : (FloatKind.f32.format.order y x == some .gt) = false := hgt
          have HG2 := hidA hgt
          clear lv gv' hl hgt bA bM bf bg
          go_wp2
          go_roundw
          case rel => exact ⟨k + 1, Hk.out, (by first | rfl | go_num), (by rw [hA.out, HL.out]; rfl), (by rw [hM.out, HG2.out]; rfl), Hx.out⟩
          case measure => exact nxt_c Hk.out
        · have hg' : (FloatKind.f32.format.order y x == some .gt) = true := hgt
          have HG2 := hidA hgt
          rw [hgt] at gv'
          have hv := of_decide_eq_true gv'.symm
          obtain ⟨s1, s2, s3⟩ := sub_pos bg bf (by omega)
          have r1 := fun (w : World) => run_float_arith (P := Try.prog) w .sub 27 .f32 _ _ _ s1
          have r2 := fun (w : World) => run_float_arith (P := Try.prog) w .add 27 .f32 _ _ _ (fadd_ok bM (s2.mono (by omega)) (by omega)).1
          clear lv gv' hl hgt bA bM bf bg s1 s2 s3 hv
          generalize hsm : fadd m (fsub y x) = sm at *
          generalize fsub y x = dd at *
          have HSm := hidA hsm
          clear hsm
          go_wp2
          go_roundw
          case rel => exact ⟨k + 1, Hk.out, (by first | rfl | go_num), (by rw [hA.out, HL.out]; rfl), (by rw [hM.out, HG2.out]; rfl), Hx.out⟩
          case measure => exact nxt_c Hk.out
      · have hl' : (FloatKind.f32.format.order y x == some .lt) = true := hl
        have HL := hidA hl
        have hgt : gt y x = false := by
          rw [hl] at lv
          have hv := of_decide_eq_true lv.symm
          rw [gv']
          exact decide_eq_false (by omega)
        have HG2 := hidA hgt
        rw [hl] at lv
        have hv := of_decide_eq_true lv.symm
        obtain ⟨s1, s2, s3⟩ := sub_pos bf bg (by omega)
        have r1 := fun (w : World) => run_float_arith (P := Try.prog) w .sub 27 .f32 _ _ _ s1
        have r2 := fun (w : World) => run_float_arith (P := Try.prog) w .add 27 .f32 _ _ _ (fadd_ok bA (s2.mono (by omega)) (by omega)).1
        clear lv gv' hl hgt bA bM bf bg s1 s2 s3 hv
        generalize hsm : fadd a (fsub x y) = sm at *
        generalize fsub x y = dd at *
        have HSm := hidA hsm
        clear hsm
        go_wp2
        go_roundw
        case rel => exact ⟨k + 1, Hk.out, (by first | rfl | go_num), (by rw [hA.out, HL.out]; rfl), (by rw [hM.out, HG2.out]; rfl), Hx.out⟩
        case measure => exact nxt_c Hk.out
    · obtain rfl : N = k := by omega
      have Hend := hidA (Hxb.out.trans hx)
      clear hx hk hkN
      go_wp2
      go_ret3
      exact ⟨rfl, Hend.out⟩
end Go.Proofs.Ytpgdinpckolfpaa

namespace Go.Proofs.Ytpgdinpckolfpaa
open Go.RowKit

theorem f32bits' (a : Nat) (w : World) : (callFunc 68 #[.float .f32 a]).run Try.prog w = .ok (.value (.int .u32 a)) w := by kernel_rfl

set_option maxHeartbeats 400000 in
theorem bits1_same (a : Nat) (w : World) : Calls Try.prog 76 #[.float .f32 a, .float .f32 a] w fun e w' => e = .returned (.bool true) ∧ w = w' := by
  have hf := f32bits' a
  go_enter Try.func76, Try.ntmps76
  go_wp2
  go_ret
  exact ⟨ret_b (by simp), rfl⟩

set_option maxHeartbeats 800000 in
theorem eqFunc_same (A B : Option Addr) (n c d : Nat) (l : List Nat) (w : World) (hn : l.length = n) (ha : Rd w A (flt l)) (hb : Rd w B (flt l)) (hnb : n ≤ 4000000000) :
    Calls Try.prog 75 #[.slice A n c, .slice B n d, .func (.func 76) #[] #[]] w fun e w' => e = .returned (.bool true) ∧ w = w' := by
  have Hn := hidA hn
  clear hn
  go_enter Try.func75, Try.ntmps75
  go_wp2
  go_loop [17] (fun i => ∃ k : Nat, k ≤ n ∧ i = .int .i64 k) (fun i => n - (intOf i).toNat)
  case atStart => exact ⟨0, Nat.zero_le _, rfl⟩
  case round =>
    obtain ⟨k, hk, rfl⟩ := hrel
    by_cases hlt : k < n
    · have hkl : k < l.length := by have := Hn.out; omega
      obtain ⟨ad, rfl, hbk, hc⟩ := ha.at (k := k) (by simpa using hkl)
      obtain ⟨ad2, rfl, hbk2, hc2⟩ := hb.at (k := k) (by simpa using hkl)
      have e0 := hc k _ (flt_get hkl)
      have e1 := hc2 k _ (flt_get hkl)
      clear hc hc2 ha hb
      go_wp2_with (go_at_call 76; refine (bits1_same _ _).mono ?_; rintro e w' ⟨rfl, rfl⟩)
      go_round
      case rel => exact ⟨k + 1, by omega, by go_num⟩
      case measure => simp [intOf]; omega
    · obtain rfl : k = n := by omega
      go_wp2
      go_ret
      exact ⟨rfl, rfl⟩

theorem bits_same (A B : Option Addr) (n c d : Nat) (l : List Nat) (w : World) (hn : l.length = n) (ha : Rd w A (flt l)) (hb : Rd w B (flt l)) (hnb : n ≤ 4000000000) :
    Calls Try.prog 30 #[.slice A n c, .slice B n d] w fun e w' => e = .returned (.bool true) ∧ w = w' := by
  go_enter Try.func30, Try.ntmps30
  go_wp2_with fail
  refine (eqFunc_same A B n c d l _ hn ha hb hnb).mono ?_
  rintro e w' ⟨rfl, rfl⟩
  go_wp2
  go_ret
  exact ⟨rfl, rfl⟩

end Go.Proofs.Ytpgdinpckolfpaa

namespace Go.Proofs.Ytpgdinpckolfpaa
open Go.RowKit
attribute [local go_sem ↓] Go.wp_at_zero Go.wp_at_succ

set_option maxHeartbeats 1600000 in
set_option maxRecDepth 100000 in
theorem result_ok (X Y W H : Int) (A B : Option Addr) (n c d : Nat) (l : List Nat) (w : World) (hn : l.length = n) (ha : Rd w A (flt l)) (hb : Rd w B (flt l)) (hnb : n ≤ 4000000000) (hz : numE l = 0) :
    Calls Try.prog 57 #[.agg #[.int .i64 X, .int .i64 Y, .int .i64 W, .int .i64 H, .slice B n d], .int .i64 0, .agg #[.int .i64 X, .int .i64 Y, .int .i64 W, .int .i64 H], .slice A n c] w fun e w' => e = .returned (.bool true) ∧ Ext w w' := by
  have HZ := hidA hz
  clear hz
  go_enter Try.func57, Try.ntmps57
  go_wp2_with fail
  refine (numberError_any A n c l _ hn ((ha.alloc _).alloc _) (by omega)).mono ?_
  rw [HZ.out]
  rintro e w' ⟨rfl, rfl⟩
  go_wp2_with (go_at_call 30; refine (bits_same B A n d c l _ hn ((hb.alloc _).alloc _) ((ha.alloc _).alloc _) hnb).mono ?_; rintro e w2 ⟨rfl, rfl⟩)
  go_ret
  exact ⟨rfl, (by repeat (first | exact Ext.refl _ | assumption | refine Ext.setCell ?_ (by first | (simp; done) | (simp; omega)) _ | refine Ext.drewN ?_ _ | refine Ext.alloc ?_ _ | refine Ext.drew ?_ | refine Ext.trans ?_ (by assumption)))⟩
set_option maxHeartbeats 1600000 in
set_option maxRecDepth 100000 in
theorem result_no (X Y W H : Int) (A : Option Addr) (n c : Nat) (l : List Nat) (w : World) (hn : l.length = n) (ha : Rd w A (flt l)) (hnb : n ≤ 4000000000) (hz : numE l ≠ 0) :
    Calls Try.prog 57 #[.agg #[.int .i64 0, .int .i64 0, .int .i64 0, .int .i64 0, .slice none 0 0], .int .i64 3, .agg #[.int .i64 X, .int .i64 Y, .int .i64 W, .int .i64 H], .slice A n c] w fun e w' => e = .returned (.bool true) ∧ Ext w w' := by
  have HN := fun (w : World) (h : Rd w A (flt l)) => hidA (numberError_any A n c l w hn h (by omega))
  have HZ := fun (w : World) => hidA (empty_zero w)
  have hz' : (numE l != 0) = true := by simpa using hz
  generalize numE l = E at *
  clear hz
  go_enter Try.func57, Try.ntmps57
  go_wp2_with fail
  refine ((HN _ ((ha.alloc _).alloc _)).out).mono ?_
  rintro e w' ⟨rfl, rfl⟩
  go_wp2_with (go_at_call 55; refine ((HZ _).out).mono ?_; rintro e w2 ⟨rfl, hx2⟩)
  go_ret
  exact ⟨rfl, (by repeat (first | exact Ext.refl _ | assumption | refine Ext.setCell ?_ (by first | (simp; done) | (simp; omega)) _ | refine Ext.drewN ?_ _ | refine Ext.alloc ?_ _ | refine Ext.drew ?_ | refine Ext.trans ?_ (by assumption)))⟩
end Go.Proofs.Ytpgdinpckolfpaa

namespace Go.Proofs.Ytpgdinpckolfpaa
open Go.RowKit

/-- a field, or the error of heights: its parts -/
def TwoR (X Y : Int) (Wn Hn N : Nat) (v : List Nat) (w' : World) (a b c1 d : Int) (vA : Option Addr) (vn vc : Nat) (ec : Int) : Prop :=
  (v.all hgtB = true ∧ a = X ∧ b = Y ∧ c1 = Wn ∧ d = Hn ∧ vn = N ∧ ec = 0 ∧ Rd w' vA (flt v)) ∨ (v.all hgtB = false ∧ a = 0 ∧ b = 0 ∧ c1 = 0 ∧ d = 0 ∧ vA = none ∧ vn = 0 ∧ vc = 0 ∧ ec = 3)
theorem TwoR.ext {X Y : Int} {Wn Hn N : Nat} {v : List Nat} {w w' : World} {a b c1 d : Int} {vA : Option Addr} {vn vc : Nat} {ec : Int} (h : TwoR X Y Wn Hn N v w a b c1 d vA vn vc ec) (hx : Ext w w') : TwoR X Y Wn Hn N v w' a b c1 d vA vn vc ec := by
  rcases h with ⟨h1, h2, h3, h4, h5, h6, h7, h8⟩ | h
  · exact .inl ⟨h1, h2, h3, h4, h5, h6, h7, h8.ext hx⟩
  · exact .inr h
theorem result_both (X Y : Int) (Wn Hn N : Nat) (v : List Nat) (w : World) (a b c1 d : Int) (vA B : Option Addr) (vn vc c : Nat) (ec : Int) (h : TwoR X Y Wn Hn N v w a b c1 d vA vn vc ec) (hn : v.length = N) (hB : Rd w B (flt v)) (hnb : N ≤ 4000000000) :
    Calls Try.prog 57 #[.agg #[.int .i64 a, .int .i64 b, .int .i64 c1, .int .i64 d, .slice vA vn vc], .int .i64 ec, .agg #[.int .i64 X, .int .i64 Y, .int .i64 (Wn : Int), .int .i64 (Hn : Int)], .slice B N c] w fun e w' => e = .returned (.bool true) ∧ Ext w w' := by
  rcases h with ⟨h1, rfl, rfl, rfl, rfl, rfl, rfl, h8⟩ | ⟨h1, rfl, rfl, rfl, rfl, rfl, rfl, rfl, rfl⟩
  · exact result_ok _ _ _ _ B vA _ c vc v w hn hB h8 hnb (numE_all h1)
  · exact result_no X Y Wn Hn B N c v w hn hB hnb (numE_not h1)
end Go.Proofs.Ytpgdinpckolfpaa
