/- Plain words for scalings: their error, the level of a height, the height of a level. No program in sight. -/
import Derived.Test.YtgaonoklbihkjaaDoorFloorB
namespace Go.Proofs.YtgaonoklbihkjaaDoor
open Ieee Go.RowKit

theorem near_nan (s : Bool) (mag : Nat) (P : Int) : nanB (single.nearest s mag P) = false := by
  have hw : ∀ r, r ≤ 2139095040 → nanB (single.word s r) = false := by
    intro r hr
    show (single.read (single.word s r)).isNaN = false
    unfold Format.read
    simp only [single_sign, single_binade, single_inf, single_least]
    rw [word_rung (by omega)]
    by_cases h1 : r < 8388608
    · rw [if_pos h1]; rfl
    · rw [if_neg h1]
      by_cases h2 : r < 2139095040
      · rw [if_pos h2]; rfl
      · rw [if_neg h2, if_pos (by omega)]; rfl
  unfold Format.nearest
  split
  · exact hw 0 (by omega)
  · refine hw _ ?_
    simp only [single_inf]
    omega
theorem inf_nan (s : Bool) : nanB (single.write (.infinity s)) = false := by cases s <;> decide +kernel
theorem div_any {x y : Nat} {s t : Bool} {m n k j : Nat} (hx : single.read x = .number s m ((k : Int) - 149)) (hy : single.read y = .number t n ((j : Int) - 149)) (hn : n ≠ 0) :
    floatBits .quo .f32 x y = some (fdiv x y) ∧ nanB (fdiv x y) = false := by
  have h : ∃ r, single.div x y = some r ∧ nanB r = false := by
    unfold Format.div
    rw [hx, hy]
    simp only [Datum.quotient, if_neg hn]
    exact ⟨_, rfl, near_nan _ _ _⟩
  obtain ⟨r, h1, h2⟩ := h
  have h3 : floatBits .quo .f32 x y = some r := h1
  unfold fdiv
  rw [h3]
  exact ⟨rfl, h2⟩
theorem add_any {x y : Nat} {t : Bool} {n j : Nat} (hx : nanB x = false) (hy : single.read y = .number t n ((j : Int) - 149)) :
    floatBits .add .f32 x y = some (fadd x y) ∧ nanB (fadd x y) = false := by
  have h : ∃ r, single.add x y = some r ∧ nanB r = false := by
    have hx' : (single.read x).isNaN = false := hx
    unfold Format.add
    rw [hy]
    cases e : single.read x with
    | nan s q => rw [e] at hx'; cases hx'
    | infinity s => exact ⟨_, rfl, inf_nan s⟩
    | number s m p => exact ⟨_, rfl, near_nan _ _ _⟩
  obtain ⟨r, h1, h2⟩ := h
  have h3 : floatBits .add .f32 x y = some r := h1
  unfold fadd
  rw [h3]
  exact ⟨rfl, h2⟩

structure ScaleR where
  low : Nat
  step : Nat
  bits : Int
def ScaleR.v (s : ScaleR) : Value := .agg #[.float .f32 s.low, .float .f32 s.step, .int .i64 s.bits]
def scaleE (s : ScaleR) : Int := if numE [s.low, s.step] ≠ 0 then numE [s.low, s.step] else if gt s.step 0 = false ∨ s.bits < 1 ∨ 24 < s.bits then 3 else 0
theorem scaleE_bad {s : ScaleR} (h : numE [s.low, s.step] ≠ 0) : scaleE s = numE [s.low, s.step] := by unfold scaleE; rw [if_pos h]
theorem scaleE_out {s : ScaleR} (h : numE [s.low, s.step] = 0) (ho : gt s.step 0 = false ∨ s.bits < 1 ∨ 24 < s.bits) : scaleE s = 3 := by unfold scaleE; rw [if_neg (by simpa using h), if_pos ho]
theorem scaleE_in {s : ScaleR} (h : numE [s.low, s.step] = 0) (hg : gt s.step 0 = true) (h1 : 1 ≤ s.bits) (h2 : s.bits ≤ 24) : scaleE s = 0 := by
  unfold scaleE
  rw [if_neg (by simpa using h), if_neg]
  rw [hg]
  rintro (h | h | h)
  · cases h
  · omega
  · omega
theorem scaleE_zero {s : ScaleR} (h : scaleE s = 0) : numE [s.low, s.step] = 0 ∧ gt s.step 0 = true ∧ ∃ b : Nat, s.bits = b ∧ 1 ≤ b ∧ b ≤ 24 := by
  unfold scaleE at h
  split at h
  · rename_i h1
    exact absurd h h1
  · rename_i h1
    split at h
    · cases h
    · rename_i h2
      refine ⟨by simpa using h1, ?_, s.bits.toNat, by omega, by omega, by omega⟩
      rcases h3 : gt s.step 0
      · exact absurd (Or.inl h3) h2
      · rfl
theorem num_bd' {l : List Nat} (h : numE l = 0) : ∀ b ∈ l, Bd 20 b := fun b hb => hgt_bd ((numE_zero h).2 b hb)
theorem num_of_bd {K b : Nat} (h : Bd K b) (hK : K ≤ 127) : ∃ (s : Bool) (m k : Nat), single.read b = .number s m ((k : Int) - 149) := by
  obtain ⟨s, m, k, e, _⟩ := read_bd h hK
  exact ⟨s, m, k, e⟩
theorem step_pos {K b : Nat} (h : Bd K b) (hK : K ≤ 127) (hg : gt b 0 = true) : ∃ (m k : Nat), single.read b = .number false m ((k : Int) - 149) ∧ m ≠ 0 := by
  obtain ⟨s, m, k, e⟩ := num_of_bd h hK
  rw [gt_def (ord_val e read_zero), signed_zero] at hg
  cases s with
  | true =>
    rw [signed_neg] at hg
    rcases Int.lt_trichotomy (-((m * 2 ^ k : Nat) : Int)) 0 with h1 | h1 | h1
    · rw [Int.compare_eq_lt.2 h1] at hg; cases hg
    · rw [h1] at hg; cases hg
    · omega
  | false =>
    refine ⟨m, k, e, ?_⟩
    rintro rfl
    rw [signed_nat, Nat.zero_mul] at hg
    cases hg

/-- (v - Low) / Step + 0.5 -/
def lvq (s : ScaleR) (v : Nat) : Nat := fadd (fdiv (fsub v s.low) s.step) 1056964608
theorem read_half : single.read 1056964608 = .number false 8388608 (((125 : Nat) : Int) - 149) := by decide +kernel
theorem lv_ok {s : ScaleR} {v : Nat} (h : scaleE s = 0) (hv : numE [v] = 0) : floatBits .sub .f32 v s.low = some (fsub v s.low) ∧ floatBits .quo .f32 (fsub v s.low) s.step = some (fdiv (fsub v s.low) s.step) ∧
    floatBits .add .f32 (fdiv (fsub v s.low) s.step) 1056964608 = some (lvq s v) ∧ nanB (lvq s v) = false := by
  obtain ⟨h1, h2, _⟩ := scaleE_zero h
  have b1 := num_bd' h1 s.low (by simp)
  have b2 := num_bd' h1 s.step (by simp)
  have b3 := num_bd' hv v (by simp)
  obtain ⟨a1, a2⟩ := fsub_ok b3 b1 (by omega)
  obtain ⟨_, _, _, e1⟩ := num_of_bd a2 (by omega)
  obtain ⟨_, _, e2, hn⟩ := step_pos b2 (by omega) h2
  obtain ⟨c1, c2⟩ := div_any e1 e2 hn
  obtain ⟨d1, d2⟩ := add_any c2 read_half
  exact ⟨a1, c1, d1, d2⟩

def mostN (b : Nat) : Nat := 2 ^ b - 1
theorem mostN_bd {b : Nat} (h1 : 1 ≤ b) (h2 : b ≤ 24) : 1 ≤ mostN b ∧ mostN b < 16777216 ∧ mostN b + 1 = 2 ^ b := by
  have h3 : (2 : Nat) ^ 1 ≤ 2 ^ b := Nat.pow_le_pow_right (by omega) h1
  have h4 : (2 : Nat) ^ b ≤ 2 ^ 24 := Nat.pow_le_pow_right (by omega) h2
  unfold mostN
  omega
def levN (q most : Nat) : Int × Bool := if lt q 0 = true then (0, false) else if gt (floorB q) (floatOfInt .f32 (most : Int)) = true then ((most : Int), false) else ((floatToIntVal .f32 q .i64).getD 0, true)

/-- Low + float32(n) * Step -/
def valN (s : ScaleR) (n : Int) : Nat := fadd s.low (fmul (floatOfInt .f32 n) s.step)
theorem val_ok {s : ScaleR} {n : Int} (h : scaleE s = 0) (hn : n.natAbs < 2 ^ 25) : floatBits .mul .f32 (floatOfInt .f32 n) s.step = some (fmul (floatOfInt .f32 n) s.step) ∧ floatBits .add .f32 s.low (fmul (floatOfInt .f32 n) s.step) = some (valN s n) ∧ finB (valN s n) = true := by
  obtain ⟨h1, _⟩ := scaleE_zero h
  have b1 := num_bd' h1 s.low (by simp)
  have b2 := num_bd' h1 s.step (by simp)
  have b3 : Bd 25 (floatOfInt .f32 n) := int_bd hn (by omega)
  obtain ⟨a1, a2⟩ := fmul_ok b3 b2 (by omega)
  obtain ⟨c1, c2⟩ := fadd_ok (b1.mono (show 20 ≤ 46 by omega)) a2 (by omega)
  exact ⟨a1, c1, bd_finB c2 (by omega)⟩
end Go.Proofs.YtgaonoklbihkjaaDoor
