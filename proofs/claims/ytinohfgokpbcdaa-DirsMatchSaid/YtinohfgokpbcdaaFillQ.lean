/- The least spills of a grid of singles: sums as a function of values; all cells hang together. No program in sight. -/
import Derived.Test.YtinohfgokpbcdaaFillP
namespace Go.Proofs.Ytinohfgokpbcdaa
open Go.RowKit

/-- the value of a key -/
def valK (q : Int) : Int := if q < 0 then -((valN q.natAbs : Nat) : Int) else ((valN q.natAbs : Nat) : Int)
theorem valI_key (b : Nat) : valI b = valK (keyI b) := by
  unfold valI valK keyI
  by_cases h : b / 2147483648 % 2 = 1
  · rw [if_pos h, if_pos h]
    by_cases h0 : b % 2147483648 = 0
    · rw [h0]
      simp [valN_zero]
    · rw [if_pos (by omega), Int.natAbs_neg, Int.natAbs_natCast]
  · rw [if_neg h, if_neg h, if_neg (by omega), Int.natAbs_natCast]
theorem valK_mono {p q : Int} (h : p ≤ q) : valK p ≤ valK q := by
  unfold valK
  by_cases hp : p < 0
  · by_cases hq : q < 0
    · rw [if_pos hp, if_pos hq]
      have := valN_le (show q.natAbs ≤ p.natAbs by omega)
      omega
    · rw [if_pos hp, if_neg hq]
      omega
  · rw [if_neg hp, if_neg (by omega)]
    have := valN_le (show p.natAbs ≤ q.natAbs by omega)
    omega
/-- what a sum with s makes of a value -/
def upV (s : Nat) (z : Int) : Int := valK (rkey (z + valI s))
theorem upV_mono (s : Nat) (x y : Int) (h : x ≤ y) : upV s x ≤ upV s y := valK_mono (rkey_mono (by omega))
theorem fadd_up {x s : Nat} (hx : Bd 36 x) (hs : Bd 10 s) : valI (fadd x s) = upV s (valI x) := by
  rw [valI_key, fadd_key hx (hs.mono (by omega)) (by omega)]
  rfl
theorem cap_near : nearN (2 ^ 185 + 2 ^ 159) = 163 * 8388608 := by decide +kernel
theorem cap_val : valN (163 * 8388608) = 2 ^ 185 := by decide +kernel
theorem fadd_cap {x s : Nat} (hx : Bd 36 x) (hs : Bd 10 s) (h0 : 0 ≤ valI s) : Bd 36 (fadd x s) := by
  have h1 := fadd_ge hx (hs.mono (by omega)) (by omega) h0
  have hxv := (bd_valI (K := 36) (by omega)).1 hx
  have hsv := (bd_valI (K := 10) (by omega)).1 hs
  rw [bd_valI (by omega)]
  have h2 : valI (fadd x s) ≤ 2 ^ 185 := by
    rw [fadd_up hx hs]
    unfold upV
    have h3 : rkey (valI x + valI s) ≤ rkey (2 ^ 185 + 2 ^ 159) := rkey_mono (by omega)
    have h4 : rkey (2 ^ 185 + 2 ^ 159) = 163 * 8388608 := by
      unfold rkey
      have e : Int.natAbs ((2 : Int) ^ 185 + 2 ^ 159) = 2 ^ 185 + 2 ^ 159 := by rfl
      rw [if_neg (by decide), e, cap_near]
      decide
    have h5 := valK_mono h3
    rw [h4] at h5
    have h6 : valK (163 * 8388608) = 2 ^ 185 := by
      unfold valK
      have e : Int.natAbs ((163 : Int) * 8388608) = 163 * 8388608 := by rfl
      rw [if_neg (by decide), e, cap_val]
      rfl
    omega
  omega
/-- the spill that a cell takes over from a neighbour -/
def relV (h s x : Nat) : Nat := if gt (fadd x s) h = true then fadd x s else h
theorem relV_bd {h s x : Nat} (hh : Bd 20 h) (hx : Bd 36 x) (hs : Bd 10 s) (h0 : 0 ≤ valI s) : Bd 36 (relV h s x) := by
  unfold relV
  split
  · exact fadd_cap hx hs h0
  · exact hh.mono (by omega)
theorem relV_val {h s x : Nat} (hh : Bd 20 h) (hx : Bd 36 x) (hs : Bd 10 s) (h0 : 0 ≤ valI s) : valI (relV h s x) = max (valI h) (upV s (valI x)) := by
  have hc := fadd_cap hx hs h0
  have e := fadd_up hx hs
  unfold relV
  rw [gt_val (bd_Fin hc (by omega)) (bd_Fin hh (by omega)), e]
  by_cases hlt : valI h < upV s (valI x)
  · rw [if_pos (by simpa using hlt), e]
    omega
  · rw [if_neg (by simpa using hlt)]
    omega
theorem infl_val {s x : Nat} (hx : Bd 36 x) (hs : Bd 10 s) (h0 : 0 ≤ valI s) : valI x ≤ upV s (valI x) := by
  rw [← fadd_up hx hs]
  exact fadd_ge hx (hs.mono (by omega)) (by omega) h0

/-- from the border all cells are reached -/
theorem conn_grid {Wn Hn : Nat} (h1 : 1 ≤ Wn) (P : Nat → Prop) (hb : ∀ k, k < Wn * Hn → brd Wn Hn k = true → P k) (hs : ∀ n d m, n < Wn * Hn → P n → d < 8 → nbr Wn Hn n d = some m → P m) : ∀ k, k < Wn * Hn → P k := by
  have key : ∀ a k, k % Wn = a → k < Wn * Hn → P k := by
    intro a
    induction a with
    | zero =>
      intro k hk hkn
      exact hb k hkn (by unfold brd; simp [hk])
    | succ a ih =>
      intro k hk hkn
      obtain ⟨f1, f2⟩ := grid_facts h1 hkn
      have hdm := Nat.div_add_mod k Wn
      rw [hk] at f1 hdm
      have hq : (k - 1) / Wn = k / Wn ∧ (k - 1) % Wn = a := by
        have e : k - 1 = Wn * (k / Wn) + a := by omega
        rw [e]
        constructor
        · rw [Nat.mul_add_div (by omega), Nat.div_eq_of_lt (show a < Wn by omega), Nat.add_zero]
        · rw [Nat.mul_add_mod, Nat.mod_eq_of_lt (by omega)]
      have hp := ih (k - 1) hq.2 (by omega)
      refine hs (k - 1) 0 k (by omega) hp (by omega) ?_
      unfold nbr
      rw [hq.1, hq.2]
      have e0 : stepX ((0 : Nat) : Int) = 1 := rfl
      have e1 : stepY ((0 : Nat) : Int) = 0 := rfl
      generalize k / Wn = q at *
      rw [e0, e1, if_pos (by omega)]
      congr 1
      rw [show (((q : Nat) : Int) + 0).toNat = q by omega, show ((a : Int) + 1).toNat = a + 1 by omega, Nat.mul_comm]
      omega
  exact fun k hk => key _ k rfl hk
abbrev WayG (Wn Hn : Nat) (h : Nat → Nat) (s : Nat) := Way (Wn * Hn) (nbr Wn Hn) (brd Wn Hn) (fun k => valI (h k)) (upV s)
abbrev LeastG (Wn Hn : Nat) (h : Nat → Nat) (s : Nat) := Least (Wn * Hn) (nbr Wn Hn) (brd Wn Hn) (fun k => valI (h k)) (upV s)
theorem way_bd {Wn Hn s : Nat} {h : Nat → Nat} (hh : ∀ k, k < Wn * Hn → Bd 20 (h k)) (hs : Bd 10 s) (h0 : 0 ≤ valI s) {k : Nat} {z : Int} (hw : WayG Wn Hn h s k z) : ∃ b, Bd 36 b ∧ valI b = z := by
  induction hw with
  | @start k hk he => exact ⟨h k, (hh k hk).mono (by omega), rfl⟩
  | @step n d k z hw hn hd hnb hk ih =>
    obtain ⟨b, hb, rfl⟩ := ih
    exact ⟨relV (h k) s b, relV_bd (hh k hk) hb hs h0, relV_val (hh k hk) hb hs h0⟩
end Go.Proofs.Ytinohfgokpbcdaa
