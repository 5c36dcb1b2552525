/- Singles as integers: tests, sums and differences by their values. No program in sight. -/
import Derived.Test.YtpgdinpckolfpaaKeyA
namespace Go.Proofs.Ytpgdinpckolfpaa
open Go.RowKit Ieee

theorem lt_val {x y : Nat} (hx : Fin x) (hy : Fin y) : lt x y = decide (valI x < valI y) := by
  unfold lt
  rw [ord_def, ord_valI hx hy, Bool.eq_iff_iff]
  simp [Int.compare_eq_lt]
theorem gt_val {x y : Nat} (hx : Fin x) (hy : Fin y) : gt x y = decide (valI y < valI x) := by
  unfold gt
  rw [ord_def, ord_valI hx hy, Bool.eq_iff_iff]
  simp [Int.compare_eq_gt]
theorem eq_val {x y : Nat} (hx : Fin x) (hy : Fin y) : ord x y = some .eq ↔ valI x = valI y := by
  rw [ord_valI hx hy]
  simp
theorem fadd_key {K x y : Nat} (hx : Bd K x) (hy : Bd K y) (hK : K ≤ 120) : keyI (fadd x y) = rkey (valI x + valI y) := by
  obtain ⟨r, hr, _⟩ := fadd_bd hx hy (by omega)
  have e := (fadd_ok hx hy hK).1
  have e2 : single.add x y = some (fadd x y) := by
    rw [← e]
    rfl
  exact add_key (bd_Fin hx (by omega)) (bd_Fin hy (by omega)) e2
theorem fsub_key {K x y : Nat} (hx : Bd K x) (hy : Bd K y) (hK : K ≤ 120) : keyI (fsub x y) = rkey (valI x - valI y) := by
  have e := (fsub_ok hx hy hK).1
  have e2 : single.sub x y = some (fsub x y) := by
    rw [← e]
    rfl
  exact sub_key (bd_Fin hx (by omega)) (bd_Fin hy (by omega)) e2
/-- a sum rises with what is added -/
theorem fadd_mono {K x y x' y' : Nat} (hx : Bd K x) (hy : Bd K y) (hx' : Bd K x') (hy' : Bd K y') (hK : K ≤ 120) (h : valI x ≤ valI x') (h' : valI y ≤ valI y') : valI (fadd x y) ≤ valI (fadd x' y') := by
  rw [val_key_le, fadd_key hx hy hK, fadd_key hx' hy' hK]
  exact rkey_mono (by omega)
theorem fadd_ge {K x y : Nat} (hx : Bd K x) (hy : Bd K y) (hK : K ≤ 120) (h : 0 ≤ valI y) : valI x ≤ valI (fadd x y) := by
  rw [val_key_le, fadd_key hx hy hK, ← rkey_val (bd_Fin hx (by omega))]
  exact rkey_mono (by omega)
theorem fadd_le {K x y : Nat} (hx : Bd K x) (hy : Bd K y) (hK : K ≤ 120) (h : valI y ≤ 0) : valI (fadd x y) ≤ valI x := by
  rw [val_key_le, fadd_key hx hy hK, ← rkey_val (bd_Fin hx (by omega))]
  exact rkey_mono (by omega)
theorem fadd_same {K x y x' y' : Nat} (hx : Bd K x) (hy : Bd K y) (hx' : Bd K x') (hy' : Bd K y') (hK : K ≤ 120) (h : valI x = valI x') (h' : valI y = valI y') : valI (fadd x y) = valI (fadd x' y') := by
  rw [val_key_eq, fadd_key hx hy hK, fadd_key hx' hy' hK, h, h']
theorem val_zero : valI 0 = 0 := rfl
theorem bd_val {K b : Nat} (hK : K ≤ 127) : Bd K b ↔ valN (b % 2147483648) ≤ 2 ^ (K + 149) := by
  have e : 2 ^ (K + 149) = valN ((K + 127) * 8388608) := by
    unfold valN
    rw [if_neg (by omega), Nat.mul_mod_left, Nat.mul_div_cancel _ (by decide)]
    have : (2 : Nat) ^ (23 + (K + 126)) = 8388608 * 2 ^ (K + 126) := Nat.pow_add 2 23 (K + 126)
    rw [show K + 149 = 23 + (K + 126) by omega, this]
    rfl
  rw [e]
  unfold Bd
  constructor
  · exact valN_le
  · intro h
    rcases Nat.lt_or_ge ((K + 127) * 8388608) (b % 2147483648) with hlt | hge
    · have := valN_lt hlt
      omega
    · exact hge
theorem bd_valI {K b : Nat} (hK : K ≤ 127) : Bd K b ↔ (valI b).natAbs ≤ 2 ^ (K + 149) := by
  rw [bd_val hK]
  unfold valI
  split <;> omega
theorem lt_trans' {a b c : Nat} (ha : Fin a) (hb : Fin b) (hc : Fin c) (h : lt a b = true) (k : lt b c = true) : lt a c = true := by
  rw [lt_val ha hb] at h
  rw [lt_val hb hc] at k
  rw [lt_val ha hc]
  simp at *
  omega
theorem hgt_Fin {b : Nat} (h : hgtB b = true) : Fin b := bd_Fin (hgt_bd h) (by omega)
end Go.Proofs.Ytpgdinpckolfpaa
