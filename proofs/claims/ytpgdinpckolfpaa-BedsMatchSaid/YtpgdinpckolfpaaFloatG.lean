/- Singles that are bounded are finite, or heights. No program in sight. -/
import Derived.Test.YtpgdinpckolfpaaFloatF
namespace Go.Proofs.Ytpgdinpckolfpaa
open Ieee
theorem ord_le {K b c n j : Nat} (h : Bd K b) (hK : K ≤ 127) (hc : single.read c = .number false n ((j : Int) - 149)) (hn : 2 ^ (K + 149) ≤ n * 2 ^ j) : ord b c = some .lt ∨ ord b c = some .eq := by
  obtain ⟨s, m, k, e, hm⟩ := read_bd h hK
  rw [ord_val e hc]
  have h1 := signed_abs s m k
  have h2 := signed_abs false n j
  have h3 := signed_false n j
  rcases Int.lt_trichotomy (signed s m k) (signed false n j) with h | h | h
  · left; rw [Int.compare_eq_lt.2 h]
  · right; rw [Int.compare_eq_eq.2 h]
  · exfalso; omega
theorem ord_ge {K b c n j : Nat} (h : Bd K b) (hK : K ≤ 127) (hc : single.read c = .number true n ((j : Int) - 149)) (hn : 2 ^ (K + 149) ≤ n * 2 ^ j) : ord b c = some .gt ∨ ord b c = some .eq := by
  obtain ⟨s, m, k, e, hm⟩ := read_bd h hK
  rw [ord_val e hc]
  have h1 := signed_abs s m k
  have h2 := signed_abs true n j
  have h3 : signed true n j ≤ 0 := by
    unfold signed
    rw [if_pos rfl]
    omega
  rcases Int.lt_trichotomy (signed s m k) (signed true n j) with h | h | h
  · exfalso; omega
  · right; rw [Int.compare_eq_eq.2 h]
  · left; rw [Int.compare_eq_gt.2 h]
theorem bd_hgt {K b : Nat} (h : Bd K b) (hK : K ≤ 20) : hgtB b = true := by
  have h' := h.mono hK
  unfold hgtB
  rcases ord_le h' (by omega) (show single.read 1233125376 = .number false 8388608 (((146 : Nat) : Int) - 149) by decide +kernel) (by decide) with a | a <;>
  rcases ord_ge h' (by omega) (show single.read 3380609024 = .number true 8388608 (((146 : Nat) : Int) - 149) by decide +kernel) (by decide) with d | d <;> rw [a, d] <;> rfl
theorem bd_finB {K b : Nat} (h : Bd K b) (hK : K ≤ 100) : finB b = true := by
  have h' := h.mono hK
  unfold finB
  rcases ord_le h' (by omega) (show single.read 2139095039 = .number false 16777215 (((253 : Nat) : Int) - 149) by decide +kernel) (by decide) with a | a <;>
  rcases ord_ge h' (by omega) (show single.read 4286578687 = .number true 16777215 (((253 : Nat) : Int) - 149) by decide +kernel) (by decide) with d | d <;> rw [a, d] <;> rfl
end Go.Proofs.Ytpgdinpckolfpaa
