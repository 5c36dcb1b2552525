/- Contracts: lattices, divisions rounded down, steps of lines. -/
import Derived.Test.YtjfipkccbapajaaBaseC
import Derived.Test.YtjfipkccbapajaaWordsB
namespace Go.Proofs.Ytjfipkccbapajaa
open Go.RowKit

theorem tdiv_floor (x c : Int) (hc : 0 < c) : x.tdiv c = if x.tmod c < 0 then x / c + 1 else x / c := by
  have h1 : x = c * x.tdiv c + x.tmod c := by have := Int.mul_tdiv_add_tmod x c; omega
  have h2 : x = c * (x / c) + x % c := by have := Int.mul_ediv_add_emod x c; omega
  have h3 := Int.emod_nonneg x (show c ≠ 0 by omega)
  have h4 := Int.emod_lt_of_pos x hc
  have h5 := Int.tdiv_eq_ediv (a := x) (b := c)
  by_cases hx : 0 ≤ x ∨ c ∣ x
  · rw [if_pos hx] at h5
    have : ¬ x.tmod c < 0 := by
      have : x.tmod c = x % c := by
        rw [Int.add_zero] at h5
        rw [h5] at h1
        omega
      omega
    rw [if_neg this]; omega
  · rw [if_neg hx, Int.sign_eq_one_of_pos hc] at h5
    have hd : x % c ≠ 0 := fun h => hx (.inr (Int.dvd_of_emod_eq_zero h))
    have : x.tmod c < 0 := by
      rw [h5] at h1
      rw [Int.mul_add] at h1
      omega
    rw [if_pos this]; exact h5

theorem tmod_floor (x c : Int) (hc : 0 < c) : x.tmod c = if x.tmod c < 0 then x % c - c else x % c := by
  have h1 := Int.mul_tdiv_add_tmod x c
  have h2 := Int.mul_ediv_add_emod x c
  have h3 := tdiv_floor x c hc
  by_cases h : x.tmod c < 0
  · rw [if_pos h] at h3 ⊢
    rw [h3, Int.mul_add] at h1
    omega
  · rw [if_neg h] at h3 ⊢
    rw [h3] at h1
    omega
theorem ediv_bd {x c M : Int} (hc : 0 < c) (hM : 0 ≤ M) (hx : -M ≤ x ∧ x ≤ M) : -M ≤ x / c ∧ x / c ≤ M := by
  constructor
  · refine (Int.le_ediv_iff_mul_le hc).2 ?_
    have := Int.mul_le_mul_of_nonneg_left (show 1 ≤ c by omega) hM
    rw [Int.neg_mul]
    omega
  · have : x / c < M + 1 := by
      refine (Int.ediv_lt_iff_lt_mul hc).2 ?_
      have := Int.mul_le_mul_of_nonneg_left (show 1 ≤ c by omega) (show 0 ≤ M + 1 by omega)
      omega
    omega

set_option maxHeartbeats 400000 in
theorem lattice_any (x c : Int) (w : World) (hc : 0 < c) (hc2 : c ≤ 1099511627776) (hx : -1099511627776 ≤ x ∧ x ≤ 1099511627776) :
    Calls Try.prog 172 #[.int .i64 x, .int .i64 c] w fun e w' => e = .returned (.tuple #[.int .i64 (x / c), .int .i64 (x % c)]) ∧ ∃ m, w' = w.drewN m := by
  have hc0 : ¬ c = 0 := by omega
  have Hd := hidA (tdiv_floor x c hc)
  have Hm := hidA (tmod_floor x c hc)
  have hb := ediv_bd hc (by omega) hx
  have hm := Int.emod_nonneg x (show c ≠ 0 by omega)
  have hm2 := Int.emod_lt_of_pos x hc
  by_cases h : x.tmod c < 0
  · have e1 := Hd.out
    have e2 := Hm.out
    rw [if_pos h] at e1 e2
    have b1 : -1099511627777 ≤ x.tdiv c := by omega
    have b2 : x.tdiv c ≤ 1099511627777 := by omega
    have E1 : Hid (x.tdiv c - 1 = x / c) := by rw [e1]; exact Int.add_sub_cancel _ _
    have E2 : Hid (x.tmod c + c = x % c) := by rw [e2]; exact Int.sub_add_cancel _ _
    have b3 : -1099511627776 ≤ x.tmod c := by omega
    clear e1 e2 Hd Hm
    go_enter Try.func172, Try.ntmps172
    go_wp2
    go_quiet (fail)
    go_wp2
    go_ret2
    exact ⟨by simp [E1.out, E2.out], _, rfl⟩
  · have e1 := Hd.out
    have e2 := Hm.out
    rw [if_neg h] at e1 e2
    have E1 := hidA e1
    have E2 := hidA e2
    have h0 : 0 ≤ x.tmod c := by omega
    clear e1 e2 Hd Hm
    go_enter Try.func172, Try.ntmps172
    go_wp2
    go_quiet (fail)
    go_wp2
    go_ret2
    exact ⟨by simp [E1.out, E2.out], _, rfl⟩

set_option maxHeartbeats 400000 in
theorem div_any (x c : Int) (w : World) (hc : 0 < c) (hc2 : c ≤ 1099511627776) (hx : -1099511627776 ≤ x ∧ x ≤ 1099511627776) :
    Calls Try.prog 72 #[.int .i64 x, .int .i64 c] w fun e w' => e = .returned (.int .i64 (x / c)) ∧ w = w' := by
  have hc0 : ¬ c = 0 := by omega
  have Hd := hidA (tdiv_floor x c hc)
  have hb := ediv_bd hc (by omega) hx
  have h1 := Int.mul_tdiv_add_tmod x c
  have h2 := Int.tmod_lt_of_pos x hc
  have h3 : -c ≤ x.tmod c := by
    have i1 := Int.emod_nonneg x (show c ≠ 0 by omega)
    have i2 := Int.emod_lt_of_pos x hc
    by_cases h : x.tmod c < 0
    · have t := tmod_floor x c hc
      rw [if_pos h] at t
      generalize x % c = r at i1 i2 t
      omega
    · omega
  have hcm : c * x.tdiv c = x.tdiv c * c := Int.mul_comm _ _
  rw [hcm] at h1
  clear hcm
  by_cases h : x.tmod c < 0
  · have e1 := Hd.out
    rw [if_pos h] at e1
    have b1 : -1099511627777 ≤ x.tdiv c := by omega
    have b2 : x.tdiv c ≤ 1099511627777 := by omega
    have E1 : Hid (x.tdiv c - 1 = x / c) := by rw [e1]; exact Int.add_sub_cancel _ _
    have g1 : x < x.tdiv c * c := by omega
    have g2 : x.tdiv c * c ≤ 2199023255552 := by omega
    have g3 : -2199023255552 ≤ x.tdiv c * c := by omega
    clear e1 Hd h1
    go_enter Try.func72, Try.ntmps72
    go_wp2
    go_ret
    exact ⟨by simp [E1.out], rfl⟩
  · have e1 := Hd.out
    rw [if_neg h] at e1
    have E1 := hidA e1
    have g1 : x.tdiv c * c ≤ x := by omega
    have g3 : -2199023255552 ≤ x.tdiv c * c := by omega
    clear e1 Hd h1
    go_enter Try.func72, Try.ntmps72
    go_wp2
    go_ret
    exact ⟨by simp [E1.out], rfl⟩

end Go.Proofs.Ytjfipkccbapajaa
