/- Contracts: small tests, errors of regions, numbers and fields. -/
import Derived.Test.YtpgdinpckolfpaaRows
import Derived.Test.YtpgdinpckolfpaaPlain
import Derived.Deep.QuietTactic
import Derived.BigQuiet
import Derived.Deep.DrawnRows
import Derived.Deep.RegionHeld3
import Derived.Laws.FloatArith
namespace Go.Proofs.Ytpgdinpckolfpaa
open Go.RowKit

set_option maxHeartbeats 400000 in
theorem within_any (n lo hi : Int) (w : World) :
    Calls Try.prog 35 #[.int .i64 n, .int .i64 lo, .int .i64 hi] w fun e w' => e = .returned (.bool (decide (lo ≤ n) && decide (n ≤ hi))) ∧ w = w' := by
  go_enter Try.func35, Try.ntmps35
  go_wp2
  all_goals go_ret
  all_goals exact ⟨ret_b (by simp; try omega), rfl⟩

set_option maxHeartbeats 400000 in
theorem when_any (b : Bool) (n : Int) (w : World) :
    Calls Try.prog 19 #[.bool b, .int .i64 n] w fun e w' => e = .returned (.int .i64 (if b then n else 0)) ∧ w = w' := by
  cases b
  all_goals
    go_enter Try.func19, Try.ntmps19
    go_wp2
    go_ret
    exact ⟨rfl, rfl⟩

set_option maxHeartbeats 400000 in
theorem first_any (A : Option Addr) (n c : Nat) (l : List Int) (w : World) (hn : l.length = n) (hr : Rd w A (l.map (.int .i64))) (hb : n ≤ 4000000000) :
    Calls Try.prog 17 #[.slice A n c] w fun e w' => e = .returned (.int .i64 (firstE l)) ∧ w = w' := by
  have Hn := hidA hn
  clear hn
  go_enter Try.func17, Try.ntmps17
  go_wp2
  go_loop [7] (fun i => ∃ k : Nat, k ≤ n ∧ i = .int .i64 k ∧ Hid (firstE (l.drop k) = firstE l)) (fun i => n - (intOf i).toNat)
  case atStart => exact ⟨0, Nat.zero_le _, rfl, rfl⟩
  case round =>
    obtain ⟨k, hk, rfl, hf⟩ := hrel
    by_cases hlt : k < n
    · have hkl : k < l.length := by have := Hn.out; omega
      obtain ⟨ad, rfl, hbk, hc⟩ := hr.at (k := k) (by simpa using hkl)
      have hck := hc k (.int .i64 l[k]) (by simp [hkl])
      have hd : Hid (firstE l = if l[k] = 0 then firstE (l.drop (k + 1)) else l[k]) := by
        have h := hf.out
        rw [List.drop_eq_getElem_cons hkl] at h
        exact h.symm
      clear hc hr
      by_cases hz : l[k] = 0
      · have Hz : Hid (l[k] = 0) := hz
        rw [Hz.out] at hck
        clear hz
        go_wp2
        go_round
        case rel => exact ⟨k + 1, by omega, by go_num, by have h := hd.out; rw [if_pos Hz.out] at h; exact h.symm⟩
        case measure => simp [intOf]; omega
      · have hz' : (l[k] != 0) = true := by simpa using hz
        go_wp2
        go_ret
        exact ⟨ret_i (by have h := hd.out; rw [if_neg hz] at h; exact h.symm), rfl⟩
    · have : k = n := by omega
      subst this
      have hend : Hid (firstE l = 0) := by
        have h := hf.out
        rw [List.drop_of_length_le (by have := Hn.out; omega)] at h
        exact h.symm
      go_wp2
      go_ret
      exact ⟨ret_i hend.out.symm, rfl⟩

set_option maxHeartbeats 400000 in
theorem finite_any (b : Nat) (w : World) :
    Calls Try.prog 101 #[.float .f32 b] w fun e w' => e = .returned (.bool (finB b)) ∧ w = w' := by
  go_enter Try.func101, Try.ntmps101
  go_wp2
  all_goals go_ret
  · exact ⟨rfl, rfl⟩
  · rename_i h
    refine ⟨ret_b ?_, rfl⟩
    simp only [ord_def] at h
    simp [finB, h]

set_option maxHeartbeats 400000 in
theorem height_any (b : Nat) (w : World) :
    Calls Try.prog 102 #[.float .f32 b] w fun e w' => e = .returned (.bool (hgtB b)) ∧ w = w' := by
  go_enter Try.func102, Try.ntmps102
  go_wp2
  all_goals go_ret
  · exact ⟨rfl, rfl⟩
  · rename_i h
    refine ⟨ret_b ?_, rfl⟩
    simp only [ord_def] at h
    simp [hgtB, h]

set_option maxHeartbeats 800000 in
theorem heights_any (A : Option Addr) (n c : Nat) (l : List Nat) (w : World) (hn : l.length = n) (hr : Rd w A (flt l)) (hb : n ≤ 140737488351232) :
    Calls Try.prog 59 #[.slice A n c] w fun e w' => e = .returned (.int .i64 (numE l)) ∧ w = w' := by
  have Hn := hidA hn
  clear hn
  go_enter Try.func59, Try.ntmps59
  go_wp2
  go_loop [9] (fun i => ∃ k : Nat, k ≤ n ∧ i = .int .i64 k ∧ AllTo finB l k) (fun i => n - (intOf i).toNat)
  case atStart => exact ⟨0, Nat.zero_le _, rfl, AllTo.zero _ _⟩
  case round =>
    obtain ⟨k, hk, rfl, hf⟩ := hrel
    by_cases hlt : k < n
    · have hkl : k < l.length := by have := Hn.out; omega
      obtain ⟨ad, rfl, hbk, hc⟩ := hr.at (k := k) (by simpa using hkl)
      have hck := hc k _ (flt_get hkl)
      clear hc hr
      cases hfin : finB l[k]
      · have H2 : Hid (numE l = 2) := numE_two hkl hfin
        go_wp2_with (go_at_call 101; refine (finite_any _ _).mono ?_; rintro e w' ⟨rfl, rfl⟩)
        go_ret
        exact ⟨ret_i H2.out.symm, rfl⟩
      · have hs := hf.step hkl hfin
        go_wp2_with (go_at_call 101; refine (finite_any _ _).mono ?_; rintro e w' ⟨rfl, rfl⟩)
        go_round
        case rel => exact ⟨k + 1, by omega, by go_num, hs⟩
        case measure => simp [intOf]; omega
    · have ha : Hid (∀ b ∈ l, finB b = true) := hf.all (by have := Hn.out; omega)
      clear hf
      go_wp2
      go_loop [19] (fun i => ∃ k : Nat, k ≤ n ∧ i = .int .i64 k ∧ AllTo hgtB l k) (fun i => n - (intOf i).toNat)
      case atStart => exact ⟨0, Nat.zero_le _, rfl, AllTo.zero _ _⟩
      case round =>
        obtain ⟨k, hk, rfl, hf⟩ := hrel
        by_cases hlt : k < n
        · have hkl : k < l.length := by have := Hn.out; omega
          obtain ⟨ad, rfl, hbk, hc⟩ := hr.at (k := k) (by simpa using hkl)
          have hck := hc k _ (flt_get hkl)
          clear hc hr
          cases hfin : hgtB l[k]
          · have H2 : Hid (numE l = 3) := numE_three ha.out hkl hfin
            go_wp2_with (go_at_call 102; refine (height_any _ _).mono ?_; rintro e w' ⟨rfl, rfl⟩)
            go_ret
            exact ⟨ret_i H2.out.symm, rfl⟩
          · have hs := hf.step hkl hfin
            go_wp2_with (go_at_call 102; refine (height_any _ _).mono ?_; rintro e w' ⟨rfl, rfl⟩)
            go_round
            case rel => exact ⟨k + 1, by omega, by go_num, hs⟩
            case measure => simp [intOf]; omega
        · have H2 : Hid (numE l = 0) := numE_ok ha.out (hf.all (by have := Hn.out; omega))
          go_wp2
          go_ret
          exact ⟨ret_i H2.out.symm, rfl⟩

end Go.Proofs.Ytpgdinpckolfpaa
