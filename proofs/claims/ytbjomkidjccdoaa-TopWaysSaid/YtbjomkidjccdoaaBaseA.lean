/- Contracts: small tests, errors of regions, numbers and fields. -/
import Derived.Test.YtbjomkidjccdoaaRows
import Derived.Test.YtbjomkidjccdoaaPlain
import Derived.Deep.QuietTactic
import Derived.BigQuiet
import Derived.Deep.DrawnRows
import Derived.Deep.RegionHeld3
import Derived.Laws.FloatArith
namespace Go.Proofs.Ytbjomkidjccdoaa
open Go.RowKit

set_option maxHeartbeats 400000 in
theorem finite_any (b : Nat) (w : World) :
    Calls Try.prog 41 #[.float .f32 b] w fun e w' => e = .returned (.bool (finB b)) ∧ w = w' := by
  go_enter Try.func41, Try.ntmps41
  go_wp2
  all_goals go_ret
  · exact ⟨rfl, rfl⟩
  · rename_i h
    refine ⟨ret_b ?_, rfl⟩
    simp only [ord_def] at h
    simp [finB, h]

set_option maxHeartbeats 400000 in
theorem height_any (b : Nat) (w : World) :
    Calls Try.prog 42 #[.float .f32 b] w fun e w' => e = .returned (.bool (hgtB b)) ∧ w = w' := by
  go_enter Try.func42, Try.ntmps42
  go_wp2
  all_goals go_ret
  · exact ⟨rfl, rfl⟩
  · rename_i h
    refine ⟨ret_b ?_, rfl⟩
    simp only [ord_def] at h
    simp [hgtB, h]

set_option maxHeartbeats 800000 in
theorem heights_any (A : Option Addr) (n c : Nat) (l : List Nat) (w : World) (hn : l.length = n) (hr : Rd w A (flt l)) (hb : n ≤ 140737488351232) :
    Calls Try.prog 28 #[.slice A n c] w fun e w' => e = .returned (.int .i64 (numE l)) ∧ w = w' := by
  have Hn := hidA hn
  clear hn
  go_enter Try.func28, Try.ntmps28
  go_wp2
  go_loop [9] (fun i => ∃ k : Nat, k ≤ n ∧ i = .int .i64 k ∧ AllTo finB l k) (fun i => n - (intOf i).toNat)
  case atStart => exact ⟨0, Nat.zero_le _, rfl, AllTo.zero _ _⟩
  case round =>
    obtain ⟨k, hk, rfl, hf⟩ := hrel
    by_cases hlt : k < n
    · have hkl : k < l.length := by have := Hn.out; omega
      obtain ⟨ad, rfl, hbk, hc⟩ := hr.at (k := k) (by simpa using hkl)
      have hck := hc k _ (flt_get hkl)
      clear hc hr
      cases hfin : finB l[k]
      · have H2 : Hid (numE l = 2) := numE_two hkl hfin
        go_wp2_with (go_at_call 41; refine (finite_any _ _).mono ?_; rintro e w' ⟨rfl, rfl⟩)
        go_ret
        exact ⟨ret_i H2.out.symm, rfl⟩
      · have hs := hf.step hkl hfin
        go_wp2_with (go_at_call 41; refine (finite_any _ _).mono ?_; rintro e w' ⟨rfl, rfl⟩)
        go_round
        case rel => exact ⟨k + 1, by omega, by go_num, hs⟩
        case measure => simp [intOf]; omega
    · have ha : Hid (∀ b ∈ l, finB b = true) := hf.all (by have := Hn.out; omega)
      clear hf
      go_wp2
      go_loop [19] (fun i => ∃ k : Nat, k ≤ n ∧ i = .int .i64 k ∧ AllTo hgtB l k) (fun i => n - (intOf i).toNat)
      case atStart => exact ⟨0, Nat.zero_le _, rfl, AllTo.zero _ _⟩
      case round =>
        obtain ⟨k, hk, rfl, hf⟩ := hrel
        by_cases hlt : k < n
        · have hkl : k < l.length := by have := Hn.out; omega
          obtain ⟨ad, rfl, hbk, hc⟩ := hr.at (k := k) (by simpa using hkl)
          have hck := hc k _ (flt_get hkl)
          clear hc hr
          cases hfin : hgtB l[k]
          · have H2 : Hid (numE l = 3) := numE_three ha.out hkl hfin
            go_wp2_with (go_at_call 42; refine (height_any _ _).mono ?_; rintro e w' ⟨rfl, rfl⟩)
            go_ret
            exact ⟨ret_i H2.out.symm, rfl⟩
          · have hs := hf.step hkl hfin
            go_wp2_with (go_at_call 42; refine (height_any _ _).mono ?_; rintro e w' ⟨rfl, rfl⟩)
            go_round
            case rel => exact ⟨k + 1, by omega, by go_num, hs⟩
            case measure => simp [intOf]; omega
        · have H2 : Hid (numE l = 0) := numE_ok ha.out (hf.all (by have := Hn.out; omega))
          go_wp2
          go_ret
          exact ⟨ret_i H2.out.symm, rfl⟩

end Go.Proofs.Ytbjomkidjccdoaa
