/- Contract: bits of singles that are the same. -/
import Derived.Test.YtinohfgokpbcdaaPlaces
namespace Go.Proofs.Ytinohfgokpbcdaa
open Go.RowKit

theorem f32bits' (a : Nat) (w : World) : (callFunc 35 #[.float .f32 a]).run Try.prog w = .ok (.value (.int .u32 a)) w := by kernel_rfl

set_option maxHeartbeats 400000 in
theorem bits1_same (a : Nat) (w : World) : Calls Try.prog 113 #[.float .f32 a, .float .f32 a] w fun e w' => e = .returned (.bool true) ∧ w = w' := by
  have hf := f32bits' a
  go_enter Try.func113, Try.ntmps113
  go_wp2
  go_ret
  exact ⟨ret_b (by simp), rfl⟩

set_option maxHeartbeats 800000 in
theorem eqFunc_same (A B : Option Addr) (n c d : Nat) (l : List Nat) (w : World) (hn : l.length = n) (ha : Rd w A (flt l)) (hb : Rd w B (flt l)) (hnb : n ≤ 4000000000) :
    Calls Try.prog 112 #[.slice A n c, .slice B n d, .func (.func 113) #[] #[]] w fun e w' => e = .returned (.bool true) ∧ w = w' := by
  have Hn := hidA hn
  clear hn
  go_enter Try.func112, Try.ntmps112
  go_wp2
  go_loop [17] (fun i => ∃ k : Nat, k ≤ n ∧ i = .int .i64 k) (fun i => n - (intOf i).toNat)
  case atStart => exact ⟨0, Nat.zero_le _, rfl⟩
  case round =>
    obtain ⟨k, hk, rfl⟩ := hrel
    by_cases hlt : k < n
    · have hkl : k < l.length := by have := Hn.out; omega
      obtain ⟨ad, rfl, hbk, hc⟩ := ha.at (k := k) (by simpa using hkl)
      obtain ⟨ad2, rfl, hbk2, hc2⟩ := hb.at (k := k) (by simpa using hkl)
      have e0 := hc k _ (flt_get hkl)
      have e1 := hc2 k _ (flt_get hkl)
      clear hc hc2 ha hb
      go_wp2_with (go_at_call 113; refine (bits1_same _ _).mono ?_; rintro e w' ⟨rfl, rfl⟩)
      go_round
      case rel => exact ⟨k + 1, by omega, by go_num⟩
      case measure => simp [intOf]; omega
    · obtain rfl : k = n := by omega
      go_wp2
      go_ret
      exact ⟨rfl, rfl⟩

theorem bits_same (A B : Option Addr) (n c d : Nat) (l : List Nat) (w : World) (hn : l.length = n) (ha : Rd w A (flt l)) (hb : Rd w B (flt l)) (hnb : n ≤ 4000000000) :
    Calls Try.prog 56 #[.slice A n c, .slice B n d] w fun e w' => e = .returned (.bool true) ∧ w = w' := by
  go_enter Try.func56, Try.ntmps56
  go_wp2_with fail
  refine (eqFunc_same A B n c d l _ hn ha hb hnb).mono ?_
  rintro e w' ⟨rfl, rfl⟩
  go_wp2
  go_ret
  exact ⟨rfl, rfl⟩

end Go.Proofs.Ytinohfgokpbcdaa
