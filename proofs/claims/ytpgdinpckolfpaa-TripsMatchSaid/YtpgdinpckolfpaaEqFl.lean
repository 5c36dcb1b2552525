/- Contract: slices.Equal of singles that are equal. -/
import Derived.Test.YtpgdinpckolfpaaBaseC
import Derived.BigQuiet
namespace Go.Proofs.Ytpgdinpckolfpaa
open Go.RowKit
attribute [local go_sem ↓] Go.wp_at_zero Go.wp_at_succ

set_option maxHeartbeats 1600000 in
theorem eqFlo_same (A B : Option Addr) (n c d : Nat) (a b : List Nat) (w : World) (hn : a.length = n) (hn2 : b.length = n) (ha : Rd w A (flt a)) (hb : Rd w B (flt b)) (hnb : n ≤ 4000000) (he : ∀ k (h1 : k < a.length) (h2 : k < b.length), (FloatKind.f32.format.order a[k] b[k] == some .eq) = true) :
    Calls Try.prog 46 #[.slice A n c, .slice B n d] w fun e w' => e = .returned (.bool true) ∧ Ext w w' := by
  have Hn := hidA hn
  have Hn2 := hidA hn2
  have He := hidA he
  clear hn hn2 he
  go_enter Try.func46, Try.ntmps46
  go_wp2
  go_loopw [13] (fun i wr => ∃ k m : Nat, k ≤ n ∧ i = .int .i64 k ∧ wr = w.drewN m) (fun i _ => n - (intOf i).toNat)
  case atStart => exact ⟨0, 0, Nat.zero_le _, rfl, rfl⟩
  case round =>
    obtain ⟨k, m, hk, rfl, rfl⟩ := hrel
    by_cases hlt : k < n
    · have hkl : k < a.length := by have := Hn.out; omega
      have hkl2 : k < b.length := by have := Hn2.out; omega
      obtain ⟨ad, rfl, hbk, hc⟩ := ha.at (k := k) (by simpa [flt] using hkl)
      obtain ⟨ad2, rfl, hbk2, hc2⟩ := hb.at (k := k) (by simpa [flt] using hkl2)
      have e0 := hc k _ (flt_get hkl)
      have e2 := hc2 k _ (flt_get hkl2)
      have C1 : FloatKind.f32.format.order a[k] b[k] = some .eq := by have := He.out k hkl hkl2; simpa using this
      generalize a[k] = va at *
      generalize b[k] = vb at *
      have k0 : (0 : Int) ≤ k := by omega
      have k1 : (k : Int) < n := by omega
      clear ha hb hc hc2
      go_wp2
      go_quiet (fail)
      go_wp2
      go_roundw
      case rel => exact ⟨k + 1, _, by omega, by go_num, rfl⟩
      case measure => simp [intOf]; omega
    · obtain rfl : k = n := by omega
      go_wp2
      go_ret
      exact ⟨rfl, (by repeat (first | exact Ext.refl _ | assumption | refine Ext.setCell ?_ (by first | (simp; done) | (simp; omega)) _ | refine Ext.drewN ?_ _ | refine Ext.alloc ?_ _ | refine Ext.drew ?_ | refine Ext.trans ?_ (by assumption)))⟩

end Go.Proofs.Ytpgdinpckolfpaa
