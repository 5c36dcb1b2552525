/- Contract: plant.kindAt. -/
import Derived.Test.YtgaonoklbihkjaaDoorKindsA
import Derived.Deep.DeepCutAuto
namespace Go.Proofs.YtgaonoklbihkjaaDoor
open Go.RowKit
attribute [local go_sem ↓] Go.wp_at_zero Go.wp_at_succ
attribute [local go_sem] run_store_float

set_option maxRecDepth 100000 in
set_option maxHeartbeats 3200000 in
theorem kindAt_any (A : Option Addr) (n c : Nat) (l : List KindR) (s : ByteArray) (w : World) (hn : l.length = n) (hd : Rd w A (kcells l)) (hb : n ≤ 4000000000000) :
    Calls Tryd.prog 75 #[.slice A n c, .string s] w fun e w' => ∃ r : Int, e = .returned (.int .i64 r) ∧ decide (0 ≤ r) = hasName l s ∧ Ext w w' := by
  have Hn := hidA hn
  clear hn
  go_enter Tryd.func75, Tryd.ntmps75
  go_wp2_with fail
  go_loopw [9] (fun i wr => ∃ k : Nat, k ≤ n ∧ i = .int .i64 k ∧ NoName l s k ∧ Ext w wr) (fun i _ => n - (intOf i).toNat)
  case atStart => exact ⟨0, Nat.zero_le _, rfl, NoName.zero l s, (by repeat (first | exact Ext.refl _ | assumption | refine Ext.setCell ?_ (by first | (simp; done) | (simp; omega)) _ | refine Ext.drewN ?_ _ | refine Ext.alloc ?_ _ | refine Ext.drew ?_ | refine Ext.trans ?_ (by assumption)))⟩
  case round =>
    obtain ⟨k, hk, rfl, ha, hx⟩ := hrel
    have Ha := hidA ha
    clear ha
    by_cases hlt : k < n
    · have hkl : k < l.length := by have := Hn.out; omega
      obtain ⟨ad, rfl, hbk, _⟩ := hd.at (k := k) (by rw [kcells_length]; omega)
      have hk13 := (hd.ext hx).kind hkl
      have d0 := hk13.1
      have d1 := hk13.2.1
      have d2 := hk13.2.2.1
      have d3 := hk13.2.2.2.1
      have d4 := hk13.2.2.2.2.1
      have d5 := hk13.2.2.2.2.2.1
      have d6 := hk13.2.2.2.2.2.2.1
      have d7 := hk13.2.2.2.2.2.2.2.1
      have d8 := hk13.2.2.2.2.2.2.2.2.1
      have d9 := hk13.2.2.2.2.2.2.2.2.2.1
      have d10 := hk13.2.2.2.2.2.2.2.2.2.2.1
      have d11 := hk13.2.2.2.2.2.2.2.2.2.2.2.1
      have d12 := hk13.2.2.2.2.2.2.2.2.2.2.2.2
      have k0 : (0 : Int) ≤ k := by omega
      have k1 : (k : Int) < n := by omega
      clear hk13 hd
      generalize hxe : l[k] = x at *
      have Hxe := hidA hxe
      clear hxe
      by_cases hs : (x.s.toList == s.toList) = true
      · go_wp2
        go_ret
        refine ⟨k, rfl, ?_, (by repeat (first | exact Ext.refl _ | assumption | refine Ext.setCell ?_ (by first | (simp; done) | (simp; omega)) _ | refine Ext.drewN ?_ _ | refine Ext.alloc ?_ _ | refine Ext.drew ?_ | refine Ext.trans ?_ (by assumption)))⟩
        rw [name_in hkl (by rw [Hxe.out]; exact hs)]
        simp
      · have hs' : (x.s.toList == s.toList) = false := (Bool.not_eq_true _).mp hs
        clear hs
        go_wp2
        exact ⟨⟨k + 1, by omega, by go_num, Ha.out.step hkl (by rw [Hxe.out]; exact hs'), (by repeat (first | exact Ext.refl _ | assumption | refine Ext.setCell ?_ (by first | (simp; done) | (simp; omega)) _ | refine Ext.drewN ?_ _ | refine Ext.alloc ?_ _ | refine Ext.drew ?_ | refine Ext.trans ?_ (by assumption)))⟩, by simp [intOf]; omega⟩
    · obtain rfl : k = n := by omega
      go_wp2
      go_ret
      refine ⟨-1, rfl, ?_, hx⟩
      have := noName_end Ha.out (by have := Hn.out; omega)
      rw [List.take_of_length_le (by have := Hn.out; omega)] at this
      rw [this]
      decide
end Go.Proofs.YtgaonoklbihkjaaDoor
