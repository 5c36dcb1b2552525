/- Contract: tarnref2.KindsError. -/
import Derived.Test.YtgaonoklbihkjaaDoorKindsC
namespace Go.Proofs.YtgaonoklbihkjaaDoor
open Go.RowKit
attribute [local go_sem ↓] Go.wp_at_zero Go.wp_at_succ
attribute [local go_sem] run_store_float

set_option maxRecDepth 100000 in
set_option maxHeartbeats 3200000 in
theorem kindsError_any (A : Option Addr) (n c : Nat) (l : List KindR) (w : World) (hn : l.length = n) (hd : Rd w A (kcells l)) (hb : n ≤ 4000000000000) (hc : n ≤ c) (hsz : ∀ x ∈ l, x.s.size ≤ 9223372036854775807) :
    Calls Tryd.prog 34 #[.slice A n c] w fun e w' => e = .returned (.int .i64 (kindsE l)) ∧ Ext w w' := by
  by_cases h0 : n = 0
  · have HE : Hid (kindsE l = 10) := if_pos (by omega)
    subst h0
    go_enter Tryd.func34, Tryd.ntmps34
    go_wp2
    go_ret
    exact ⟨ret_i HE.out.symm, (by repeat (first | exact Ext.refl _ | assumption | refine Ext.setCell ?_ (by first | (simp; done) | (simp; omega)) _ | refine Ext.drewN ?_ _ | refine Ext.alloc ?_ _ | refine Ext.drew ?_ | refine Ext.trans ?_ (by assumption)))⟩
  by_cases h12 : 12 < n
  · have HE : Hid (kindsE l = 4) := by show _ = _; unfold kindsE; rw [if_neg (by omega), if_pos (by omega)]
    go_enter Tryd.func34, Tryd.ntmps34
    go_wp2
    go_ret
    exact ⟨ret_i HE.out.symm, (by repeat (first | exact Ext.refl _ | assumption | refine Ext.setCell ?_ (by first | (simp; done) | (simp; omega)) _ | refine Ext.drewN ?_ _ | refine Ext.alloc ?_ _ | refine Ext.drew ?_ | refine Ext.trans ?_ (by assumption)))⟩
  have HE : Hid (kindsE l = scanE [] l) := by show _ = _; unfold kindsE; rw [if_neg (by omega), if_neg (by omega)]
  have e00 : ((n : Int) == 0) = false := by simp; omega
  have e12 : decide (12 < (n : Int)) = false := by simp; omega
  have Hn := hidA hn
  have Hsz := hidA hsz
  clear hn hsz
  go_enter Tryd.func34, Tryd.ntmps34
  go_wp2_with fail
  go_loopw [16] (fun i wr => ∃ k : Nat, k ≤ n ∧ i = .int .i64 k ∧ Hid (scanE (l.take k) (l.drop k) = scanE [] l) ∧ Ext w wr) (fun i _ => n - (intOf i).toNat)
  case atStart => exact ⟨0, Nat.zero_le _, rfl, rfl, (by repeat (first | exact Ext.refl _ | assumption | refine Ext.setCell ?_ (by first | (simp; done) | (simp; omega)) _ | refine Ext.drewN ?_ _ | refine Ext.alloc ?_ _ | refine Ext.drew ?_ | refine Ext.trans ?_ (by assumption)))⟩
  case round =>
    obtain ⟨k, hk, rfl, Ha, hx⟩ := hrel
    by_cases hlt : k < n
    · have hkl : k < l.length := by have := Hn.out; omega
      have Hst := hidA (scan_step hkl)
      have hsx := Hsz.out l[k] (List.getElem_mem hkl)
      obtain ⟨ad, rfl, hbk, _⟩ := hd.at (k := k) (by rw [kcells_length]; omega)
      have hk13 := (hd.ext hx).kind hkl
      have d0 := hk13.1
      have d1 := hk13.2.1
      have d2 := hk13.2.2.1
      have d3 := hk13.2.2.2.1
      have d4 := hk13.2.2.2.2.1
      have d5 := hk13.2.2.2.2.2.1
      have d6 := hk13.2.2.2.2.2.2.1
      have d7 := hk13.2.2.2.2.2.2.2.1
      have d8 := hk13.2.2.2.2.2.2.2.2.1
      have d9 := hk13.2.2.2.2.2.2.2.2.2.1
      have d10 := hk13.2.2.2.2.2.2.2.2.2.2.1
      have d11 := hk13.2.2.2.2.2.2.2.2.2.2.2.1
      have d12 := hk13.2.2.2.2.2.2.2.2.2.2.2.2
      have k0 : (0 : Int) ≤ k := by omega
      have k1 : (k : Int) < n := by omega
      clear hk13
      generalize hxe : l[k] = x at *
      clear hxe
      go_wp2_with fail
      refine (kindErrorR x _ hsx).mono ?_
      rintro e w5 ⟨rfl, hb5⟩
      have hP : Bk w5 wr.heap.size 41 #[.string x.s, .float .f32 x.a0, .float .f32 x.a1, .float .f32 x.a2, .float .f32 x.a3, .float .f32 x.a4, .float .f32 x.a5, .float .f32 x.a6, .float .f32 x.a7, .float .f32 x.a8, .float .f32 x.a9, .int .i64 x.p, .int .i64 x.q] := (Bk.new wr 41 #[.string x.s, .float .f32 x.a0, .float .f32 x.a1, .float .f32 x.a2, .float .f32 x.a3, .float .f32 x.a4, .float .f32 x.a5, .float .f32 x.a6, .float .f32 x.a7, .float .f32 x.a8, .float .f32 x.a9, .int .i64 x.p, .int .i64 x.q]).ext hb5
      have hx5 : Ext wr w5 := ((Ext.refl wr).alloc _).trans hb5
      have hr5 := (hd.ext hx).ext hx5
      have hkc : k ≤ c := by omega
      clear d0 d1 d2 d3 d4 d5 d6 d7 d8 d9 d10 d11 d12 hb5
      by_cases he : x.err = 0
      · have b0 : (x.err != 0) = false := by simpa using he
        have Hst2 : Hid (scanE [] l = if hasName (l.take k) x.s = true then 7 else scanE (l.take (k + 1)) (l.drop (k + 1))) := by show _ = _; rw [← Ha.out, Hst.out, if_neg (by omega)]
        clear he Hst Ha
        obtain ⟨w4, hw4⟩ : ∃ w4, w4 = wr := ⟨_, rfl⟩
        subst hw4
        go_wp2_with fail
        go_loopw [30] (fun i wq => ∃ m : Nat, m ≤ k ∧ i = .int .i64 m ∧ NoName l x.s m ∧ Ext w5 wq) (fun i _ => k - (intOf i).toNat)
        case atStart => exact ⟨0, Nat.zero_le _, rfl, NoName.zero l x.s, (by repeat (first | exact Ext.refl _ | assumption | refine Ext.setCell ?_ (by first | (simp; done) | (simp; omega)) _ | refine Ext.drewN ?_ _ | refine Ext.alloc ?_ _ | refine Ext.drew ?_ | refine Ext.trans ?_ (by assumption)))⟩
        case round =>
          obtain ⟨m, hm, rfl, hno, hxq⟩ := hrel
          have Hno := hidA hno
          clear hno
          by_cases hmk : m < k
          · have hml : m < l.length := by omega
            have hk13 := (hr5.ext hxq).kind hml
            have d0 := hk13.1
            have d1 := hk13.2.1
            have d2 := hk13.2.2.1
            have d3 := hk13.2.2.2.1
            have d4 := hk13.2.2.2.2.1
            have d5 := hk13.2.2.2.2.2.1
            have d6 := hk13.2.2.2.2.2.2.1
            have d7 := hk13.2.2.2.2.2.2.2.1
            have d8 := hk13.2.2.2.2.2.2.2.2.1
            have d9 := hk13.2.2.2.2.2.2.2.2.2.1
            have d10 := hk13.2.2.2.2.2.2.2.2.2.2.1
            have d11 := hk13.2.2.2.2.2.2.2.2.2.2.2.1
            have d12 := hk13.2.2.2.2.2.2.2.2.2.2.2.2
            have p0 := (hP.ext hxq).cell 0
            have hlP := (hP.ext hxq).lt
            have m0 : (0 : Int) ≤ m := by omega
            have m1 : (m : Int) < k := by omega
            clear hk13
            generalize hye : l[m] = y at *
            have Hye := hidA hye
            clear hye
            by_cases hs : (y.s.toList == x.s.toList) = true
            · have hN : Hid (7 = kindsE l) := by
                show _ = _
                rw [HE.out, Hst2.out, if_pos (name_is hmk hml (by rw [Hye.out]; exact hs))]
              go_wp2
              go_ret
              exact ⟨ret_i hN.out, (by repeat (first | exact Ext.refl _ | assumption | refine Ext.setCell ?_ (by first | (simp; done) | (simp; omega)) _ | refine Ext.drewN ?_ _ | refine Ext.alloc ?_ _ | refine Ext.drew ?_ | refine Ext.trans ?_ (by assumption)))⟩
            · have hs' : (y.s.toList == x.s.toList) = false := (Bool.not_eq_true _).mp hs
              clear hs
              go_wp2_with fail
              go_roundw
              case rel => exact ⟨m + 1, by omega, by go_num, Hno.out.step hml (by rw [Hye.out]; exact hs'), (by repeat (first | exact Ext.refl _ | assumption | refine Ext.setCell ?_ (by first | (simp; done) | (simp; omega)) _ | refine Ext.drewN ?_ _ | refine Ext.alloc ?_ _ | refine Ext.drew ?_ | refine Ext.trans ?_ (by assumption)))⟩
              case measure => simp [intOf]; omega
          · obtain rfl : m = k := by omega
            have hN : Hid (scanE (l.take (m + 1)) (l.drop (m + 1)) = scanE [] l) := by
              show _ = _
              rw [Hst2.out, noName_end Hno.out (by omega), if_neg (by decide)]
            go_wp2_with fail
            go_roundw
            case rel => exact ⟨m + 1, by omega, by go_num, hN, (by repeat (first | exact Ext.refl _ | assumption | refine Ext.setCell ?_ (by first | (simp; done) | (simp; omega)) _ | refine Ext.drewN ?_ _ | refine Ext.alloc ?_ _ | refine Ext.drew ?_ | refine Ext.trans ?_ (by assumption)))⟩
            case measure => simp [intOf]; omega
      · have b0 : (x.err != 0) = true := by simpa using he
        have Hst2 : Hid (x.err = kindsE l) := by show _ = _; rw [HE.out, ← Ha.out, Hst.out, if_pos he]
        clear he Hst Ha
        go_wp2
        go_ret
        exact ⟨ret_i Hst2.out, (by repeat (first | exact Ext.refl _ | assumption | refine Ext.setCell ?_ (by first | (simp; done) | (simp; omega)) _ | refine Ext.drewN ?_ _ | refine Ext.alloc ?_ _ | refine Ext.drew ?_ | refine Ext.trans ?_ (by assumption)))⟩
    · obtain rfl : k = n := by omega
      have Hst2 : Hid (0 = kindsE l) := by
        show _ = _
        have h1 := Ha.out
        rw [← Hn.out, scan_end] at h1
        rw [HE.out, h1]
      go_wp2
      go_ret
      exact ⟨ret_i Hst2.out, (by repeat (first | exact Ext.refl _ | assumption | refine Ext.setCell ?_ (by first | (simp; done) | (simp; omega)) _ | refine Ext.drewN ?_ _ | refine Ext.alloc ?_ _ | refine Ext.drew ?_ | refine Ext.trans ?_ (by assumption)))⟩
end Go.Proofs.YtgaonoklbihkjaaDoor
