/- Contracts: errors of regions, numbers and fields, in the program and in the reference. -/
import Derived.Test.YtpgdinpckolfpaaBaseA
namespace Go.Proofs.Ytpgdinpckolfpaa
open Go.RowKit

theorem regE_three {x y w h : Int} (hs : w < 1 ∨ 512 < w ∨ h < 1 ∨ 512 < h) : regE x y w h = 3 := by unfold regE; rw [if_pos hs]

set_option maxHeartbeats 800000 in
theorem regionError_any (x y ww hh : Int) (w : World) :
    Calls Try.prog 91 #[.agg #[.int .i64 x, .int .i64 y, .int .i64 ww, .int .i64 hh]] w fun e w' => e = .returned (.int .i64 (regE x y ww hh)) ∧ Ext w w' := by
  by_cases hs : 1 ≤ ww ∧ ww ≤ 512 ∧ 1 ≤ hh ∧ hh ≤ 512
  · obtain ⟨h1, h2, h3, h4⟩ := hs
    obtain ⟨p1, p2⟩ := prod_bd (A := 512) (B := 512) (by omega : 0 ≤ ww) h2 (by omega : 0 ≤ hh) h4
    go_enter Try.func91, Try.ntmps91
    go_wp2
    all_goals go_ret
    all_goals refine ⟨ret_i ?_, (Ext.refl _).alloc _⟩
    all_goals (unfold regE; repeat (first | rw [if_pos (by omega)] | rw [if_neg (by omega)]))
  · have H3 : Hid (regE x y ww hh = 3) := regE_three (by omega)
    rcases (by omega : ww < 1 ∨ (1 ≤ ww ∧ 512 < ww) ∨ (1 ≤ ww ∧ ww ≤ 512 ∧ hh < 1) ∨ (1 ≤ ww ∧ ww ≤ 512 ∧ 1 ≤ hh ∧ 512 < hh)) with h | ⟨h, h'⟩ | ⟨h, h', h''⟩ | ⟨h, h', h'', h3⟩
    all_goals
      clear hs
      go_enter Try.func91, Try.ntmps91
      go_wp2
      go_ret
      exact ⟨ret_i H3.out.symm, (Ext.refl _).alloc _⟩

set_option maxHeartbeats 400000 in
theorem side_any (n : Int) (w : World) :
    Calls Try.prog 132 #[.int .i64 n] w fun e w' => e = .returned (.bool (decide (1 ≤ n) && decide (n ≤ 512))) ∧ w = w' := by
  go_enter Try.func132, Try.ntmps132
  go_wp2
  all_goals go_ret
  all_goals exact ⟨ret_b (by simp; try omega), rfl⟩

theorem side_yes (n : Int) (w : World) (h1 : 1 ≤ n) (h2 : n ≤ 512) :
    Calls Try.prog 132 #[.int .i64 n] w fun e w' => e = .returned (.bool true) ∧ w = w' :=
  (side_any n w).mono fun e w' ⟨he, hw⟩ => ⟨by rw [he]; exact ret_b (by simp [h1, h2]), hw⟩
theorem side_no (n : Int) (w : World) (h1 : n < 1 ∨ 512 < n) :
    Calls Try.prog 132 #[.int .i64 n] w fun e w' => e = .returned (.bool false) ∧ w = w' :=
  (side_any n w).mono fun e w' ⟨he, hw⟩ => ⟨by rw [he]; exact ret_b (by simp; omega), hw⟩

set_option maxHeartbeats 800000 in
theorem checkRegion_any (x y ww hh : Int) (w : World) :
    Calls Try.prog 123 #[.agg #[.int .i64 x, .int .i64 y, .int .i64 ww, .int .i64 hh]] w fun e w' => e = .returned (.int .i64 (regE x y ww hh)) ∧ Ext w w' := by
  by_cases hs : 1 ≤ ww ∧ ww ≤ 512 ∧ 1 ≤ hh ∧ hh ≤ 512
  · obtain ⟨h1, h2, h3, h4⟩ := hs
    obtain ⟨p1, p2⟩ := prod_bd (A := 512) (B := 512) (by omega : 0 ≤ ww) h2 (by omega : 0 ≤ hh) h4
    go_enter Try.func123, Try.ntmps123
    go_wp2_with (go_at_call 132; refine (side_yes _ _ (by omega) (by omega)).mono ?_; rintro e w' ⟨rfl, rfl⟩)
    all_goals go_ret
    all_goals refine ⟨ret_i ?_, (Ext.refl _).alloc _⟩
    all_goals (unfold regE; repeat (first | rw [if_pos (by omega)] | rw [if_neg (by omega)]))
  · have H3 : Hid (regE x y ww hh = 3) := regE_three (by omega)
    rcases (by omega : (ww < 1 ∨ 512 < ww) ∨ (1 ≤ ww ∧ ww ≤ 512 ∧ (hh < 1 ∨ 512 < hh))) with h | ⟨h, h', h''⟩
    · clear hs
      go_enter Try.func123, Try.ntmps123
      go_wp2_with (go_at_call 132; refine (side_no _ _ h).mono ?_; rintro e w' ⟨rfl, rfl⟩)
      go_ret
      exact ⟨ret_i H3.out.symm, (Ext.refl _).alloc _⟩
    · clear hs
      go_enter Try.func123, Try.ntmps123
      go_wp2_with (first | (go_at_call_of 132 (Value.int IntKind.i64 ww); refine (side_yes _ _ (by omega) (by omega)).mono ?_; rintro e w' ⟨rfl, rfl⟩) | (go_at_call 132; refine (side_no _ _ h'').mono ?_; rintro e w' ⟨rfl, rfl⟩))
      go_ret
      exact ⟨ret_i H3.out.symm, (Ext.refl _).alloc _⟩

set_option maxHeartbeats 1600000 in
theorem numberError_any (A : Option Addr) (n c : Nat) (l : List Nat) (w : World) (hn : l.length = n) (hr : Rd w A (flt l)) (hb : n ≤ 140737488351232) :
    Calls Try.prog 32 #[.slice A n c] w fun e w' => e = .returned (.int .i64 (numE l)) ∧ w = w' := by
  have Hn := hidA hn
  clear hn
  go_enter Try.func32, Try.ntmps32
  go_wp2
  go_loop [9] (fun i => ∃ k : Nat, k ≤ n ∧ i = .int .i64 k ∧ AllTo finB l k) (fun i => n - (intOf i).toNat)
  case atStart => exact ⟨0, Nat.zero_le _, rfl, AllTo.zero _ _⟩
  case round =>
    obtain ⟨k, hk, rfl, hf⟩ := hrel
    by_cases hlt : k < n
    · have hkl : k < l.length := by have := Hn.out; omega
      obtain ⟨ad, rfl, hbk, hc⟩ := hr.at (k := k) (by simpa using hkl)
      have hck := hc k _ (flt_get hkl)
      clear hc hr
      go_wp2
      case roundEnd =>
        have hfin := hidA (fin_true3 (b := l[k]) (by assumption) (by assumption))
        exact ⟨⟨k + 1, by omega, by go_num, hf.step hkl hfin.out⟩, by simp [intOf]; omega⟩
      all_goals
        have hfin : finB l[k] = false := (by first | exact fin_false (.inl ‹_›) | exact fin_false (.inr (.inl ‹_›)) | exact fin_false3 ‹_›)
        have H2 := hidA (numE_two hkl hfin)
        go_ret
        exact ⟨ret_i H2.out.symm, rfl⟩
    · have ha : Hid (∀ b ∈ l, finB b = true) := hf.all (by have := Hn.out; omega)
      clear hf
      go_wp2
      go_loop [27] (fun i => ∃ k : Nat, k ≤ n ∧ i = .int .i64 k ∧ AllTo hgtB l k) (fun i => n - (intOf i).toNat)
      case atStart => exact ⟨0, Nat.zero_le _, rfl, AllTo.zero _ _⟩
      case round =>
        obtain ⟨k, hk, rfl, hf⟩ := hrel
        by_cases hlt : k < n
        · have hkl : k < l.length := by have := Hn.out; omega
          obtain ⟨ad, rfl, hbk, hc⟩ := hr.at (k := k) (by simpa using hkl)
          have hck := hc k _ (flt_get hkl)
          clear hc hr
          go_wp2
          case roundEnd =>
            have hfin := hidA (hgt_true3 (ha.out _ (List.getElem_mem hkl)) (by assumption))
            exact ⟨⟨k + 1, by omega, by go_num, hf.step hkl hfin.out⟩, by simp [intOf]; omega⟩
          all_goals
            have hfin : hgtB l[k] = false := (by first | exact hgt_false (ha.out _ (List.getElem_mem hkl)) (.inl ‹_›) | exact hgt_false3 (ha.out _ (List.getElem_mem hkl)) ‹_›)
            have H2 := hidA (numE_three ha.out hkl hfin)
            go_ret
            exact ⟨ret_i H2.out.symm, rfl⟩
        · have H2 : Hid (numE l = 0) := numE_ok ha.out (hf.all (by have := Hn.out; omega))
          go_wp2
          go_ret
          exact ⟨ret_i H2.out.symm, rfl⟩

end Go.Proofs.Ytpgdinpckolfpaa
