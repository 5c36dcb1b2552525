/- The law StraightMatches where corners are wrong; its walk. -/
import Derived.Test.YtpgdinpckolfpaaRdUC
namespace Go.Proofs.Ytpgdinpckolfpaa
open Go.RowKit
attribute [local go_sem ↓] Go.wp_at_zero Go.wp_at_succ
attribute [local go_sem] run_store_float

theorem amtS_form (q : Nat) : firstE [if q = 0 then 10 else 0, if (65536 : Int) < (q : Int) then 4 else 0] = amtS q := by
  unfold amtS
  by_cases h0 : q = 0
  · rw [if_pos h0, if_pos h0]; rfl
  · rw [if_neg h0, if_neg h0]
    by_cases h : 65536 < q
    · rw [if_pos h, if_pos (show (65536 : Int) < q by omega)]; rfl
    · rw [if_neg h, if_neg (show ¬ (65536 : Int) < q by omega)]; rfl
/-- the error ahead of how many places come out -/
def strB (l : List (Int × Int)) : Int := if amtS l.length ≠ 0 then amtS l.length else stI l 0 l.length
theorem far_w (x y : Int) : farP (x, y) = !((decide (-4194304 ≤ x) && decide (x ≤ 4194304)) && (decide (-4194304 ≤ y) && decide (y ≤ 4194304))) := by
  unfold farP
  rw [Bool.eq_iff_iff]
  simp
  omega
theorem firstE_ne {a z : Int} (h : a ≠ 0) : firstE [a, z] = a := by unfold firstE; rw [if_neg h]
theorem firstE_z (z : Int) : firstE [0, z] = z := by
  unfold firstE
  rw [if_pos rfl]
  unfold firstE
  split
  · rename_i h; rw [h]; rfl
  · rfl
theorem m_01 {n : Nat} (h : 0 < n) : n - (intOf (.int .i64 1)).toNat < n - (intOf (.int .i64 ((0 : Nat) : Int))).toNat := by
  simp [intOf]
  omega
theorem many_b {a m k : Nat} (h : a ≤ 1 + k * 8388608) (hm : m ≤ 8388608) : a + m ≤ 1 + (k + 1) * 8388608 := by omega
theorem many_v {a m k q : Nat} (h : a ≤ 1 + k * 8388608) (hk : k < q) (hq : q ≤ 140737488351232) (hm : m ≤ 8388608) (h6 : q ≤ 65536) : wrap64 ((a : Int) + (m : Int)) = ((a + m : Nat) : Int) := by
  rw [IntWalk.wrap64_in _ ⟨by omega, by omega⟩]; omega
set_option maxRecDepth 100000 in
set_option maxHeartbeats 6400000 in
theorem straight_bad (A : Option Addr) (n c : Nat) (l : List (Int × Int)) (w : World) (hn : l.length = n) (hV : Rd w A (ptv l)) (hnb : n ≤ 140737488351232) (hE : strB l ≠ 0)
    (HSt : ∀ w', Ext w w' → Hid (Calls Try.prog 34 #[.slice A n c] w' fun e w'' => e = .returned (.tuple #[.slice none 0 0, .int .i64 (strB l)]) ∧ Ext w' w'')) :
    Calls Try.prog 7 #[.slice A n c] w fun e w' => e = .returned (.bool true) ∧ Ext w w' := by
  have HL := fun (w : World) => hidA (leads_any w)
  have HWh := fun (b : Bool) (k : Int) (w : World) => hidA (when_any b k w)
  have HWf := fun (k : Int) (w : World) => hidA (show Calls Try.prog 19 #[.bool false, .int .i64 k] w fun e w' => e = .returned (.int .i64 0) ∧ w = w' from when_any false k w)
  have HWt := fun (k : Int) (w : World) => hidA (show Calls Try.prog 19 #[.bool true, .int .i64 k] w fun e w' => e = .returned (.int .i64 k) ∧ w = w' from when_any true k w)
  have HS2 := fun (a b : Int) (B : Option Addr) (w : World) (h : Rd w B [.int .i64 a, .int .i64 b]) => hidA (first_any B 2 2 [a, b] w rfl h (by omega))
  have HS0 := fun (z : Int) (B : Option Addr) (w : World) (h : Rd w B [.int .i64 0, .int .i64 z]) => hidA (show Calls Try.prog 17 #[.slice B 2 2] w fun e w' => e = .returned (.int .i64 z) ∧ w = w' from by have h9 := first_any B 2 2 [0, z] w rfl h (by omega); rw [firstE_z] at h9; exact h9)
  have HWi := fun (x lo hi : Int) (w : World) => hidA (within_any x lo hi w)
  have HBt := fun (qx qy px py : Int) (w : World) (h1 : farP (qx, qy) = false) (h2 : farP (px, py) = false) => hidA (Leap_any qx qy px py w (by have := farP_false h1; dsimp only at this; omega) (by have := farP_false h1; dsimp only at this; omega) (by have := farP_false h2; dsimp only at this; omega) (by have := farP_false h2; dsimp only at this; omega))
  have Hn := hidA hn
  obtain ⟨E, hEe⟩ : ∃ E, E = strB l := ⟨_, rfl⟩
  rw [← hEe] at hE HSt
  have HSE := fun (z : Int) (B : Option Addr) (w : World) (h : Rd w B [.int .i64 E, .int .i64 z]) => hidA (show Calls Try.prog 17 #[.slice B 2 2] w fun e w' => e = .returned (.int .i64 E) ∧ w = w' from by have h9 := first_any B 2 2 [E, z] w rfl h (by omega); rw [firstE_ne hE] at h9; exact h9)
  have hne : (E != 0) = true := by simpa using hE
  have hini : (amtS n = E ∧ amtS n ≠ 0) ∨ (amtS n = 0 ∧ E = stI l 0 n ∧ n ≤ 65536) := by
    rw [hEe]
    unfold strB
    rw [hn]
    by_cases h : amtS n = 0
    · right
      rw [if_neg (by simpa using h)]
      refine ⟨h, rfl, ?_⟩
      unfold amtS at h
      split at h
      · cases h
      · split at h
        · cases h
        · omega
    · left
      rw [if_pos h]
      exact ⟨rfl, h⟩
  have Hini := hidA hini
  have HE0 := hidA hE
  clear hE hEe hini hn
  go_enter Try.func7, Try.ntmps7
  go_upto_region 3 with (first | (go_at_call 34; refine ((HSt _ (Ext.refl _)).out).mono ?_; rintro e w1 ⟨rfl, hx1⟩) | (go_at_call 19; refine ((HWh _ _ _).out).mono ?_; rintro e w7 ⟨rfl, hw7⟩; subst hw7) | (go_at_call 17; refine ((HS2 _ _ _ _ (Rd.new (by first | rfl | simp) (by first | rfl | simp))).out).mono ?_; rintro e w8 ⟨rfl, hw8⟩; subst hw8))
  rw [amtS_form]
  generalize (if n = 0 then (10 : Int) else 0) = z1 at *
  generalize (if (65536 : Int) < (n : Int) then (4 : Int) else 0) = z2 at *
  have hx2 := hx1.alloc (.cells #[.int .i64 z1, .int .i64 z2] 33)
  clear hx1 HSt HS2
  generalize w1.alloc (.cells #[.int .i64 z1, .int .i64 z2] 33) = w2 at *
  generalize amtS n = a0 at *
  go_upto_region 6 with fail
  go_loopw [5, 7, 35] (fun s5 s7 s35 wr => ∃ (i a : Nat) (wv : Int), i ≤ n ∧ s35 = .int .i64 i ∧ s5 = .int .i64 wv ∧ s7 = .int .i64 a ∧ a ≤ 1 + i * 8388608 ∧ (wv = E ∨ (wv = 0 ∧ E = stI l i (n - i) ∧ n ≤ 65536 ∧ (0 < i → farP (l.getD (i - 1) (0, 0)) = false))) ∧ Ext w2 wr) (fun _ _ s35 _ => n - (intOf s35).toNat)
  case atStart => exact ⟨0, 1, a0, Nat.zero_le _, rfl, rfl, rfl, by omega, by rcases Hini.out with ⟨h1, _⟩ | ⟨h1, h2, h3⟩; exact .inl h1; exact .inr ⟨h1, h2, h3, fun h => by omega⟩, Ext.refl _⟩
  case round =>
    obtain ⟨k, a, wv, hk, rfl, rfl, rfl, hak, hwv, hxk⟩ := hrel
    have hx := hx2.trans hxk
    have Hak := hidA hak
    have Hwv := hidA hwv
    clear hak hwv
    by_cases hkn : k < n
    · have Hkn := hidA hkn
      have hkl : k < l.length := by have := Hn.out; omega
      obtain ⟨ad, rfl, hbk, d0, d1⟩ := pt_at (hV.ext hx) hkl
      have i0 : (0 : Int) ≤ k := by omega
      have i1 : (k : Int) < n := by omega
      obtain ⟨px, py, hpp⟩ : ∃ px py, l.getD k (0, 0) = (px, py) := ⟨_, _, rfl⟩
      rw [hpp] at d0 d1
      dsimp only at d0 d1
      have Hpp := hidA hpp
      clear hpp
      go_upto_region 8 with fail
      have kP : Bk (wr.alloc (.cells #[.int .i64 px, .int .i64 py] 32)) wr.heap.size 32 #[.int .i64 px, .int .i64 py] := Bk.new' rfl
      have hx1 := hx.alloc (.cells #[.int .i64 px, .int .i64 py] 32)
      have hxk1 := hxk.alloc (.cells #[.int .i64 px, .int .i64 py] 32)
      clear d0 d1 hx hxk
      generalize wr.alloc (.cells #[.int .i64 px, .int .i64 py] 32) = w1 at *
      generalize wr.heap.size = ha at *
      have p0 := kP.cell 0
      have p1 := kP.cell 1
      have hpat : ¬ -4194304 ≤ px ∨ (-4194304 ≤ px ∧ ¬ px ≤ 4194304) ∨ (-4194304 ≤ px ∧ px ≤ 4194304 ∧ ¬ -4194304 ≤ py) ∨ (-4194304 ≤ px ∧ px ≤ 4194304 ∧ -4194304 ≤ py ∧ ¬ py ≤ 4194304) ∨ (-4194304 ≤ px ∧ px ≤ 4194304 ∧ -4194304 ≤ py ∧ py ≤ 4194304) := by omega
      have Hfar := hidA (show (-4194304 ≤ px ∧ px ≤ 4194304 ∧ -4194304 ≤ py ∧ py ≤ 4194304) ∨ farP (px, py) = true from by
        by_cases h : -4194304 ≤ px ∧ px ≤ 4194304 ∧ -4194304 ≤ py ∧ py ≤ 4194304
        · exact .inl h
        · right
          unfold farP
          simp
          omega)
      rcases hpat with q1 | ⟨q1, q2⟩ | ⟨q1, q2, q3⟩ | ⟨q1, q2, q3, q4⟩ | ⟨q1, q2, q3, q4⟩
      · have hf : farP (px, py) = true := by
          rcases Hfar.out with h | h
          · exact absurd h.1 q1
          · exact h
        rcases Hwv.out with rfl | ⟨rfl, h9, _, _⟩
        · clear hk hkn hf
          go_wp2_with (first | (go_at_call 35; refine ((HWi _ _ _ _).out).mono ?_; rintro e w7 ⟨rfl, hw7⟩; subst hw7) | (go_at_call 19; refine ((HWh _ _ _).out).mono ?_; rintro e w7 ⟨rfl, hw7⟩; subst hw7) | (go_at_call 17; refine ((HSE _ _ _ (Rd.new (by first | rfl | simp) (by first | rfl | simp))).out).mono ?_; rintro e w8 ⟨rfl, hw8⟩; subst hw8) | (go_at_call 15; refine ((HL _).out).mono ?_; rintro e w9 ⟨rfl, hx9⟩))
          all_goals
            go_ret
            exact ⟨by first | rfl | simp, hx1.trans (by repeat (first | exact Ext.refl _ | assumption | refine Ext.setCell ?_ (by first | (simp; done) | (simp; omega)) _ | refine Ext.drewN ?_ _ | refine Ext.alloc ?_ _ | refine Ext.drew ?_ | refine Ext.trans ?_ (by assumption)))⟩
        · obtain rfl : E = 5 := by
            rw [h9, stI_step hkn, Hpp.out, if_pos hf]
          clear hk hkn hf h9
          go_wp2_with (first | (go_at_call 35; refine ((HWi _ _ _ _).out).mono ?_; rintro e w7 ⟨rfl, hw7⟩; subst hw7) | (go_at_call 19; refine ((HWh _ _ _).out).mono ?_; rintro e w7 ⟨rfl, hw7⟩; subst hw7) | (go_at_call 17; refine ((HS0 _ _ _ (Rd.new (by first | rfl | simp) (by first | rfl | simp))).out).mono ?_; rintro e w8 ⟨rfl, hw8⟩; subst hw8) | (go_at_call 17; refine ((HSE _ _ _ (Rd.new (by first | rfl | simp) (by first | rfl | simp))).out).mono ?_; rintro e w8 ⟨rfl, hw8⟩; subst hw8) | (go_at_call 15; refine ((HL _).out).mono ?_; rintro e w9 ⟨rfl, hx9⟩))
          all_goals
            go_ret
            exact ⟨by first | rfl | simp, hx1.trans (by repeat (first | exact Ext.refl _ | assumption | refine Ext.setCell ?_ (by first | (simp; done) | (simp; omega)) _ | refine Ext.drewN ?_ _ | refine Ext.alloc ?_ _ | refine Ext.drew ?_ | refine Ext.trans ?_ (by assumption)))⟩
      · have hf : farP (px, py) = true := by
          rcases Hfar.out with h | h
          · exact absurd h.2.1 q2
          · exact h
        rcases Hwv.out with rfl | ⟨rfl, h9, _, _⟩
        · clear hk hkn hf
          go_wp2_with (first | (go_at_call 35; refine ((HWi _ _ _ _).out).mono ?_; rintro e w7 ⟨rfl, hw7⟩; subst hw7) | (go_at_call 19; refine ((HWh _ _ _).out).mono ?_; rintro e w7 ⟨rfl, hw7⟩; subst hw7) | (go_at_call 17; refine ((HSE _ _ _ (Rd.new (by first | rfl | simp) (by first | rfl | simp))).out).mono ?_; rintro e w8 ⟨rfl, hw8⟩; subst hw8) | (go_at_call 15; refine ((HL _).out).mono ?_; rintro e w9 ⟨rfl, hx9⟩))
          all_goals
            go_ret
            exact ⟨by first | rfl | simp, hx1.trans (by repeat (first | exact Ext.refl _ | assumption | refine Ext.setCell ?_ (by first | (simp; done) | (simp; omega)) _ | refine Ext.drewN ?_ _ | refine Ext.alloc ?_ _ | refine Ext.drew ?_ | refine Ext.trans ?_ (by assumption)))⟩
        · obtain rfl : E = 5 := by
            rw [h9, stI_step hkn, Hpp.out, if_pos hf]
          clear hk hkn hf h9
          go_wp2_with (first | (go_at_call 35; refine ((HWi _ _ _ _).out).mono ?_; rintro e w7 ⟨rfl, hw7⟩; subst hw7) | (go_at_call 19; refine ((HWh _ _ _).out).mono ?_; rintro e w7 ⟨rfl, hw7⟩; subst hw7) | (go_at_call 17; refine ((HS0 _ _ _ (Rd.new (by first | rfl | simp) (by first | rfl | simp))).out).mono ?_; rintro e w8 ⟨rfl, hw8⟩; subst hw8) | (go_at_call 17; refine ((HSE _ _ _ (Rd.new (by first | rfl | simp) (by first | rfl | simp))).out).mono ?_; rintro e w8 ⟨rfl, hw8⟩; subst hw8) | (go_at_call 15; refine ((HL _).out).mono ?_; rintro e w9 ⟨rfl, hx9⟩))
          all_goals
            go_ret
            exact ⟨by first | rfl | simp, hx1.trans (by repeat (first | exact Ext.refl _ | assumption | refine Ext.setCell ?_ (by first | (simp; done) | (simp; omega)) _ | refine Ext.drewN ?_ _ | refine Ext.alloc ?_ _ | refine Ext.drew ?_ | refine Ext.trans ?_ (by assumption)))⟩
      · have hf : farP (px, py) = true := by
          rcases Hfar.out with h | h
          · exact absurd h.2.2.1 q3
          · exact h
        rcases Hwv.out with rfl | ⟨rfl, h9, _, _⟩
        · clear hk hkn hf
          go_wp2_with (first | (go_at_call 35; refine ((HWi _ _ _ _).out).mono ?_; rintro e w7 ⟨rfl, hw7⟩; subst hw7) | (go_at_call 19; refine ((HWh _ _ _).out).mono ?_; rintro e w7 ⟨rfl, hw7⟩; subst hw7) | (go_at_call 17; refine ((HSE _ _ _ (Rd.new (by first | rfl | simp) (by first | rfl | simp))).out).mono ?_; rintro e w8 ⟨rfl, hw8⟩; subst hw8) | (go_at_call 15; refine ((HL _).out).mono ?_; rintro e w9 ⟨rfl, hx9⟩))
          all_goals
            go_ret
            exact ⟨by first | rfl | simp, hx1.trans (by repeat (first | exact Ext.refl _ | assumption | refine Ext.setCell ?_ (by first | (simp; done) | (simp; omega)) _ | refine Ext.drewN ?_ _ | refine Ext.alloc ?_ _ | refine Ext.drew ?_ | refine Ext.trans ?_ (by assumption)))⟩
        · obtain rfl : E = 5 := by
            rw [h9, stI_step hkn, Hpp.out, if_pos hf]
          clear hk hkn hf h9
          go_wp2_with (first | (go_at_call 35; refine ((HWi _ _ _ _).out).mono ?_; rintro e w7 ⟨rfl, hw7⟩; subst hw7) | (go_at_call 19; refine ((HWh _ _ _).out).mono ?_; rintro e w7 ⟨rfl, hw7⟩; subst hw7) | (go_at_call 17; refine ((HS0 _ _ _ (Rd.new (by first | rfl | simp) (by first | rfl | simp))).out).mono ?_; rintro e w8 ⟨rfl, hw8⟩; subst hw8) | (go_at_call 17; refine ((HSE _ _ _ (Rd.new (by first | rfl | simp) (by first | rfl | simp))).out).mono ?_; rintro e w8 ⟨rfl, hw8⟩; subst hw8) | (go_at_call 15; refine ((HL _).out).mono ?_; rintro e w9 ⟨rfl, hx9⟩))
          all_goals
            go_ret
            exact ⟨by first | rfl | simp, hx1.trans (by repeat (first | exact Ext.refl _ | assumption | refine Ext.setCell ?_ (by first | (simp; done) | (simp; omega)) _ | refine Ext.drewN ?_ _ | refine Ext.alloc ?_ _ | refine Ext.drew ?_ | refine Ext.trans ?_ (by assumption)))⟩
      · have hf : farP (px, py) = true := by
          rcases Hfar.out with h | h
          · exact absurd h.2.2.2 q4
          · exact h
        rcases Hwv.out with rfl | ⟨rfl, h9, _, _⟩
        · clear hk hkn hf
          go_wp2_with (first | (go_at_call 35; refine ((HWi _ _ _ _).out).mono ?_; rintro e w7 ⟨rfl, hw7⟩; subst hw7) | (go_at_call 19; refine ((HWh _ _ _).out).mono ?_; rintro e w7 ⟨rfl, hw7⟩; subst hw7) | (go_at_call 17; refine ((HSE _ _ _ (Rd.new (by first | rfl | simp) (by first | rfl | simp))).out).mono ?_; rintro e w8 ⟨rfl, hw8⟩; subst hw8) | (go_at_call 15; refine ((HL _).out).mono ?_; rintro e w9 ⟨rfl, hx9⟩))
          all_goals
            go_ret
            exact ⟨by first | rfl | simp, hx1.trans (by repeat (first | exact Ext.refl _ | assumption | refine Ext.setCell ?_ (by first | (simp; done) | (simp; omega)) _ | refine Ext.drewN ?_ _ | refine Ext.alloc ?_ _ | refine Ext.drew ?_ | refine Ext.trans ?_ (by assumption)))⟩
        · obtain rfl : E = 5 := by
            rw [h9, stI_step hkn, Hpp.out, if_pos hf]
          clear hk hkn hf h9
          go_wp2_with (first | (go_at_call 35; refine ((HWi _ _ _ _).out).mono ?_; rintro e w7 ⟨rfl, hw7⟩; subst hw7) | (go_at_call 19; refine ((HWh _ _ _).out).mono ?_; rintro e w7 ⟨rfl, hw7⟩; subst hw7) | (go_at_call 17; refine ((HS0 _ _ _ (Rd.new (by first | rfl | simp) (by first | rfl | simp))).out).mono ?_; rintro e w8 ⟨rfl, hw8⟩; subst hw8) | (go_at_call 17; refine ((HSE _ _ _ (Rd.new (by first | rfl | simp) (by first | rfl | simp))).out).mono ?_; rintro e w8 ⟨rfl, hw8⟩; subst hw8) | (go_at_call 15; refine ((HL _).out).mono ?_; rintro e w9 ⟨rfl, hx9⟩))
          all_goals
            go_ret
            exact ⟨by first | rfl | simp, hx1.trans (by repeat (first | exact Ext.refl _ | assumption | refine Ext.setCell ?_ (by first | (simp; done) | (simp; omega)) _ | refine Ext.drewN ?_ _ | refine Ext.alloc ?_ _ | refine Ext.drew ?_ | refine Ext.trans ?_ (by assumption)))⟩
      · rcases Hwv.out with rfl | ⟨rfl, h9, h6, hprev⟩
        · clear hk hkn
          go_wp2_with (first | (go_at_call 35; refine ((HWi _ _ _ _).out).mono ?_; rintro e w7 ⟨rfl, hw7⟩; subst hw7) | (go_at_call 19; refine ((HWh _ _ _).out).mono ?_; rintro e w7 ⟨rfl, hw7⟩; subst hw7) | (go_at_call 17; refine ((HSE _ _ _ (Rd.new (by first | rfl | simp) (by first | rfl | simp))).out).mono ?_; rintro e w8 ⟨rfl, hw8⟩; subst hw8) | (go_at_call 15; refine ((HL _).out).mono ?_; rintro e w9 ⟨rfl, hx9⟩))
          all_goals
            go_ret
            exact ⟨by first | rfl | simp, hx1.trans (by repeat (first | exact Ext.refl _ | assumption | refine Ext.setCell ?_ (by first | (simp; done) | (simp; omega)) _ | refine Ext.drewN ?_ _ | refine Ext.alloc ?_ _ | refine Ext.drew ?_ | refine Ext.trans ?_ (by assumption)))⟩
        · have hb : farP (px, py) = false := by unfold farP; simp; omega
          have h8 := h9
          rw [stI_step hkn, Hpp.out, if_neg (by rw [hb]; decide)] at h8
          have HE8 := hidA h8
          have Hb := hidA hb
          have H6 := hidA h6
          clear h8 h9 hb
          by_cases hk0 : k = 0
          · subst hk0
            have HE9 := hidA (HE8.out.trans (if_neg (by omega)))
            go_wp2_with (first | (go_at_call 35; refine ((HWi _ _ _ _).out).mono ?_; rintro e w7 ⟨rfl, hw7⟩; subst hw7) | (go_at_call 19; refine ((HWf _ _).out).mono ?_; rintro e w7 ⟨rfl, hw7⟩; subst hw7) | (go_at_call 17; refine ((HS0 _ _ _ (Rd.new (by first | rfl | simp) (by first | rfl | simp))).out).mono ?_; rintro e w8 ⟨rfl, hw8⟩; subst hw8))
            go_roundw
            case rel => exact ⟨1, a, 0, Hkn.out, rfl, rfl, rfl, many_b (k := 0) (m := 0) Hak.out (Nat.zero_le _), .inr ⟨rfl, HE9.out, H6.out, fun _ => by show farP (l.getD 0 (0, 0)) = false; rw [Hpp.out]; exact Hb.out⟩, (by repeat (first | exact Ext.refl _ | assumption | refine Ext.setCell ?_ (by first | (simp; done) | (simp; omega)) _ | refine Ext.drewN ?_ _ | refine Ext.alloc ?_ _ | refine Ext.drew ?_ | refine Ext.trans ?_ (by assumption)))⟩
            case measure => exact m_01 Hkn.out
          · have hkl1 : k - 1 < l.length := by omega
            have hfq := hprev (by omega)
            obtain ⟨qx, qy, hqq⟩ : ∃ qx qy, l.getD (k - 1) (0, 0) = (qx, qy) := ⟨_, _, rfl⟩
            rw [hqq] at hfq
            have HB1 := fun (w : World) => HBt qx qy px py w hfq Hb.out
            have HE9 := hidA (show E = if leapN (qx, qy) (px, py) = true then 2 else stI l (k + 1) (n - (k + 1)) from by rw [HE8.out, hqq]; simp [show 0 < k by omega])
            have Hqq := hidA hqq
            have hb2 := farP_false Hb.out
            have hq2 := farP_false hfq
            dsimp only at hb2 hq2
            have Hle := hidA (fun d m (h : leapO (px - qx) (py - qy) = some (d, m)) => leapO_le h (by omega) (by omega))
            have e0 : ∀ w', Ext w1 w' → w'.cell? (ad.add ((k - 1) * 2)) = some (.int .i64 qx) := fun w' h => by
              obtain ⟨ad', e, _, d0, _⟩ := pt_at (hV.ext (hx1.trans h)) hkl1
              injection e with e
              subst e
              rw [Hqq.out] at d0
              exact d0
            have e1 : ∀ w', Ext w1 w' → w'.cell? ⟨(ad.add ((k - 1) * 2)).block, (ad.add ((k - 1) * 2)).off + 1, none⟩ = some (.int .i64 qy) := fun w' h => by
              obtain ⟨ad', e, _, _, d1⟩ := pt_at (hV.ext (hx1.trans h)) hkl1
              injection e with e
              subst e
              rw [Hqq.out] at d1
              exact d1
            have f0 : ∀ w', Ext w1 w' → w'.cell? ⟨ha, 0, none⟩ = some (.int .i64 px) := fun w' h => (kP.ext h).cell 0
            have f1 : ∀ w', Ext w1 w' → w'.cell? ⟨ha, 1, none⟩ = some (.int .i64 py) := fun w' h => (kP.ext h).cell 1
            have j0 : (0 : Int) ≤ ((k - 1 : Nat) : Int) := by omega
            have j1 : ((k - 1 : Nat) : Int) < n := by omega
            have hk0' : ¬ (k : Int) = 0 := by omega
            have hk0b : ((k : Int) == 0) = false := by simp; omega
            have Hwk := hidA (show wrap64 ((k : Int) - 1) = ((k - 1 : Nat) : Int) by rw [IntWalk.wrap64_in _ ⟨by omega, by omega⟩]; omega)
            have Hwk2 := hidA (show IntKind.i64.wrap ((k : Int) - 1) = ((k - 1 : Nat) : Int) by rw [IntWalk.i64_in _ ⟨by omega, by omega⟩]; omega)
            have hkp : (0 : Int) < k := by omega
            have hkpb : decide ((0 : Int) < (k : Int)) = true := by simpa using hkp
            clear hqq hfq HBt hk hkl hprev HE8 hb2 hq2
            unfold lpV at HB1
            cases hlp : leapO (px - qx) (py - qy) with
            | none =>
              obtain rfl : E = 2 := by rw [HE9.out, if_pos (by unfold leapN; rw [hlp]; rfl)]
              rw [hlp] at HB1
              simp only [] at HB1
              have hmv := hidA (show wrap64 ((a : Int) + 0) = (a : Int) from by rw [IntWalk.wrap64_in _ (by have := Hak.out; have := H6.out; exact ⟨by omega, by omega⟩)]; omega)
              clear hlp HE9 Hle
              go_upto_region 9 with (first | (go_at_call 35; refine ((HWi _ _ _ _).out).mono ?_; rintro e w7 ⟨rfl, hw7⟩; subst hw7) | (go_at_call 19; refine ((HWf _ _).out).mono ?_; rintro e w7 ⟨rfl, hw7⟩; subst hw7) | (go_at_call 17; refine ((HS0 _ _ _ (Rd.new (by first | rfl | simp) (by first | rfl | simp))).out).mono ?_; rintro e w8 ⟨rfl, hw8⟩; subst hw8))
              go_upto_region 11 with fail
              have wk := Hwk.out
              have wk2 := Hwk2.out
              refine wp_region_noPanic ?_
              refine wp_region_held_drew (S := fun w' => Ext w1 w') (by kernel_rfl) ?_ (fun hHeld => ?_)
              · (repeat (first | exact Ext.refl _ | assumption | refine Ext.setCell ?_ (by first | (simp; done) | (simp; omega)) _ | refine Ext.drewN ?_ _ | refine Ext.alloc ?_ _ | refine Ext.drew ?_ | refine Ext.trans ?_ (by assumption)))
              refine wpAnyH_take (i := 0) (oi := ?o1x0) (v := ?v1x0) ?hi1x0 (by kernel_rfl) ?hf1x0 ?hr1x0 (fun _ _ _ h => h) ?hy1x0 (by assumption) ?rest1x0
              case hi1x0 => (simp only [List.getElem?_toArray, List.getElem?_cons_zero]; exact rfl)
              case hf1x0 => kernel_rfl
              case hr1x0 => kernel_rfl
              case hy1x0 => (refine Or.inl ⟨by rfl, ?_⟩; intro w hSw; (try dsimp only at hSw); go_simp; try with_reducible rfl)
              simp only [put_mk, List.set_cons_succ, List.set_cons_zero]
              refine wpAnyH_take (i := 1) (oi := ?o1x1) (v := ?v1x1) ?hi1x1 (by kernel_rfl) ?hf1x1 ?hr1x1 (fun _ _ _ h => h) ?hy1x1 (by assumption) ?rest1x1
              case hi1x1 => (simp only [List.getElem?_toArray, List.getElem?_cons_succ, List.getElem?_cons_zero]; exact rfl)
              case hf1x1 => kernel_rfl
              case hr1x1 => kernel_rfl
              case hy1x1 => (refine Or.inl ⟨by rfl, ?_⟩; intro w hSw; (try dsimp only at hSw); go_simp; try with_reducible rfl)
              simp only [put_mk, List.set_cons_succ, List.set_cons_zero]
              refine wpAnyH_take (i := 2) (oi := ?o1x2) (v := ?v1x2) ?hi1x2 (by kernel_rfl) ?hf1x2 ?hr1x2 (fun _ _ _ h => h) ?hy1x2 (by assumption) ?rest1x2
              case hi1x2 => (simp only [List.getElem?_toArray, List.getElem?_cons_succ, List.getElem?_cons_zero]; exact rfl)
              case hf1x2 => kernel_rfl
              case hr1x2 => kernel_rfl
              case hy1x2 => (refine Or.inl ⟨by rfl, ?_⟩; intro w hSw; (try dsimp only at hSw); go_simp; try with_reducible rfl)
              simp only [put_mk, List.set_cons_succ, List.set_cons_zero]
              refine wpAnyH_take (i := 3) (oi := ?o1x3) (v := ?v1x3) ?hi1x3 (by kernel_rfl) ?hf1x3 ?hr1x3 (fun _ _ _ h => h) ?hy1x3 (by assumption) ?rest1x3
              case hi1x3 => (simp only [List.getElem?_toArray, List.getElem?_cons_succ, List.getElem?_cons_zero]; exact rfl)
              case hf1x3 => kernel_rfl
              case hr1x3 => kernel_rfl
              case hy1x3 => (refine Or.inl ⟨by rfl, ?_⟩; intro w hSw; (try dsimp only at hSw); go_simp; try with_reducible rfl)
              simp only [put_mk, List.set_cons_succ, List.set_cons_zero]
              refine wpAnyH_take (i := 4) (oi := ?o1x4) (v := ?v1x4) ?hi1x4 (by kernel_rfl) ?hf1x4 ?hr1x4 (fun _ _ _ h => h) ?hy1x4 (by assumption) ?rest1x4
              case hi1x4 => (simp only [List.getElem?_toArray, List.getElem?_cons_succ, List.getElem?_cons_zero]; exact rfl)
              case hf1x4 => kernel_rfl
              case hr1x4 => kernel_rfl
              case hy1x4 => (refine Or.inl ⟨by rfl, ?_⟩; intro w hSw; (try dsimp only at hSw); go_simp; try with_reducible rfl)
              simp only [put_mk, List.set_cons_succ, List.set_cons_zero]
              refine wpAnyH_take (i := 5) (oi := ?o1x5) (v := ?v1x5) ?hi1x5 (by kernel_rfl) ?hf1x5 ?hr1x5 (fun _ _ _ h => h) ?hy1x5 (by assumption) ?rest1x5
              case hi1x5 => (simp only [List.getElem?_toArray, List.getElem?_cons_succ, List.getElem?_cons_zero]; exact rfl)
              case hf1x5 => kernel_rfl
              case hr1x5 => kernel_rfl
              case hy1x5 => (refine Or.inl ⟨by rfl, ?_⟩; intro w hSw; (try dsimp only at hSw); go_simp; try with_reducible rfl)
              simp only [put_mk, List.set_cons_succ, List.set_cons_zero]
              refine wpAnyH_ready (rs := [6]) (by kernel_rfl) (by simp) ?_
              refine AllReadyH.cons (o := ?o1x6) ?hi1x6 (fun K hK => ?_) AllReadyH.nil
              case hi1x6 => (simp only [List.getElem?_toArray, List.getElem?_cons_succ, List.getElem?_cons_zero]; exact rfl)
              go_simp
              go_at_call 36
              refine ((HB1 _).out).mono ?_
              rintro e wb ⟨rfl, hxb⟩
              refine hK.out _ _ ?_ (fun hHeld => ?_)
              · (repeat (first | exact Ext.refl _ | assumption | refine Ext.setCell ?_ (by first | (simp; done) | (simp; omega)) _ | refine Ext.drewN ?_ _ | refine Ext.alloc ?_ _ | refine Ext.drew ?_ | refine Ext.trans ?_ (by assumption)))
              clear hK K
              refine wpAnyH_take (i := 7) (oi := ?o1x7) (v := ?v1x7) ?hi1x7 (by kernel_rfl) ?hf1x7 ?hr1x7 (fun _ _ _ h => h) ?hy1x7 (by assumption) ?rest1x7
              case hi1x7 => (simp only [List.getElem?_toArray, List.getElem?_cons_succ, List.getElem?_cons_zero]; exact rfl)
              case hf1x7 => kernel_rfl
              case hr1x7 => kernel_rfl
              case hy1x7 => (refine Or.inl ⟨by rfl, ?_⟩; intro w hSw; (try dsimp only at hSw); go_simp; try with_reducible rfl)
              simp only [put_mk, List.set_cons_succ, List.set_cons_zero]
              refine wpAnyH_take (i := 8) (oi := ?o1x8) (v := ?v1x8) ?hi1x8 (by kernel_rfl) ?hf1x8 ?hr1x8 (fun _ _ _ h => h) ?hy1x8 (by assumption) ?rest1x8
              case hi1x8 => (simp only [List.getElem?_toArray, List.getElem?_cons_succ, List.getElem?_cons_zero]; exact rfl)
              case hf1x8 => kernel_rfl
              case hr1x8 => kernel_rfl
              case hy1x8 => (refine Or.inl ⟨by rfl, ?_⟩; intro w hSw; (try dsimp only at hSw); go_simp; try with_reducible rfl)
              simp only [put_mk, List.set_cons_succ, List.set_cons_zero]
              refine wpAnyH_take (i := 9) (oi := ?o1x9) (v := ?v1x9) ?hi1x9 (by kernel_rfl) ?hf1x9 ?hr1x9 (fun _ _ _ h => h) ?hy1x9 (by assumption) ?rest1x9
              case hi1x9 => (simp only [List.getElem?_toArray, List.getElem?_cons_succ, List.getElem?_cons_zero]; exact rfl)
              case hf1x9 => kernel_rfl
              case hr1x9 => kernel_rfl
              case hy1x9 => (refine Or.inl ⟨by rfl, ?_⟩; intro w hSw; (try dsimp only at hSw); go_simp; try with_reducible rfl)
              simp only [put_mk, List.set_cons_succ, List.set_cons_zero]
              refine wpAnyH_take (i := 10) (oi := ?o1x10) (v := ?v1x10) ?hi1x10 (by kernel_rfl) ?hf1x10 ?hr1x10 (fun _ _ _ h => h) ?hy1x10 (by assumption) ?rest1x10
              case hi1x10 => (simp only [List.getElem?_toArray, List.getElem?_cons_succ, List.getElem?_cons_zero]; exact rfl)
              case hf1x10 => kernel_rfl
              case hr1x10 => kernel_rfl
              case hy1x10 => (refine Or.inl ⟨by rfl, ?_⟩; intro w hSw; (try dsimp only at hSw); go_simp; try with_reducible rfl)
              simp only [put_mk, List.set_cons_succ, List.set_cons_zero]
              refine wpAnyH_take (i := 11) (oi := ?o1x11) (v := ?v1x11) ?hi1x11 (by kernel_rfl) ?hf1x11 ?hr1x11 (fun _ _ _ h => h) ?hy1x11 (by assumption) ?rest1x11
              case hi1x11 => (simp only [List.getElem?_toArray, List.getElem?_cons_succ, List.getElem?_cons_zero]; exact rfl)
              case hf1x11 => kernel_rfl
              case hr1x11 => kernel_rfl
              case hy1x11 => (refine Or.inl ⟨by rfl, ?_⟩; intro w hSw; (try dsimp only at hSw); go_simp; try with_reducible rfl)
              simp only [put_mk, List.set_cons_succ, List.set_cons_zero]
              refine wpAnyH_done (by kernel_rfl) ?_ _
              refine NoPanic.normal ?_
              clear wk wk2 e0 e1 f0 f1 q1 q2 q3 q4
              have hmw := hmv.out
              go_wp2_with (first | (go_at_call 19; refine ((HWt _ _).out).mono ?_; rintro e w7 ⟨rfl, hw7⟩; subst hw7) | (go_at_call 17; refine ((HS0 _ _ _ (Rd.new (by first | rfl | simp) (by first | rfl | simp))).out).mono ?_; rintro e w8 ⟨rfl, hw8⟩; subst hw8))
              clear hmw
              go_roundw
              case rel => exact ⟨k + 1, a, 2, Hkn.out, (by first | rfl | go_num), rfl, (by first | rfl | exact congrArg (Value.int IntKind.i64) hmv.out | simp), many_b (m := 0) Hak.out (Nat.zero_le _), .inl rfl, (by repeat (first | exact Ext.refl _ | assumption | refine Ext.setCell ?_ (by first | (simp; done) | (simp; omega)) _ | refine Ext.drewN ?_ _ | refine Ext.alloc ?_ _ | refine Ext.drew ?_ | refine Ext.trans ?_ (by assumption)))⟩
              case measure => exact nxt_k Hkn.out
            | some p =>
              obtain ⟨d, m⟩ := p
              have HE7 := hidA (HE9.out.trans (if_neg (by unfold leapN; rw [hlp]; simp)))
              have hml := Hle.out d m hlp
              have hm1 := (leapO_spec hlp).2.1
              rw [hlp] at HB1
              simp only [] at HB1
              have hm0 : ¬ (m : Int) = 0 := by omega
              have hmb : ((m : Int) == 0) = false := by simp; omega
              have hmv := hidA (many_v Hak.out Hkn.out hnb hml H6.out)
              have hmb2 := hidA (many_b Hak.out hml)
              clear hlp HE9 Hle hml hm1
              go_upto_region 9 with (first | (go_at_call 35; refine ((HWi _ _ _ _).out).mono ?_; rintro e w7 ⟨rfl, hw7⟩; subst hw7) | (go_at_call 19; refine ((HWf _ _).out).mono ?_; rintro e w7 ⟨rfl, hw7⟩; subst hw7) | (go_at_call 17; refine ((HS0 _ _ _ (Rd.new (by first | rfl | simp) (by first | rfl | simp))).out).mono ?_; rintro e w8 ⟨rfl, hw8⟩; subst hw8))
              go_upto_region 11 with fail
              have wk := Hwk.out
              have wk2 := Hwk2.out
              refine wp_region_noPanic ?_
              refine wp_region_held_drew (S := fun w' => Ext w1 w') (by kernel_rfl) ?_ (fun hHeld => ?_)
              · (repeat (first | exact Ext.refl _ | assumption | refine Ext.setCell ?_ (by first | (simp; done) | (simp; omega)) _ | refine Ext.drewN ?_ _ | refine Ext.alloc ?_ _ | refine Ext.drew ?_ | refine Ext.trans ?_ (by assumption)))
              refine wpAnyH_take (i := 0) (oi := ?o2x0) (v := ?v2x0) ?hi2x0 (by kernel_rfl) ?hf2x0 ?hr2x0 (fun _ _ _ h => h) ?hy2x0 (by assumption) ?rest2x0
              case hi2x0 => (simp only [List.getElem?_toArray, List.getElem?_cons_zero]; exact rfl)
              case hf2x0 => kernel_rfl
              case hr2x0 => kernel_rfl
              case hy2x0 => (refine Or.inl ⟨by rfl, ?_⟩; intro w hSw; (try dsimp only at hSw); go_simp; try with_reducible rfl)
              simp only [put_mk, List.set_cons_succ, List.set_cons_zero]
              refine wpAnyH_take (i := 1) (oi := ?o2x1) (v := ?v2x1) ?hi2x1 (by kernel_rfl) ?hf2x1 ?hr2x1 (fun _ _ _ h => h) ?hy2x1 (by assumption) ?rest2x1
              case hi2x1 => (simp only [List.getElem?_toArray, List.getElem?_cons_succ, List.getElem?_cons_zero]; exact rfl)
              case hf2x1 => kernel_rfl
              case hr2x1 => kernel_rfl
              case hy2x1 => (refine Or.inl ⟨by rfl, ?_⟩; intro w hSw; (try dsimp only at hSw); go_simp; try with_reducible rfl)
              simp only [put_mk, List.set_cons_succ, List.set_cons_zero]
              refine wpAnyH_take (i := 2) (oi := ?o2x2) (v := ?v2x2) ?hi2x2 (by kernel_rfl) ?hf2x2 ?hr2x2 (fun _ _ _ h => h) ?hy2x2 (by assumption) ?rest2x2
              case hi2x2 => (simp only [List.getElem?_toArray, List.getElem?_cons_succ, List.getElem?_cons_zero]; exact rfl)
              case hf2x2 => kernel_rfl
              case hr2x2 => kernel_rfl
              case hy2x2 => (refine Or.inl ⟨by rfl, ?_⟩; intro w hSw; (try dsimp only at hSw); go_simp; try with_reducible rfl)
              simp only [put_mk, List.set_cons_succ, List.set_cons_zero]
              refine wpAnyH_take (i := 3) (oi := ?o2x3) (v := ?v2x3) ?hi2x3 (by kernel_rfl) ?hf2x3 ?hr2x3 (fun _ _ _ h => h) ?hy2x3 (by assumption) ?rest2x3
              case hi2x3 => (simp only [List.getElem?_toArray, List.getElem?_cons_succ, List.getElem?_cons_zero]; exact rfl)
              case hf2x3 => kernel_rfl
              case hr2x3 => kernel_rfl
              case hy2x3 => (refine Or.inl ⟨by rfl, ?_⟩; intro w hSw; (try dsimp only at hSw); go_simp; try with_reducible rfl)
              simp only [put_mk, List.set_cons_succ, List.set_cons_zero]
              refine wpAnyH_take (i := 4) (oi := ?o2x4) (v := ?v2x4) ?hi2x4 (by kernel_rfl) ?hf2x4 ?hr2x4 (fun _ _ _ h => h) ?hy2x4 (by assumption) ?rest2x4
              case hi2x4 => (simp only [List.getElem?_toArray, List.getElem?_cons_succ, List.getElem?_cons_zero]; exact rfl)
              case hf2x4 => kernel_rfl
              case hr2x4 => kernel_rfl
              case hy2x4 => (refine Or.inl ⟨by rfl, ?_⟩; intro w hSw; (try dsimp only at hSw); go_simp; try with_reducible rfl)
              simp only [put_mk, List.set_cons_succ, List.set_cons_zero]
              refine wpAnyH_take (i := 5) (oi := ?o2x5) (v := ?v2x5) ?hi2x5 (by kernel_rfl) ?hf2x5 ?hr2x5 (fun _ _ _ h => h) ?hy2x5 (by assumption) ?rest2x5
              case hi2x5 => (simp only [List.getElem?_toArray, List.getElem?_cons_succ, List.getElem?_cons_zero]; exact rfl)
              case hf2x5 => kernel_rfl
              case hr2x5 => kernel_rfl
              case hy2x5 => (refine Or.inl ⟨by rfl, ?_⟩; intro w hSw; (try dsimp only at hSw); go_simp; try with_reducible rfl)
              simp only [put_mk, List.set_cons_succ, List.set_cons_zero]
              refine wpAnyH_ready (rs := [6]) (by kernel_rfl) (by simp) ?_
              refine AllReadyH.cons (o := ?o2x6) ?hi2x6 (fun K hK => ?_) AllReadyH.nil
              case hi2x6 => (simp only [List.getElem?_toArray, List.getElem?_cons_succ, List.getElem?_cons_zero]; exact rfl)
              go_simp
              go_at_call 36
              refine ((HB1 _).out).mono ?_
              rintro e wb ⟨rfl, hxb⟩
              refine hK.out _ _ ?_ (fun hHeld => ?_)
              · (repeat (first | exact Ext.refl _ | assumption | refine Ext.setCell ?_ (by first | (simp; done) | (simp; omega)) _ | refine Ext.drewN ?_ _ | refine Ext.alloc ?_ _ | refine Ext.drew ?_ | refine Ext.trans ?_ (by assumption)))
              clear hK K
              refine wpAnyH_take (i := 7) (oi := ?o2x7) (v := ?v2x7) ?hi2x7 (by kernel_rfl) ?hf2x7 ?hr2x7 (fun _ _ _ h => h) ?hy2x7 (by assumption) ?rest2x7
              case hi2x7 => (simp only [List.getElem?_toArray, List.getElem?_cons_succ, List.getElem?_cons_zero]; exact rfl)
              case hf2x7 => kernel_rfl
              case hr2x7 => kernel_rfl
              case hy2x7 => (refine Or.inl ⟨by rfl, ?_⟩; intro w hSw; (try dsimp only at hSw); go_simp; try with_reducible rfl)
              simp only [put_mk, List.set_cons_succ, List.set_cons_zero]
              refine wpAnyH_take (i := 8) (oi := ?o2x8) (v := ?v2x8) ?hi2x8 (by kernel_rfl) ?hf2x8 ?hr2x8 (fun _ _ _ h => h) ?hy2x8 (by assumption) ?rest2x8
              case hi2x8 => (simp only [List.getElem?_toArray, List.getElem?_cons_succ, List.getElem?_cons_zero]; exact rfl)
              case hf2x8 => kernel_rfl
              case hr2x8 => kernel_rfl
              case hy2x8 => (refine Or.inl ⟨by rfl, ?_⟩; intro w hSw; (try dsimp only at hSw); go_simp; try with_reducible rfl)
              simp only [put_mk, List.set_cons_succ, List.set_cons_zero]
              refine wpAnyH_take (i := 9) (oi := ?o2x9) (v := ?v2x9) ?hi2x9 (by kernel_rfl) ?hf2x9 ?hr2x9 (fun _ _ _ h => h) ?hy2x9 (by assumption) ?rest2x9
              case hi2x9 => (simp only [List.getElem?_toArray, List.getElem?_cons_succ, List.getElem?_cons_zero]; exact rfl)
              case hf2x9 => kernel_rfl
              case hr2x9 => kernel_rfl
              case hy2x9 => (refine Or.inl ⟨by rfl, ?_⟩; intro w hSw; (try dsimp only at hSw); go_simp; try with_reducible rfl)
              simp only [put_mk, List.set_cons_succ, List.set_cons_zero]
              refine wpAnyH_take (i := 10) (oi := ?o2x10) (v := ?v2x10) ?hi2x10 (by kernel_rfl) ?hf2x10 ?hr2x10 (fun _ _ _ h => h) ?hy2x10 (by assumption) ?rest2x10
              case hi2x10 => (simp only [List.getElem?_toArray, List.getElem?_cons_succ, List.getElem?_cons_zero]; exact rfl)
              case hf2x10 => kernel_rfl
              case hr2x10 => kernel_rfl
              case hy2x10 => (refine Or.inl ⟨by rfl, ?_⟩; intro w hSw; (try dsimp only at hSw); go_simp; try with_reducible rfl)
              simp only [put_mk, List.set_cons_succ, List.set_cons_zero]
              refine wpAnyH_take (i := 11) (oi := ?o2x11) (v := ?v2x11) ?hi2x11 (by kernel_rfl) ?hf2x11 ?hr2x11 (fun _ _ _ h => h) ?hy2x11 (by assumption) ?rest2x11
              case hi2x11 => (simp only [List.getElem?_toArray, List.getElem?_cons_succ, List.getElem?_cons_zero]; exact rfl)
              case hf2x11 => kernel_rfl
              case hr2x11 => kernel_rfl
              case hy2x11 => (refine Or.inl ⟨by rfl, ?_⟩; intro w hSw; (try dsimp only at hSw); go_simp; try with_reducible rfl)
              simp only [put_mk, List.set_cons_succ, List.set_cons_zero]
              refine wpAnyH_done (by kernel_rfl) ?_ _
              refine NoPanic.normal ?_
              clear wk wk2 e0 e1 f0 f1 q1 q2 q3 q4
              have hmw := hmv.out
              go_wp2_with (first | (go_at_call 19; refine ((HWf _ _).out).mono ?_; rintro e w7 ⟨rfl, hw7⟩; subst hw7) | (go_at_call 17; refine ((HS0 _ _ _ (Rd.new (by first | rfl | simp) (by first | rfl | simp))).out).mono ?_; rintro e w8 ⟨rfl, hw8⟩; subst hw8))
              clear hmw
              go_roundw
              case rel => exact ⟨k + 1, a + m, 0, Hkn.out, (by first | rfl | go_num), rfl, (by first | exact congrArg (Value.int IntKind.i64) hmv.out | rfl | simp), hmb2.out, .inr ⟨rfl, HE7.out, H6.out, fun _ => by rw [Nat.add_sub_cancel, Hpp.out]; exact Hb.out⟩, (by repeat (first | exact Ext.refl _ | assumption | refine Ext.setCell ?_ (by first | (simp; done) | (simp; omega)) _ | refine Ext.drewN ?_ _ | refine Ext.alloc ?_ _ | refine Ext.drew ?_ | refine Ext.trans ?_ (by assumption)))⟩
              case measure => exact nxt_k Hkn.out
    · obtain rfl : n = k := by omega
      rcases Hwv.out with rfl | ⟨_, h9, _⟩
      · clear hk hkn
        go_wp2_with (first | (go_at_call 19; refine ((HWh _ _ _).out).mono ?_; rintro e w7 ⟨rfl, hw7⟩; subst hw7) | (go_at_call 19; refine ((HWh _ _ _).out).mono ?_; rintro e w7 ⟨rfl, hw7⟩; subst hw7) | (go_at_call 17; refine ((HSE _ _ _ (Rd.new (by first | rfl | simp) (by first | rfl | simp))).out).mono ?_; rintro e w8 ⟨rfl, hw8⟩; subst hw8) | (go_at_call 15; refine ((HL _).out).mono ?_; rintro e w9 ⟨rfl, hx9⟩))
        all_goals
          go_ret
          exact ⟨by first | rfl | simp, hx.trans (by repeat (first | exact Ext.refl _ | assumption | refine Ext.setCell ?_ (by first | (simp; done) | (simp; omega)) _ | refine Ext.drewN ?_ _ | refine Ext.alloc ?_ _ | refine Ext.drew ?_ | refine Ext.trans ?_ (by assumption)))⟩
      · exfalso
        rw [Nat.sub_self] at h9
        exact HE0.out h9
theorem straight_walk (A : Option Addr) (n c : Nat) (l : List (Int × Int)) (w : World) (hn : l.length = n) (hV : Rd w A (ptv l)) (hnc : n ≤ c) (hnb : n ≤ 140737488351232) :
    Calls Try.prog 7 #[.slice A n c] w fun e w' => e = .returned (.bool true) ∧ Ext w w' := by
  by_cases h0 : amtS n = 0
  · by_cases h1 : stI l 0 n = 0
    · exact straight_good A n c l w hn hV hnc h0 (strOk (by rw [hn]; exact h0) (by rw [hn]; exact h1))
    · have e : strB l = stI l 0 n := by unfold strB; rw [hn, if_neg (by simpa using h0)]
      exact straight_bad A n c l w hn hV hnb (by rw [e]; exact h1) (fun w' h => by rw [e]; exact hidA (Straight_bad2 A n c l w' hn (hV.ext h) h0 h1))
  · have e : strB l = amtS n := by unfold strB; rw [hn, if_pos h0]
    exact straight_bad A n c l w hn hV hnb (by rw [e]; exact h0) (fun w' h => by rw [e]; exact hidA (Straight_bad1 A n c w' h0))
end Go.Proofs.Ytpgdinpckolfpaa
