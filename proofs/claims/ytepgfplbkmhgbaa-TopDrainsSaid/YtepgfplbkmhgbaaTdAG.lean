/- Contract: the reference's GatherOf. -/
import Derived.Test.YtepgfplbkmhgbaaTdAA
import Derived.Laws.Closers25b
import Derived.Test.YtepgfplbkmhgbaaTdAB
import Derived.Test.YtepgfplbkmhgbaaFillS
import Derived.Test.YtepgfplbkmhgbaaFillB
import Derived.LoopTactic
import Derived.Test.YtepgfplbkmhgbaaSteepC
import Derived.Test.YtepgfplbkmhgbaaTdAC
import Derived.Test.YtepgfplbkmhgbaaTdAD
import Derived.Test.YtepgfplbkmhgbaaTdAE
import Derived.RegionTactic
import Derived.ChangeAlike
namespace Go.Proofs.Ytepgfplbkmhgbaa
open Go.RowKit Ieee
attribute [local go_sem ↓] Go.wp_at_zero Go.wp_at_succ

theorem dep_okW {r n : Nat} {drop : Nat} (hr : Bd 20 r) (hn : Bd 48 n) (hd : Bd 22 drop) : floatBits .mul .f32 r n = some (fmul r n) ∧ floatBits .mul .f32 (fmul r n) drop = some (fmul (fmul r n) drop) ∧ floatBits .mul .f32 drop 1056964608 = some (fmul drop 1056964608) := by
  obtain ⟨a1, a2⟩ := fmul_ok hr hn (by omega)
  obtain ⟨b1, b2⟩ := fmul_ok a2 hd (by omega)
  exact ⟨a1, b1, (fmul_ok hd half_bd (by omega)).1⟩
theorem leq_gtW {d : Nat} (h : Bd 22 d) : (FloatKind.f32.format.order d 0 == some .lt || FloatKind.f32.format.order d 0 == some .eq) = !gt d 0 := by
  have e := ord_valI (bd_Fin h (by omega)) (show Fin 0 by unfold Fin; omega)
  unfold gt
  rw [ord_def, e]
  cases compare (valI d) (valI 0) <;> rfl

set_option maxRecDepth 100000 in
set_option maxHeartbeats 3200000 in
theorem depthW_any (r le mo : Nat) (st n : Int) (drop : Nat) (w : World) (hr : Bd 20 r) (hd : Bd 22 drop) (hn : n ≤ 1099511627776) : Calls Try.prog 32 #[.agg #[.float .f32 r, .float .f32 le, .float .f32 mo, .int .i64 st], .int .i64 n, .float .f32 drop] w fun e w' => e = .returned (.float .f32 (depF r le mo n drop)) ∧ Ext w w' := by
  have hd0 : (FloatKind.f32.format.order drop 0 == some .lt || FloatKind.f32.format.order drop 0 == some .eq) = !gt drop 0 := leq_gtW hd
  have hd1 : (FloatKind.f32.format.order drop 0 == some .gt) = gt drop 0 := rfl
  have hE : depF r le mo n drop = if n < 1 ∨ gt drop 0 = false then 0 else if lt (fmul (fmul r (rootI n)) drop) le = true then 0 else lesserB (lesserB (fmul (fmul r (rootI n)) drop) mo) (fmul drop 1056964608) := rfl
  have HE := hidA hE
  generalize depF r le mo n drop = E at *
  clear hE
  by_cases h1 : n < 1
  · have hv : Hid (E = 0) := by show E = _; rw [HE.out, if_pos (.inl h1)]
    clear hd0 hd1
    go_enter Try.func32, Try.ntmps32
    go_wp2
    go_ret
    exact ⟨ret_f hv.out.symm, (by repeat (first | (with_reducible exact Ext.refl _) | (with_reducible assumption) | (with_reducible refine Ext.setCell ?_ (by first | (simp; done) | (simp; omega)) _) | (with_reducible refine Ext.drewN ?_ _) | (with_reducible refine Ext.alloc ?_ _) | (with_reducible refine Ext.drew ?_) | (with_reducible refine Ext.trans ?_ (by assumption))))⟩
  · cases h2 : gt drop 0
    · have hv : Hid (E = 0) := by show E = _; rw [HE.out, if_pos (.inr h2)]
      rw [h2] at hd0
      clear h2 hd1
      have hd2 : (FloatKind.f32.format.order drop 0 == some .lt || FloatKind.f32.format.order drop 0 == some .eq) = true := hd0
      clear hd0
      go_enter Try.func32, Try.ntmps32
      go_wp2
      go_ret
      exact ⟨ret_f hv.out.symm, (by repeat (first | (with_reducible exact Ext.refl _) | (with_reducible assumption) | (with_reducible refine Ext.setCell ?_ (by first | (simp; done) | (simp; omega)) _) | (with_reducible refine Ext.drewN ?_ _) | (with_reducible refine Ext.alloc ?_ _) | (with_reducible refine Ext.drew ?_) | (with_reducible refine Ext.trans ?_ (by assumption))))⟩
    · obtain ⟨m1, m2, m3⟩ := dep_okW hr (rootI_bd (show 0 ≤ n by omega) hn).2 hd
      have r1 := fun (w : World) => run_float_arith (P := Try.prog) w .mul 31 .f32 _ _ _ m1
      have r2 := fun (w : World) => run_float_arith (P := Try.prog) w .mul 31 .f32 _ _ _ m2
      have r3 := fun (w : World) => run_float_arith (P := Try.prog) w .mul 31 .f32 _ _ _ m3
      have HR := fun (w : World) => hidA (rootI_any n w (by omega) hn)
      have hv : Hid (E = if lt (fmul (fmul r (rootI n)) drop) le = true then 0 else lesserB (lesserB (fmul (fmul r (rootI n)) drop) mo) (fmul drop 1056964608)) := by show E = _; rw [HE.out, if_neg (by rw [h2]; simp; omega)]
      have hd2 : (FloatKind.f32.format.order drop 0 == some .lt || FloatKind.f32.format.order drop 0 == some .eq) = false := by rw [hd0, h2]; rfl
      clear m1 m2 m3 hd0 hd1 h2 HE hr hd hn
      generalize rootI n = q at *
      generalize fmul r q = m at *
      generalize fmul m drop = d at *
      generalize fmul drop 1056964608 = hf at *
      have hb : (FloatKind.f32.format.order d le == some .lt) = lt d le := rfl
      cases h3 : lt d le
      · have hv2 : Hid (E = lesserB (lesserB d mo) hf) := by show E = _; rw [hv.out, if_neg (by rw [h3]; decide)]
        rw [h3] at hb
        clear h3 hv
        go_enter Try.func32, Try.ntmps32
        go_wp2
        go_quiet ((go_at_call 47; exact Calls.quiet_of_same ((HR _).out.mono fun e w' h => ⟨h.1, h.2.symm⟩)))
        go_wp2_with (go_at_call 48; refine (lesser_any _ _ _).mono ?_; rintro e w1 ⟨rfl, rfl⟩)
        go_ret
        exact ⟨ret_f hv2.out.symm, (by repeat (first | (with_reducible exact Ext.refl _) | (with_reducible assumption) | (with_reducible refine Ext.setCell ?_ (by first | (simp; done) | (simp; omega)) _) | (with_reducible refine Ext.drewN ?_ _) | (with_reducible refine Ext.alloc ?_ _) | (with_reducible refine Ext.drew ?_) | (with_reducible refine Ext.trans ?_ (by assumption))))⟩
      · have hv2 : Hid (E = 0) := by show E = _; rw [hv.out, if_pos h3]
        rw [h3] at hb
        clear h3 hv
        go_enter Try.func32, Try.ntmps32
        go_wp2
        go_quiet ((go_at_call 47; exact Calls.quiet_of_same ((HR _).out.mono fun e w' h => ⟨h.1, h.2.symm⟩)))
        go_wp2
        go_ret
        exact ⟨ret_f hv2.out.symm, (by repeat (first | (with_reducible exact Ext.refl _) | (with_reducible assumption) | (with_reducible refine Ext.setCell ?_ (by first | (simp; done) | (simp; omega)) _) | (with_reducible refine Ext.drewN ?_ _) | (with_reducible refine Ext.alloc ?_ _) | (with_reducible refine Ext.drew ?_) | (with_reducible refine Ext.trans ?_ (by assumption))))⟩

end Go.Proofs.Ytepgfplbkmhgbaa

namespace Go.Proofs.Ytepgfplbkmhgbaa
open Go.RowKit Ieee

theorem log_up {m a : Nat} (hm : m ≠ 0) : (m * 2 ^ a).log2 = m.log2 + a := by
  have h1 := Nat.log2_self_le hm
  have h2 : m < 2 ^ (m.log2 + 1) := Nat.lt_log2_self
  have hp := Nat.two_pow_pos a
  rw [Nat.log2_eq_iff (by exact Nat.mul_ne_zero hm (Nat.pos_iff_ne_zero.1 hp))]
  constructor
  · rw [Nat.pow_add]
    exact Nat.mul_le_mul_right _ h1
  · rw [show m.log2 + a + 1 = m.log2 + 1 + a by omega, Nat.pow_add]
    exact Nat.mul_lt_mul_of_pos_right h2 hp
theorem word_pos {r : Nat} : single.word false r = r := by
  unfold Format.word
  simp
theorem half_read : single.read 1056964608 = .number false 8388608 (-24) := by decide +kernel
theorem prod_half (M Y : Nat) (P Q : Int) : (((Datum.number false M P).product (Datum.number false Y Q)).map single.write).getD 0 = single.nearest false (M * Y) (P + Q) := rfl
theorem read_big {x : Nat} (hF : Fin x) (h0 : x / 2147483648 % 2 ≠ 1) (h : 16777216 ≤ x % 2147483648) : single.read x = .number false (8388608 + x % 2147483648 % 8388608) (-149 + ((x % 2147483648 / 8388608 - 1 : Nat) : Int)) := by
  unfold Fin at hF
  have hs : (x / 2147483648 % 2 == 1) = false := by simpa using h0
  unfold Format.read
  simp only [single_sign, single_inf, single_binade, single_least, hs]
  generalize x % 2147483648 = r at *
  have hnb : ¬ r < 8388608 := by omega
  simp only [hnb, hF, if_true, if_false]
theorem read_small {x : Nat} (h0 : x / 2147483648 % 2 ≠ 1) (h : x % 2147483648 < 16777216) : single.read x = .number false (x % 2147483648) (-149) := by
  have hs : (x / 2147483648 % 2 == 1) = false := by simpa using h0
  unfold Format.read
  simp only [single_sign, single_inf, single_binade, single_least, hs]
  generalize x % 2147483648 = r at *
  split
  · rfl
  · split
    · have q1 : 8388608 + r % 8388608 = r := by omega
      have q2 : r / 8388608 - 1 = 0 := by omega
      rw [q1, q2]
      rfl
    · omega
theorem cut_big {T n : Nat} (hT : T = 8388608) (hl : (n * T).log2 = 46) : Toward.even.cut false (n * T) 23 = n := by
  unfold Toward.cut
  rw [hl]
  have e7 : min 23 (46 + 2) = 23 := rfl
  have e9 : (1 <<< 23 : Nat) = T := by rw [hT]; decide
  have hp : 0 < T := by omega
  simp only [e7, e9, Nat.mul_mod_left, Nat.mul_div_cancel _ hp]
  have c2 : ¬ T = 2 * 0 := by omega
  simp [c2]
theorem cut_small {T r : Nat} (hT : T = 8388608) (hl : 22 ≤ (r * T).log2) : Toward.even.cut false (r * T) 24 ≤ (r + 1) / 2 := by
  unfold Toward.cut
  have e7 : min 24 ((r * T).log2 + 2) = 24 := by omega
  obtain ⟨U, hU⟩ : ∃ U, U = 16777216 := ⟨_, rfl⟩
  have e9 : (1 <<< 24 : Nat) = U := by rw [hU]; decide
  have d1 : r * T / U = r / 2 := by rw [hT, hU]; omega
  have d2 : r * T % U = r % 2 * T := by rw [hT, hU]; omega
  simp only [e7, e9, d1, d2]
  have : ∀ b : Bool, b.toNat ≤ 1 := fun b => by cases b <;> decide
  rcases Nat.mod_two_eq_zero_or_one r with h2 | h2
  · rw [h2]
    have c1 : ¬ U < 2 * (0 * T) := by omega
    have c2 : ¬ U = 2 * (0 * T) := by omega
    have c3 : (decide (U < 2 * (0 * T)) || (U == 2 * (0 * T) && r / 2 % 2 == 1)) = false := by
      rw [decide_eq_false c1, show (U == 2 * (0 * T)) = false by simpa using c2]
      rfl
    rw [c3]
    show r / 2 + 0 ≤ _
    omega
  · refine Nat.le_trans (Nat.add_le_add_left (this _) _) ?_
    omega
theorem half_big {r : Nat} (h : 16777216 ≤ r) (hF : r < 2139095040) : single.nearest false ((8388608 + r % 8388608) * 8388608) (-149 + ((r / 8388608 - 1 : Nat) : Int) + -24) = r - 8388608 := by
  obtain ⟨M, hM⟩ : ∃ M, M = 8388608 + r % 8388608 := ⟨_, rfl⟩
  obtain ⟨q, hq⟩ : ∃ q, q = r / 8388608 - 1 := ⟨_, rfl⟩
  obtain ⟨T, hT⟩ : ∃ T, T = 8388608 := ⟨_, rfl⟩
  have hr : r - 8388608 = (q - 1) * 8388608 + M := by omega
  have hq1 : 1 ≤ q := by omega
  have hM1 : 8388608 ≤ M := by omega
  have hM2 : M < 16777216 := by omega
  have hi : (q - 1) * 8388608 + M ≤ 2139095040 := by omega
  rw [← hM, ← hq, hr]
  clear hM hq hr h hF
  have hm : M ≠ 0 := by omega
  have e8 : (8388608 : Nat) = 2 ^ 23 := by decide
  have e9 : (16777216 : Nat) = 2 ^ (23 + 1) := by decide
  have hl : M.log2 = 23 := (Nat.log2_eq_iff hm).2 ⟨by rw [← e8]; exact hM1, by rw [← e9]; exact hM2⟩
  have hl2 : (M * T).log2 = 46 := by rw [hT, e8, log_up hm, hl]
  have hne : M * T ≠ 0 := Nat.mul_ne_zero hm (by omega)
  have hg : single.nearest false (M * T) (-149 + (q : Int) + -24) = (q - 1) * 8388608 + M := by
    unfold Format.nearest
    rw [if_neg hne, hl2]
    clear e8 e9
    simp only [single_binade, single_inf, single_least, single_frac]
    have e1 : max (-149 + (q : Int) + -24 + ((46 : Nat) : Int) - ((23 : Nat) : Int)) (-149) = (q : Int) - 150 := by omega
    have e4 : (-149 + (q : Int) + -24 - ((q : Int) - 150)).toNat = 0 := by omega
    have e5 : ((q : Int) - 150 - (-149 + (q : Int) + -24)).toNat = 23 := by omega
    have e6 : ((q : Int) - 150 - -149).toNat = q - 1 := by omega
    rw [e1, e4, e5, e6, Nat.shiftLeft_zero, cut_big hT hl2, word_pos, Nat.min_eq_left hi]
  rw [hT] at hg
  exact hg
theorem half_small {r : Nat} (h : r < 16777216) : single.nearest false (r * 8388608) (-149 + -24) ≤ (r + 1) / 2 := by
  obtain ⟨T, hT⟩ : ∃ T, T = 8388608 := ⟨_, rfl⟩
  by_cases hr0 : r = 0
  · subst hr0
    unfold Format.nearest
    rw [Nat.zero_mul, if_pos rfl, word_pos]
    omega
  · have e8 : (8388608 : Nat) = 2 ^ 23 := by decide
    have e9 : (16777216 : Nat) = 2 ^ 24 := by decide
    have hl2 : (r * T).log2 = r.log2 + 23 := by rw [hT, e8, log_up hr0]
    have hl3 : r.log2 ≤ 23 := by
      have := (Nat.log2_lt hr0 (k := 24)).2 (by rw [← e9]; exact h)
      omega
    have hne : r * T ≠ 0 := Nat.mul_ne_zero hr0 (by omega)
    have hg : single.nearest false (r * T) (-149 + -24) ≤ (r + 1) / 2 := by
      unfold Format.nearest
      rw [if_neg hne, hl2]
      clear e8 e9
      simp only [single_binade, single_inf, single_least, single_frac]
      have e1 : max (-149 + -24 + ((r.log2 + 23 : Nat) : Int) - ((23 : Nat) : Int)) (-149) = -149 := by omega
      have e4 : (-149 + -24 - (-149 : Int)).toNat = 0 := by omega
      have e5 : ((-149 : Int) - (-149 + -24)).toNat = 24 := by omega
      have e6 : ((-149 : Int) - -149).toNat = 0 := by omega
      have hc := cut_small (r := r) hT (by omega)
      rw [e1, e4, e5, e6, Nat.shiftLeft_zero, word_pos]
      omega
    rw [hT] at hg
    exact hg
/-- half of a single that is not negative: by its rung -/
theorem half_rung {x y : Nat} (hy : single.read y = .number false 8388608 (-24)) (hF : Fin x) (h0 : x / 2147483648 % 2 ≠ 1) :
    (16777216 ≤ x % 2147483648 → fmul x y = x % 2147483648 - 8388608) ∧ (x % 2147483648 < 16777216 → fmul x y ≤ (x % 2147483648 + 1) / 2) := by
  have hd : floatBits .mul .f32 x y = single.mul x y := rfl
  unfold fmul
  rw [hd]
  unfold Format.mul
  rw [hy]
  refine ⟨fun h => ?_, fun h => ?_⟩
  · rw [read_big hF h0 h, prod_half]
    exact half_big h hF
  · rw [read_small h0 h, prod_half]
    exact half_small h
theorem nearN_two (e : Nat) : valN (nearN (2 ^ e)) = 2 ^ e := by
  unfold nearN
  rw [Nat.log2_two_pow]
  rcases Nat.lt_or_ge e 24 with h | h
  · rw [show e - 23 = 0 by omega, rne_zero, Nat.zero_mul, Nat.zero_add]
    have h1 : (2 : Nat) ^ e ≤ 2 ^ 23 := Nat.pow_le_pow_right (by omega) (by omega)
    unfold valN
    split
    · rfl
    · have : (2 : Nat) ^ e = 8388608 := by omega
      rw [this]
  · have h1 : rne (2 ^ e) (e - 23) = 8388608 := by
      unfold rne
      have h2 : (2 : Nat) ^ e = 8388608 * 2 ^ (e - 23) := by
        rw [show (8388608 : Nat) = 2 ^ 23 from rfl, ← Nat.pow_add]
        congr 1
        all_goals omega
      have hp := Nat.two_pow_pos (e - 23)
      rw [h2, Nat.mul_div_cancel _ hp, Nat.mul_mod_left, if_neg (by omega)]
    rw [h1]
    unfold valN
    rw [if_neg (by omega), show ((e - 23) * 8388608 + 8388608) % 8388608 = 0 by omega, show ((e - 23) * 8388608 + 8388608) / 8388608 - 1 = e - 23 by omega, Nat.add_zero, show (8388608 : Nat) = 2 ^ 23 from rfl, ← Nat.pow_add]
    congr 1
    all_goals omega
theorem near_twice {X : Nat} (h : X ≠ 0) : valN (nearN X) ≤ 2 * X := by
  have h1 := Nat.log2_self_le h
  have h2 : X < 2 ^ (X.log2 + 1) := Nat.lt_log2_self
  have h3 := valN_le (nearN_mono (Nat.le_of_lt h2))
  rw [nearN_two, Nat.pow_succ] at h3
  omega
/-- half of what is nearest to X units is at most X -/
theorem half_le {X h : Nat} (hX : 1 ≤ X) (h1 : 16777216 ≤ nearN X → h = nearN X - 8388608) (h2 : nearN X < 16777216 → h ≤ (nearN X + 1) / 2) : valN h ≤ X := by
  rcases Nat.lt_or_ge (nearN X) 16777216 with hl | hl
  · have hX2 : X < 16777216 := by
      rcases Nat.lt_or_ge X 16777216 with h3 | h3
      · exact h3
      · have h4 := nearN_mono h3
        have h5 : nearN 16777216 = 16777216 := by decide +kernel
        omega
    have hn : nearN X = X := by
      unfold nearN
      have : X.log2 < 24 := (Nat.log2_lt (by omega)).2 hX2
      rw [show X.log2 - 23 = 0 by omega, rne_zero]
      omega
    have h3 := h2 hl
    rw [hn] at h3
    have h4 : valN h = h := by
      unfold valN
      split
      · rfl
      · rw [show h / 8388608 - 1 = 0 by omega]
        omega
    omega
  · have h3 := h1 hl
    have h4 := near_twice (X := X) (by omega)
    have h5 : valN (nearN X) = 2 * valN h := by
      rw [h3]
      generalize nearN X = r at *
      unfold valN
      rw [if_neg (by omega), if_neg (by omega), show (r - 8388608) % 8388608 = r % 8388608 by omega, show r / 8388608 - 1 = (r - 8388608) / 8388608 - 1 + 1 by omega, Nat.pow_succ]
      rw [← Nat.mul_assoc, Nat.mul_comm]
    omega
theorem key_pos {x : Nat} (h : 0 < keyI x) : x / 2147483648 % 2 ≠ 1 ∧ ((x % 2147483648 : Nat) : Int) = keyI x := by
  unfold keyI at h ⊢
  split at h
  · omega
  · rename_i h1
    exact ⟨h1, by rw [if_neg h1]⟩
/-- half a drop is not negative and at most the difference -/
theorem half_drop {v n : Nat} (hv : Bd 20 v) (hn : Bd 20 n) (h : valI n < valI v) : 0 ≤ valI (fmul (fsub v n) 1056964608) ∧ valI (fmul (fsub v n) 1056964608) ≤ valI v - valI n := by
  obtain ⟨_, hb⟩ := fsub_ok hv hn (by omega)
  have hF := bd_Fin hb (by omega)
  have hk := fsub_key (K := 20) hv hn (by omega)
  obtain ⟨X, hX⟩ : ∃ X : Nat, valI v - valI n = X := ⟨(valI v - valI n).toNat, by omega⟩
  rw [hX] at hk ⊢
  have hX1 : 1 ≤ X := by omega
  have hm := rkey_mono (show (1 : Int) ≤ X by omega)
  have e1 : rkey 1 = 1 := by decide +kernel
  rw [e1, ← hk] at hm
  obtain ⟨s0, hr⟩ := key_pos (x := fsub v n) (by omega)
  obtain ⟨h1, h2⟩ := half_rung half_read hF s0
  have hr2 : fsub v n % 2147483648 = nearN X := by
    unfold rkey at hk
    rw [if_neg (by omega), Int.natAbs_natCast] at hk
    unfold Fin at hF
    have := hr.trans hk
    omega
  rw [hr2] at h1 h2
  have h3 := half_le hX1 h1 h2
  have hlt : fmul (fsub v n) 1056964608 < 2147483648 := by
    unfold Fin at hF
    rcases Nat.lt_or_ge (nearN X) 16777216 with h4 | h4
    · have := h2 h4
      omega
    · have := h1 h4
      omega
  have h4 : valI (fmul (fsub v n) 1056964608) = (valN (fmul (fsub v n) 1056964608) : Int) := by
    unfold valI
    rw [Nat.div_eq_of_lt hlt, Nat.mod_eq_of_lt hlt]
    simp
  rw [h4]
  omega
theorem lesser_le {a b : Nat} (ha : Fin a) (hb : Fin b) : valI (lesserB a b) ≤ valI b ∧ (0 ≤ valI a → 0 ≤ valI b → 0 ≤ valI (lesserB a b)) := by
  unfold lesserB
  rw [lt_val hb ha]
  split
  · exact ⟨Int.le_refl _, fun _ h => h⟩
  · rename_i h
    simp at h
    exact ⟨h, fun h _ => h⟩
theorem lesser_fin {a b : Nat} (ha : Fin a) (hb : Fin b) : Fin (lesserB a b) := by
  unfold lesserB
  split <;> assumption
/-- what is cut away is not negative, and no more than the difference to where a cell drains -/
theorem dep_le {r le mo v n : Nat} {k : Int} (hr : Bd 20 r) (hl : Bd 20 le) (hm : Bd 20 mo) (hl0 : 0 ≤ valI le) (hlm : valI le ≤ valI mo) (hv : Bd 20 v) (hn : Bd 20 n) (hk : k ≤ 1099511627776) (h : valI n < valI v) :
    0 ≤ valI (depF r le mo k (fsub v n)) ∧ valI (depF r le mo k (fsub v n)) ≤ valI v - valI n := by
  obtain ⟨h1, h2⟩ := half_drop hv hn h
  obtain ⟨_, hb⟩ := fsub_ok hv hn (by omega)
  unfold depF
  split
  · rw [val_zero]
    omega
  · rename_i hc
    have hk1 : 1 ≤ k := by omega
    have b1 := (rootI_bd (show 0 ≤ k by omega) hk).2
    have b2 := (fmul_ok hr b1 (by omega)).2
    have b3 := (fmul_ok b2 hb (by omega)).2
    have b4 := (fmul_ok hb half_bd (by omega)).2
    have f3 := bd_Fin b3 (by omega)
    have f4 := bd_Fin b4 (by omega)
    have fl := bd_Fin hl (by omega)
    have fm := bd_Fin hm (by omega)
    split
    · rw [val_zero]
      omega
    · rename_i hlt
      rw [lt_val f3 fl] at hlt
      simp at hlt
      obtain ⟨l1, l2⟩ := lesser_le (lesser_fin f3 fm) f4
      have l3 := (lesser_le f3 fm).2 (by omega) (by omega)
      exact ⟨l2 l3 h1, by omega⟩
/-- ground that is cut by d -/
theorem cut_between {v d : Nat} {L : Nat} (hv : Bd 20 v) (hdB : Bd 21 d) (hL : Bd 20 L) (h0 : 0 ≤ valI d) (h1 : valI d ≤ valI v - valI L) : valI L ≤ valI (fsub v d) ∧ valI (fsub v d) ≤ valI v ∧ Bd 20 (fsub v d) := by
  have hk := fsub_key (K := 21) (hv.mono (by omega)) hdB (by omega)
  have k1 := rkey_mono (show valI L ≤ valI v - valI d by omega)
  have k2 := rkey_mono (show valI v - valI d ≤ valI v by omega)
  rw [← hk, rkey_val (bd_Fin hL (by omega))] at k1
  rw [← hk, rkey_val (bd_Fin hv (by omega))] at k2
  have v1 := val_key_le.2 k1
  have v2 := val_key_le.2 k2
  refine ⟨v1, v2, ?_⟩
  rw [bd_valI (by omega)] at hv hL ⊢
  omega
end Go.Proofs.Ytepgfplbkmhgbaa

namespace Go.Proofs.Ytepgfplbkmhgbaa
open Go.RowKit
attribute [local go_sem ↓] Go.wp_at_zero Go.wp_at_succ
attribute [local go_sem] run_store_float

/-- what the reference holds in memory -/
structure OM (W0 w : World) (hf g1 g2 : Nat) (X Y : Int) (Wn Hn N : Nat) (A : Option Addr) (c : Nat) (known : Nat → Bool) (out : Nat → Nat) : Prop where
  fb : Bk w hf 26 #[.int .i64 X, .int .i64 Y, .int .i64 (Wn : Int), .int .i64 (Hn : Int), .slice A N c]
  ob : Bk w g1 31 (flo N out)
  kb : Bk w g2 4 (bools N known)
  ext : Ext W0 w
  b1 : W0.heap.size ≤ g1
  b2 : W0.heap.size ≤ g2
section
variable {W0 w : World} {hf g1 g2 : Nat} {X Y : Int} {Wn Hn N : Nat} {A : Option Addr} {c : Nat} {known : Nat → Bool} {out : Nat → Nat}
theorem OM.step (h : OM W0 w hf g1 g2 X Y Wn Hn N A c known out) {w' : World} (hx : Ext w w') : OM W0 w' hf g1 g2 X Y Wn Hn N A c known out := ⟨h.fb.ext hx, h.ob.ext hx, h.kb.ext hx, h.ext.trans hx, h.b1, h.b2⟩
theorem OM.put (h : OM W0 w hf g1 g2 X Y Wn Hn N A c known out) (k x : Nat) : OM W0 ((w.setCell ⟨g1, k, none⟩ (.float .f32 x)).setCell ⟨g2, k, none⟩ (.bool true)) hf g1 g2 X Y Wn Hn N A c (updF known k true) (updF out k x) := by
  have e1 := Bk.set h.ob k (.float .f32 x)
  rw [flo_set] at e1
  have f1 : ∀ {g : Nat} {t : TypeId} {cs : Array Value}, Bk w g t cs → g ≠ g1 → Bk (w.setCell ⟨g1, k, none⟩ (.float .f32 x)) g t cs := fun hb hn => hb.far hn _
  have eg := f1 h.kb (Bk.ne h.kb h.ob (by decide))
  have e2 := Bk.set eg k (.bool true)
  rw [bools_set] at e2
  have f2 : ∀ {g : Nat} {t : TypeId} {cs : Array Value}, Bk (w.setCell ⟨g1, k, none⟩ (.float .f32 x)) g t cs → g ≠ g2 → Bk ((w.setCell ⟨g1, k, none⟩ (.float .f32 x)).setCell ⟨g2, k, none⟩ (.bool true)) g t cs := fun hb hn => hb.far hn _
  exact ⟨f2 (f1 h.fb (Bk.ne h.fb h.ob (by decide))) (Bk.ne h.fb h.kb (by decide)), f2 e1 (Bk.ne h.ob h.kb (by decide)), e2, (h.ext.setCell h.b1 _).setCell h.b2 _, h.b1, h.b2⟩
end

end Go.Proofs.Ytepgfplbkmhgbaa

namespace Go.Proofs.Ytepgfplbkmhgbaa
open Go.RowKit
attribute [local go_sem ↓] Go.wp_at_zero Go.wp_at_succ
attribute [local go_sem] run_store_float

end Go.Proofs.Ytepgfplbkmhgbaa

namespace Go.Proofs.Ytepgfplbkmhgbaa
open Go.RowKit
attribute [local go_sem ↓] Go.wp_at_zero Go.wp_at_succ
attribute [local go_sem] run_store_float

theorem Rd.of_blockD {w : World} {g : Nat} {t : TypeId} {cs : Array Value} (h : Bk w g t cs) : Rd w (some ⟨g, 0, none⟩) cs.toList := fun _ => ⟨_, rfl, h.lt, fun j u hu => by
  rw [lit_add, h.cell]
  simpa using hu⟩
theorem least_congr {Wn Hn s : Nat} {h : Nat → Nat} {r r' : Nat → Int} (hL : LeastG Wn Hn h s r) (e : ∀ k, k < Wn * Hn → r k = r' k) : LeastG Wn Hn h s r' := by
  refine ⟨fun k hk => ?_, fun k z hw => ?_⟩
  · rw [← e k hk]
    exact hL.1 k hk
  · have hk : k < Wn * Hn := by
      cases hw with
      | start hk _ => exact hk
      | step _ _ _ _ hk => exact hk
    rw [← e k hk]
    exact hL.2 k z hw
/-- what DrainOf holds in memory -/
structure DO (W0 w : World) (hf gw gi gr : Nat) (X Y : Int) (Wn Hn N : Nat) (A : Option Addr) (c : Nat) (v : Nat → Nat) (I R : Nat → Int) : Prop where
  fb : Bk w hf 26 #[.int .i64 X, .int .i64 Y, .int .i64 (Wn : Int), .int .i64 (Hn : Int), .slice A N c]
  wb : Bk w gw 31 (flo N v)
  ib : Bk w gi 3 (intB N I)
  kb : Bk w gr 3 (intB N R)
  ext : Ext W0 w
  b1 : W0.heap.size ≤ gi
  b2 : W0.heap.size ≤ gr
  ne : gi ≠ gr
section
variable {W0 w : World} {hf gw gi gr : Nat} {X Y : Int} {Wn Hn N : Nat} {A : Option Addr} {c : Nat} {v : Nat → Nat} {I R : Nat → Int}
theorem DO.step (h : DO W0 w hf gw gi gr X Y Wn Hn N A c v I R) {w' : World} (hx : Ext w w') : DO W0 w' hf gw gi gr X Y Wn Hn N A c v I R :=
  ⟨h.fb.ext hx, h.wb.ext hx, h.ib.ext hx, h.kb.ext hx, h.ext.trans hx, h.b1, h.b2, h.ne⟩
theorem DO.putI (h : DO W0 w hf gw gi gr X Y Wn Hn N A c v I R) (k : Nat) (x : Int) : DO W0 (w.setCell ⟨gi, k, none⟩ (.int .i64 x)) hf gw gi gr X Y Wn Hn N A c v (updF I k x) R := by
  have e1 := Bk.set h.ib k (.int .i64 x)
  rw [intB_set] at e1
  exact ⟨h.fb.far (Bk.ne h.fb h.ib (by decide)) _, h.wb.far (Bk.ne h.wb h.ib (by decide)) _, e1, h.kb.far (Ne.symm h.ne) _, h.ext.setCell h.b1 _, h.b1, h.b2, h.ne⟩
theorem DO.putR (h : DO W0 w hf gw gi gr X Y Wn Hn N A c v I R) (k : Nat) (x : Int) : DO W0 (w.setCell ⟨gr, k, none⟩ (.int .i64 x)) hf gw gi gr X Y Wn Hn N A c v I (updF R k x) := by
  have e1 := Bk.set h.kb k (.int .i64 x)
  rw [intB_set] at e1
  exact ⟨h.fb.far (Bk.ne h.fb h.kb (by decide)) _, h.wb.far (Bk.ne h.wb h.kb (by decide)) _, h.ib.far h.ne _, e1, h.ext.setCell h.b2 _, h.b1, h.b2, h.ne⟩
theorem DO.rcell (h : DO W0 w hf gw gi gr X Y Wn Hn N A c v I R) {k : Nat} (hk : k < N) {w' : World} (hx : Ext w w') : w'.cell? ⟨gr, k, none⟩ = some (.int .i64 (R k)) := by rw [(h.kb.ext hx).cell]; exact intB_get _ hk
theorem DO.icell (h : DO W0 w hf gw gi gr X Y Wn Hn N A c v I R) {k : Nat} (hk : k < N) {w' : World} (hx : Ext w w') : w'.cell? ⟨gi, k, none⟩ = some (.int .i64 (I k)) := by rw [(h.ib.ext hx).cell]; exact intB_get _ hk
theorem DO.wcell (h : DO W0 w hf gw gi gr X Y Wn Hn N A c v I R) {k : Nat} (hk : k < N) {w' : World} (hx : Ext w w') : w'.cell? ⟨gw, k, none⟩ = some (.float .f32 (v k)) := by rw [(h.wb.ext hx).cell]; exact flo_get _ hk
end
theorem feq_val {a b : Nat} (ha : Bd 20 a) (hb : Bd 20 b) : (FloatKind.f32.format.order a b == some .eq) = decide (valI a = valI b) := by
  have h := eq_val (bd_Fin ha (by omega)) (bd_Fin hb (by omega))
  rw [ord_def]
  by_cases e : valI a = valI b
  · rw [h.2 e]
    simp [e]
  · have h2 : ord a b ≠ some .eq := fun h3 => e (h.1 h3)
    simp [e, h2]

end Go.Proofs.Ytepgfplbkmhgbaa

namespace Go.Proofs.Ytepgfplbkmhgbaa
open Go.RowKit
attribute [local go_sem ↓] Go.wp_at_zero Go.wp_at_succ
attribute [local go_sem] run_store_float

/-- a block of one cell, as a slice -/
theorem Qs.one (w : World) (base : Nat) (e : TypeId) (v : Value) (hb : base ≤ w.heap.size) : Qs (w.alloc (.cells #[v] e)) base e (some ⟨w.heap.size, 0, none⟩) 1 1 [v] :=
  ⟨rfl, Nat.le_refl _, by unfold maxLen; omega, .inr ⟨_, 0, _, rfl, hb, heap_alloc_new w _, by simp, fun j u hu => by
    cases j with
    | zero => simpa using hu
    | succ j => simp at hu⟩⟩
theorem Qs.ext {w w' : World} {base : Nat} {e : TypeId} {A : Option Addr} {n cap : Nat} {xs : List Value} (h : Qs w base e A n cap xs) (hx : Ext w w') : Qs w' base e A n cap xs := h.kept fun _ _ hl => hx.block _ hl
end Go.Proofs.Ytepgfplbkmhgbaa

namespace Go.Proofs.Ytepgfplbkmhgbaa
open Go.RowKit
attribute [local go_sem ↓] Go.wp_at_zero Go.wp_at_succ
attribute [local go_sem] run_store_float

/-- what the first n cells bring to a cell -/
def gatK (tr : Nat → List Nat) (rain : Nat → Int) (n c : Nat) : Int := sumI (fun k => if c ∈ k :: tr k then rain k else 0) n
/-- and the first i cells of a way -/
def gatI (tr : Nat → List Nat) (rain : Nat → Int) (k i c : Nat) : Int := gatK tr rain k c + if c ∈ (k :: tr k).take i then rain k else 0
theorem gatI_zero {tr : Nat → List Nat} {rain : Nat → Int} {k c : Nat} : gatI tr rain k 0 c = gatK tr rain k c := by
  unfold gatI
  rw [List.take_zero, if_neg (by simp)]
  omega
theorem gatI_end {tr : Nat → List Nat} {rain : Nat → Int} {k c : Nat} : gatI tr rain k (k :: tr k).length c = gatK tr rain (k + 1) c := by
  unfold gatI
  rw [List.take_length]
  rfl
theorem gatI_step {tr : Nat → List Nat} {rain : Nat → Int} {k i : Nat} (hn : (k :: tr k).Nodup) (hi : i < (k :: tr k).length) (c : Nat) : gatI tr rain k (i + 1) c = updF (gatI tr rain k i) (k :: tr k)[i] (gatI tr rain k i (k :: tr k)[i] + rain k) c := by
  have h1 := nd_take hn hi
  by_cases e : c = (k :: tr k)[i]
  · subst e
    rw [updF_same]
    unfold gatI
    rw [if_neg h1, if_pos ((take_more hi _).2 (.inr rfl))]
    omega
  · rw [updF_ne _ _ e]
    unfold gatI
    by_cases h2 : c ∈ (k :: tr k).take i
    · rw [if_pos h2, if_pos ((take_more hi _).2 (.inl h2))]
    · rw [if_neg h2, if_neg (fun h => by rcases (take_more hi _).1 h with h | h <;> contradiction)]
theorem gatI_bd {tr : Nat → List Nat} {rain : Nat → Int} {N k i : Nat} {M : Int} (h0 : 0 ≤ M) (hr : ∀ k, k < N → 0 ≤ rain k ∧ rain k ≤ M) (hk : k < N) (c : Nat) : 0 ≤ gatI tr rain k i c ∧ gatI tr rain k i c ≤ k * M + M := by
  unfold gatI gatK
  obtain ⟨h1, h2⟩ := sumI_bd (f := fun k => if c ∈ k :: tr k then rain k else 0) (M := M) k fun j hj => by
    have := hr j (by omega)
    split <;> omega
  have := hr k hk
  split <;> omega
structure GB (W0 w : World) (hr go : Nat) (X Y : Int) (Wn Hn N : Nat) (O : Nat → Int) : Prop where
  rb : Bk w hr 23 #[.int .i64 X, .int .i64 Y, .int .i64 (Wn : Int), .int .i64 (Hn : Int)]
  ob : CI w go N N O
  ext : Ext W0 w
  b1 : W0.heap.size ≤ go
theorem GB.step {W0 w : World} {hr go : Nat} {X Y : Int} {Wn Hn N : Nat} {O : Nat → Int} (h : GB W0 w hr go X Y Wn Hn N O) {w' : World} (hx : Ext w w') : GB W0 w' hr go X Y Wn Hn N O := ⟨h.rb.ext hx, h.ob.ext hx, h.ext.trans hx, h.b1⟩
theorem GB.put {W0 w : World} {hr go : Nat} {X Y : Int} {Wn Hn N : Nat} {O : Nat → Int} (h : GB W0 w hr go X Y Wn Hn N O) (n : Nat) (x : Int) : GB W0 (w.setCell ⟨go, n, none⟩ (.int .i64 x)) hr go X Y Wn Hn N (updF O n x) :=
  ⟨h.rb.far (h.ob.ne h.rb (by decide)) _, h.ob.put n x, h.ext.setCell (p := ⟨go, n, none⟩) h.b1 _, h.b1⟩
theorem GB.congr {W0 w : World} {hr go : Nat} {X Y : Int} {Wn Hn N : Nat} {O O' : Nat → Int} (h : GB W0 w hr go X Y Wn Hn N O) (e : ∀ k, k < N → O k = O' k) : GB W0 w hr go X Y Wn Hn N O' := ⟨h.rb, h.ob.congr e, h.ext, h.b1⟩
end Go.Proofs.Ytepgfplbkmhgbaa
