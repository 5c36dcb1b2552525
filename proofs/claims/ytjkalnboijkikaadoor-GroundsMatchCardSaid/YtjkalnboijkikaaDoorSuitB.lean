/- Contracts: plant.CheckKind and plant.Suit; grows() is true; equal bits. -/
import Derived.Test.YtjkalnboijkikaaDoorSuitA
import Derived.Test.YtjkalnboijkikaaDoorKindB
import Derived.Test.YtjkalnboijkikaaDoorKindC
namespace Go.Proofs.YtjkalnboijkikaaDoor
open Go.RowKit
attribute [local go_sem ↓] Go.wp_at_zero Go.wp_at_succ

theorem checkKind_any (s : ByteArray) (a0 a1 a2 a3 a4 a5 a6 a7 a8 a9 : Nat) (p q : Int) (w : World) (hs : s.size ≤ 9223372036854775807) :
    Calls Tryd.prog 9 #[.agg #[.string s, .float .f32 a0, .float .f32 a1, .float .f32 a2, .float .f32 a3, .float .f32 a4, .float .f32 a5, .float .f32 a6, .float .f32 a7, .float .f32 a8, .float .f32 a9, .int .i64 p, .int .i64 q]] w fun e w' => e = .returned (.int .i64 (kindE s a0 a1 a2 a3 a4 a5 a6 a7 a8 a9 p q)) ∧ Ext w w' := by
  unfold kindE
  by_cases h : nameOk s
  · rw [if_pos h]
    exact check_nums s a0 a1 a2 a3 a4 a5 a6 a7 a8 a9 p q w hs h
  · rw [if_neg h]
    exact check_name s a0 a1 a2 a3 a4 a5 a6 a7 a8 a9 p q w hs h
theorem kindE_zero {s : ByteArray} {a0 a1 a2 a3 a4 a5 a6 a7 a8 a9 : Nat} {p q : Int} (h : kindE s a0 a1 a2 a3 a4 a5 a6 a7 a8 a9 p q = 0) : Bd 20 a0 ∧ Bd 20 a1 ∧ Bd 20 a2 ∧ Bd 20 a3 ∧ Bd 20 a4 ∧ Bd 20 a5 := by
  unfold kindE numsE at h
  split at h
  · split at h
    · contradiction
    · have h2 := (numE_zero (by omega : numE [a0, a1, a2, a3, a4, a5, a6, a7, a8, a9] = 0)).2
      exact ⟨hgt_bd (h2 _ (by simp)), hgt_bd (h2 _ (by simp)), hgt_bd (h2 _ (by simp)), hgt_bd (h2 _ (by simp)), hgt_bd (h2 _ (by simp)), hgt_bd (h2 _ (by simp))⟩
  · omega

/-- the error of a kind and a ground -/
def groundE (g0 g1 g2 : Nat) : Int := if numE [g0, g1, g2] ≠ 0 then numE [g0, g1, g2] else if (lt g1 0 || lt g2 0) = true then 3 else 0
def suitE (s : ByteArray) (a0 a1 a2 a3 a4 a5 a6 a7 a8 a9 : Nat) (p q : Int) (g0 g1 g2 : Nat) : Int := if kindE s a0 a1 a2 a3 a4 a5 a6 a7 a8 a9 p q ≠ 0 then kindE s a0 a1 a2 a3 a4 a5 a6 a7 a8 a9 p q else groundE g0 g1 g2
section
variable (s : ByteArray) (a0 a1 a2 a3 a4 a5 a6 a7 a8 a9 g0 g1 g2 : Nat) (p q : Int) (w : World)
set_option maxRecDepth 100000 in
set_option maxHeartbeats 3200000 in
theorem Suit_bad (hs : s.size ≤ 9223372036854775807) (h : suitE s a0 a1 a2 a3 a4 a5 a6 a7 a8 a9 p q g0 g1 g2 ≠ 0) :
    Calls Tryd.prog 17 #[.agg #[.string s, .float .f32 a0, .float .f32 a1, .float .f32 a2, .float .f32 a3, .float .f32 a4, .float .f32 a5, .float .f32 a6, .float .f32 a7, .float .f32 a8, .float .f32 a9, .int .i64 p, .int .i64 q], .agg #[.float .f32 g0, .float .f32 g1, .float .f32 g2]] w fun e w' => e = .returned (.tuple #[.float .f32 0, .int .i64 (suitE s a0 a1 a2 a3 a4 a5 a6 a7 a8 a9 p q g0 g1 g2)]) ∧ Ext w w' := by
  go_enter Tryd.func17, Tryd.ntmps17
  go_wp2_with fail
  refine (checkKind_any s a0 a1 a2 a3 a4 a5 a6 a7 a8 a9 p q _ hs).mono ?_
  rintro e w1 ⟨rfl, hb1⟩
  have hG : Bk w1 (w.heap.size + 1) 32 #[.float .f32 g0, .float .f32 g1, .float .f32 g2] := (Bk.new' (by simp)).ext hb1
  have hlG := hG.lt
  have d0 := hG.cell 0
  have d1 := hG.cell 1
  have d2 := hG.cell 2
  by_cases hk : kindE s a0 a1 a2 a3 a4 a5 a6 a7 a8 a9 p q = 0
  · have HK : Hid (suitE s a0 a1 a2 a3 a4 a5 a6 a7 a8 a9 p q g0 g1 g2 = groundE g0 g1 g2) := if_neg (by simpa using hk)
    have b0 : (kindE s a0 a1 a2 a3 a4 a5 a6 a7 a8 a9 p q != 0) = false := by simpa using hk
    clear hk
    go_wp2_with fail
    refine (heights_any _ 3 3 [g0, g1, g2] _ rfl (Rd.new (by first | rfl | simp) rfl) (by omega)).mono ?_
    rintro e w' ⟨rfl, rfl⟩
    by_cases h1 : numE [g0, g1, g2] = 0
    · have b1 : (numE [g0, g1, g2] != 0) = false := by simpa using h1
      have h2 : (lt g1 0 || lt g2 0) = true := by
        by_cases h2 : (lt g1 0 || lt g2 0) = true
        · exact h2
        · exfalso
          apply h
          rw [HK.out]
          unfold groundE
          rw [if_neg (by simpa using h1), if_neg h2]
      have HN : Hid (suitE s a0 a1 a2 a3 a4 a5 a6 a7 a8 a9 p q g0 g1 g2 = 3) := by show _ = _; rw [HK.out]; unfold groundE; rw [if_neg (by simpa using h1), if_pos h2]
      have C1 : ((FloatKind.f32.format.order g1 0 == some .lt) || (FloatKind.f32.format.order g2 0 == some .lt)) = true := h2
      clear h h1 h2 HK
      by_cases h4 : lt g1 0 = true
      · have C2 : (FloatKind.f32.format.order g1 0 == some .lt) = true := h4
        clear h4
        go_wp2
        go_ret2
        exact ⟨by rw [HN.out]; rfl, (by repeat (first | exact Ext.refl _ | assumption | refine Ext.setCell ?_ (by first | (simp; done) | (simp; omega)) _ | refine Ext.drewN ?_ _ | refine Ext.alloc ?_ _ | refine Ext.drew ?_ | refine Ext.trans ?_ (by assumption)))⟩
      · have C2 : (FloatKind.f32.format.order g1 0 == some .lt) = false := (Bool.not_eq_true _).mp h4
        have C3 : (FloatKind.f32.format.order g2 0 == some .lt) = true := by rw [C2] at C1; simpa using C1
        clear h4 C1
        go_wp2
        go_ret2
        exact ⟨by rw [HN.out]; rfl, (by repeat (first | exact Ext.refl _ | assumption | refine Ext.setCell ?_ (by first | (simp; done) | (simp; omega)) _ | refine Ext.drewN ?_ _ | refine Ext.alloc ?_ _ | refine Ext.drew ?_ | refine Ext.trans ?_ (by assumption)))⟩
    · have HN : Hid (suitE s a0 a1 a2 a3 a4 a5 a6 a7 a8 a9 p q g0 g1 g2 = numE [g0, g1, g2]) := by show _ = _; rw [HK.out]; exact if_pos h1
      have b1 : (numE [g0, g1, g2] != 0) = true := by simpa using h1
      clear h h1 HK
      go_wp2
      go_ret2
      exact ⟨by rw [HN.out]; rfl, (by repeat (first | exact Ext.refl _ | assumption | refine Ext.setCell ?_ (by first | (simp; done) | (simp; omega)) _ | refine Ext.drewN ?_ _ | refine Ext.alloc ?_ _ | refine Ext.drew ?_ | refine Ext.trans ?_ (by assumption)))⟩
  · have HN : Hid (suitE s a0 a1 a2 a3 a4 a5 a6 a7 a8 a9 p q g0 g1 g2 = kindE s a0 a1 a2 a3 a4 a5 a6 a7 a8 a9 p q) := if_pos hk
    have b0 : (kindE s a0 a1 a2 a3 a4 a5 a6 a7 a8 a9 p q != 0) = true := by simpa using hk
    clear h hk
    go_wp2
    go_ret2
    exact ⟨by rw [HN.out]; rfl, (by repeat (first | exact Ext.refl _ | assumption | refine Ext.setCell ?_ (by first | (simp; done) | (simp; omega)) _ | refine Ext.drewN ?_ _ | refine Ext.alloc ?_ _ | refine Ext.drew ?_ | refine Ext.trans ?_ (by assumption)))⟩
theorem suitE_zero (h : suitE s a0 a1 a2 a3 a4 a5 a6 a7 a8 a9 p q g0 g1 g2 = 0) : kindE s a0 a1 a2 a3 a4 a5 a6 a7 a8 a9 p q = 0 ∧ numE [g0, g1, g2] = 0 ∧ lt g1 0 = false ∧ lt g2 0 = false := by
  unfold suitE groundE at h
  split at h
  · contradiction
  · rename_i h1
    split at h
    · contradiction
    · rename_i h2
      split at h
      · omega
      · rename_i h3
        simp at h3
        exact ⟨by omega, by omega, by simpa using h3.1, by simpa using h3.2⟩
set_option maxRecDepth 100000 in
set_option maxHeartbeats 3200000 in
theorem Suit_ok (hs : s.size ≤ 9223372036854775807) (h : suitE s a0 a1 a2 a3 a4 a5 a6 a7 a8 a9 p q g0 g1 g2 = 0) :
    Calls Tryd.prog 17 #[.agg #[.string s, .float .f32 a0, .float .f32 a1, .float .f32 a2, .float .f32 a3, .float .f32 a4, .float .f32 a5, .float .f32 a6, .float .f32 a7, .float .f32 a8, .float .f32 a9, .int .i64 p, .int .i64 q], .agg #[.float .f32 g0, .float .f32 g1, .float .f32 g2]] w fun e w' => e = .returned (.tuple #[.float .f32 (suitF a0 a1 a2 a3 a4 a5 g0 g1 g2), .int .i64 0]) ∧ Ext w w' := by
  obtain ⟨hk, hn, hl1, hl2⟩ := suitE_zero s a0 a1 a2 a3 a4 a5 a6 a7 a8 a9 g0 g1 g2 p q h
  obtain ⟨k0, k1, k2, k3, k4, k5⟩ := kindE_zero hk
  have hg := (numE_zero hn).2
  have hg1 : ord g1 0 ≠ some .lt := fun h' => by rw [lt_ord.2 h'] at hl1; cases hl1
  have HS := fun (w : World) => hidA (suit_any s a0 a1 a2 a3 a4 a5 a6 a7 a8 a9 g0 g1 g2 p q w (hgt_bd (hg g0 (by simp))) ((hgt_bd (hg g1 (by simp))).mono (by omega)) (hgt_bd (hg g2 (by simp))) hg1 k0 k1 k2 k3 k4 k5)
  have HK := hidA hk
  have HN := hidA hn
  have C1 : (FloatKind.f32.format.order g1 0 == some .lt) = false := hl1
  have C2 : (FloatKind.f32.format.order g2 0 == some .lt) = false := hl2
  clear h hk hn hl1 hl2 k0 k1 k2 k3 k4 k5 hg hg1
  go_enter Tryd.func17, Tryd.ntmps17
  go_wp2_with fail
  refine (checkKind_any s a0 a1 a2 a3 a4 a5 a6 a7 a8 a9 p q _ hs).mono ?_
  rw [HK.out]
  rintro e w1 ⟨rfl, hb1⟩
  have hK : Bk w1 w.heap.size 28 #[.string s, .float .f32 a0, .float .f32 a1, .float .f32 a2, .float .f32 a3, .float .f32 a4, .float .f32 a5, .float .f32 a6, .float .f32 a7, .float .f32 a8, .float .f32 a9, .int .i64 p, .int .i64 q] := ((Bk.new' rfl).alloc _).ext hb1
  have hG : Bk w1 (w.heap.size + 1) 32 #[.float .f32 g0, .float .f32 g1, .float .f32 g2] := (Bk.new' (by simp)).ext hb1
  have hlG := hG.lt
  have hlK := hK.lt
  have d0 := hK.cell 0
  have d1 := hK.cell 1
  have d2 := hK.cell 2
  have d3 := hK.cell 3
  have d4 := hK.cell 4
  have d5 := hK.cell 5
  have d6 := hK.cell 6
  have d7 := hK.cell 7
  have d8 := hK.cell 8
  have d9 := hK.cell 9
  have d10 := hK.cell 10
  have d11 := hK.cell 11
  have d12 := hK.cell 12
  have e0 := hG.cell 0
  have e1 := hG.cell 1
  have e2 := hG.cell 2
  go_wp2_with fail
  refine (heights_any _ 3 3 [g0, g1, g2] _ rfl (Rd.new (by first | rfl | simp) rfl) (by omega)).mono ?_
  rw [HN.out]
  rintro e w' ⟨rfl, rfl⟩
  go_wp2_with fail
  refine ((HS _).out).mono ?_
  rintro e w2 ⟨rfl, hb2⟩
  go_wp2
  go_ret2
  exact ⟨rfl, (by repeat (first | exact Ext.refl _ | assumption | refine Ext.setCell ?_ (by first | (simp; done) | (simp; omega)) _ | refine Ext.drewN ?_ _ | refine Ext.alloc ?_ _ | refine Ext.drew ?_ | refine Ext.trans ?_ (by assumption)))⟩
end

theorem grow_E : slackE 1094713344 0 1092616192 1082130432 = 0 := by decide +kernel
theorem grow_F : slackF 1094713344 0 1092616192 1082130432 = 1056964608 := by decide +kernel
theorem grows_any (w : World) : Calls Tryd.prog 6 #[] w fun e w' => e = .returned (.bool true) ∧ Ext w w' := by
  have c0 : (FloatKind.f32.format.order 1056964608 1056964608 == some .eq) = true := by decide +kernel
  have h := grow_F
  have HF := hidA h
  clear h
  go_enter Tryd.func6, Tryd.ntmps6
  go_wp2_with fail
  refine (Slack_ok _ _ _ _ _ grow_E).mono ?_
  rw [HF.out]
  rintro e w1 ⟨rfl, hb1⟩
  go_wp2
  go_ret
  exact ⟨rfl, (by repeat (first | exact Ext.refl _ | assumption | refine Ext.setCell ?_ (by first | (simp; done) | (simp; omega)) _ | refine Ext.drewN ?_ _ | refine Ext.alloc ?_ _ | refine Ext.drew ?_ | refine Ext.trans ?_ (by assumption)))⟩

theorem f32bits (a : Nat) (w : World) : (callFunc 31 #[.float .f32 a]).run Tryd.prog w = .ok (.value (.int .u32 a)) w := by kernel_rfl
theorem bit_same (a : Nat) (w : World) : Calls Tryd.prog 15 #[.float .f32 a, .float .f32 a] w fun e w' => e = .returned (.bool true) ∧ w' = w := by
  have hf := f32bits a
  go_enter Tryd.func15, Tryd.ntmps15
  go_wp2
  go_ret
  exact ⟨ret_b (by simp), rfl⟩
end Go.Proofs.YtjkalnboijkikaaDoor
