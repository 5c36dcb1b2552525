/- Contract: tarnref2.KindError. -/
import Derived.Test.YtgaonoklbihkjaaDoorKindA
import Derived.Test.YtgaonoklbihkjaaDoorBaseB
import Derived.Deep.DeepCutAuto
namespace Go.Proofs.YtgaonoklbihkjaaDoor
open Go.RowKit Go.PlainAid
attribute [local go_sem ↓] Go.wp_at_zero Go.wp_at_succ

section
variable (s : ByteArray) (a0 a1 a2 a3 a4 a5 a6 a7 a8 a9 : Nat) (p q : Int) (w : World)
set_option maxRecDepth 100000 in
set_option maxHeartbeats 3200000 in
theorem kindError_any (hs : s.size ≤ 9223372036854775807) :
    Calls Tryd.prog 61 #[.agg #[.string s, .float .f32 a0, .float .f32 a1, .float .f32 a2, .float .f32 a3, .float .f32 a4, .float .f32 a5, .float .f32 a6, .float .f32 a7, .float .f32 a8, .float .f32 a9, .int .i64 p, .int .i64 q]] w fun e w' => e = .returned (.int .i64 (kindE s a0 a1 a2 a3 a4 a5 a6 a7 a8 a9 p q)) ∧ Ext w w' := by
  have hb := get_bt s
  have HB : Bk (w.alloc (.cells #[.string s, .float .f32 a0, .float .f32 a1, .float .f32 a2, .float .f32 a3, .float .f32 a4, .float .f32 a5, .float .f32 a6, .float .f32 a7, .float .f32 a8, .float .f32 a9, .int .i64 p, .int .i64 q] 41)) w.heap.size 41 #[.string s, .float .f32 a0, .float .f32 a1, .float .f32 a2, .float .f32 a3, .float .f32 a4, .float .f32 a5, .float .f32 a6, .float .f32 a7, .float .f32 a8, .float .f32 a9, .int .i64 p, .int .i64 q] := Bk.new _ _ _
  go_enter Tryd.func61, Tryd.ntmps61
  go_wp2_with fail
  go_loopw [8] (fun i wr => ∃ k : Nat, k ≤ s.size ∧ i = .int .i64 k ∧ AllSmall s k ∧ wr = w.alloc (.cells #[.string s, .float .f32 a0, .float .f32 a1, .float .f32 a2, .float .f32 a3, .float .f32 a4, .float .f32 a5, .float .f32 a6, .float .f32 a7, .float .f32 a8, .float .f32 a9, .int .i64 p, .int .i64 q] 41)) (fun i _ => s.size - (intOf i).toNat)
  case atStart => exact ⟨0, Nat.zero_le _, rfl, AllSmall.zero s, rfl⟩
  case round =>
    obtain ⟨k, hk, rfl, ha, rfl⟩ := hrel
    have Ha := hidA ha
    clear ha
    have d0 := HB.cell 0
    have d1 := HB.cell 1
    have d2 := HB.cell 2
    have d3 := HB.cell 3
    have d4 := HB.cell 4
    have d5 := HB.cell 5
    have d6 := HB.cell 6
    have d7 := HB.cell 7
    have d8 := HB.cell 8
    have d9 := HB.cell 9
    have d10 := HB.cell 10
    have d11 := HB.cell 11
    have d12 := HB.cell 12
    by_cases hlt : k < s.size
    · have k0 : (0 : Int) ≤ k := by omega
      have k1 : (k : Int) < s.size := by omega
      by_cases h1 : bt s k < 97
      · have hno : Hid (¬ nameOk s) := fun h => not_small hlt (by unfold smallB; simp; omega) h.2.2
        go_wp2
        go_ret
        exact ⟨ret_i (by unfold kindE; rw [if_neg hno.out]), (by repeat (first | exact Ext.refl _ | assumption | refine Ext.setCell ?_ (by first | (simp; done) | (simp; omega)) _ | refine Ext.drewN ?_ _ | refine Ext.alloc ?_ _ | refine Ext.drew ?_ | refine Ext.trans ?_ (by assumption)))⟩
      · by_cases h2 : 122 < bt s k
        · have hno : Hid (¬ nameOk s) := fun h => not_small hlt (by unfold smallB; simp; omega) h.2.2
          go_wp2
          go_ret
          exact ⟨ret_i (by unfold kindE; rw [if_neg hno.out]), (by repeat (first | exact Ext.refl _ | assumption | refine Ext.setCell ?_ (by first | (simp; done) | (simp; omega)) _ | refine Ext.drewN ?_ _ | refine Ext.alloc ?_ _ | refine Ext.drew ?_ | refine Ext.trans ?_ (by assumption)))⟩
        · have hst : Hid (AllSmall s (k + 1)) := Ha.out.step (by unfold smallB; simp; omega)
          go_wp2
          go_roundw
          case rel => exact ⟨k + 1, by omega, by go_num, hst.out, by trivial⟩
          case measure => simp [intOf]; omega
    · obtain rfl : k = s.size := by omega
      clear hb
      by_cases h0 : s.size = 0
      · have e0 : s.toList.isEmpty = true := by rw [Lib.toList_data, size_zero h0]; rfl
        have hno : Hid (¬ nameOk s) := fun h => h.1 h0
        go_wp2
        go_ret
        exact ⟨ret_i (by unfold kindE; rw [if_neg hno.out]), (by repeat (first | exact Ext.refl _ | assumption | refine Ext.setCell ?_ (by first | (simp; done) | (simp; omega)) _ | refine Ext.drewN ?_ _ | refine Ext.alloc ?_ _ | refine Ext.drew ?_ | refine Ext.trans ?_ (by assumption)))⟩
      · have e0 : s.toList.isEmpty = false := str_ne (by rintro rfl; exact h0 rfl)
        by_cases h20 : 20 < s.size
        · have hno : Hid (¬ nameOk s) := fun h => by have := h.2.1; omega
          go_wp2
          go_ret
          exact ⟨ret_i (by unfold kindE; rw [if_neg hno.out]), (by repeat (first | exact Ext.refl _ | assumption | refine Ext.setCell ?_ (by first | (simp; done) | (simp; omega)) _ | refine Ext.drewN ?_ _ | refine Ext.alloc ?_ _ | refine Ext.drew ?_ | refine Ext.trans ?_ (by assumption)))⟩
        · have hok : Hid (kindE s a0 a1 a2 a3 a4 a5 a6 a7 a8 a9 p q = numsE a0 a1 a2 a3 a4 a5 a6 a7 a8 a9 p q) := if_pos ⟨h0, by omega, Ha.out⟩
          go_wp2_with fail
          refine (numberError_any _ 10 10 [a0, a1, a2, a3, a4, a5, a6, a7, a8, a9] _ rfl (Rd.new (by first | rfl | simp) rfl) (by omega)).mono ?_
          rintro e w' ⟨rfl, rfl⟩
          by_cases hz : numE [a0, a1, a2, a3, a4, a5, a6, a7, a8, a9] = 0
          · have b0 : (numE [a0, a1, a2, a3, a4, a5, a6, a7, a8, a9] != 0) = false := by simpa using hz
            have HN : Hid (numsE a0 a1 a2 a3 a4 a5 a6 a7 a8 a9 p q = _) := if_neg (by simpa using hz)
            clear hz
            go_wp2
            all_goals go_ret
            all_goals refine ⟨ret_i ?_, (by repeat (first | exact Ext.refl _ | assumption | refine Ext.setCell ?_ (by first | (simp; done) | (simp; omega)) _ | refine Ext.drewN ?_ _ | refine Ext.alloc ?_ _ | refine Ext.drew ?_ | refine Ext.trans ?_ (by assumption)))⟩
            all_goals (rw [hok.out, HN.out]; clear HN hok)
            all_goals (simp_all [lt, gt] <;> omega)
          · have b0 : (numE [a0, a1, a2, a3, a4, a5, a6, a7, a8, a9] != 0) = true := by simpa using hz
            have HN : Hid (numsE a0 a1 a2 a3 a4 a5 a6 a7 a8 a9 p q = numE [a0, a1, a2, a3, a4, a5, a6, a7, a8, a9]) := if_pos hz
            clear hz
            go_wp2
            go_ret
            exact ⟨ret_i (hok.out.trans HN.out).symm, (by repeat (first | exact Ext.refl _ | assumption | refine Ext.setCell ?_ (by first | (simp; done) | (simp; omega)) _ | refine Ext.drewN ?_ _ | refine Ext.alloc ?_ _ | refine Ext.drew ?_ | refine Ext.trans ?_ (by assumption)))⟩
end
end Go.Proofs.YtgaonoklbihkjaaDoor
