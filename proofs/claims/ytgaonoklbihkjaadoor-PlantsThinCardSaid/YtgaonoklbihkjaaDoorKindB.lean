/- Contract: plant.CheckKind. -/
import Derived.Test.YtgaonoklbihkjaaDoorKindA
import Derived.Test.YtgaonoklbihkjaaDoorBaseB
import Derived.Test.YtgaonoklbihkjaaDoorLaid
namespace Go.Proofs.YtgaonoklbihkjaaDoor
open Go.RowKit Go.PlainAid
attribute [local go_sem ↓] Go.wp_at_zero Go.wp_at_succ

theorem trim_any (s : ByteArray) (w : World) (hs : s.size ≤ 9223372036854775807) :
    Calls Tryd.prog 88 #[.string s, .string ⟨#[97, 98, 99, 100, 101, 102, 103, 104, 105, 106, 107, 108, 109, 110, 111, 112, 113, 114, 115, 116, 117, 118, 119, 120, 121, 122]⟩] w fun e w' => e = .returned (.string ⟨(Lib.trimS s.data.toList letters).toArray⟩) ∧ Ext w w' :=
  Any.strings_Trim_laid Tryd.lays160 (by kernel_rfl) s ⟨#[97, 98, 99, 100, 101, 102, 103, 104, 105, 106, 107, 108, 109, 110, 111, 112, 113, 114, 115, 116, 117, 118, 119, 120, 121, 122]⟩ w hs (by decide) (ascii_of_all (by decide))
theorem trim_ok (s : ByteArray) (w : World) (hs : s.size ≤ 9223372036854775807) (h : AllSmall s s.size) :
    Calls Tryd.prog 88 #[.string s, .string ⟨#[97, 98, 99, 100, 101, 102, 103, 104, 105, 106, 107, 108, 109, 110, 111, 112, 113, 114, 115, 116, 117, 118, 119, 120, 121, 122]⟩] w fun e w' => e = .returned (.string ⟨#[]⟩) ∧ Ext w w' := by
  have h1 := trim_any s w hs
  rw [(trim_nil _ _).2 ((all_small s).1 h)] at h1
  exact h1
theorem trim_no (s : ByteArray) (w : World) (hs : s.size ≤ 9223372036854775807) (h : ¬ AllSmall s s.size) :
    Calls Tryd.prog 88 #[.string s, .string ⟨#[97, 98, 99, 100, 101, 102, 103, 104, 105, 106, 107, 108, 109, 110, 111, 112, 113, 114, 115, 116, 117, 118, 119, 120, 121, 122]⟩] w fun e w' => ∃ r : ByteArray, r ≠ ⟨#[]⟩ ∧ e = .returned (.string r) ∧ Ext w w' := by
  refine (trim_any s w hs).mono ?_
  rintro e w' ⟨rfl, hx⟩
  refine ⟨_, ?_, rfl, hx⟩
  intro h1
  apply h
  rw [all_small, ← trim_nil]
  have h2 : (Lib.trimS s.data.toList letters).toArray = #[] := by injection h1
  simpa using h2

section
variable (s : ByteArray) (a0 a1 a2 a3 a4 a5 a6 a7 a8 a9 : Nat) (p q : Int) (w : World)
set_option maxRecDepth 100000 in
set_option maxHeartbeats 1600000 in
theorem check_name (hs : s.size ≤ 9223372036854775807) (h : ¬ nameOk s) :
    Calls Tryd.prog 74 #[.agg #[.string s, .float .f32 a0, .float .f32 a1, .float .f32 a2, .float .f32 a3, .float .f32 a4, .float .f32 a5, .float .f32 a6, .float .f32 a7, .float .f32 a8, .float .f32 a9, .int .i64 p, .int .i64 q]] w fun e w' => e = .returned (.int .i64 6) ∧ Ext w w' := by
  by_cases h0 : s.size = 0
  · obtain rfl := size_zero h0
    go_enter Tryd.func74, Tryd.ntmps74
    go_wp2
    go_ret
    exact ⟨rfl, (by repeat (first | exact Ext.refl _ | assumption | refine Ext.setCell ?_ (by first | (simp; done) | (simp; omega)) _ | refine Ext.drewN ?_ _ | refine Ext.alloc ?_ _ | refine Ext.drew ?_ | refine Ext.trans ?_ (by assumption)))⟩
  · have e0 : s.toList.isEmpty = false := str_ne (by rintro rfl; exact h0 rfl)
    by_cases h1 : 20 < s.size
    · go_enter Tryd.func74, Tryd.ntmps74
      go_wp2
      go_ret
      exact ⟨rfl, (by repeat (first | exact Ext.refl _ | assumption | refine Ext.setCell ?_ (by first | (simp; done) | (simp; omega)) _ | refine Ext.drewN ?_ _ | refine Ext.alloc ?_ _ | refine Ext.drew ?_ | refine Ext.trans ?_ (by assumption)))⟩
    · have h2 : ¬ AllSmall s s.size := fun h' => h ⟨h0, by omega, h'⟩
      go_enter Tryd.func74, Tryd.ntmps74
      go_wp2_with fail
      refine (trim_no s _ hs h2).mono ?_
      rintro e w1 ⟨r, hr, rfl, hb1⟩
      have e1 : r.toList.isEmpty = false := str_ne hr
      go_wp2
      go_ret
      exact ⟨rfl, (by repeat (first | exact Ext.refl _ | assumption | refine Ext.setCell ?_ (by first | (simp; done) | (simp; omega)) _ | refine Ext.drewN ?_ _ | refine Ext.alloc ?_ _ | refine Ext.drew ?_ | refine Ext.trans ?_ (by assumption)))⟩
set_option maxRecDepth 100000 in
set_option maxHeartbeats 3200000 in
theorem check_nums (hs : s.size ≤ 9223372036854775807) (h : nameOk s) :
    Calls Tryd.prog 74 #[.agg #[.string s, .float .f32 a0, .float .f32 a1, .float .f32 a2, .float .f32 a3, .float .f32 a4, .float .f32 a5, .float .f32 a6, .float .f32 a7, .float .f32 a8, .float .f32 a9, .int .i64 p, .int .i64 q]] w fun e w' => e = .returned (.int .i64 (numsE a0 a1 a2 a3 a4 a5 a6 a7 a8 a9 p q)) ∧ Ext w w' := by
  obtain ⟨n1, n2, n3⟩ := h
  have e0 : s.toList.isEmpty = false := str_ne (by rintro rfl; exact n1 rfl)
  have eE : (⟨#[]⟩ : ByteArray).toList.isEmpty = true := by rw [Lib.toList_data]; rfl
  have N3 := hidA n3
  clear n1 n3
  go_enter Tryd.func74, Tryd.ntmps74
  go_wp2_with fail
  refine (trim_ok s _ hs N3.out).mono ?_
  rintro e w1 ⟨rfl, hb1⟩
  have hB : Bk w1 w.heap.size 41 #[.string s, .float .f32 a0, .float .f32 a1, .float .f32 a2, .float .f32 a3, .float .f32 a4, .float .f32 a5, .float .f32 a6, .float .f32 a7, .float .f32 a8, .float .f32 a9, .int .i64 p, .int .i64 q] := (Bk.new _ _ _).ext hb1
  have hlB := hB.lt
  have d0 := hB.cell 0
  have d1 := hB.cell 1
  have d2 := hB.cell 2
  have d3 := hB.cell 3
  have d4 := hB.cell 4
  have d5 := hB.cell 5
  have d6 := hB.cell 6
  have d7 := hB.cell 7
  have d8 := hB.cell 8
  have d9 := hB.cell 9
  have d10 := hB.cell 10
  have d11 := hB.cell 11
  have d12 := hB.cell 12
  go_wp2_with fail
  refine (heights_any _ 10 10 [a0, a1, a2, a3, a4, a5, a6, a7, a8, a9] _ rfl (Rd.new (by first | rfl | simp) rfl) (by omega)).mono ?_
  rintro e w' ⟨rfl, rfl⟩
  by_cases hz : numE [a0, a1, a2, a3, a4, a5, a6, a7, a8, a9] = 0
  · have b0 : (numE [a0, a1, a2, a3, a4, a5, a6, a7, a8, a9] != 0) = false := by simpa using hz
    have HN : Hid (numsE a0 a1 a2 a3 a4 a5 a6 a7 a8 a9 p q = _) := if_neg (by simpa using hz)
    clear hz
    go_wp2
    all_goals go_ret
    all_goals refine ⟨ret_i ?_, (by repeat (first | exact Ext.refl _ | assumption | refine Ext.setCell ?_ (by first | (simp; done) | (simp; omega)) _ | refine Ext.drewN ?_ _ | refine Ext.alloc ?_ _ | refine Ext.drew ?_ | refine Ext.trans ?_ (by assumption)))⟩
    all_goals (rw [HN.out]; clear HN)
    all_goals (simp_all [lt, gt] <;> omega)
  · have b0 : (numE [a0, a1, a2, a3, a4, a5, a6, a7, a8, a9] != 0) = true := by simpa using hz
    have HN : Hid (numsE a0 a1 a2 a3 a4 a5 a6 a7 a8 a9 p q = numE [a0, a1, a2, a3, a4, a5, a6, a7, a8, a9]) := if_pos hz
    clear hz
    go_wp2
    go_ret
    exact ⟨ret_i HN.out.symm, (by repeat (first | exact Ext.refl _ | assumption | refine Ext.setCell ?_ (by first | (simp; done) | (simp; omega)) _ | refine Ext.drewN ?_ _ | refine Ext.alloc ?_ _ | refine Ext.drew ?_ | refine Ext.trans ?_ (by assumption)))⟩
end
end Go.Proofs.YtgaonoklbihkjaaDoor
