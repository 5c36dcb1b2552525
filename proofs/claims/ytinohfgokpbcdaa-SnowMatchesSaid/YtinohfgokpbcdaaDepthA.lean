/- Contracts: carving and how deep water cuts, in the program and in the reference. -/
import Derived.Test.YtinohfgokpbcdaaFillC
import Derived.Test.YtinohfgokpbcdaaRootA
namespace Go.Proofs.Ytinohfgokpbcdaa
open Go.RowKit
attribute [local go_sem ↓] Go.wp_at_zero Go.wp_at_succ

/-- the error of carving -/
def carvE (r le mo : Nat) (st : Int) : Int :=
  if numE [r, le, mo] ≠ 0 then numE [r, le, mo] else if lt r 0 = true ∨ gt r 1065353216 = true ∨ lt le 0 = true then 3 else if lt mo le = true then 8 else if st < 0 ∨ 50 < st then 3 else 0
set_option maxRecDepth 100000 in
set_option maxHeartbeats 3200000 in
theorem checkCarving_any (r le mo : Nat) (st : Int) (w : World) : Calls Try.prog 33 #[.agg #[.float .f32 r, .float .f32 le, .float .f32 mo, .int .i64 st]] w fun e w' => e = .returned (.int .i64 (carvE r le mo st)) ∧ Ext w w' := by
  have HN := fun (B : Option Addr) (w : World) (h : Rd w B (flt [r, le, mo])) => hidA (heights_any B 3 3 [r, le, mo] w rfl h (by omega))
  have b1 : (FloatKind.f32.format.order r 0 == some .lt) = lt r 0 := rfl
  have b2 : (FloatKind.f32.format.order r 1065353216 == some .gt) = gt r 1065353216 := rfl
  have b3 : (FloatKind.f32.format.order le 0 == some .lt) = lt le 0 := rfl
  have b4 : (FloatKind.f32.format.order mo le == some .lt) = lt mo le := rfl
  have hE : carvE r le mo st = if numE [r, le, mo] ≠ 0 then numE [r, le, mo] else if lt r 0 = true ∨ gt r 1065353216 = true ∨ lt le 0 = true then 3 else if lt mo le = true then 8 else if st < 0 ∨ 50 < st then 3 else 0 := rfl
  have HE := hidA hE
  generalize numE [r, le, mo] = f at *
  generalize carvE r le mo st = E at *
  generalize lt r 0 = B1 at *
  generalize gt r 1065353216 = B2 at *
  generalize lt le 0 = B3 at *
  generalize lt mo le = B4 at *
  clear hE
  by_cases hf : f = 0
  · subst hf
    have hc : B1 = true ∨ (B1 = false ∧ B2 = true) ∨ (B1 = false ∧ B2 = false ∧ B3 = true) ∨ (B1 = false ∧ B2 = false ∧ B3 = false ∧ B4 = true) ∨ (B1 = false ∧ B2 = false ∧ B3 = false ∧ B4 = false) := by
      cases B1 <;> cases B2 <;> cases B3 <;> cases B4 <;> simp
    rcases hc with rfl | ⟨rfl, rfl⟩ | ⟨rfl, rfl, rfl⟩ | ⟨rfl, rfl, rfl, rfl⟩ | ⟨rfl, rfl, rfl, rfl⟩
    · have hv : Hid (E = 3) := by show E = _; rw [HE.out]; simp
      go_enter Try.func33, Try.ntmps33
      go_wp2_with (go_at_call 81; refine ((HN _ _ (Rd.new (by first | rfl | simp) (by first | rfl | simp))).out).mono ?_; rintro e w1 ⟨rfl, rfl⟩)
      go_ret
      exact ⟨ret_i hv.out.symm, (by repeat (first | (with_reducible exact Ext.refl _) | (with_reducible assumption) | (with_reducible refine Ext.setCell ?_ (by first | (simp; done) | (simp; omega)) _) | (with_reducible refine Ext.drewN ?_ _) | (with_reducible refine Ext.alloc ?_ _) | (with_reducible refine Ext.drew ?_) | (with_reducible refine Ext.trans ?_ (by assumption))))⟩
    · have hv : Hid (E = 3) := by show E = _; rw [HE.out]; simp
      go_enter Try.func33, Try.ntmps33
      go_wp2_with (go_at_call 81; refine ((HN _ _ (Rd.new (by first | rfl | simp) (by first | rfl | simp))).out).mono ?_; rintro e w1 ⟨rfl, rfl⟩)
      go_ret
      exact ⟨ret_i hv.out.symm, (by repeat (first | (with_reducible exact Ext.refl _) | (with_reducible assumption) | (with_reducible refine Ext.setCell ?_ (by first | (simp; done) | (simp; omega)) _) | (with_reducible refine Ext.drewN ?_ _) | (with_reducible refine Ext.alloc ?_ _) | (with_reducible refine Ext.drew ?_) | (with_reducible refine Ext.trans ?_ (by assumption))))⟩
    · have hv : Hid (E = 3) := by show E = _; rw [HE.out]; simp
      go_enter Try.func33, Try.ntmps33
      go_wp2_with (go_at_call 81; refine ((HN _ _ (Rd.new (by first | rfl | simp) (by first | rfl | simp))).out).mono ?_; rintro e w1 ⟨rfl, rfl⟩)
      go_ret
      exact ⟨ret_i hv.out.symm, (by repeat (first | (with_reducible exact Ext.refl _) | (with_reducible assumption) | (with_reducible refine Ext.setCell ?_ (by first | (simp; done) | (simp; omega)) _) | (with_reducible refine Ext.drewN ?_ _) | (with_reducible refine Ext.alloc ?_ _) | (with_reducible refine Ext.drew ?_) | (with_reducible refine Ext.trans ?_ (by assumption))))⟩
    · have hv : Hid (E = 8) := by show E = _; rw [HE.out]; simp
      go_enter Try.func33, Try.ntmps33
      go_wp2_with (go_at_call 81; refine ((HN _ _ (Rd.new (by first | rfl | simp) (by first | rfl | simp))).out).mono ?_; rintro e w1 ⟨rfl, rfl⟩)
      go_ret
      exact ⟨ret_i hv.out.symm, (by repeat (first | (with_reducible exact Ext.refl _) | (with_reducible assumption) | (with_reducible refine Ext.setCell ?_ (by first | (simp; done) | (simp; omega)) _) | (with_reducible refine Ext.drewN ?_ _) | (with_reducible refine Ext.alloc ?_ _) | (with_reducible refine Ext.drew ?_) | (with_reducible refine Ext.trans ?_ (by assumption))))⟩
    · have hc2 : st < 0 ∨ (¬ st < 0 ∧ 50 < st) ∨ (¬ st < 0 ∧ ¬ 50 < st) := by omega
      rcases hc2 with c1 | ⟨c1, c2⟩ | ⟨c1, c2⟩
      · have hv : Hid (E = 3) := by show E = _; rw [HE.out]; simp [c1]
        go_enter Try.func33, Try.ntmps33
        go_wp2_with (go_at_call 81; refine ((HN _ _ (Rd.new (by first | rfl | simp) (by first | rfl | simp))).out).mono ?_; rintro e w1 ⟨rfl, rfl⟩)
        go_ret
        exact ⟨ret_i hv.out.symm, (by repeat (first | (with_reducible exact Ext.refl _) | (with_reducible assumption) | (with_reducible refine Ext.setCell ?_ (by first | (simp; done) | (simp; omega)) _) | (with_reducible refine Ext.drewN ?_ _) | (with_reducible refine Ext.alloc ?_ _) | (with_reducible refine Ext.drew ?_) | (with_reducible refine Ext.trans ?_ (by assumption))))⟩
      · have hv : Hid (E = 3) := by show E = _; rw [HE.out]; simp [c2]
        go_enter Try.func33, Try.ntmps33
        go_wp2_with (go_at_call 81; refine ((HN _ _ (Rd.new (by first | rfl | simp) (by first | rfl | simp))).out).mono ?_; rintro e w1 ⟨rfl, rfl⟩)
        go_ret
        exact ⟨ret_i hv.out.symm, (by repeat (first | (with_reducible exact Ext.refl _) | (with_reducible assumption) | (with_reducible refine Ext.setCell ?_ (by first | (simp; done) | (simp; omega)) _) | (with_reducible refine Ext.drewN ?_ _) | (with_reducible refine Ext.alloc ?_ _) | (with_reducible refine Ext.drew ?_) | (with_reducible refine Ext.trans ?_ (by assumption))))⟩
      · have hv : Hid (E = 0) := by show E = _; rw [HE.out]; simp; omega
        go_enter Try.func33, Try.ntmps33
        go_wp2_with (go_at_call 81; refine ((HN _ _ (Rd.new (by first | rfl | simp) (by first | rfl | simp))).out).mono ?_; rintro e w1 ⟨rfl, rfl⟩)
        go_ret
        exact ⟨ret_i hv.out.symm, (by repeat (first | (with_reducible exact Ext.refl _) | (with_reducible assumption) | (with_reducible refine Ext.setCell ?_ (by first | (simp; done) | (simp; omega)) _) | (with_reducible refine Ext.drewN ?_ _) | (with_reducible refine Ext.alloc ?_ _) | (with_reducible refine Ext.drew ?_) | (with_reducible refine Ext.trans ?_ (by assumption))))⟩
  · have hf' : (f != 0) = true := by simpa using hf
    have hv : Hid (E = f) := by show E = _; rw [HE.out, if_pos hf]
    clear hf b1 b2 b3 b4
    go_enter Try.func33, Try.ntmps33
    go_wp2_with (go_at_call 81; refine ((HN _ _ (Rd.new (by first | rfl | simp) (by first | rfl | simp))).out).mono ?_; rintro e w1 ⟨rfl, rfl⟩)
    go_ret
    exact ⟨ret_i hv.out.symm, (by repeat (first | (with_reducible exact Ext.refl _) | (with_reducible assumption) | (with_reducible refine Ext.setCell ?_ (by first | (simp; done) | (simp; omega)) _) | (with_reducible refine Ext.drewN ?_ _) | (with_reducible refine Ext.alloc ?_ _) | (with_reducible refine Ext.drew ?_) | (with_reducible refine Ext.trans ?_ (by assumption))))⟩

set_option maxRecDepth 100000 in
set_option maxHeartbeats 3200000 in
theorem carvingError_any (r le mo : Nat) (st : Int) (w : World) : Calls Try.prog 32 #[.agg #[.float .f32 r, .float .f32 le, .float .f32 mo, .int .i64 st]] w fun e w' => e = .returned (.int .i64 (carvE r le mo st)) ∧ Ext w w' := by
  have HN := fun (B : Option Addr) (w : World) (h : Rd w B (flt [r, le, mo])) => hidA (numberError_any B 3 3 [r, le, mo] w rfl h (by omega))
  have b1 : (FloatKind.f32.format.order r 0 == some .lt) = lt r 0 := rfl
  have b2 : (FloatKind.f32.format.order r 1065353216 == some .gt) = gt r 1065353216 := rfl
  have b3 : (FloatKind.f32.format.order le 0 == some .lt) = lt le 0 := rfl
  have b4 : (FloatKind.f32.format.order mo le == some .lt) = lt mo le := rfl
  have hE : carvE r le mo st = if numE [r, le, mo] ≠ 0 then numE [r, le, mo] else if lt r 0 = true ∨ gt r 1065353216 = true ∨ lt le 0 = true then 3 else if lt mo le = true then 8 else if st < 0 ∨ 50 < st then 3 else 0 := rfl
  have HE := hidA hE
  generalize numE [r, le, mo] = f at *
  generalize carvE r le mo st = E at *
  generalize lt r 0 = B1 at *
  generalize gt r 1065353216 = B2 at *
  generalize lt le 0 = B3 at *
  generalize lt mo le = B4 at *
  clear hE
  by_cases hf : f = 0
  · subst hf
    have hc : B1 = true ∨ (B1 = false ∧ B2 = true) ∨ (B1 = false ∧ B2 = false ∧ B3 = true) ∨ (B1 = false ∧ B2 = false ∧ B3 = false ∧ B4 = true) ∨ (B1 = false ∧ B2 = false ∧ B3 = false ∧ B4 = false) := by
      cases B1 <;> cases B2 <;> cases B3 <;> cases B4 <;> simp
    rcases hc with rfl | ⟨rfl, rfl⟩ | ⟨rfl, rfl, rfl⟩ | ⟨rfl, rfl, rfl, rfl⟩ | ⟨rfl, rfl, rfl, rfl⟩
    · have hv : Hid (E = 3) := by show E = _; rw [HE.out]; simp
      go_enter Try.func32, Try.ntmps32
      go_wp2_with (go_at_call 18; refine ((HN _ _ (Rd.new (by first | rfl | simp) (by first | rfl | simp))).out).mono ?_; rintro e w1 ⟨rfl, rfl⟩)
      go_ret
      exact ⟨ret_i hv.out.symm, (by repeat (first | (with_reducible exact Ext.refl _) | (with_reducible assumption) | (with_reducible refine Ext.setCell ?_ (by first | (simp; done) | (simp; omega)) _) | (with_reducible refine Ext.drewN ?_ _) | (with_reducible refine Ext.alloc ?_ _) | (with_reducible refine Ext.drew ?_) | (with_reducible refine Ext.trans ?_ (by assumption))))⟩
    · have hv : Hid (E = 3) := by show E = _; rw [HE.out]; simp
      go_enter Try.func32, Try.ntmps32
      go_wp2_with (go_at_call 18; refine ((HN _ _ (Rd.new (by first | rfl | simp) (by first | rfl | simp))).out).mono ?_; rintro e w1 ⟨rfl, rfl⟩)
      go_ret
      exact ⟨ret_i hv.out.symm, (by repeat (first | (with_reducible exact Ext.refl _) | (with_reducible assumption) | (with_reducible refine Ext.setCell ?_ (by first | (simp; done) | (simp; omega)) _) | (with_reducible refine Ext.drewN ?_ _) | (with_reducible refine Ext.alloc ?_ _) | (with_reducible refine Ext.drew ?_) | (with_reducible refine Ext.trans ?_ (by assumption))))⟩
    · have hv : Hid (E = 3) := by show E = _; rw [HE.out]; simp
      go_enter Try.func32, Try.ntmps32
      go_wp2_with (go_at_call 18; refine ((HN _ _ (Rd.new (by first | rfl | simp) (by first | rfl | simp))).out).mono ?_; rintro e w1 ⟨rfl, rfl⟩)
      go_ret
      exact ⟨ret_i hv.out.symm, (by repeat (first | (with_reducible exact Ext.refl _) | (with_reducible assumption) | (with_reducible refine Ext.setCell ?_ (by first | (simp; done) | (simp; omega)) _) | (with_reducible refine Ext.drewN ?_ _) | (with_reducible refine Ext.alloc ?_ _) | (with_reducible refine Ext.drew ?_) | (with_reducible refine Ext.trans ?_ (by assumption))))⟩
    · have hv : Hid (E = 8) := by show E = _; rw [HE.out]; simp
      go_enter Try.func32, Try.ntmps32
      go_wp2_with (go_at_call 18; refine ((HN _ _ (Rd.new (by first | rfl | simp) (by first | rfl | simp))).out).mono ?_; rintro e w1 ⟨rfl, rfl⟩)
      go_ret
      exact ⟨ret_i hv.out.symm, (by repeat (first | (with_reducible exact Ext.refl _) | (with_reducible assumption) | (with_reducible refine Ext.setCell ?_ (by first | (simp; done) | (simp; omega)) _) | (with_reducible refine Ext.drewN ?_ _) | (with_reducible refine Ext.alloc ?_ _) | (with_reducible refine Ext.drew ?_) | (with_reducible refine Ext.trans ?_ (by assumption))))⟩
    · have hc2 : st < 0 ∨ (¬ st < 0 ∧ 50 < st) ∨ (¬ st < 0 ∧ ¬ 50 < st) := by omega
      rcases hc2 with c1 | ⟨c1, c2⟩ | ⟨c1, c2⟩
      · have hv : Hid (E = 3) := by show E = _; rw [HE.out]; simp [c1]
        go_enter Try.func32, Try.ntmps32
        go_wp2_with (go_at_call 18; refine ((HN _ _ (Rd.new (by first | rfl | simp) (by first | rfl | simp))).out).mono ?_; rintro e w1 ⟨rfl, rfl⟩)
        go_ret
        exact ⟨ret_i hv.out.symm, (by repeat (first | (with_reducible exact Ext.refl _) | (with_reducible assumption) | (with_reducible refine Ext.setCell ?_ (by first | (simp; done) | (simp; omega)) _) | (with_reducible refine Ext.drewN ?_ _) | (with_reducible refine Ext.alloc ?_ _) | (with_reducible refine Ext.drew ?_) | (with_reducible refine Ext.trans ?_ (by assumption))))⟩
      · have hv : Hid (E = 3) := by show E = _; rw [HE.out]; simp [c2]
        go_enter Try.func32, Try.ntmps32
        go_wp2_with (go_at_call 18; refine ((HN _ _ (Rd.new (by first | rfl | simp) (by first | rfl | simp))).out).mono ?_; rintro e w1 ⟨rfl, rfl⟩)
        go_ret
        exact ⟨ret_i hv.out.symm, (by repeat (first | (with_reducible exact Ext.refl _) | (with_reducible assumption) | (with_reducible refine Ext.setCell ?_ (by first | (simp; done) | (simp; omega)) _) | (with_reducible refine Ext.drewN ?_ _) | (with_reducible refine Ext.alloc ?_ _) | (with_reducible refine Ext.drew ?_) | (with_reducible refine Ext.trans ?_ (by assumption))))⟩
      · have hv : Hid (E = 0) := by show E = _; rw [HE.out]; simp; omega
        go_enter Try.func32, Try.ntmps32
        go_wp2_with (go_at_call 18; refine ((HN _ _ (Rd.new (by first | rfl | simp) (by first | rfl | simp))).out).mono ?_; rintro e w1 ⟨rfl, rfl⟩)
        go_ret
        exact ⟨ret_i hv.out.symm, (by repeat (first | (with_reducible exact Ext.refl _) | (with_reducible assumption) | (with_reducible refine Ext.setCell ?_ (by first | (simp; done) | (simp; omega)) _) | (with_reducible refine Ext.drewN ?_ _) | (with_reducible refine Ext.alloc ?_ _) | (with_reducible refine Ext.drew ?_) | (with_reducible refine Ext.trans ?_ (by assumption))))⟩
  · have hf' : (f != 0) = true := by simpa using hf
    have hv : Hid (E = f) := by show E = _; rw [HE.out, if_pos hf]
    clear hf b1 b2 b3 b4
    go_enter Try.func32, Try.ntmps32
    go_wp2_with (go_at_call 18; refine ((HN _ _ (Rd.new (by first | rfl | simp) (by first | rfl | simp))).out).mono ?_; rintro e w1 ⟨rfl, rfl⟩)
    go_ret
    exact ⟨ret_i hv.out.symm, (by repeat (first | (with_reducible exact Ext.refl _) | (with_reducible assumption) | (with_reducible refine Ext.setCell ?_ (by first | (simp; done) | (simp; omega)) _) | (with_reducible refine Ext.drewN ?_ _) | (with_reducible refine Ext.alloc ?_ _) | (with_reducible refine Ext.drew ?_) | (with_reducible refine Ext.trans ?_ (by assumption))))⟩

end Go.Proofs.Ytinohfgokpbcdaa
