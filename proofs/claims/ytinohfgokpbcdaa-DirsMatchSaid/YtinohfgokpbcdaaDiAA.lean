/- Pure: cells in an order in which each comes ahead of the one to which it leads. -/
import Derived.Test.YtinohfgokpbcdaaFillC
import Derived.Test.YtinohfgokpbcdaaRootA
import Derived.Laws.Closers25b
import Derived.Test.YtinohfgokpbcdaaWetA
import Derived.Test.YtinohfgokpbcdaaSteepC
import Derived.Test.YtinohfgokpbcdaaFillS
namespace Go.Proofs.Ytinohfgokpbcdaa
open Go.RowKit
attribute [local go_sem ↓] Go.wp_at_zero Go.wp_at_succ

/-- the error of carving -/
def carvE (r le mo : Nat) (st : Int) : Int :=
  if numE [r, le, mo] ≠ 0 then numE [r, le, mo] else if lt r 0 = true ∨ gt r 1065353216 = true ∨ lt le 0 = true then 3 else if lt mo le = true then 8 else if st < 0 ∨ 50 < st then 3 else 0
set_option maxRecDepth 100000 in
set_option maxHeartbeats 3200000 in
theorem checkCarving_any (r le mo : Nat) (st : Int) (w : World) : Calls Try.prog 33 #[.agg #[.float .f32 r, .float .f32 le, .float .f32 mo, .int .i64 st]] w fun e w' => e = .returned (.int .i64 (carvE r le mo st)) ∧ Ext w w' := by
  have HN := fun (B : Option Addr) (w : World) (h : Rd w B (flt [r, le, mo])) => hidA (heights_any B 3 3 [r, le, mo] w rfl h (by omega))
  have b1 : (FloatKind.f32.format.order r 0 == some .lt) = lt r 0 := rfl
  have b2 : (FloatKind.f32.format.order r 1065353216 == some .gt) = gt r 1065353216 := rfl
  have b3 : (FloatKind.f32.format.order le 0 == some .lt) = lt le 0 := rfl
  have b4 : (FloatKind.f32.format.order mo le == some .lt) = lt mo le := rfl
  have hE : carvE r le mo st = if numE [r, le, mo] ≠ 0 then numE [r, le, mo] else if lt r 0 = true ∨ gt r 1065353216 = true ∨ lt le 0 = true then 3 else if lt mo le = true then 8 else if st < 0 ∨ 50 < st then 3 else 0 := rfl
  have HE := hidA hE
  generalize numE [r, le, mo] = f at *
  generalize carvE r le mo st = E at *
  generalize lt r 0 = B1 at *
  generalize gt r 1065353216 = B2 at *
  generalize lt le 0 = B3 at *
  generalize lt mo le = B4 at *
  clear hE
  by_cases hf : f = 0
  · subst hf
    have hc : B1 = true ∨ (B1 = false ∧ B2 = true) ∨ (B1 = false ∧ B2 = false ∧ B3 = true) ∨ (B1 = false ∧ B2 = false ∧ B3 = false ∧ B4 = true) ∨ (B1 = false ∧ B2 = false ∧ B3 = false ∧ B4 = false) := by
      cases B1 <;> cases B2 <;> cases B3 <;> cases B4 <;> simp
    rcases hc with rfl | ⟨rfl, rfl⟩ | ⟨rfl, rfl, rfl⟩ | ⟨rfl, rfl, rfl, rfl⟩ | ⟨rfl, rfl, rfl, rfl⟩
    · have hv : Hid (E = 3) := by show E = _; rw [HE.out]; simp
      go_enter Try.func33, Try.ntmps33
      go_wp2_with (go_at_call 81; refine ((HN _ _ (Rd.new (by first | rfl | simp) (by first | rfl | simp))).out).mono ?_; rintro e w1 ⟨rfl, rfl⟩)
      go_ret
      exact ⟨ret_i hv.out.symm, (by repeat (first | (with_reducible exact Ext.refl _) | (with_reducible assumption) | (with_reducible refine Ext.setCell ?_ (by first | (simp; done) | (simp; omega)) _) | (with_reducible refine Ext.drewN ?_ _) | (with_reducible refine Ext.alloc ?_ _) | (with_reducible refine Ext.drew ?_) | (with_reducible refine Ext.trans ?_ (by assumption))))⟩
    · have hv : Hid (E = 3) := by show E = _; rw [HE.out]; simp
      go_enter Try.func33, Try.ntmps33
      go_wp2_with (go_at_call 81; refine ((HN _ _ (Rd.new (by first | rfl | simp) (by first | rfl | simp))).out).mono ?_; rintro e w1 ⟨rfl, rfl⟩)
      go_ret
      exact ⟨ret_i hv.out.symm, (by repeat (first | (with_reducible exact Ext.refl _) | (with_reducible assumption) | (with_reducible refine Ext.setCell ?_ (by first | (simp; done) | (simp; omega)) _) | (with_reducible refine Ext.drewN ?_ _) | (with_reducible refine Ext.alloc ?_ _) | (with_reducible refine Ext.drew ?_) | (with_reducible refine Ext.trans ?_ (by assumption))))⟩
    · have hv : Hid (E = 3) := by show E = _; rw [HE.out]; simp
      go_enter Try.func33, Try.ntmps33
      go_wp2_with (go_at_call 81; refine ((HN _ _ (Rd.new (by first | rfl | simp) (by first | rfl | simp))).out).mono ?_; rintro e w1 ⟨rfl, rfl⟩)
      go_ret
      exact ⟨ret_i hv.out.symm, (by repeat (first | (with_reducible exact Ext.refl _) | (with_reducible assumption) | (with_reducible refine Ext.setCell ?_ (by first | (simp; done) | (simp; omega)) _) | (with_reducible refine Ext.drewN ?_ _) | (with_reducible refine Ext.alloc ?_ _) | (with_reducible refine Ext.drew ?_) | (with_reducible refine Ext.trans ?_ (by assumption))))⟩
    · have hv : Hid (E = 8) := by show E = _; rw [HE.out]; simp
      go_enter Try.func33, Try.ntmps33
      go_wp2_with (go_at_call 81; refine ((HN _ _ (Rd.new (by first | rfl | simp) (by first | rfl | simp))).out).mono ?_; rintro e w1 ⟨rfl, rfl⟩)
      go_ret
      exact ⟨ret_i hv.out.symm, (by repeat (first | (with_reducible exact Ext.refl _) | (with_reducible assumption) | (with_reducible refine Ext.setCell ?_ (by first | (simp; done) | (simp; omega)) _) | (with_reducible refine Ext.drewN ?_ _) | (with_reducible refine Ext.alloc ?_ _) | (with_reducible refine Ext.drew ?_) | (with_reducible refine Ext.trans ?_ (by assumption))))⟩
    · have hc2 : st < 0 ∨ (¬ st < 0 ∧ 50 < st) ∨ (¬ st < 0 ∧ ¬ 50 < st) := by omega
      rcases hc2 with c1 | ⟨c1, c2⟩ | ⟨c1, c2⟩
      · have hv : Hid (E = 3) := by show E = _; rw [HE.out]; simp [c1]
        go_enter Try.func33, Try.ntmps33
        go_wp2_with (go_at_call 81; refine ((HN _ _ (Rd.new (by first | rfl | simp) (by first | rfl | simp))).out).mono ?_; rintro e w1 ⟨rfl, rfl⟩)
        go_ret
        exact ⟨ret_i hv.out.symm, (by repeat (first | (with_reducible exact Ext.refl _) | (with_reducible assumption) | (with_reducible refine Ext.setCell ?_ (by first | (simp; done) | (simp; omega)) _) | (with_reducible refine Ext.drewN ?_ _) | (with_reducible refine Ext.alloc ?_ _) | (with_reducible refine Ext.drew ?_) | (with_reducible refine Ext.trans ?_ (by assumption))))⟩
      · have hv : Hid (E = 3) := by show E = _; rw [HE.out]; simp [c2]
        go_enter Try.func33, Try.ntmps33
        go_wp2_with (go_at_call 81; refine ((HN _ _ (Rd.new (by first | rfl | simp) (by first | rfl | simp))).out).mono ?_; rintro e w1 ⟨rfl, rfl⟩)
        go_ret
        exact ⟨ret_i hv.out.symm, (by repeat (first | (with_reducible exact Ext.refl _) | (with_reducible assumption) | (with_reducible refine Ext.setCell ?_ (by first | (simp; done) | (simp; omega)) _) | (with_reducible refine Ext.drewN ?_ _) | (with_reducible refine Ext.alloc ?_ _) | (with_reducible refine Ext.drew ?_) | (with_reducible refine Ext.trans ?_ (by assumption))))⟩
      · have hv : Hid (E = 0) := by show E = _; rw [HE.out]; simp; omega
        go_enter Try.func33, Try.ntmps33
        go_wp2_with (go_at_call 81; refine ((HN _ _ (Rd.new (by first | rfl | simp) (by first | rfl | simp))).out).mono ?_; rintro e w1 ⟨rfl, rfl⟩)
        go_ret
        exact ⟨ret_i hv.out.symm, (by repeat (first | (with_reducible exact Ext.refl _) | (with_reducible assumption) | (with_reducible refine Ext.setCell ?_ (by first | (simp; done) | (simp; omega)) _) | (with_reducible refine Ext.drewN ?_ _) | (with_reducible refine Ext.alloc ?_ _) | (with_reducible refine Ext.drew ?_) | (with_reducible refine Ext.trans ?_ (by assumption))))⟩
  · have hf' : (f != 0) = true := by simpa using hf
    have hv : Hid (E = f) := by show E = _; rw [HE.out, if_pos hf]
    clear hf b1 b2 b3 b4
    go_enter Try.func33, Try.ntmps33
    go_wp2_with (go_at_call 81; refine ((HN _ _ (Rd.new (by first | rfl | simp) (by first | rfl | simp))).out).mono ?_; rintro e w1 ⟨rfl, rfl⟩)
    go_ret
    exact ⟨ret_i hv.out.symm, (by repeat (first | (with_reducible exact Ext.refl _) | (with_reducible assumption) | (with_reducible refine Ext.setCell ?_ (by first | (simp; done) | (simp; omega)) _) | (with_reducible refine Ext.drewN ?_ _) | (with_reducible refine Ext.alloc ?_ _) | (with_reducible refine Ext.drew ?_) | (with_reducible refine Ext.trans ?_ (by assumption))))⟩

set_option maxRecDepth 100000 in
set_option maxHeartbeats 3200000 in
theorem carvingError_any (r le mo : Nat) (st : Int) (w : World) : Calls Try.prog 32 #[.agg #[.float .f32 r, .float .f32 le, .float .f32 mo, .int .i64 st]] w fun e w' => e = .returned (.int .i64 (carvE r le mo st)) ∧ Ext w w' := by
  have HN := fun (B : Option Addr) (w : World) (h : Rd w B (flt [r, le, mo])) => hidA (numberError_any B 3 3 [r, le, mo] w rfl h (by omega))
  have b1 : (FloatKind.f32.format.order r 0 == some .lt) = lt r 0 := rfl
  have b2 : (FloatKind.f32.format.order r 1065353216 == some .gt) = gt r 1065353216 := rfl
  have b3 : (FloatKind.f32.format.order le 0 == some .lt) = lt le 0 := rfl
  have b4 : (FloatKind.f32.format.order mo le == some .lt) = lt mo le := rfl
  have hE : carvE r le mo st = if numE [r, le, mo] ≠ 0 then numE [r, le, mo] else if lt r 0 = true ∨ gt r 1065353216 = true ∨ lt le 0 = true then 3 else if lt mo le = true then 8 else if st < 0 ∨ 50 < st then 3 else 0 := rfl
  have HE := hidA hE
  generalize numE [r, le, mo] = f at *
  generalize carvE r le mo st = E at *
  generalize lt r 0 = B1 at *
  generalize gt r 1065353216 = B2 at *
  generalize lt le 0 = B3 at *
  generalize lt mo le = B4 at *
  clear hE
  by_cases hf : f = 0
  · subst hf
    have hc : B1 = true ∨ (B1 = false ∧ B2 = true) ∨ (B1 = false ∧ B2 = false ∧ B3 = true) ∨ (B1 = false ∧ B2 = false ∧ B3 = false ∧ B4 = true) ∨ (B1 = false ∧ B2 = false ∧ B3 = false ∧ B4 = false) := by
      cases B1 <;> cases B2 <;> cases B3 <;> cases B4 <;> simp
    rcases hc with rfl | ⟨rfl, rfl⟩ | ⟨rfl, rfl, rfl⟩ | ⟨rfl, rfl, rfl, rfl⟩ | ⟨rfl, rfl, rfl, rfl⟩
    · have hv : Hid (E = 3) := by show E = _; rw [HE.out]; simp
      go_enter Try.func32, Try.ntmps32
      go_wp2_with (go_at_call 18; refine ((HN _ _ (Rd.new (by first | rfl | simp) (by first | rfl | simp))).out).mono ?_; rintro e w1 ⟨rfl, rfl⟩)
      go_ret
      exact ⟨ret_i hv.out.symm, (by repeat (first | (with_reducible exact Ext.refl _) | (with_reducible assumption) | (with_reducible refine Ext.setCell ?_ (by first | (simp; done) | (simp; omega)) _) | (with_reducible refine Ext.drewN ?_ _) | (with_reducible refine Ext.alloc ?_ _) | (with_reducible refine Ext.drew ?_) | (with_reducible refine Ext.trans ?_ (by assumption))))⟩
    · have hv : Hid (E = 3) := by show E = _; rw [HE.out]; simp
      go_enter Try.func32, Try.ntmps32
      go_wp2_with (go_at_call 18; refine ((HN _ _ (Rd.new (by first | rfl | simp) (by first | rfl | simp))).out).mono ?_; rintro e w1 ⟨rfl, rfl⟩)
      go_ret
      exact ⟨ret_i hv.out.symm, (by repeat (first | (with_reducible exact Ext.refl _) | (with_reducible assumption) | (with_reducible refine Ext.setCell ?_ (by first | (simp; done) | (simp; omega)) _) | (with_reducible refine Ext.drewN ?_ _) | (with_reducible refine Ext.alloc ?_ _) | (with_reducible refine Ext.drew ?_) | (with_reducible refine Ext.trans ?_ (by assumption))))⟩
    · have hv : Hid (E = 3) := by show E = _; rw [HE.out]; simp
      go_enter Try.func32, Try.ntmps32
      go_wp2_with (go_at_call 18; refine ((HN _ _ (Rd.new (by first | rfl | simp) (by first | rfl | simp))).out).mono ?_; rintro e w1 ⟨rfl, rfl⟩)
      go_ret
      exact ⟨ret_i hv.out.symm, (by repeat (first | (with_reducible exact Ext.refl _) | (with_reducible assumption) | (with_reducible refine Ext.setCell ?_ (by first | (simp; done) | (simp; omega)) _) | (with_reducible refine Ext.drewN ?_ _) | (with_reducible refine Ext.alloc ?_ _) | (with_reducible refine Ext.drew ?_) | (with_reducible refine Ext.trans ?_ (by assumption))))⟩
    · have hv : Hid (E = 8) := by show E = _; rw [HE.out]; simp
      go_enter Try.func32, Try.ntmps32
      go_wp2_with (go_at_call 18; refine ((HN _ _ (Rd.new (by first | rfl | simp) (by first | rfl | simp))).out).mono ?_; rintro e w1 ⟨rfl, rfl⟩)
      go_ret
      exact ⟨ret_i hv.out.symm, (by repeat (first | (with_reducible exact Ext.refl _) | (with_reducible assumption) | (with_reducible refine Ext.setCell ?_ (by first | (simp; done) | (simp; omega)) _) | (with_reducible refine Ext.drewN ?_ _) | (with_reducible refine Ext.alloc ?_ _) | (with_reducible refine Ext.drew ?_) | (with_reducible refine Ext.trans ?_ (by assumption))))⟩
    · have hc2 : st < 0 ∨ (¬ st < 0 ∧ 50 < st) ∨ (¬ st < 0 ∧ ¬ 50 < st) := by omega
      rcases hc2 with c1 | ⟨c1, c2⟩ | ⟨c1, c2⟩
      · have hv : Hid (E = 3) := by show E = _; rw [HE.out]; simp [c1]
        go_enter Try.func32, Try.ntmps32
        go_wp2_with (go_at_call 18; refine ((HN _ _ (Rd.new (by first | rfl | simp) (by first | rfl | simp))).out).mono ?_; rintro e w1 ⟨rfl, rfl⟩)
        go_ret
        exact ⟨ret_i hv.out.symm, (by repeat (first | (with_reducible exact Ext.refl _) | (with_reducible assumption) | (with_reducible refine Ext.setCell ?_ (by first | (simp; done) | (simp; omega)) _) | (with_reducible refine Ext.drewN ?_ _) | (with_reducible refine Ext.alloc ?_ _) | (with_reducible refine Ext.drew ?_) | (with_reducible refine Ext.trans ?_ (by assumption))))⟩
      · have hv : Hid (E = 3) := by show E = _; rw [HE.out]; simp [c2]
        go_enter Try.func32, Try.ntmps32
        go_wp2_with (go_at_call 18; refine ((HN _ _ (Rd.new (by first | rfl | simp) (by first | rfl | simp))).out).mono ?_; rintro e w1 ⟨rfl, rfl⟩)
        go_ret
        exact ⟨ret_i hv.out.symm, (by repeat (first | (with_reducible exact Ext.refl _) | (with_reducible assumption) | (with_reducible refine Ext.setCell ?_ (by first | (simp; done) | (simp; omega)) _) | (with_reducible refine Ext.drewN ?_ _) | (with_reducible refine Ext.alloc ?_ _) | (with_reducible refine Ext.drew ?_) | (with_reducible refine Ext.trans ?_ (by assumption))))⟩
      · have hv : Hid (E = 0) := by show E = _; rw [HE.out]; simp; omega
        go_enter Try.func32, Try.ntmps32
        go_wp2_with (go_at_call 18; refine ((HN _ _ (Rd.new (by first | rfl | simp) (by first | rfl | simp))).out).mono ?_; rintro e w1 ⟨rfl, rfl⟩)
        go_ret
        exact ⟨ret_i hv.out.symm, (by repeat (first | (with_reducible exact Ext.refl _) | (with_reducible assumption) | (with_reducible refine Ext.setCell ?_ (by first | (simp; done) | (simp; omega)) _) | (with_reducible refine Ext.drewN ?_ _) | (with_reducible refine Ext.alloc ?_ _) | (with_reducible refine Ext.drew ?_) | (with_reducible refine Ext.trans ?_ (by assumption))))⟩
  · have hf' : (f != 0) = true := by simpa using hf
    have hv : Hid (E = f) := by show E = _; rw [HE.out, if_pos hf]
    clear hf b1 b2 b3 b4
    go_enter Try.func32, Try.ntmps32
    go_wp2_with (go_at_call 18; refine ((HN _ _ (Rd.new (by first | rfl | simp) (by first | rfl | simp))).out).mono ?_; rintro e w1 ⟨rfl, rfl⟩)
    go_ret
    exact ⟨ret_i hv.out.symm, (by repeat (first | (with_reducible exact Ext.refl _) | (with_reducible assumption) | (with_reducible refine Ext.setCell ?_ (by first | (simp; done) | (simp; omega)) _) | (with_reducible refine Ext.drewN ?_ _) | (with_reducible refine Ext.alloc ?_ _) | (with_reducible refine Ext.drew ?_) | (with_reducible refine Ext.trans ?_ (by assumption))))⟩

end Go.Proofs.Ytinohfgokpbcdaa

namespace Go.Proofs.Ytinohfgokpbcdaa
open Go.RowKit Ieee
attribute [local go_sem ↓] Go.wp_at_zero Go.wp_at_succ

theorem int_pos {n : Int} (h : 0 ≤ n) : floatOfInt .f32 n < 2147483648 := by
  have e : floatOfInt .f32 n = single.nearest (decide (n < 0)) n.natAbs 0 := rfl
  rw [e, show decide (n < 0) = false by simp; omega]
  exact near_false _ _
/-- the root of an integer -/
def rootI (n : Int) : Nat := rootB (floatOfInt .f32 n)
theorem rootI_bd {n : Int} (h0 : 0 ≤ n) (h : n ≤ 1099511627776) : Bd 41 (floatOfInt .f32 n) ∧ Bd 48 (rootI n) := by
  have hb := int_bd (K := 41) (n := n) (by omega) (by omega)
  obtain ⟨_, _, _, _, _, h5, _⟩ := root_ok hb (int_pos h0) (by omega)
  exact ⟨hb, h5⟩
set_option maxHeartbeats 800000 in
theorem rootI_any (n : Int) (w : World) (h0 : 0 ≤ n) (h : n ≤ 1099511627776) : Calls Try.prog 92 #[.int .i64 n] w fun e w' => e = .returned (.float .f32 (rootI n)) ∧ w = w' := by
  have HR := fun (w : World) => hidA (noiseRoot_any (rootI_bd h0 h).1 (int_pos h0) (by omega) w)
  go_enter Try.func92, Try.ntmps92
  go_wp2_with (go_at_call 142; refine ((HR _).out).mono ?_; rintro e w1 ⟨rfl, rfl⟩)
  go_ret
  exact ⟨rfl, rfl⟩
/-- the lesser of two -/
def lesserB (a b : Nat) : Nat := if lt b a = true then b else a
set_option maxHeartbeats 800000 in
theorem lesser_any (a b : Nat) (w : World) : Calls Try.prog 96 #[.float .f32 a, .float .f32 b] w fun e w' => e = .returned (.float .f32 (lesserB a b)) ∧ w = w' := by
  have hb : (FloatKind.f32.format.order b a == some .lt) = lt b a := rfl
  unfold lesserB
  cases h : lt b a
  all_goals
    rw [h] at hb
    clear h
    go_enter Try.func96, Try.ntmps96
    go_wp2
    go_ret
    exact ⟨rfl, rfl⟩
/-- how deep water cuts -/
def depF (r le mo : Nat) (n : Int) (drop : Nat) : Nat :=
  if n < 1 ∨ gt drop 0 = false then 0 else
    if lt (fmul (fmul r (rootI n)) drop) le = true then 0 else lesserB (lesserB (fmul (fmul r (rootI n)) drop) mo) (fmul drop 1056964608)
theorem dep_ok {r n : Nat} {drop : Nat} (hr : Bd 20 r) (hn : Bd 48 n) (hd : Bd 20 drop) : floatBits .mul .f32 r n = some (fmul r n) ∧ floatBits .mul .f32 (fmul r n) drop = some (fmul (fmul r n) drop) ∧ floatBits .mul .f32 drop 1056964608 = some (fmul drop 1056964608) := by
  obtain ⟨a1, a2⟩ := fmul_ok hr hn (by omega)
  obtain ⟨b1, b2⟩ := fmul_ok a2 hd (by omega)
  exact ⟨a1, b1, (fmul_ok hd half_bd (by omega)).1⟩
theorem leq_gt {d : Nat} (h : Bd 20 d) : (FloatKind.f32.format.order d 0 == some .lt || FloatKind.f32.format.order d 0 == some .eq) = !gt d 0 := by
  have e := ord_valI (bd_Fin h (by omega)) (show Fin 0 by unfold Fin; omega)
  unfold gt
  rw [ord_def, e]
  cases compare (valI d) (valI 0) <;> rfl

set_option maxRecDepth 100000 in
set_option maxHeartbeats 3200000 in
theorem depth_any (r le mo : Nat) (st n : Int) (drop : Nat) (w : World) (hr : Bd 20 r) (hd : Bd 20 drop) (hn : n ≤ 1099511627776) : Calls Try.prog 88 #[.agg #[.float .f32 r, .float .f32 le, .float .f32 mo, .int .i64 st], .int .i64 n, .float .f32 drop] w fun e w' => e = .returned (.float .f32 (depF r le mo n drop)) ∧ Ext w w' := by
  have hd0 : (FloatKind.f32.format.order drop 0 == some .lt || FloatKind.f32.format.order drop 0 == some .eq) = !gt drop 0 := leq_gt hd
  have hd1 : (FloatKind.f32.format.order drop 0 == some .gt) = gt drop 0 := rfl
  have hE : depF r le mo n drop = if n < 1 ∨ gt drop 0 = false then 0 else if lt (fmul (fmul r (rootI n)) drop) le = true then 0 else lesserB (lesserB (fmul (fmul r (rootI n)) drop) mo) (fmul drop 1056964608) := rfl
  have HE := hidA hE
  generalize depF r le mo n drop = E at *
  clear hE
  by_cases h1 : n < 1
  · have hv : Hid (E = 0) := by show E = _; rw [HE.out, if_pos (.inl h1)]
    clear hd0 hd1
    go_enter Try.func88, Try.ntmps88
    go_wp2
    go_ret
    exact ⟨ret_f hv.out.symm, (by repeat (first | (with_reducible exact Ext.refl _) | (with_reducible assumption) | (with_reducible refine Ext.setCell ?_ (by first | (simp; done) | (simp; omega)) _) | (with_reducible refine Ext.drewN ?_ _) | (with_reducible refine Ext.alloc ?_ _) | (with_reducible refine Ext.drew ?_) | (with_reducible refine Ext.trans ?_ (by assumption))))⟩
  · cases h2 : gt drop 0
    · have hv : Hid (E = 0) := by show E = _; rw [HE.out, if_pos (.inr h2)]
      rw [h2] at hd0
      clear h2 hd1
      have hd2 : (FloatKind.f32.format.order drop 0 == some .lt || FloatKind.f32.format.order drop 0 == some .eq) = true := hd0
      clear hd0
      go_enter Try.func88, Try.ntmps88
      go_wp2
      go_ret
      exact ⟨ret_f hv.out.symm, (by repeat (first | (with_reducible exact Ext.refl _) | (with_reducible assumption) | (with_reducible refine Ext.setCell ?_ (by first | (simp; done) | (simp; omega)) _) | (with_reducible refine Ext.drewN ?_ _) | (with_reducible refine Ext.alloc ?_ _) | (with_reducible refine Ext.drew ?_) | (with_reducible refine Ext.trans ?_ (by assumption))))⟩
    · obtain ⟨m1, m2, m3⟩ := dep_ok hr (rootI_bd (show 0 ≤ n by omega) hn).2 hd
      have r1 := fun (w : World) => run_float_arith (P := Try.prog) w .mul 27 .f32 _ _ _ m1
      have r2 := fun (w : World) => run_float_arith (P := Try.prog) w .mul 27 .f32 _ _ _ m2
      have r3 := fun (w : World) => run_float_arith (P := Try.prog) w .mul 27 .f32 _ _ _ m3
      have HR := fun (w : World) => hidA (rootI_any n w (by omega) hn)
      have hv : Hid (E = if lt (fmul (fmul r (rootI n)) drop) le = true then 0 else lesserB (lesserB (fmul (fmul r (rootI n)) drop) mo) (fmul drop 1056964608)) := by show E = _; rw [HE.out, if_neg (by rw [h2]; simp; omega)]
      have hd2 : (FloatKind.f32.format.order drop 0 == some .lt || FloatKind.f32.format.order drop 0 == some .eq) = false := by rw [hd0, h2]; rfl
      clear m1 m2 m3 hd0 hd1 h2 HE hr hd hn
      generalize rootI n = q at *
      generalize fmul r q = m at *
      generalize fmul m drop = d at *
      generalize fmul drop 1056964608 = hf at *
      have hb : (FloatKind.f32.format.order d le == some .lt) = lt d le := rfl
      cases h3 : lt d le
      · have hv2 : Hid (E = lesserB (lesserB d mo) hf) := by show E = _; rw [hv.out, if_neg (by rw [h3]; decide)]
        rw [h3] at hb
        clear h3 hv
        go_enter Try.func88, Try.ntmps88
        go_wp2
        go_quiet ((go_at_call 92; exact Calls.quiet_of_same ((HR _).out.mono fun e w' h => ⟨h.1, h.2.symm⟩)))
        go_wp2_with (go_at_call 96; refine (lesser_any _ _ _).mono ?_; rintro e w1 ⟨rfl, rfl⟩)
        go_ret
        exact ⟨ret_f hv2.out.symm, (by repeat (first | (with_reducible exact Ext.refl _) | (with_reducible assumption) | (with_reducible refine Ext.setCell ?_ (by first | (simp; done) | (simp; omega)) _) | (with_reducible refine Ext.drewN ?_ _) | (with_reducible refine Ext.alloc ?_ _) | (with_reducible refine Ext.drew ?_) | (with_reducible refine Ext.trans ?_ (by assumption))))⟩
      · have hv2 : Hid (E = 0) := by show E = _; rw [hv.out, if_pos h3]
        rw [h3] at hb
        clear h3 hv
        go_enter Try.func88, Try.ntmps88
        go_wp2
        go_quiet ((go_at_call 92; exact Calls.quiet_of_same ((HR _).out.mono fun e w' h => ⟨h.1, h.2.symm⟩)))
        go_wp2
        go_ret
        exact ⟨ret_f hv2.out.symm, (by repeat (first | (with_reducible exact Ext.refl _) | (with_reducible assumption) | (with_reducible refine Ext.setCell ?_ (by first | (simp; done) | (simp; omega)) _) | (with_reducible refine Ext.drewN ?_ _) | (with_reducible refine Ext.alloc ?_ _) | (with_reducible refine Ext.drew ?_) | (with_reducible refine Ext.trans ?_ (by assumption))))⟩

set_option maxRecDepth 100000 in
set_option maxHeartbeats 3200000 in
theorem depthOf_any (r le mo : Nat) (st n : Int) (drop : Nat) (w : World) (hr : Bd 20 r) (hd : Bd 20 drop) (hn : n ≤ 1099511627776) : Calls Try.prog 34 #[.agg #[.float .f32 r, .float .f32 le, .float .f32 mo, .int .i64 st], .int .i64 n, .float .f32 drop] w fun e w' => e = .returned (.float .f32 (depF r le mo n drop)) ∧ Ext w w' := by
  have hd0 : (FloatKind.f32.format.order drop 0 == some .lt || FloatKind.f32.format.order drop 0 == some .eq) = !gt drop 0 := leq_gt hd
  have hd1 : (FloatKind.f32.format.order drop 0 == some .gt) = gt drop 0 := rfl
  have hE : depF r le mo n drop = if n < 1 ∨ gt drop 0 = false then 0 else if lt (fmul (fmul r (rootI n)) drop) le = true then 0 else lesserB (lesserB (fmul (fmul r (rootI n)) drop) mo) (fmul drop 1056964608) := rfl
  have HE := hidA hE
  generalize depF r le mo n drop = E at *
  clear hE
  by_cases h1 : n < 1
  · have hv : Hid (E = 0) := by show E = _; rw [HE.out, if_pos (.inl h1)]
    clear hd0 hd1
    go_enter Try.func34, Try.ntmps34
    go_wp2
    go_ret
    exact ⟨ret_f hv.out.symm, (by repeat (first | (with_reducible exact Ext.refl _) | (with_reducible assumption) | (with_reducible refine Ext.setCell ?_ (by first | (simp; done) | (simp; omega)) _) | (with_reducible refine Ext.drewN ?_ _) | (with_reducible refine Ext.alloc ?_ _) | (with_reducible refine Ext.drew ?_) | (with_reducible refine Ext.trans ?_ (by assumption))))⟩
  · cases h2 : gt drop 0
    · have hv : Hid (E = 0) := by show E = _; rw [HE.out, if_pos (.inr h2)]
      rw [h2] at hd1
      clear h2 hd0
      go_enter Try.func34, Try.ntmps34
      go_wp2
      go_ret
      exact ⟨ret_f hv.out.symm, (by repeat (first | (with_reducible exact Ext.refl _) | (with_reducible assumption) | (with_reducible refine Ext.setCell ?_ (by first | (simp; done) | (simp; omega)) _) | (with_reducible refine Ext.drewN ?_ _) | (with_reducible refine Ext.alloc ?_ _) | (with_reducible refine Ext.drew ?_) | (with_reducible refine Ext.trans ?_ (by assumption))))⟩
    · obtain ⟨m1, m2, m3⟩ := dep_ok hr (rootI_bd (show 0 ≤ n by omega) hn).2 hd
      have r1 := fun (w : World) => run_float_arith (P := Try.prog) w .mul 27 .f32 _ _ _ m1
      have r2 := fun (w : World) => run_float_arith (P := Try.prog) w .mul 27 .f32 _ _ _ m2
      have r3 := fun (w : World) => run_float_arith (P := Try.prog) w .mul 27 .f32 _ _ _ m3
      have HR : ∀ w : World, Hid (Calls Try.prog 38 #[.float .f32 (floatOfInt .f32 n)] w fun e w' => e = .returned (.float .f32 (rootI n)) ∧ w' = w) := fun w => refRoot_any (rootI_bd (show 0 ≤ n by omega) hn).1 (int_pos (by omega)) (by omega) w
      have hv : Hid (E = if lt (fmul (fmul r (rootI n)) drop) le = true then 0 else lesserB (lesserB (fmul (fmul r (rootI n)) drop) mo) (fmul drop 1056964608)) := by show E = _; rw [HE.out, if_neg (by rw [h2]; simp; omega)]
      rw [h2] at hd1
      clear m1 m2 m3 hd0 h2 HE hr hd hn
      generalize rootI n = q at *
      generalize fmul r q = m at *
      generalize fmul m drop = d at *
      generalize fmul drop 1056964608 = hf at *
      have hb : (FloatKind.f32.format.order d le == some .lt) = lt d le := rfl
      cases h3 : lt d le
      · have hv2 : Hid (E = lesserB (lesserB d mo) hf) := by show E = _; rw [hv.out, if_neg (by rw [h3]; decide)]
        rw [h3] at hb
        clear h3 hv
        have hb2 : (FloatKind.f32.format.order mo d == some .lt) = lt mo d := rfl
        cases h4 : lt mo d
        · rw [h4] at hb2
          have hb3 : (FloatKind.f32.format.order hf d == some .lt) = lt hf d := rfl
          cases h5 : lt hf d
          · have hv3 : Hid (E = d) := by show E = _; rw [hv2.out]; unfold lesserB; simp [h4, h5]
            rw [h5] at hb3
            clear h4 h5 hv2
            go_enter Try.func34, Try.ntmps34
            go_wp2
            go_quiet ((go_at_call 38; exact Calls.quiet_of_same (HR _).out))
            go_wp2
            go_ret
            exact ⟨ret_f hv3.out.symm, (by repeat (first | (with_reducible exact Ext.refl _) | (with_reducible assumption) | (with_reducible refine Ext.setCell ?_ (by first | (simp; done) | (simp; omega)) _) | (with_reducible refine Ext.drewN ?_ _) | (with_reducible refine Ext.alloc ?_ _) | (with_reducible refine Ext.drew ?_) | (with_reducible refine Ext.trans ?_ (by assumption))))⟩
          · have hv3 : Hid (E = hf) := by show E = _; rw [hv2.out]; unfold lesserB; simp [h4, h5]
            rw [h5] at hb3
            clear h4 h5 hv2
            go_enter Try.func34, Try.ntmps34
            go_wp2
            go_quiet ((go_at_call 38; exact Calls.quiet_of_same (HR _).out))
            go_wp2
            go_ret
            exact ⟨ret_f hv3.out.symm, (by repeat (first | (with_reducible exact Ext.refl _) | (with_reducible assumption) | (with_reducible refine Ext.setCell ?_ (by first | (simp; done) | (simp; omega)) _) | (with_reducible refine Ext.drewN ?_ _) | (with_reducible refine Ext.alloc ?_ _) | (with_reducible refine Ext.drew ?_) | (with_reducible refine Ext.trans ?_ (by assumption))))⟩
        · rw [h4] at hb2
          have hb3 : (FloatKind.f32.format.order hf mo == some .lt) = lt hf mo := rfl
          cases h5 : lt hf mo
          · have hv3 : Hid (E = mo) := by show E = _; rw [hv2.out]; unfold lesserB; simp [h4, h5]
            rw [h5] at hb3
            clear h4 h5 hv2
            go_enter Try.func34, Try.ntmps34
            go_wp2
            go_quiet ((go_at_call 38; exact Calls.quiet_of_same (HR _).out))
            go_wp2
            go_ret
            exact ⟨ret_f hv3.out.symm, (by repeat (first | (with_reducible exact Ext.refl _) | (with_reducible assumption) | (with_reducible refine Ext.setCell ?_ (by first | (simp; done) | (simp; omega)) _) | (with_reducible refine Ext.drewN ?_ _) | (with_reducible refine Ext.alloc ?_ _) | (with_reducible refine Ext.drew ?_) | (with_reducible refine Ext.trans ?_ (by assumption))))⟩
          · have hv3 : Hid (E = hf) := by show E = _; rw [hv2.out]; unfold lesserB; simp [h4, h5]
            rw [h5] at hb3
            clear h4 h5 hv2
            go_enter Try.func34, Try.ntmps34
            go_wp2
            go_quiet ((go_at_call 38; exact Calls.quiet_of_same (HR _).out))
            go_wp2
            go_ret
            exact ⟨ret_f hv3.out.symm, (by repeat (first | (with_reducible exact Ext.refl _) | (with_reducible assumption) | (with_reducible refine Ext.setCell ?_ (by first | (simp; done) | (simp; omega)) _) | (with_reducible refine Ext.drewN ?_ _) | (with_reducible refine Ext.alloc ?_ _) | (with_reducible refine Ext.drew ?_) | (with_reducible refine Ext.trans ?_ (by assumption))))⟩
      · have hv3 : Hid (E = 0) := by show E = _; rw [hv.out, if_pos h3]
        rw [h3] at hb
        clear h3 hv
        go_enter Try.func34, Try.ntmps34
        go_wp2
        go_quiet ((go_at_call 38; exact Calls.quiet_of_same (HR _).out))
        go_wp2
        go_ret
        exact ⟨ret_f hv3.out.symm, (by repeat (first | (with_reducible exact Ext.refl _) | (with_reducible assumption) | (with_reducible refine Ext.setCell ?_ (by first | (simp; done) | (simp; omega)) _) | (with_reducible refine Ext.drewN ?_ _) | (with_reducible refine Ext.alloc ?_ _) | (with_reducible refine Ext.drew ?_) | (with_reducible refine Ext.trans ?_ (by assumption))))⟩
end Go.Proofs.Ytinohfgokpbcdaa

namespace Go.Proofs.Ytinohfgokpbcdaa
open Go.RowKit

theorem keyI_pos {b : Nat} (h : 0 ≤ valI b) (h2 : valN (b % 2147483648) ≠ 0) : b / 2147483648 % 2 ≠ 1 := by
  intro e
  unfold valI at h
  rw [if_pos e] at h
  omega
/-- one and what is not less than zero is not less than one -/
theorem one_more {K x : Nat} (hx : Bd K x) (hK : K ≤ 100) (h0 : 0 ≤ valI x) : Ge1 (fadd 1065353216 x) := by
  have h1 := fadd_ge (K := K) (one_bd.mono (Nat.zero_le K)) hx (by omega) h0
  have hb := (fadd_ok (K := K) (one_bd.mono (Nat.zero_le K)) hx (by omega)).2
  have hF := bd_Fin hb (by omega : K + 2 ≤ 127)
  generalize fadd 1065353216 x = y at *
  refine ⟨?_, hF⟩
  rcases Nat.lt_or_ge (y % 2147483648) (127 * 8388608) with hlt | hge
  · exfalso
    have h2 := valN_lt hlt
    have e1 : valI 1065353216 = (valN (127 * 8388608) : Nat) := by decide +kernel
    rw [e1] at h1
    unfold valI at h1
    split at h1 <;> omega
  · exact hge
theorem stp_nonneg {v : Nat → Nat} {Wn Hn k : Nat} (hv : ∀ j, j < Wn * Hn → Bd 20 (v j)) (hk : k < Wn * Hn) (d : Nat) : 0 ≤ valI (stp v Wn Hn k d).2 := by
  induction d with
  | zero =>
    show (0 : Int) ≤ valI 0
    rw [val_zero]
    exact Int.le_refl _
  | succ d ih =>
    cases h : nbr Wn Hn k d with
    | none => rw [stp_none h]; exact ih
    | some n =>
      rw [stp_some h]
      split
      · rename_i hg
        have hb := (drop_ok d (hv _ hk) (hv _ (nbr_lt h))).2.2
        rw [gt_val (bd_Fin hb (by omega)) (bd_Fin (stp_bd hv hk (fun d n h => nbr_lt h) d) (by omega))] at hg
        simp at hg
        show 0 ≤ valI (dropF v k n d)
        omega
      · exact ih
/-- how wet a cell is -/
def wetF (v : Nat → Nat) (q : List Int) (Wn Hn k : Nat) : Nat := fdiv (rootI (q.getD k 0)) (fadd 1065353216 (stp v Wn Hn k 8).2)
theorem wet_ok {v : Nat → Nat} {q : List Int} {Wn Hn k : Nat} (hv : ∀ j, j < Wn * Hn → Bd 20 (v j)) (hk : k < Wn * Hn) (h0 : 0 ≤ q.getD k 0) (h1 : q.getD k 0 ≤ 1099511627776) :
    floatBits .add .f32 1065353216 (stp v Wn Hn k 8).2 = some (fadd 1065353216 (stp v Wn Hn k 8).2) ∧ floatBits .quo .f32 (rootI (q.getD k 0)) (fadd 1065353216 (stp v Wn Hn k 8).2) = some (wetF v q Wn Hn k) ∧ Bd 50 (wetF v q Wn Hn k) := by
  have hb := stp_bd hv hk (fun d n h => nbr_lt h) 8
  have h2 := one_more hb (by omega) (stp_nonneg hv hk 8)
  obtain ⟨r, h3, h4⟩ := fdiv_bd (rootI_bd h0 h1).2 h2 (by omega)
  have h5 : floatBits .quo .f32 (rootI (q.getD k 0)) (fadd 1065353216 (stp v Wn Hn k 8).2) = some r := h3
  have h6 : wetF v q Wn Hn k = r := by unfold wetF fdiv; rw [h5]; rfl
  exact ⟨(fadd_ok (one_bd.mono (Nat.zero_le 24)) hb (by omega)).1, by rw [h6]; exact h5, by rw [h6]; exact h4⟩
theorem nums_ok {q : List Int} {N : Nat} {most : Int} (h : numsE q N most = 0) : q.length = N ∧ ∀ k, k < N → 0 ≤ q.getD k 0 ∧ q.getD k 0 ≤ most := by
  unfold numsE at h
  split at h
  · exact absurd h (by decide)
  · rename_i h1
    split at h
    · exact absurd h (by decide)
    · rename_i h2
      refine ⟨by omega, fun k hk => ?_⟩
      have h3 : ¬ (q.getD k 0 < 0 ∨ most < q.getD k 0) := fun e => h2 ⟨k, by omega, e⟩
      omega
end Go.Proofs.Ytinohfgokpbcdaa

namespace Go.Proofs.Ytinohfgokpbcdaa
open Go.RowKit Ieee

theorem cut_one {neg : Bool} {n drop : Nat} (h : 2 ^ drop < 2 * n) : 1 ≤ Toward.even.cut neg n drop := by
  have hn : n ≠ 0 := by
    rintro rfl
    have := Nat.two_pow_pos drop
    omega
  have hl : n < 2 ^ (n.log2 + 1) := Nat.lt_log2_self
  have hd : drop < n.log2 + 2 := by
    refine (Nat.pow_lt_pow_iff_right (by omega : 1 < 2)).1 ?_
    rw [Nat.pow_succ]
    omega
  unfold Toward.cut
  simp only [Nat.shiftLeft_eq, Nat.one_mul]
  rw [Nat.min_eq_left (by omega)]
  rcases Nat.lt_or_ge n (2 ^ drop) with h1 | h1
  · rw [Nat.div_eq_of_lt h1, Nat.mod_eq_of_lt h1]
    simp [h]
  · have := (Nat.one_le_div_iff (Nat.two_pow_pos drop)).2 h1
    omega
theorem near_pos {m k N : Nat} (h0 : 2 ^ N < 2 * (m * 2 ^ (k + 149))) : 0 < valI (single.nearest false m ((k : Int) - N)) := by
  have hm : m ≠ 0 := by
    rintro rfl
    simp at h0
  have hlt := near_false m ((k : Int) - N)
  have hpos : single.nearest false m ((k : Int) - N) % 2147483648 ≠ 0 := by
    unfold Format.nearest
    rw [if_neg hm]
    simp only [single_binade, single_inf, single_least, single_frac]
    have hm1 : 2 ^ m.log2 ≤ m := Nat.log2_self_le hm
    have hc : ∀ last : Int, last = max ((k : Int) - N + m.log2 - 23) (-149) → 1 ≤ Toward.even.cut false (m <<< ((k : Int) - N - last).toNat) (last - ((k : Int) - N)).toNat := by
      intro last hlast
      refine cut_one ?_
      rw [Nat.shiftLeft_eq]
      have hs := Nat.two_pow_pos ((k : Int) - N - last).toNat
      have hge : m * 1 ≤ m * 2 ^ ((k : Int) - N - last).toNat := Nat.mul_le_mul_left _ hs
      by_cases h1 : (-149 : Int) ≤ (k : Int) - N + m.log2 - 23
      · have e : last = (k : Int) - N + m.log2 - 23 := by omega
        have h2 : (last - ((k : Int) - N)).toNat ≤ m.log2 := by omega
        have h3 : (2 : Nat) ^ (last - ((k : Int) - N)).toNat ≤ 2 ^ m.log2 := Nat.pow_le_pow_right (by omega) h2
        omega
      · have e : last = -149 := by omega
        by_cases h2 : k + 149 ≤ N
        · have e2 : (last - ((k : Int) - N)).toNat = N - (k + 149) := by omega
          rw [e2]
          have e3 : (2 : Nat) ^ N = 2 ^ (N - (k + 149)) * 2 ^ (k + 149) := by rw [← Nat.pow_add]; congr 1; omega
          rw [e3, ← Nat.mul_assoc] at h0
          have h4 := Nat.lt_of_mul_lt_mul_right h0
          omega
        · have e2 : (last - ((k : Int) - N)).toNat = 0 := by omega
          rw [e2, Nat.pow_zero]
          omega
    have h5 := hc _ rfl
    rw [word_rung (by omega)]
    simp only [show ((23 : Nat) : Int) = 23 from rfl] at *
    omega
  generalize single.nearest false m ((k : Int) - N) = r at *
  have h6 := valN_pos (Nat.pos_of_ne_zero hpos)
  unfold valI
  rw [Nat.div_eq_of_lt hlt]
  simpa using h6
theorem long_read (d : Nat) : ∃ n : Nat, single.read (longN d) = .number false n (((126 : Nat) : Int) - 149) ∧ 8388608 ≤ n ∧ n ≤ 11863283 ∧ n.log2 = 23 := by
  unfold longN
  split
  · exact ⟨11863283, by decide +kernel, by omega, by omega, by decide +kernel⟩
  · exact ⟨8388608, by decide +kernel, by omega, by omega, by decide +kernel⟩
theorem quo_pos {K x : Nat} (d : Nat) (hx : Bd K x) (hK : K ≤ 100) (h : 0 < valI x) : 0 < valI (fdiv x (longN d)) := by
  have hF : x % 2147483648 < 2139095040 := bd_Fin hx (by omega)
  have hx0 : x % 2147483648 ≠ 0 := fun h0 => by
    unfold valI at h
    rw [h0, valN_zero] at h
    split at h <;> omega
  obtain ⟨s, m, k, e1, hm, hl, _, _⟩ := read_num hF hx0
  obtain ⟨s', m', k', e', hsv, _, _⟩ := read_val hF
  have hee := e1.symm.trans e'
  simp only [Datum.number.injEq] at hee
  obtain ⟨rfl, rfl, hkk⟩ := hee
  obtain rfl : k = k' := by omega
  have hs0 : s = false := by
    cases s
    · rfl
    · rw [← hsv, signed_val, if_pos rfl] at h
      have := Nat.zero_le (m * 2 ^ k)
      omega
  subst hs0
  obtain ⟨n, e2, hn1, hn2, hn3⟩ := long_read d
  have hd : floatBits .quo .f32 x (longN d) = single.div x (longN d) := rfl
  unfold fdiv
  rw [hd]
  unfold Format.div
  rw [e1, e2]
  have hn : n ≠ 0 := by omega
  simp only [Datum.quotient, if_neg hn, Option.map_some, Option.getD_some, Format.write, single_frac]
  have hmore : 23 + 2 + n.log2 - m.log2 = 48 - m.log2 := by omega
  rw [hmore]
  generalize hE : 48 - m.log2 = more at *
  rw [show ((k : Int) - 149 - (((126 : Nat) : Int) - 149) - more - 1) = (k : Int) - ((126 + more + 1 : Nat) : Int) by omega]
  refine near_pos ?_
  rw [Nat.shiftLeft_eq]
  have hM48 : 2 ^ 48 ≤ m * 2 ^ more := by
    have h1 : 2 ^ m.log2 * 2 ^ more ≤ m * 2 ^ more := Nat.mul_le_mul_right _ (Nat.log2_self_le hm)
    rw [← Nat.pow_add, show m.log2 + more = 48 by omega] at h1
    exact h1
  have hMm : 1 * 2 ^ more ≤ m * 2 ^ more := Nat.mul_le_mul_right _ (Nat.pos_of_ne_zero hm)
  have hdm := Nat.div_add_mod (m * 2 ^ more) n
  have hml := Nat.mod_lt (m * 2 ^ more) (show 0 < n by omega)
  generalize (m * 2 ^ more % n != 0).toNat = st at *
  generalize hq : m * 2 ^ more / n = q at *
  generalize m * 2 ^ more % n = rr at *
  generalize m * 2 ^ more = M at *
  have hk : (2 : Nat) ^ (126 + more + 1) = 2 ^ 127 * 2 ^ more := by rw [← Nat.pow_add]; congr 1; omega
  have hk2 : (2 : Nat) ^ (k + 149) = 2 ^ 127 * (2 ^ 22 * 2 ^ k) := by rw [← Nat.pow_add, ← Nat.pow_add]; congr 1; omega
  rw [hk, hk2]
  generalize 2 ^ more = E at *
  have hP := Nat.two_pow_pos k
  generalize 2 ^ k = P at *
  have h7 : E < (2 * q + st) * 2 ^ 23 := by
    have h8 : E * 11863283 < (2 * q) * 2 ^ 23 * 11863283 := by
      have h9 : n * q ≤ 11863283 * q := Nat.mul_le_mul_right _ hn2
      have e23 : (2 : Nat) ^ 23 = 8388608 := by decide
      have e48 : (2 : Nat) ^ 48 = 281474976710656 := by decide
      rw [e23]
      rw [e48] at hM48
      omega
    have h10 : E < 2 * q * 2 ^ 23 := Nat.lt_of_mul_lt_mul_right h8
    exact Nat.lt_of_lt_of_le h10 (Nat.mul_le_mul_right _ (Nat.le_add_right _ _))
  have h11 : (2 * q + st) * 2 ^ 23 * 1 ≤ (2 * q + st) * 2 ^ 23 * P := Nat.mul_le_mul_left _ hP
  have e : 2 * ((2 * q + st) * (2 ^ 127 * (2 ^ 22 * P))) = 2 ^ 127 * ((2 * q + st) * 2 ^ 23 * P) := by
    have e23 : (2 : Nat) ^ 23 = 2 * 2 ^ 22 := by decide
    rw [e23]
    clear h7 h11 hk hk2 hM48 hMm e23
    generalize (2 : Nat) ^ 127 = Z
    generalize (2 : Nat) ^ 22 = Y
    generalize 2 * q + st = u
    ac_rfl
  rw [e]
  exact Nat.mul_lt_mul_of_pos_left (by omega) (Nat.two_pow_pos _)
theorem drop_pos {v : Nat → Nat} {k n : Nat} (d : Nat) (hk : Bd 20 (v k)) (hn : Bd 20 (v n)) (h : valI (v n) < valI (v k)) : 0 < valI (dropF v k n d) := by
  obtain ⟨h1, h2⟩ := fsub_ok hk hn (by omega)
  refine quo_pos d h2 (by omega) ?_
  have hkey := fsub_key (K := 20) hk hn (by omega)
  have hm := rkey_mono (show (1 : Int) ≤ valI (v k) - valI (v n) by omega)
  rw [← hkey] at hm
  have e1 : rkey 1 = 1 := by decide +kernel
  rw [e1] at hm
  have e0 : keyI 0 = 0 := by decide +kernel
  have := (val_key (x := 0) (y := fsub (v k) (v n))).2 (by rw [e0]; omega)
  rwa [val_zero] at this
theorem stp_neg {v : Nat → Nat} {Wn Hn k : Nat} : ∀ d, (stp v Wn Hn k d).1 < 0 → stp v Wn Hn k d = (-1, 0)
  | 0, _ => rfl
  | d + 1, h => by
    cases hn : nbr Wn Hn k d with
    | none =>
      rw [stp_none hn] at h ⊢
      exact stp_neg d h
    | some n =>
      rw [stp_some hn] at h ⊢
      split at h
      · simp at h
        omega
      · rename_i hg
        rw [if_neg hg]
        exact stp_neg d h
theorem stp_up1 {v : Nat → Nat} {Wn Hn k d : Nat} (h : 0 ≤ (stp v Wn Hn k d).1) : 0 ≤ (stp v Wn Hn k (d + 1)).1 := by
  cases hn : nbr Wn Hn k d with
  | none => rw [stp_none hn]; exact h
  | some n =>
    rw [stp_some hn]
    split
    · show (0 : Int) ≤ (d : Int)
      omega
    · exact h
theorem stp_upN {v : Nat → Nat} {Wn Hn k d : Nat} (h : 0 ≤ (stp v Wn Hn k d).1) : ∀ e, 0 ≤ (stp v Wn Hn k (d + e)).1
  | 0 => h
  | e + 1 => stp_up1 (stp_upN h e)
theorem stp_low {v : Nat → Nat} {Wn Hn k d n : Nat} (hv : ∀ j, j < Wn * Hn → Bd 20 (v j)) (hk : k < Wn * Hn) (hd : d < 8) (hn : nbr Wn Hn k d = some n) (h : valI (v n) < valI (v k)) : 0 ≤ (stp v Wn Hn k 8).1 := by
  have hp := drop_pos d (hv k hk) (hv n (nbr_lt hn)) h
  have h1 : 0 ≤ (stp v Wn Hn k (d + 1)).1 := by
    rcases Int.lt_or_le (stp v Wn Hn k d).1 0 with h2 | h2
    · have e := stp_neg d h2
      have hb := (drop_ok d (hv k hk) (hv n (nbr_lt hn))).2.2
      rw [stp_some hn, e, if_pos (by rw [gt_val (bd_Fin hb (by omega)) (show Fin 0 by unfold Fin; omega), val_zero]; simpa using hp)]
      show (0 : Int) ≤ (d : Int)
      omega
    · exact stp_up1 h2
  have := stp_upN h1 (7 - d)
  rwa [show d + 1 + (7 - d) = 8 by omega] at this
end Go.Proofs.Ytinohfgokpbcdaa

namespace Go.Proofs.Ytinohfgokpbcdaa
open Go.RowKit

section
variable (Wn Hn : Nat) (V : Nat → Int) (S : Nat → Bool)
/-- whether a neighbour of the same height has rank n -/
def nearR (r : Nat → Int) (n k : Nat) : Bool := (List.range 8).any fun d => match nbr Wn Hn k d with
  | some m => decide (V m = V k) && decide (r m = (n : Int))
  | none => false
/-- the ranks that are known after n rounds -/
def rk : Nat → Nat → Int
  | 0, k => if S k = true then 0 else -1
  | n + 1, k => if 0 ≤ rk n k then rk n k else if nearR Wn Hn V (rk n) n k = true then ((n + 1 : Nat) : Int) else -1
variable {Wn Hn V S}
theorem nearR_iff {r : Nat → Int} {n k : Nat} : nearR Wn Hn V r n k = true ↔ ∃ d m, d < 8 ∧ nbr Wn Hn k d = some m ∧ V m = V k ∧ r m = (n : Int) := by
  unfold nearR
  rw [List.any_eq_true]
  constructor
  · rintro ⟨d, hd, h⟩
    rw [List.mem_range] at hd
    cases hn : nbr Wn Hn k d with
    | none => rw [hn] at h; cases h
    | some m =>
      rw [hn] at h
      simp only [Bool.and_eq_true, decide_eq_true_eq] at h
      exact ⟨d, m, hd, hn, h.1, h.2⟩
  · rintro ⟨d, m, hd, hn, h1, h2⟩
    refine ⟨d, List.mem_range.2 hd, ?_⟩
    rw [hn]
    simp [h1, h2]
theorem rk_range (k : Nat) : ∀ n, rk Wn Hn V S n k = -1 ∨ 0 ≤ rk Wn Hn V S n k ∧ rk Wn Hn V S n k ≤ n
  | 0 => by unfold rk; split <;> simp
  | n + 1 => by
    have h := rk_range k n
    unfold rk
    split
    · right
      omega
    · split
      · right
        omega
      · exact .inl rfl
theorem rk_keep {n k : Nat} (h : 0 ≤ rk Wn Hn V S n k) : rk Wn Hn V S (n + 1) k = rk Wn Hn V S n k := by
  rw [rk, if_pos h]
theorem rk_keepN {n k : Nat} (h : 0 ≤ rk Wn Hn V S n k) : ∀ e, rk Wn Hn V S (n + e) k = rk Wn Hn V S n k
  | 0 => rfl
  | e + 1 => by
    have := rk_keepN h e
    rw [show n + (e + 1) = n + e + 1 by omega, rk_keep (by rw [this]; exact h), this]
theorem rk_back {k i : Nat} : ∀ {n}, rk Wn Hn V S n k = (i : Int) → rk Wn Hn V S i k = (i : Int)
  | 0, h => by
    have := rk_range (Wn := Wn) (Hn := Hn) (V := V) (S := S) k 0
    have : i = 0 := by omega
    subst this
    exact h
  | n + 1, h => by
    by_cases h0 : 0 ≤ rk Wn Hn V S n k
    · rw [rk_keep h0] at h
      exact rk_back h
    · have h2 := h
      rw [rk, if_neg h0] at h2
      split at h2
      · have : i = n + 1 := by omega
        subst this
        exact h
      · omega
theorem rk_near {n k m d i : Nat} (hd : d < 8) (hn : nbr Wn Hn k d = some m) (hv : V m = V k) (hr : rk Wn Hn V S n m = (i : Int)) : 0 ≤ rk Wn Hn V S (i + 1) k ∧ rk Wn Hn V S (i + 1) k ≤ i + 1 := by
  have hb := rk_back hr
  by_cases h0 : 0 ≤ rk Wn Hn V S i k
  · rw [rk_keep h0]
    have := rk_range (Wn := Wn) (Hn := Hn) (V := V) (S := S) k i
    omega
  · rw [rk, if_neg h0, if_pos (nearR_iff.2 ⟨d, m, hd, hn, hv, hb⟩)]
    omega
theorem rk_pred {n k i : Nat} (h : rk Wn Hn V S n k = ((i + 1 : Nat) : Int)) : ∃ d m, d < 8 ∧ nbr Wn Hn k d = some m ∧ V m = V k ∧ rk Wn Hn V S i m = (i : Int) := by
  have hb := rk_back h
  rw [rk] at hb
  by_cases h0 : 0 ≤ rk Wn Hn V S i k
  · rw [if_pos h0] at hb
    have := rk_range (Wn := Wn) (Hn := Hn) (V := V) (S := S) k i
    omega
  · rw [if_neg h0] at hb
    split at hb
    · rename_i hn
      exact nearR_iff.1 hn
    · omega
theorem rk_zero {n k : Nat} : rk Wn Hn V S n k = 0 ↔ S k = true := by
  constructor
  · intro h
    have hb := rk_back (i := 0) h
    unfold rk at hb
    split at hb
    · assumption
    · cases hb
  · intro h
    have h0 : rk Wn Hn V S 0 k = 0 := by unfold rk; rw [if_pos h]
    have := rk_keepN (n := 0) (k := k) (by rw [h0]; exact Int.le_refl _) n
    rw [Nat.zero_add] at this
    rw [this, h0]

/-- how many of the first N are so -/
def cntB (f : Nat → Bool) : Nat → Nat
  | 0 => 0
  | N + 1 => cntB f N + (if f N = true then 1 else 0)
theorem cntB_le (f : Nat → Bool) : ∀ N, cntB f N ≤ N
  | 0 => Nat.le_refl _
  | N + 1 => by
    have := cntB_le f N
    unfold cntB
    split <;> omega
theorem cntB_mono {f g : Nat → Bool} : ∀ N, (∀ k, k < N → g k = true → f k = true) → cntB g N ≤ cntB f N
  | 0, _ => Nat.le_refl _
  | N + 1, h => by
    have h1 := cntB_mono N (fun k hk => h k (by omega))
    have h2 := h N (by omega)
    unfold cntB
    cases hg : g N
    · simp
      omega
    · rw [h2 hg]
      omega
theorem cntB_lt {f g : Nat → Bool} {j : Nat} (hf : f j = true) (hg : g j = false) : ∀ N, j < N → (∀ k, k < N → g k = true → f k = true) → cntB g N < cntB f N
  | 0, h, _ => absurd h (by omega)
  | N + 1, hj, h => by
    unfold cntB
    by_cases e : j = N
    · subst e
      rw [hf, hg]
      have := cntB_mono j (fun k hk => h k (by omega))
      simp
      omega
    · have h1 := cntB_lt hf hg N (by omega) (fun k hk => h k (by omega))
      have h2 := h N (by omega)
      cases hgN : g N
      · simp
        omega
      · rw [h2 hgN]
        omega
theorem cntB_pos {f : Nat → Bool} {j : Nat} (hf : f j = true) : ∀ N, j < N → 0 < cntB f N
  | 0, h => absurd h (by omega)
  | N + 1, h => by
    unfold cntB
    by_cases e : j = N
    · subst e
      rw [hf]
      simp
    · have := cntB_pos hf N (by omega)
      omega
/-- a round that ranks no cell is followed by none that does -/
theorem rk_stop {N n : Nat} (hnb : ∀ k d m, k < N → nbr Wn Hn k d = some m → m < N) (h : ∀ k, k < N → rk Wn Hn V S (n + 1) k = rk Wn Hn V S n k) : ∀ e k, k < N → rk Wn Hn V S (n + e) k = rk Wn Hn V S n k
  | 0, k, _ => rfl
  | 1, k, hk => h k hk
  | e + 2, k, hk => by
    have ih1 := rk_stop hnb h (e + 1)
    have i1 := ih1 k hk
    rw [show n + (e + 2) = n + (e + 1) + 1 by omega]
    by_cases h0 : 0 ≤ rk Wn Hn V S (n + (e + 1)) k
    · rw [rk_keep h0, i1]
    · rw [rk, if_neg h0]
      rw [i1] at h0
      have hr := rk_range (Wn := Wn) (Hn := Hn) (V := V) (S := S) k n
      split
      · rename_i hn
        obtain ⟨d, m, hd, hm, _, hrm⟩ := nearR_iff.1 hn
        have hmN := hnb k d m hk hm
        rw [ih1 m hmN] at hrm
        have := rk_range (Wn := Wn) (Hn := Hn) (V := V) (S := S) m n
        omega
      · omega
theorem rk_all {N : Nat} (hnb : ∀ k d m, k < N → nbr Wn Hn k d = some m → m < N) (hs : ∃ k, k < N ∧ S k = true) (hreach : ∀ k, k < N → ∃ n, 0 ≤ rk Wn Hn V S n k) : ∀ k, k < N → 0 ≤ rk Wn Hn V S (N - 1) k := by
  have key : ∀ n, (∃ k, k < N ∧ rk Wn Hn V S n k < 0) → cntB (fun k => decide (rk Wn Hn V S n k < 0)) N + n + 1 ≤ N := by
    intro n
    induction n with
    | zero =>
      intro _
      obtain ⟨j, hj, hS⟩ := hs
      have h0 : rk Wn Hn V S 0 j = 0 := rk_zero.2 hS
      have h1 := cntB_lt (f := fun _ => true) (g := fun k => decide (rk Wn Hn V S 0 k < 0)) (j := j) rfl (by simp [h0]) N hj (fun _ _ _ => rfl)
      have h2 := cntB_le (fun _ => true) N
      omega
    | succ n ih =>
      rintro ⟨k, hk, hlt⟩
      have hk0 : rk Wn Hn V S n k < 0 := by
        rcases Int.lt_or_le (rk Wn Hn V S n k) 0 with h | h
        · exact h
        · rw [rk_keep h] at hlt
          omega
      have ih' := ih ⟨k, hk, hk0⟩
      -- some cell is ranked in this round
      have hnew : ∃ j, j < N ∧ rk Wn Hn V S (n + 1) j ≠ rk Wn Hn V S n j := Classical.byContradiction fun hno => by
        have hsame : ∀ j, j < N → rk Wn Hn V S (n + 1) j = rk Wn Hn V S n j := fun j hj => Classical.byContradiction fun h => hno ⟨j, hj, h⟩
        obtain ⟨m, hm⟩ := hreach k hk
        rcases Nat.le_total n m with h | h
        · have := rk_stop hnb hsame (m - n) k hk
          rw [show n + (m - n) = m by omega] at this
          omega
        · have := rk_keepN hm (n - m)
          rw [show m + (n - m) = n by omega] at this
          omega
      obtain ⟨j, hj, hne⟩ := hnew
      have hj0 : rk Wn Hn V S n j < 0 := by
        rcases Int.lt_or_le (rk Wn Hn V S n j) 0 with h | h
        · exact h
        · exact absurd (rk_keep h) hne
      have hj1 : 0 ≤ rk Wn Hn V S (n + 1) j := by
        have h1 := rk_range (Wn := Wn) (Hn := Hn) (V := V) (S := S) j n
        have h2 := rk_range (Wn := Wn) (Hn := Hn) (V := V) (S := S) j (n + 1)
        omega
      have := cntB_lt (f := fun k => decide (rk Wn Hn V S n k < 0)) (g := fun k => decide (rk Wn Hn V S (n + 1) k < 0)) (j := j) (by simpa using hj0) (by simpa using hj1) N hj (fun i hi h => by
        simp only [decide_eq_true_eq] at h ⊢
        rcases Int.lt_or_le (rk Wn Hn V S n i) 0 with h9 | h9
        · exact h9
        · rw [rk_keep h9] at h
          exact h)
      omega
  intro k hk
  rcases Int.lt_or_le (rk Wn Hn V S (N - 1) k) 0 with h | h
  · have h1 := key (N - 1) ⟨k, hk, h⟩
    have h2 := cntB_pos (f := fun k => decide (rk Wn Hn V S (N - 1) k < 0)) (j := k) (by simpa using h) N hk
    omega
  · exact h
end
/-- which cells drain -/
def srcB (v : Nat → Nat) (Wn Hn k : Nat) : Bool := decide (0 ≤ (stp v Wn Hn k 8).1) || brd Wn Hn k
def rkV (v : Nat → Nat) (Wn Hn : Nat) : Nat → Nat → Int := rk Wn Hn (fun k => valI (v k)) (srcB v Wn Hn)
theorem reach_all {Wn Hn : Nat} {h v : Nat → Nat} (hw : 1 ≤ Wn) (hh : ∀ k, k < Wn * Hn → Bd 20 (h k)) (hv : ∀ k, k < Wn * Hn → Bd 20 (v k)) (hL : LeastG Wn Hn h 0 (fun k => valI (v k))) : ∀ k, k < Wn * Hn → ∃ n, 0 ≤ rkV v Wn Hn n k := by
  have z10 : Bd 10 0 := zero_bd.mono (by omega)
  have key : ∀ k z, WayG Wn Hn h 0 k z → z = valI (v k) → ∃ n, 0 ≤ rkV v Wn Hn n k := by
    intro k z hway
    induction hway with
    | start hk he =>
      intro _
      refine ⟨0, ?_⟩
      have : rkV v Wn Hn 0 _ = 0 := rk_zero.2 (by unfold srcB; rw [he]; simp)
      rw [this]
      exact Int.le_refl _
    | @step n d k z hwn hn hd hnb hk ih =>
      intro hz
      have h1 := hL.2 n z hwn
      obtain ⟨b, hb, hbz⟩ := way_bd hh z10 (by rw [val_zero]; exact Int.le_refl _) hwn
      have h2 := infl_val hb z10 (by rw [val_zero]; exact Int.le_refl _)
      rw [hbz] at h2
      have hz' : max (valI (h k)) (upV 0 z) = valI (v k) := hz
      have h1' : valI (v n) ≤ z := h1
      have h3 : valI (v n) ≤ valI (v k) := by omega
      obtain ⟨d', hd', hnb'⟩ := nbr_symm hw hn hd hnb
      rcases Int.lt_or_eq_of_le h3 with h4 | h4
      · refine ⟨0, ?_⟩
        have hs := stp_low hv hk hd' hnb' h4
        have : rkV v Wn Hn 0 k = 0 := rk_zero.2 (by unfold srcB; simp [hs])
        rw [this]
        exact Int.le_refl _
      · obtain ⟨m, hm⟩ := ih (by omega)
        have hr := rk_range (Wn := Wn) (Hn := Hn) (V := fun k => valI (v k)) (S := srcB v Wn Hn) n m
        have hm' : 0 ≤ rk Wn Hn (fun k => valI (v k)) (srcB v Wn Hn) m n := hm
        have e : rk Wn Hn (fun k => valI (v k)) (srcB v Wn Hn) m n = ((rk Wn Hn (fun k => valI (v k)) (srcB v Wn Hn) m n).toNat : Int) := by omega
        exact ⟨_, (rk_near hd' hnb' h4 e).1⟩
  exact fun k hk => key k _ (hL.1 k hk) rfl
theorem ranked {Wn Hn N : Nat} {h v : Nat → Nat} (hw : 1 ≤ Wn) (hN : N = Wn * Hn) (hN1 : 1 ≤ N) (hh : ∀ k, k < N → Bd 20 (h k)) (hv : ∀ k, k < N → Bd 20 (v k)) (hL : LeastG Wn Hn h 0 (fun k => valI (v k))) : ∀ k, k < N → 0 ≤ rkV v Wn Hn (N - 1) k := by
  subst hN
  refine rk_all (fun k d m _ hm => nbr_lt hm) ⟨0, by omega, ?_⟩ (reach_all hw hh hv hL)
  unfold srcB brd
  simp
end Go.Proofs.Ytinohfgokpbcdaa

namespace Go.Proofs.Ytinohfgokpbcdaa
open Go.RowKit

theorem up_zero {b : Nat} (hb : Bd 36 b) : upV 0 (valI b) = valI b := by
  have z := zero_bd.mono (Nat.zero_le 36)
  have h1 := fadd_up hb (zero_bd.mono (by omega))
  have h2 := fadd_key (K := 36) hb z (by omega)
  rw [val_zero, Int.add_zero, rkey_val (bd_Fin hb (by omega))] at h2
  rw [← h1]
  exact val_key_eq.2 h2
theorem way_low {Wn Hn : Nat} {h : Nat → Nat} (hh : ∀ k, k < Wn * Hn → Bd 20 (h k)) {k : Nat} {z : Int} (hw : WayG Wn Hn h 0 k z) : ∃ j, j < Wn * Hn ∧ z = valI (h j) := by
  induction hw with
  | @start k hk he => exact ⟨k, hk, rfl⟩
  | @step n d k z hwn hn hd hnb hk ih =>
    obtain ⟨j, hj, rfl⟩ := ih
    rw [up_zero ((hh j hj).mono (by omega))]
    rcases Int.le_total (valI (h k)) (valI (h j)) with h1 | h1
    · exact ⟨j, hj, by show max (valI (h k)) (valI (h j)) = _; omega⟩
    · exact ⟨k, hk, by show max (valI (h k)) (valI (h j)) = _; omega⟩
theorem fill_bd {Wn Hn : Nat} {h v : Nat → Nat} (hh : ∀ k, k < Wn * Hn → Bd 20 (h k)) (hL : LeastG Wn Hn h 0 (fun k => valI (v k))) : ∀ k, k < Wn * Hn → Bd 20 (v k) := fun k hk => by
  obtain ⟨j, hj, e⟩ := way_low hh (hL.1 k hk)
  have e' : valI (v k) = valI (h j) := e
  rw [bd_valI (by omega), e', ← bd_valI (by omega)]
  exact hh j hj
section
variable {Wn Hn : Nat} {v : Nat → Nat}
theorem rkV_zero (k : Nat) : rkV v Wn Hn 0 k = if srcB v Wn Hn k = true then 0 else -1 := rfl
theorem rkV_eqn {n m : Nat} : rkV v Wn Hn (n + 1) m = (n : Int) ↔ rkV v Wn Hn n m = (n : Int) := by
  unfold rkV
  constructor
  · intro h
    by_cases h0 : 0 ≤ rk Wn Hn (fun k => valI (v k)) (srcB v Wn Hn) n m
    · rw [rk_keep h0] at h
      exact h
    · rw [rk, if_neg h0] at h
      split at h <;> omega
  · intro h
    rw [rk_keep (by rw [h]; omega)]
    exact h
theorem rkV_none {n k : Nat} (h0 : rkV v Wn Hn n k < 0) (h : ∀ d m, d < 8 → nbr Wn Hn k d = some m → ¬ (valI (v m) = valI (v k) ∧ rkV v Wn Hn n m = (n : Int))) : rkV v Wn Hn (n + 1) k = -1 := by
  unfold rkV at *
  rw [rk, if_neg (by omega), if_neg]
  rw [nearR_iff]
  rintro ⟨d, m, hd, hn, h1, h2⟩
  exact h d m hd hn ⟨h1, h2⟩
theorem rkV_some {n k d m : Nat} (h0 : rkV v Wn Hn n k < 0) (hd : d < 8) (hn : nbr Wn Hn k d = some m) (h1 : valI (v m) = valI (v k)) (h2 : rkV v Wn Hn n m = (n : Int)) : rkV v Wn Hn (n + 1) k = ((n + 1 : Nat) : Int) := by
  unfold rkV at *
  rw [rk, if_neg (by omega), if_pos (nearR_iff.2 ⟨d, m, hd, hn, h1, h2⟩)]
theorem rkV_old {n k : Nat} (h0 : 0 ≤ rkV v Wn Hn n k) : rkV v Wn Hn (n + 1) k = rkV v Wn Hn n k := rk_keep h0
theorem rkV_src {n k : Nat} (h : rkV v Wn Hn n k < 0) : srcB v Wn Hn k = false := by
  cases hs : srcB v Wn Hn k
  · rfl
  · have : rkV v Wn Hn n k = 0 := rk_zero.2 hs
    omega
theorem src_brd {k : Nat} (h : srcB v Wn Hn k = false) : brd Wn Hn k = false ∧ (stp v Wn Hn k 8).1 < 0 := by
  unfold srcB at h
  rw [Bool.or_eq_false_iff] at h
  exact ⟨h.2, by have := h.1; simp at this; omega⟩
theorem brd_all {k : Nat} (h1 : 1 ≤ Wn) (hk : k < Wn * Hn) (h : brd Wn Hn k = false) (d : Nat) (hd : d < 8) : ∃ m, nbr Wn Hn k d = some m := by
  cases hn : nbr Wn Hn k d with
  | some m => exact ⟨m, rfl⟩
  | none =>
    have := (brd_nbr h1 hk).2 ⟨d, hd, hn⟩
    rw [h] at this
    cases this
end
/-- the least rank beside a cell, of its height, and the first direction to it -/
def bstD (v : Nat → Nat) (R : Nat → Int) (Wn Hn k : Nat) : Nat → Int × Int
  | 0 => (-1, -1)
  | d + 1 => match nbr Wn Hn k d with
    | none => bstD v R Wn Hn k d
    | some m => if valI (v m) = valI (v k) ∧ 0 ≤ R m ∧ ((bstD v R Wn Hn k d).1 < 0 ∨ R m < (bstD v R Wn Hn k d).1) then (R m, (d : Int)) else bstD v R Wn Hn k d
theorem bst_some {v : Nat → Nat} {R : Nat → Int} {Wn Hn k d m : Nat} (h : nbr Wn Hn k d = some m) : bstD v R Wn Hn k (d + 1) = if valI (v m) = valI (v k) ∧ 0 ≤ R m ∧ ((bstD v R Wn Hn k d).1 < 0 ∨ R m < (bstD v R Wn Hn k d).1) then (R m, (d : Int)) else bstD v R Wn Hn k d := by simp [bstD, h]
/-- the directions by which all water leaves -/
def drnV (v : Nat → Nat) (R : Nat → Int) (Wn Hn k : Nat) : Int := if 0 ≤ (stp v Wn Hn k 8).1 then (stp v Wn Hn k 8).1 else if brd Wn Hn k = true then -1 else (bstD v R Wn Hn k 8).2
end Go.Proofs.Ytinohfgokpbcdaa

namespace Go.Proofs.Ytinohfgokpbcdaa
open Go.RowKit Ieee

theorem zero_read {x : Nat} (hF : Fin x) (h : valI x = 0) : ∃ (s : Bool) (k : Nat), single.read x = .number s 0 ((k : Int) - 149) := by
  obtain ⟨s, m, k, e, hv, hm, _⟩ := read_val hF
  rw [h] at hv
  have h2 := signed_abs s m k
  rw [hv] at h2
  have h3 : m * 2 ^ k = 0 := by simpa using h2.symm
  rcases Nat.mul_eq_zero.1 h3 with h4 | h4
  · rw [h4] at e
    exact ⟨s, k, e⟩
  · exact absurd h4 (Nat.pos_iff_ne_zero.1 (Nat.two_pow_pos _))
theorem nil_near (s : Bool) (p : Int) : valI (single.nearest s 0 p) = 0 := by
  unfold Format.nearest
  rw [if_pos rfl]
  cases s <;> decide +kernel
theorem quo_zero {x : Nat} (d : Nat) (hF : Fin x) (h0 : valI x = 0) : valI (fdiv x (longN d)) = 0 := by
  obtain ⟨s, k, e1⟩ := zero_read hF h0
  obtain ⟨n, e2, hn1, hn2, hn3⟩ := long_read d
  have hd : floatBits .quo .f32 x (longN d) = single.div x (longN d) := rfl
  unfold fdiv
  rw [hd]
  unfold Format.div
  rw [e1, e2]
  have hn : n ≠ 0 := by omega
  simp only [Datum.quotient, if_neg hn, Option.map_some, Option.getD_some, Format.write]
  simp [Nat.zero_shiftLeft, nil_near]
theorem one_val {a b : Nat} (ha : a < 4294967296) (hb : b < 4294967296) (h : valI a = valI b) (hz : valI a ≠ 0) : a = b := by
  have h1 := val_key_eq.1 h
  have hqz : a % 2147483648 ≠ 0 := fun h9 => hz (by unfold valI; rw [h9, valN_zero]; split <;> rfl)
  unfold keyI at h1
  split at h1 <;> split at h1 <;> omega
theorem drop_val {v v' : Nat → Nat} {k n : Nat} (d : Nat) (hk : Bd 20 (v k)) (hn : Bd 20 (v n)) (hk' : Bd 20 (v' k)) (hn' : Bd 20 (v' n)) (h1 : valI (v k) = valI (v' k)) (h2 : valI (v n) = valI (v' n)) : valI (dropF v k n d) = valI (dropF v' k n d) := by
  obtain ⟨g1, g2⟩ := fsub_ok hk hn (by omega)
  obtain ⟨f1, f2⟩ := fsub_ok hk' hn' (by omega)
  have e1 := fsub_key (K := 20) hk hn (by omega)
  have e2 := fsub_key (K := 20) hk' hn' (by omega)
  have hv : valI (fsub (v k) (v n)) = valI (fsub (v' k) (v' n)) := val_key_eq.2 (by rw [e1, e2, h1, h2])
  unfold dropF
  by_cases h0 : valI (fsub (v k) (v n)) = 0
  · rw [quo_zero d (bd_Fin g2 (by omega)) h0, quo_zero d (bd_Fin f2 (by omega)) (by rw [← hv]; exact h0)]
  · rw [one_val (Format.map_write_lt single (show single.sub (v k) (v n) = some _ from g1)) (Format.map_write_lt single (show single.sub (v' k) (v' n) = some _ from f1)) hv h0]
section
variable {v v' : Nat → Nat} {Wn Hn : Nat}
theorem stp_val (hb : ∀ j, j < Wn * Hn → Bd 20 (v j)) (hb' : ∀ j, j < Wn * Hn → Bd 20 (v' j)) (he : ∀ j, j < Wn * Hn → valI (v j) = valI (v' j)) {k : Nat} (hk : k < Wn * Hn) : ∀ d, (stp v Wn Hn k d).1 = (stp v' Wn Hn k d).1 ∧ valI (stp v Wn Hn k d).2 = valI (stp v' Wn Hn k d).2
  | 0 => ⟨rfl, rfl⟩
  | d + 1 => by
    have ih := stp_val hb hb' he hk d
    cases hn : nbr Wn Hn k d with
    | none => rw [stp_none hn, stp_none hn]; exact ih
    | some n =>
      have hnN := nbr_lt hn
      have hd := drop_val d (hb k hk) (hb n hnN) (hb' k hk) (hb' n hnN) (he k hk) (he n hnN)
      have b1 := stp_bd hb hk (fun d n h => nbr_lt h) d
      have b2 := stp_bd hb' hk (fun d n h => nbr_lt h) d
      have b3 := (drop_ok d (hb k hk) (hb n hnN)).2.2
      have b4 := (drop_ok d (hb' k hk) (hb' n hnN)).2.2
      have hg : gt (dropF v k n d) (stp v Wn Hn k d).2 = gt (dropF v' k n d) (stp v' Wn Hn k d).2 := by
        rw [gt_val (bd_Fin b3 (by omega)) (bd_Fin b1 (by omega)), gt_val (bd_Fin b4 (by omega)) (bd_Fin b2 (by omega)), hd, ih.2]
      rw [stp_some hn, stp_some hn, hg]
      split
      · exact ⟨rfl, hd⟩
      · exact ih
theorem src_val (hb : ∀ j, j < Wn * Hn → Bd 20 (v j)) (hb' : ∀ j, j < Wn * Hn → Bd 20 (v' j)) (he : ∀ j, j < Wn * Hn → valI (v j) = valI (v' j)) {k : Nat} (hk : k < Wn * Hn) : srcB v Wn Hn k = srcB v' Wn Hn k := by
  unfold srcB
  rw [(stp_val hb hb' he hk 8).1]
theorem rk_congr {V V' : Nat → Int} {S S' : Nat → Bool} (hV : ∀ k, k < Wn * Hn → V k = V' k) (hS : ∀ k, k < Wn * Hn → S k = S' k) : ∀ n k, k < Wn * Hn → rk Wn Hn V S n k = rk Wn Hn V' S' n k
  | 0, k, hk => by rw [rk, rk, hS k hk]
  | n + 1, k, hk => by
    have ih := rk_congr hV hS n
    rw [rk, rk, ih k hk]
    have hn : nearR Wn Hn V (rk Wn Hn V S n) n k = nearR Wn Hn V' (rk Wn Hn V' S' n) n k := by
      rw [Bool.eq_iff_iff, nearR_iff, nearR_iff]
      constructor
      · rintro ⟨d, m, hd, hm, h1, h2⟩
        exact ⟨d, m, hd, hm, by rw [← hV k hk, ← hV m (nbr_lt hm)]; exact h1, by rw [← ih m (nbr_lt hm)]; exact h2⟩
      · rintro ⟨d, m, hd, hm, h1, h2⟩
        exact ⟨d, m, hd, hm, by rw [hV k hk, hV m (nbr_lt hm)]; exact h1, by rw [ih m (nbr_lt hm)]; exact h2⟩
    rw [hn]
theorem bst_congr {R R' : Nat → Int} (he : ∀ j, j < Wn * Hn → valI (v j) = valI (v' j)) (hR : ∀ j, j < Wn * Hn → R j = R' j) {k : Nat} (hk : k < Wn * Hn) : ∀ d, bstD v R Wn Hn k d = bstD v' R' Wn Hn k d
  | 0 => rfl
  | d + 1 => by
    have ih := bst_congr he hR hk d
    cases hn : nbr Wn Hn k d with
    | none => rw [bstD, bstD, hn]; exact ih
    | some m => rw [bst_some hn, bst_some hn, ih, he m (nbr_lt hn), he k hk, hR m (nbr_lt hn)]
/-- the last directions hang on the values of the heights alone -/
theorem drn_val (hb : ∀ j, j < Wn * Hn → Bd 20 (v j)) (hb' : ∀ j, j < Wn * Hn → Bd 20 (v' j)) (he : ∀ j, j < Wn * Hn → valI (v j) = valI (v' j)) (n : Nat) {k : Nat} (hk : k < Wn * Hn) : drnV v (rkV v Wn Hn n) Wn Hn k = drnV v' (rkV v' Wn Hn n) Wn Hn k := by
  unfold drnV
  rw [(stp_val hb hb' he hk 8).1, bst_congr he (fun j hj => show rkV v Wn Hn n j = rkV v' Wn Hn n j from rk_congr he (fun k hk => src_val hb hb' he hk) n j hj) hk 8]
end
end Go.Proofs.Ytinohfgokpbcdaa

namespace Go.Proofs.Ytinohfgokpbcdaa
open Go.RowKit

/-- what is known of the last ranks -/
structure Rk (Wn Hn N : Nat) (V : Nat → Int) (S : Nat → Bool) (K : Nat → Int) : Prop where
  pos : ∀ k, k < N → 0 ≤ K k ∧ K k < N
  src : ∀ k, k < N → (K k = 0 ↔ S k = true)
  pred : ∀ k, k < N → ∀ i : Nat, K k = ((i + 1 : Nat) : Int) → ∃ d m, d < 8 ∧ nbr Wn Hn k d = some m ∧ V m = V k ∧ K m = (i : Int)
  near : ∀ k d m, k < N → d < 8 → nbr Wn Hn k d = some m → V m = V k → K k ≤ K m + 1
theorem Rk.of {Wn Hn N : Nat} {v : Nat → Nat} (hN : N = Wn * Hn) (hN1 : 1 ≤ N) (h : ∀ k, k < N → 0 ≤ rkV v Wn Hn (N - 1) k) : Rk Wn Hn N (fun k => valI (v k)) (srcB v Wn Hn) (rkV v Wn Hn (N - 1)) := by
  refine ⟨fun k hk => ?_, fun k hk => rk_zero, fun k hk i hi => ?_, fun k d m hk hd hn hv => ?_⟩
  · have h1 := rk_range (Wn := Wn) (Hn := Hn) (V := fun k => valI (v k)) (S := srcB v Wn Hn) k (N - 1)
    have h2 := h k hk
    have h3 : rkV v Wn Hn (N - 1) k = rk Wn Hn (fun k => valI (v k)) (srcB v Wn Hn) (N - 1) k := rfl
    omega
  · obtain ⟨d, m, hd, hn, hv, hm⟩ := rk_pred (n := N - 1) (k := k) (i := i) hi
    refine ⟨d, m, hd, hn, hv, ?_⟩
    have h1 := rk_range (Wn := Wn) (Hn := Hn) (V := fun k => valI (v k)) (S := srcB v Wn Hn) k (N - 1)
    have h3 : rkV v Wn Hn (N - 1) k = rk Wn Hn (fun k => valI (v k)) (srcB v Wn Hn) (N - 1) k := rfl
    have h4 := rk_keepN (n := i) (k := m) (by rw [hm]; omega) (N - 1 - i)
    rw [show i + (N - 1 - i) = N - 1 by omega, hm] at h4
    exact h4
  · have hmN : m < N := by rw [hN]; exact nbr_lt hn
    have h2 := h m hmN
    have h3 : rkV v Wn Hn (N - 1) m = rk Wn Hn (fun k => valI (v k)) (srcB v Wn Hn) (N - 1) m := rfl
    have h5 : rkV v Wn Hn (N - 1) k = rk Wn Hn (fun k => valI (v k)) (srcB v Wn Hn) (N - 1) k := rfl
    obtain ⟨i, hi⟩ : ∃ i : Nat, rkV v Wn Hn (N - 1) m = (i : Int) := ⟨(rkV v Wn Hn (N - 1) m).toNat, by omega⟩
    have h4 := rk_near (n := N - 1) (k := k) (m := m) (d := d) hd hn hv hi
    have h6 := rk_range (Wn := Wn) (Hn := Hn) (V := fun k => valI (v k)) (S := srcB v Wn Hn) k (N - 1)
    rcases Nat.lt_or_ge (N - 1) (i + 1) with h7 | h7
    · omega
    · have h8 := rk_keepN (n := i + 1) (k := k) h4.1 (N - 1 - (i + 1))
      rw [show i + 1 + (N - 1 - (i + 1)) = N - 1 by omega] at h8
      omega

/-- what holds of the queue: cur: the cell that is looked at, and how many of its directions have been -/
structure BQ (Wn Hn N : Nat) (V : Nat → Int) (K : Nat → Int) (o : Nat → Int) (L : List Nat) (cur : Option (Nat × Nat)) : Prop where
  rank : ∀ k, k < N → o k = N ∨ o k = K k
  inL : ∀ k ∈ L, k < N ∧ o k = K k
  sorted : L.Pairwise fun a b => K a ≤ K b
  near : ∀ a ∈ L, ∀ b ∈ L, K b ≤ K a + 1
  cur1 : ∀ p d, cur = some (p, d) → p < N ∧ o p = K p ∧ (∀ a ∈ L, K p ≤ K a ∧ K a ≤ K p + 1) ∧ ∀ d' m, d' < d → nbr Wn Hn p d' = some m → V m = V p → o m ≠ N
  done : ∀ p, p < N → o p = K p → p ∈ L ∨ (∃ d, cur = some (p, d)) ∨ ∀ d m, d < 8 → nbr Wn Hn p d = some m → V m = V p → o m ≠ N
  zero : ∀ k, k < N → K k = 0 → o k = K k
section
variable {Wn Hn N : Nat} {V : Nat → Int} {S : Nat → Bool} {K o : Nat → Int} {L : List Nat} {cur : Option (Nat × Nat)}
/-- a cell that is not seen is farther than the one that is looked at -/
theorem BQ.low (hR : Rk Wn Hn N V S K) (hw : 1 ≤ Wn) (hN : N = Wn * Hn) {p d : Nat} (h : BQ Wn Hn N V K o L (some (p, d))) : ∀ i k, k < N → o k = N → K k = (i : Nat) → K p + 1 ≤ K k
  | 0, k, hk, ho, hi => by
    have h1 := h.zero k hk (by simpa using hi)
    have := (hR.pos k hk).2
    omega
  | i + 1, k, hk, ho, hi => by
    obtain ⟨d', m, hd, hn, hv, hm⟩ := hR.pred k hk i hi
    have hmN : m < N := by rw [hN]; exact nbr_lt hn
    have hp := (hR.pos m hmN).2
    rcases h.rank m hmN with ho' | ho'
    · have := BQ.low hR hw hN h i m hmN ho' hm
      omega
    · obtain ⟨hc1, hc2, hc3, hc4⟩ := h.cur1 p d rfl
      rcases h.done m hmN ho' with hL | ⟨e, he⟩ | hall
      · have := (hc3 m hL).1
        omega
      · injection he with he
        injection he with he1 he2
        subst he1
        omega
      · obtain ⟨d2, hd2, hn2⟩ := nbr_symm hw (by rw [← hN]; exact hk) hd hn
        exact absurd ho (hall d2 k hd2 hn2 hv.symm)
theorem BQ.take {p : Nat} (h : BQ Wn Hn N V K o (p :: L) none) : BQ Wn Hn N V K o L (some (p, 0)) := by
  have hp := h.inL p (by simp)
  have hs := List.pairwise_cons.1 h.sorted
  refine ⟨h.rank, fun k hk => h.inL k (by simp [hk]), hs.2, fun a ha b hb => h.near a (by simp [ha]) b (by simp [hb]), ?_, ?_, h.zero⟩
  · intro p' d he
    injection he with he
    injection he with he1 he2
    subst he1
    subst he2
    exact ⟨hp.1, hp.2, fun a ha => ⟨hs.1 a ha, h.near p (by simp) a (by simp [ha])⟩, fun d' m hd => absurd hd (by omega)⟩
  · intro q hq ho
    rcases h.done q hq ho with hL | ⟨e, he⟩ | hall
    · rcases List.mem_cons.1 hL with rfl | hL
      · exact .inr (.inl ⟨0, rfl⟩)
      · exact .inl hL
    · cases he
    · exact .inr (.inr hall)
theorem BQ.all {p : Nat} (h : BQ Wn Hn N V K o L (some (p, 8))) : BQ Wn Hn N V K o L none := by
  obtain ⟨_, _, _, hc4⟩ := h.cur1 p 8 rfl
  refine ⟨h.rank, h.inL, h.sorted, h.near, fun p d he => (by cases he), ?_, h.zero⟩
  intro q hq ho
  rcases h.done q hq ho with hL | ⟨e, he⟩ | hall
  · exact .inl hL
  · injection he with he
    injection he with he1 he2
    subst he1
    exact .inr (.inr hc4)
  · exact .inr (.inr hall)
theorem BQ.skip {p d : Nat} (h : BQ Wn Hn N V K o L (some (p, d))) (hs : ∀ m, nbr Wn Hn p d = some m → V m = V p → o m ≠ N) : BQ Wn Hn N V K o L (some (p, d + 1)) := by
  obtain ⟨hc1, hc2, hc3, hc4⟩ := h.cur1 p d rfl
  refine ⟨h.rank, h.inL, h.sorted, h.near, ?_, ?_, h.zero⟩
  · intro p' d' he
    injection he with he
    injection he with he1 he2
    subst he1
    subst he2
    refine ⟨hc1, hc2, hc3, fun d' m hd hn hv => ?_⟩
    by_cases e : d' = d
    · subst e
      exact hs m hn hv
    · exact hc4 d' m (by omega) hn hv
  · intro q hq ho
    rcases h.done q hq ho with hL | ⟨e, he⟩ | hall
    · exact .inl hL
    · injection he with he
      injection he with he1 he2
      subst he1
      exact .inr (.inl ⟨d + 1, rfl⟩)
    · exact .inr (.inr hall)
theorem BQ.push (hR : Rk Wn Hn N V S K) (hw : 1 ≤ Wn) (hN : N = Wn * Hn) {p d m : Nat} (hd : d < 8) (h : BQ Wn Hn N V K o L (some (p, d))) (hn : nbr Wn Hn p d = some m) (hv : V m = V p) (ho : o m = N) :
    K m = o p + 1 ∧ BQ Wn Hn N V K (updF o m (o p + 1)) (L ++ [m]) (some (p, d + 1)) := by
  obtain ⟨hc1, hc2, hc3, hc4⟩ := h.cur1 p d rfl
  have hmN : m < N := by rw [hN]; exact nbr_lt hn
  obtain ⟨d2, hd2, hn2⟩ := nbr_symm hw (by rw [← hN]; exact hc1) hd hn
  have h1 := hR.near m d2 p hmN hd2 hn2 hv.symm
  have hp := hR.pos m hmN
  have h2 := BQ.low hR hw hN h (K m).toNat m hmN ho (by omega)
  have hK : K m = o p + 1 := by omega
  have hseen : ∀ q, o q ≠ N → updF o m (o p + 1) q ≠ N := fun q hq => by
    unfold updF
    split
    · rw [← hK]
      omega
    · exact hq
  have hsame : ∀ q, o q ≠ N → updF o m (o p + 1) q = o q := fun q hq => by
    have : q ≠ m := fun e => hq (by rw [e, ho])
    exact updF_ne _ _ this
  have hsm : updF o m (o p + 1) m = K m := by rw [updF_same, hK]
  have hne : ∀ q, q < N → o q = K q → o q ≠ N := fun q hq he => by
    have := (hR.pos q hq).2
    omega
  refine ⟨hK, ?_, ?_, ?_, ?_, ?_, ?_, ?_⟩
  · intro k hk
    by_cases e : k = m
    · subst e
      exact .inr hsm
    · rw [updF_ne _ _ e]
      exact h.rank k hk
  · intro k hk
    rcases List.mem_append.1 hk with hk | hk
    · obtain ⟨a1, a2⟩ := h.inL k hk
      exact ⟨a1, by rw [hsame k (hne k a1 a2)]; exact a2⟩
    · obtain rfl := List.mem_singleton.1 hk
      exact ⟨hmN, hsm⟩
  · refine List.pairwise_append.2 ⟨h.sorted, List.pairwise_singleton _ _, fun a ha b hb => ?_⟩
    obtain rfl := List.mem_singleton.1 hb
    have := (hc3 a ha).2
    omega
  · intro a ha b hb
    rcases List.mem_append.1 ha with ha1 | ha1
    · rcases List.mem_append.1 hb with hb1 | hb1
      · exact h.near a ha1 b hb1
      · have e := List.mem_singleton.1 hb1
        have := (hc3 a ha1).1
        rw [e]
        omega
    · have e := List.mem_singleton.1 ha1
      rcases List.mem_append.1 hb with hb1 | hb1
      · have := (hc3 b hb1).2
        rw [e]
        omega
      · have e2 := List.mem_singleton.1 hb1
        rw [e, e2]
        omega
  · intro p' d' he
    injection he with he
    injection he with he1 he2
    subst he1
    subst he2
    refine ⟨hc1, by rw [hsame p (hne p hc1 hc2)]; exact hc2, fun a ha => ?_, fun d' m' hd' hn' hv' => ?_⟩
    · rcases List.mem_append.1 ha with ha | ha
      · exact hc3 a ha
      · obtain rfl := List.mem_singleton.1 ha
        omega
    · by_cases e : d' = d
      · subst e
        obtain rfl : m = m' := Option.some.inj (hn.symm.trans hn')
        rw [updF_same, ← hK]
        omega
      · exact hseen m' (hc4 d' m' (by omega) hn' hv')
  · intro q hq ho2
    by_cases e : q = m
    · subst e
      exact .inl (by simp)
    · rw [updF_ne _ _ e] at ho2
      rcases h.done q hq ho2 with hL | ⟨e2, he⟩ | hall
      · exact .inl (by simp [hL])
      · injection he with he
        injection he with he1 he2
        subst he1
        exact .inr (.inl ⟨d + 1, rfl⟩)
      · exact .inr (.inr fun d m' hd hn hv => hseen m' (hall d m' hd hn hv))
  · intro k hk hz
    by_cases e : k = m
    · subst e
      exact hsm
    · rw [updF_ne _ _ e]
      exact h.zero k hk hz
/-- where the queue is empty all cells are ranked -/
theorem BQ.fin (hR : Rk Wn Hn N V S K) (hw : 1 ≤ Wn) (hN : N = Wn * Hn) (h : BQ Wn Hn N V K o [] none) : ∀ k, k < N → o k = K k := by
  have key : ∀ i k, k < N → K k = (i : Nat) → o k = K k := by
    intro i
    induction i with
    | zero => exact fun k hk hi => h.zero k hk (by simpa using hi)
    | succ i ih =>
      intro k hk hi
      obtain ⟨d', m, hd, hn, hv, hm⟩ := hR.pred k hk i hi
      have hmN : m < N := by rw [hN]; exact nbr_lt hn
      rcases h.rank k hk with ho | ho
      · rcases h.done m hmN (ih m hmN hm) with hL | ⟨e, he⟩ | hall
        · cases hL
        · cases he
        · obtain ⟨d2, hd2, hn2⟩ := nbr_symm hw (by rw [← hN]; exact hk) hd hn
          exact absurd ho (hall d2 k hd2 hn2 hv.symm)
      · exact ho
  intro k hk
  have := hR.pos k hk
  exact key (K k).toNat k hk (by omega)
end
end Go.Proofs.Ytinohfgokpbcdaa

namespace Go.Proofs.Ytinohfgokpbcdaa
open Go.RowKit Ieee

theorem near_neg (m : Nat) (p : Int) : valI (single.nearest true m p) ≤ 0 := by
  have hw : ∀ r, r < 2147483648 → valI (single.word true r) ≤ 0 := fun r h => by
    have h1 := key_word (s := true) h
    have e0 : keyI 0 = 0 := by decide +kernel
    have := (val_key_le (x := single.word true r) (y := 0)).2 (by rw [h1, e0, if_pos rfl]; omega)
    rwa [val_zero] at this
  unfold Format.nearest
  split
  · exact hw 0 (by omega)
  · refine hw _ ?_
    simp only [single_inf]
    omega
theorem quo_nonpos {K x : Nat} (d : Nat) (hx : Bd K x) (hK : K ≤ 100) (h : valI x ≤ 0) : valI (fdiv x (longN d)) ≤ 0 := by
  have hF := bd_Fin hx (by omega)
  rcases Int.lt_or_le (valI x) 0 with h0 | h0
  · obtain ⟨s, m, k, e1, hv, _⟩ := read_val hF
    have hs : s = true := by
      cases s
      · rw [signed_val] at hv
        simp only [Bool.false_eq_true, if_false] at hv
        omega
      · rfl
    subst hs
    obtain ⟨n, e2, hn1, hn2, hn3⟩ := long_read d
    have hd : floatBits .quo .f32 x (longN d) = single.div x (longN d) := rfl
    unfold fdiv
    rw [hd]
    unfold Format.div
    rw [e1, e2]
    have hn : n ≠ 0 := by omega
    simp only [Datum.quotient, if_neg hn, Option.map_some, Option.getD_some, Format.write]
    exact near_neg _ _
  · rw [quo_zero d hF (by omega)]
    exact Int.le_refl _
theorem drop_low {v : Nat → Nat} {k n : Nat} (d : Nat) (hk : Bd 20 (v k)) (hn : Bd 20 (v n)) (h : 0 < valI (dropF v k n d)) : valI (v n) < valI (v k) := by
  rcases Int.lt_or_le (valI (v n)) (valI (v k)) with h1 | h1
  · exact h1
  · exfalso
    obtain ⟨_, h2⟩ := fsub_ok hk hn (by omega)
    have hkey := fsub_key (K := 20) hk hn (by omega)
    have hm := rkey_mono (show valI (v k) - valI (v n) ≤ 0 by omega)
    rw [← hkey] at hm
    have e1 : rkey 0 = 0 := by decide +kernel
    rw [e1] at hm
    have e0 : keyI 0 = 0 := by decide +kernel
    have h3 := (val_key_le (x := fsub (v k) (v n)) (y := 0)).2 (by rw [e0]; omega)
    rw [val_zero] at h3
    have h4 : valI (dropF v k n d) ≤ 0 := quo_nonpos d h2 (by omega) h3
    omega
theorem stp_down {v : Nat → Nat} {Wn Hn k : Nat} (hv : ∀ j, j < Wn * Hn → Bd 20 (v j)) (hk : k < Wn * Hn) : ∀ e, e ≤ 8 → 0 ≤ (stp v Wn Hn k e).1 → ∃ d n, (stp v Wn Hn k e).1 = ((d : Nat) : Int) ∧ d < e ∧ nbr Wn Hn k d = some n ∧ valI (v n) < valI (v k)
  | 0, _, h => by simp [stp] at h
  | e + 1, he, h => by
    cases hn : nbr Wn Hn k e with
    | none =>
      rw [stp_none hn] at h ⊢
      obtain ⟨d, n, h1, h2, h3⟩ := stp_down hv hk e (by omega) h
      exact ⟨d, n, h1, by omega, h3⟩
    | some n =>
      rw [stp_some hn] at h ⊢
      split at h
      · rename_i hg
        rw [if_pos hg]
        refine ⟨e, n, rfl, by omega, hn, ?_⟩
        have hb := (drop_ok e (hv k hk) (hv n (nbr_lt hn))).2.2
        have hb2 := stp_bd hv hk (fun d m h => nbr_lt h) e
        rw [gt_val (bd_Fin hb (by omega)) (bd_Fin hb2 (by omega))] at hg
        have h0 := stp_nonneg hv hk e
        have hg2 : valI (stp v Wn Hn k e).2 < valI (dropF v k n e) := by simpa using hg
        exact drop_low e (hv k hk) (hv n (nbr_lt hn)) (by omega)
      · rename_i hg
        rw [if_neg hg]
        obtain ⟨d, n, h1, h2, h3⟩ := stp_down hv hk e (by omega) h
        exact ⟨d, n, h1, by omega, h3⟩
theorem bst_least {v : Nat → Nat} {R : Nat → Int} {Wn Hn k : Nat} : ∀ e, (bstD v R Wn Hn k e = (-1, -1) ∧ ∀ d m, d < e → nbr Wn Hn k d = some m → ¬ (valI (v m) = valI (v k) ∧ 0 ≤ R m)) ∨
    (∃ d n, d < e ∧ nbr Wn Hn k d = some n ∧ valI (v n) = valI (v k) ∧ 0 ≤ R n ∧ bstD v R Wn Hn k e = (R n, ((d : Nat) : Int)) ∧ ∀ c m, c < e → nbr Wn Hn k c = some m → valI (v m) = valI (v k) → 0 ≤ R m → R n ≤ R m)
  | 0 => .inl ⟨rfl, fun d m h => by omega⟩
  | e + 1 => by
    have ih := bst_least (v := v) (R := R) (Wn := Wn) (Hn := Hn) (k := k) e
    cases hn : nbr Wn Hn k e with
    | none =>
      have e1 : bstD v R Wn Hn k (e + 1) = bstD v R Wn Hn k e := by simp [bstD, hn]
      rw [e1]
      have hc : ∀ c m, c < e + 1 → nbr Wn Hn k c = some m → c < e := fun c m h1 h2 => by
        rcases Nat.lt_or_ge c e with h3 | h3
        · exact h3
        · obtain rfl : c = e := by omega
          rw [hn] at h2
          cases h2
      rcases ih with ⟨h1, h2⟩ | ⟨d, n, h1, h2, h3, h4, h5, h6⟩
      · exact .inl ⟨h1, fun d m hd hm => h2 d m (hc d m hd hm) hm⟩
      · exact .inr ⟨d, n, by omega, h2, h3, h4, h5, fun c m hc' hm => h6 c m (hc c m hc' hm) hm⟩
    | some j =>
      rw [bst_some hn]
      by_cases hj : valI (v j) = valI (v k) ∧ 0 ≤ R j
      · rcases ih with ⟨h1, h2⟩ | ⟨d, n, h1, h2, h3, h4, h5, h6⟩
        · rw [h1, if_pos ⟨hj.1, hj.2, .inl (by decide)⟩]
          refine .inr ⟨e, j, by omega, hn, hj.1, hj.2, rfl, fun c m hc hm hv h0 => ?_⟩
          rcases Nat.lt_or_ge c e with h3 | h3
          · exact absurd ⟨hv, h0⟩ (h2 c m h3 hm)
          · obtain rfl : c = e := by omega
            rw [hn] at hm
            cases hm
            exact Int.le_refl _
        · rw [h5]
          by_cases hl : R j < R n
          · rw [if_pos ⟨hj.1, hj.2, .inr hl⟩]
            refine .inr ⟨e, j, by omega, hn, hj.1, hj.2, rfl, fun c m hc hm hv h0 => ?_⟩
            rcases Nat.lt_or_ge c e with h7 | h7
            · have := h6 c m h7 hm hv h0
              omega
            · obtain rfl : c = e := by omega
              rw [hn] at hm
              cases hm
              exact Int.le_refl _
          · rw [if_neg (by rintro ⟨_, _, h | h⟩ <;> simp at h <;> omega)]
            refine .inr ⟨d, n, by omega, h2, h3, h4, rfl, fun c m hc hm hv h0 => ?_⟩
            rcases Nat.lt_or_ge c e with h7 | h7
            · exact h6 c m h7 hm hv h0
            · obtain rfl : c = e := by omega
              rw [hn] at hm
              cases hm
              omega
      · rw [if_neg (fun h => hj ⟨h.1, h.2.1⟩)]
        have hc : ∀ c m, c < e + 1 → nbr Wn Hn k c = some m → valI (v m) = valI (v k) → 0 ≤ R m → c < e := fun c m h1 h2 h3 h4 => by
          rcases Nat.lt_or_ge c e with h5 | h5
          · exact h5
          · obtain rfl : c = e := by omega
            rw [hn] at h2
            cases h2
            exact absurd ⟨h3, h4⟩ hj
        rcases ih with ⟨h1, h2⟩ | ⟨d, n, h1, h2, h3, h4, h5, h6⟩
        · exact .inl ⟨h1, fun d m hd hm h => h2 d m (hc d m hd hm h.1 h.2) hm h⟩
        · exact .inr ⟨d, n, by omega, h2, h3, h4, h5, fun c m hc' hm hv h0 => h6 c m (hc c m hc' hm hv h0) hm hv h0⟩

/-- directions that lead downward: each that is one leads to a neighbour of less (by m) -/
structure Lead (Wn Hn N : Nat) (D : Nat → Int) (m : Nat → Nat) : Prop where
  rng : ∀ k, k < N → -1 ≤ D k ∧ D k < 8
  step : ∀ k, k < N → 0 ≤ D k → ∃ n, nbr Wn Hn k (D k).toNat = some n ∧ m n < m k
/-- what lies lower, or at the same height and nearer -/
def lowB (v : Nat → Nat) (R : Nat → Int) (j k : Nat) : Bool := decide (valI (v j) < valI (v k)) || (decide (valI (v j) = valI (v k)) && decide (R j < R k))
theorem low_cnt {v : Nat → Nat} {R : Nat → Int} {N n k : Nat} (hn : n < N) (h : lowB v R n k = true) : cntB (fun j => lowB v R j n) N < cntB (fun j => lowB v R j k) N := by
  refine cntB_lt (j := n) h ?_ N hn (fun j _ hj => ?_)
  · unfold lowB
    simp
  · unfold lowB at *
    simp only [Bool.or_eq_true, Bool.and_eq_true, decide_eq_true_eq] at *
    omega
theorem drn_key {Wn Hn N : Nat} {h v : Nat → Nat} (hw : 1 ≤ Wn) (hN : N = Wn * Hn) (hN1 : 1 ≤ N) (hh : ∀ k, k < N → Bd 20 (h k)) (hv : ∀ k, k < N → Bd 20 (v k)) (hL : LeastG Wn Hn h 0 (fun k => valI (v k))) : ∀ k, k < N → (drnV v (rkV v Wn Hn (N - 1)) Wn Hn k = -1 ∧ brd Wn Hn k = true) ∨ ∃ d n, drnV v (rkV v Wn Hn (N - 1)) Wn Hn k = ((d : Nat) : Int) ∧ d < 8 ∧ nbr Wn Hn k d = some n ∧ lowB v (rkV v Wn Hn (N - 1)) n k = true := by
  have hR := Rk.of hN hN1 (ranked hw hN hN1 hh hv hL)
  intro k hk
  unfold drnV
  by_cases h0 : 0 ≤ (stp v Wn Hn k 8).1
  · rw [if_pos h0]
    obtain ⟨d, n, h1, h2, h3, h4⟩ := stp_down (by rw [← hN]; exact hv) (by rw [← hN]; exact hk) 8 (Nat.le_refl _) h0
    refine .inr ⟨d, n, h1, h2, h3, ?_⟩
    unfold lowB
    simp [h4]
  · rw [if_neg h0]
    by_cases hb : brd Wn Hn k = true
    · rw [if_pos hb]
      exact .inl ⟨rfl, hb⟩
    · rw [if_neg hb]
      right
      have hS : srcB v Wn Hn k = false := by
        unfold srcB
        simp [h0, hb]
      have hp := hR.pos k hk
      have hz : rkV v Wn Hn (N - 1) k ≠ 0 := fun e => by
        rw [(hR.src k hk).1 e] at hS
        cases hS
      obtain ⟨i, hi⟩ : ∃ i : Nat, rkV v Wn Hn (N - 1) k = ((i + 1 : Nat) : Int) := ⟨(rkV v Wn Hn (N - 1) k).toNat - 1, by omega⟩
      obtain ⟨d, m, hd, hn, hvv, hm⟩ := hR.pred k hk i hi
      rcases bst_least (v := v) (R := rkV v Wn Hn (N - 1)) (Wn := Wn) (Hn := Hn) (k := k) 8 with ⟨h1, h2⟩ | ⟨d', n, h1, h2, h3, h4, h5, h6⟩
      · exact absurd ⟨hvv, by omega⟩ (h2 d m hd hn)
      · refine ⟨d', n, by rw [h5], h1, h2, ?_⟩
        have := h6 d m hd hn hvv (by omega)
        unfold lowB
        simp only [Bool.or_eq_true, Bool.and_eq_true, decide_eq_true_eq]
        right
        exact ⟨h3, by omega⟩
theorem drn_edge {Wn Hn N : Nat} {h v : Nat → Nat} (hw : 1 ≤ Wn) (hN : N = Wn * Hn) (hN1 : 1 ≤ N) (hh : ∀ k, k < N → Bd 20 (h k)) (hv : ∀ k, k < N → Bd 20 (v k)) (hL : LeastG Wn Hn h 0 (fun k => valI (v k))) : ∀ k, k < N → drnV v (rkV v Wn Hn (N - 1)) Wn Hn k < 0 → brd Wn Hn k = true := fun k hk h0 => by
  rcases drn_key hw hN hN1 hh hv hL k hk with ⟨_, h2⟩ | ⟨d, n, h1, h2, h3, h4⟩
  · exact h2
  · rw [h1] at h0
    omega
theorem drn_lead {Wn Hn N : Nat} {h v : Nat → Nat} (hw : 1 ≤ Wn) (hN : N = Wn * Hn) (hN1 : 1 ≤ N) (hh : ∀ k, k < N → Bd 20 (h k)) (hv : ∀ k, k < N → Bd 20 (v k)) (hL : LeastG Wn Hn h 0 (fun k => valI (v k))) :
    Lead Wn Hn N (drnV v (rkV v Wn Hn (N - 1)) Wn Hn) (fun k => cntB (fun j => lowB v (rkV v Wn Hn (N - 1)) j k) N) ∧
    ∀ k n, k < N → 0 ≤ drnV v (rkV v Wn Hn (N - 1)) Wn Hn k → nbr Wn Hn k (drnV v (rkV v Wn Hn (N - 1)) Wn Hn k).toNat = some n → valI (v n) ≤ valI (v k) := by
  have key := drn_key hw hN hN1 hh hv hL
  refine ⟨⟨fun k hk => ?_, fun k hk h0 => ?_⟩, fun k n hk h0 hn => ?_⟩
  · rcases key k hk with ⟨h1, _⟩ | ⟨d, n, h1, h2, _⟩ <;> rw [h1] <;> omega
  · rcases key k hk with ⟨h1, _⟩ | ⟨d, n, h1, h2, h3, h4⟩
    · rw [h1] at h0
      omega
    · rw [h1, Int.toNat_natCast]
      exact ⟨n, h3, low_cnt (by rw [hN]; exact nbr_lt h3) h4⟩
  · rcases key k hk with ⟨h1, _⟩ | ⟨d, n', h1, h2, h3, h4⟩
    · rw [h1] at h0
      omega
    · rw [h1, Int.toNat_natCast, h3] at hn
      cases hn
      unfold lowB at h4
      simp only [Bool.or_eq_true, Bool.and_eq_true, decide_eq_true_eq] at h4
      omega
end Go.Proofs.Ytinohfgokpbcdaa

namespace Go.Proofs.Ytinohfgokpbcdaa
open Go.RowKit Ieee

/-- a single that is a number or infinite -/
def NN (x : Nat) : Prop := (single.read x).isNaN = false
theorem nn_word {s : Bool} {r : Nat} (h : r ≤ 2139095040) : NN (single.word s r) := by
  unfold NN
  have hw := word_rung (neg := s) (r := r) (by omega)
  unfold Format.read
  simp only [single_sign, single_inf, single_binade, hw]
  split
  · rfl
  · split
    · rfl
    · rw [if_pos (by omega)]
      rfl
theorem nn_write {d : Datum} (h : d.isNaN = false) : NN (single.write d) := by
  cases d with
  | number s m p =>
    show NN (single.nearest s m p)
    unfold Format.nearest
    split
    · exact nn_word (by omega)
    · refine nn_word ?_
      simp only [single_inf]
      omega
  | infinity s => exact nn_word (by simp only [single_inf]; omega)
  | nan s f => cases h
theorem nn_fin {x : Nat} (h : Fin x) : NN x := by
  obtain ⟨s, m, k, e, _⟩ := read_val h
  unfold NN
  rw [e]
  rfl
theorem sub_nn {x y : Nat} (hx : NN x) (hy : Fin y) : floatBits .sub .f32 x y = some (fsub x y) ∧ NN (fsub x y) := by
  have hd : floatBits .sub .f32 x y = single.sub x y := rfl
  unfold fsub
  rw [hd]
  unfold Format.sub
  obtain ⟨s, m, k, e, _⟩ := read_val hy
  rw [e]
  unfold NN at hx
  cases hr : single.read x with
  | number t n p =>
    simp only [Datum.opposite, Datum.sum, Option.map_some, Option.getD_some]
    exact ⟨trivial, nn_write rfl⟩
  | infinity t =>
    simp only [Datum.opposite, Datum.sum, Option.map_some, Option.getD_some]
    exact ⟨trivial, nn_write rfl⟩
  | nan t f =>
    rw [hr] at hx
    cases hx
theorem ord_nn {x y : Nat} (hx : NN x) (hy : NN y) : ∃ o, FloatKind.f32.format.order x y = some o := by
  show ∃ o, single.order x y = some o
  unfold Format.order
  unfold NN at hx hy
  cases h1 : single.read x with
  | nan t f => rw [h1] at hx; cases hx
  | number s m p =>
    cases h2 : single.read y with
    | nan t f => rw [h2] at hy; cases hy
    | number t n q => exact ⟨_, rfl⟩
    | infinity t => exact ⟨_, rfl⟩
  | infinity s =>
    cases h2 : single.read y with
    | nan t f => rw [h2] at hy; cases hy
    | number t n q => exact ⟨_, rfl⟩
    | infinity t => exact ⟨_, rfl⟩
def leB (a b : Nat) : Bool := FloatKind.f32.format.order a b == some .lt || FloatKind.f32.format.order a b == some .eq
def geB (a b : Nat) : Bool := FloatKind.f32.format.order a b == some .gt || FloatKind.f32.format.order a b == some .eq
theorem ge_lt {x y : Nat} (hx : NN x) (hy : NN y) : geB x y = !lt x y := by
  obtain ⟨o, ho⟩ := ord_nn hx hy
  have e : lt x y = (FloatKind.f32.format.order x y == some .lt) := rfl
  rw [e]
  unfold geB
  rw [ho]
  cases o <;> rfl

section
variable {D : Nat → Int} {Wn Hn N : Nat}
/-- where the water of a cell goes -/
def nxtD (D : Nat → Int) (Wn Hn k : Nat) : Option Nat := if D k < 0 then none else nbr Wn Hn k (D k).toNat
/-- the cells on the way of a cell, without the cell itself -/
def IsTr (D : Nat → Int) (Wn Hn : Nat) : Nat → List Nat → Prop
  | k, [] => nxtD D Wn Hn k = none
  | k, c :: t => nxtD D Wn Hn k = some c ∧ IsTr D Wn Hn c t
theorem nxt_lt {k n : Nat} (h : nxtD D Wn Hn k = some n) : n < Wn * Hn := by
  unfold nxtD at h
  split at h
  · cases h
  · exact nbr_lt h
theorem tr_lt : ∀ {k : Nat} {t : List Nat}, IsTr D Wn Hn k t → ∀ c ∈ t, c < Wn * Hn
  | _, [], _, c, hc => by cases hc
  | _, _ :: t, h, c, hc => by
    rcases List.mem_cons.1 hc with rfl | hc
    · exact nxt_lt h.1
    · exact tr_lt h.2 c hc
theorem tr_one : ∀ {k : Nat} {t u : List Nat}, IsTr D Wn Hn k t → IsTr D Wn Hn k u → t = u
  | _, [], [], _, _ => rfl
  | _, [], _ :: _, h, h' => by have := h'.1; rw [show nxtD D Wn Hn _ = none from h] at this; cases this
  | _, _ :: _, [], h, h' => by have := h.1; rw [show nxtD D Wn Hn _ = none from h'] at this; cases this
  | _, c :: t, d :: u, h, h' => by
    have e := h.1.symm.trans h'.1
    injection e with e
    subst e
    rw [tr_one h.2 h'.2]
theorem Lead.nxt {m : Nat → Nat} (h : Lead Wn Hn N D m) (hN : N = Wn * Hn) {k n : Nat} (hk : k < N) (hn : nxtD D Wn Hn k = some n) : n < N ∧ m n < m k := by
  unfold nxtD at hn
  split at hn
  · cases hn
  · obtain ⟨n', h1, h2⟩ := h.step k hk (by omega)
    rw [h1] at hn
    cases hn
    exact ⟨by rw [hN]; exact nbr_lt h1, h2⟩
theorem Lead.nxt_none {m : Nat → Nat} (h : Lead Wn Hn N D m) {k : Nat} (hk : k < N) (hn : nxtD D Wn Hn k = none) : D k < 0 := by
  unfold nxtD at hn
  split at hn
  · assumption
  · obtain ⟨n', h1, h2⟩ := h.step k hk (by omega)
    rw [h1] at hn
    cases hn
theorem Lead.tr {m : Nat → Nat} (h : Lead Wn Hn N D m) (hN : N = Wn * Hn) : ∀ b k, m k < b → k < N → ∃ t, IsTr D Wn Hn k t ∧ t.length ≤ m k
  | 0, _, hb, _ => by omega
  | b + 1, k, hb, hk => by
    cases hn : nxtD D Wn Hn k with
    | none => exact ⟨[], hn, Nat.zero_le _⟩
    | some n =>
      obtain ⟨h1, h2⟩ := h.nxt hN hk hn
      obtain ⟨t, h3, h4⟩ := h.tr hN b n (by omega) h1
      exact ⟨n :: t, ⟨hn, h3⟩, by simp only [List.length_cons]; omega⟩
end
/-- what is cut along a way: h is the height so far -/
def cutV (s : Nat) : List Nat → Nat → (Nat → Nat) → (Nat → Nat)
  | [], _, v => v
  | c :: t, h, v => if leB (v c) (fsub h s) = true then v else cutV s t (fsub h s) (updF v c (fsub h s))
/-- is no neighbour of the first d lower (and the cell not of the border)? -/
def pitD (v : Nat → Nat) (Wn Hn k : Nat) : Nat → Bool
  | 0 => !brd Wn Hn k
  | d + 1 => match nbr Wn Hn k d with
    | none => pitD v Wn Hn k d
    | some n => pitD v Wn Hn k d && geB (v n) (v k)
def lowD (v : Nat → Nat) (Wn Hn k : Nat) : Nat → Bool
  | 0 => brd Wn Hn k
  | d + 1 => match nbr Wn Hn k d with
    | none => lowD v Wn Hn k d
    | some n => if lt (v n) (v k) = true then true else lowD v Wn Hn k d
theorem pit_none {v : Nat → Nat} {Wn Hn k d : Nat} (h : nbr Wn Hn k d = none) : pitD v Wn Hn k (d + 1) = pitD v Wn Hn k d := by simp [pitD, h]
theorem pit_some {v : Nat → Nat} {Wn Hn k d n : Nat} (h : nbr Wn Hn k d = some n) : pitD v Wn Hn k (d + 1) = (pitD v Wn Hn k d && geB (v n) (v k)) := by simp [pitD, h]
theorem low_none {v : Nat → Nat} {Wn Hn k d : Nat} (h : nbr Wn Hn k d = none) : lowD v Wn Hn k (d + 1) = lowD v Wn Hn k d := by simp [lowD, h]
theorem low_some {v : Nat → Nat} {Wn Hn k d n : Nat} (h : nbr Wn Hn k d = some n) : lowD v Wn Hn k (d + 1) = if lt (v n) (v k) = true then true else lowD v Wn Hn k d := by simp [lowD, h]
theorem pit_low {v : Nat → Nat} {Wn Hn k : Nat} (hv : ∀ j, j < Wn * Hn → NN (v j)) (hk : k < Wn * Hn) : ∀ d, pitD v Wn Hn k d = !lowD v Wn Hn k d
  | 0 => rfl
  | d + 1 => by
    have ih := pit_low hv hk d
    cases hn : nbr Wn Hn k d with
    | none => rw [pit_none hn, low_none hn, ih]
    | some n =>
      rw [pit_some hn, low_some hn, ih, ge_lt (hv n (nbr_lt hn)) (hv k hk)]
      cases lt (v n) (v k) <;> cases lowD v Wn Hn k d <;> rfl
/-- the ground behind the first cells -/
def brcV (s : Nat) (tr : Nat → List Nat) (Wn Hn : Nat) (v : Nat → Nat) : Nat → (Nat → Nat)
  | 0 => v
  | k + 1 => if lowD (brcV s tr Wn Hn v k) Wn Hn k 8 = true then brcV s tr Wn Hn v k else cutV s (tr k) (brcV s tr Wn Hn v k k) (brcV s tr Wn Hn v k)
theorem cut_nn {s N : Nat} (hs : Fin s) : ∀ (t : List Nat) (h : Nat) (v : Nat → Nat), NN h → (∀ j, j < N → NN (v j)) → ∀ j, j < N → NN (cutV s t h v j)
  | [], _, _, _, hv, j, hj => hv j hj
  | c :: t, h, v, hh, hv, j, hj => by
    unfold cutV
    split
    · exact hv j hj
    · have h1 := (sub_nn hh hs).2
      refine cut_nn hs t _ _ h1 (fun j hj => ?_) j hj
      by_cases e : j = c
      · subst e
        rw [updF_same]
        exact h1
      · rw [updF_ne _ _ e]
        exact hv j hj
theorem brc_nn {s N Wn Hn : Nat} {tr : Nat → List Nat} {v : Nat → Nat} (hs : Fin s) (hv : ∀ j, j < N → NN (v j)) : ∀ k, k ≤ N → ∀ j, j < N → NN (brcV s tr Wn Hn v k j)
  | 0, _, j, hj => hv j hj
  | k + 1, hk, j, hj => by
    have ih := brc_nn (tr := tr) (Wn := Wn) (Hn := Hn) hs hv k (by omega)
    unfold brcV
    split
    · exact ih j hj
    · exact cut_nn hs _ _ _ (ih k (by omega)) ih j hj
end Go.Proofs.Ytinohfgokpbcdaa

namespace Go.Proofs.Ytinohfgokpbcdaa
open Go.RowKit

theorem cntB_congr {f g : Nat → Bool} : ∀ N, (∀ k, k < N → f k = g k) → cntB f N = cntB g N
  | 0, _ => rfl
  | N + 1, h => by rw [cntB, cntB, cntB_congr N (fun k hk => h k (by omega)), h N (Nat.lt_succ_self N)]
theorem cntB_one {f g : Nat → Bool} {q : Nat} (hf : f q = true) (hg : g q = false) : ∀ N, q < N → (∀ k, k < N → k ≠ q → f k = g k) → cntB f N = cntB g N + 1
  | 0, h, _ => by omega
  | N + 1, hq, h => by
    rw [cntB, cntB]
    rcases Nat.lt_or_ge q N with h1 | h1
    · rw [cntB_one hf hg N h1 (fun k hk => h k (by omega)), h N (Nat.lt_succ_self N) (by omega)]
      omega
    · obtain rfl : q = N := by omega
      rw [cntB_congr q (fun k hk => h k (by omega) (by omega)), hf, hg]
      rfl
theorem cntB_none {f : Nat → Bool} : ∀ {N}, cntB f N = 0 → ∀ k, k < N → f k = false
  | N + 1, h, k, hk => by
    rw [cntB] at h
    rcases Nat.lt_or_ge k N with h1 | h1
    · exact cntB_none (N := N) (by omega) k h1
    · obtain rfl : k = N := by omega
      cases hf : f k
      · rfl
      · rw [hf, if_pos rfl] at h
        omega
theorem cntB_nil {f : Nat → Bool} : ∀ {N}, (∀ k, k < N → f k = false) → cntB f N = 0
  | 0, _ => rfl
  | N + 1, h => by rw [cntB, cntB_nil (fun k hk => h k (by omega)), h N (Nat.lt_succ_self N)]; rfl
theorem nodup_cnt {N : Nat} : ∀ (L : List Nat), L.Nodup → (∀ k ∈ L, k < N) → cntB (fun k => decide (k ∈ L)) N = L.length
  | [], _, _ => cntB_nil fun k _ => by simp
  | a :: L, hn, hl => by
    rw [List.nodup_cons] at hn
    rw [cntB_one (g := fun k => decide (k ∈ L)) (q := a) (by simp) (by simpa using hn.1) N (hl a (by simp)) (fun k _ hk => by simp [hk]), nodup_cnt L hn.2 (fun k hk => hl k (by simp [hk]))]
    rfl
theorem nodup_le {N : Nat} {L : List Nat} (hn : L.Nodup) (hl : ∀ k ∈ L, k < N) : L.length ≤ N := by
  rw [← nodup_cnt L hn hl]
  exact cntB_le _ N
section
variable {nx : Nat → Option Nat} {N : Nat}
/-- how many of the cells up to k lead to j -/
def intoN (nx : Nat → Option Nat) (k j : Nat) : Nat := cntB (fun p => decide (nx p = some j)) k
theorem into_none {k : Nat} (h : nx k = none) : intoN nx (k + 1) = intoN nx k := by
  funext j
  unfold intoN
  rw [cntB]
  simp [h]
theorem into_some {k n : Nat} (h : nx k = some n) : intoN nx (k + 1) = updF (intoN nx k) n (intoN nx k n + 1) := by
  funext j
  unfold intoN
  rw [cntB]
  by_cases e : j = n
  · subst e
    rw [updF_same, h]
    simp
  · rw [updF_ne _ _ e, h]
    simp [Ne.symm e]
/-- the queue: the first i of L are done; J counts for each cell those that lead to it and are not done -/
structure TQ (nx : Nat → Option Nat) (N i : Nat) (L : List Nat) (J : Nat → Nat) : Prop where
  lt : ∀ k ∈ L, k < N
  nd : L.Nodup
  ip : i ≤ L.length
  cnt : ∀ j, j < N → J j = cntB (fun p => !decide (p ∈ L.take i) && decide (nx p = some j)) N
  iff : ∀ j, j < N → (j ∈ L ↔ J j = 0)
  ord : ∀ a (ha : a < L.length) p, p < N → nx p = some L[a] → p ∈ L.take (min a i)
theorem TQ.start : TQ nx N 0 ((List.range N).filter fun j => decide (intoN nx N j = 0)) (intoN nx N) := by
  refine ⟨fun k hk => ?_, List.Nodup.sublist List.filter_sublist List.nodup_range, Nat.zero_le _, fun j hj => ?_, fun j hj => ?_, fun a ha p hp hn => ?_⟩
  · exact List.mem_range.1 (List.mem_filter.1 hk).1
  · exact cntB_congr N fun k hk => by simp
  · simp [hj]
  · exfalso
    have h1 := (List.mem_filter.1 (List.getElem_mem ha)).2
    have h2 : intoN nx N _ = 0 := of_decide_eq_true h1
    have h3 := cntB_none h2 p hp
    rw [hn] at h3
    simp at h3
theorem take_more {L : List Nat} {i : Nat} (hi : i < L.length) (p : Nat) : p ∈ L.take (i + 1) ↔ p ∈ L.take i ∨ p = L[i] := by
  rw [List.take_succ_eq_append_getElem hi, List.mem_append, List.mem_singleton]
theorem take_le {L : List Nat} {a b : Nat} (h : a ≤ b) {p : Nat} (hp : p ∈ L.take a) : p ∈ L.take b := by
  have e : L.take a = (L.take b).take a := by rw [List.take_take, Nat.min_eq_left h]
  rw [e] at hp
  exact List.mem_of_mem_take hp
theorem nd_take {L : List Nat} (hn : L.Nodup) {i : Nat} (hi : i < L.length) : L[i] ∉ L.take i := fun h => by
  obtain ⟨j, hj, e⟩ := List.getElem_of_mem h
  rw [List.getElem_take] at e
  have hji : j < i := by
    rw [List.length_take] at hj
    omega
  have := (List.getElem_inj hn).1 e
  omega
theorem TQ.skip {i : Nat} {L : List Nat} {J : Nat → Nat} (h : TQ nx N i L J) (hi : i < L.length) (hq : nx L[i] = none) : TQ nx N (i + 1) L J := by
  refine ⟨h.lt, h.nd, hi, fun j hj => ?_, h.iff, fun a ha p hp hn => take_le (by omega) (h.ord a ha p hp hn)⟩
  rw [h.cnt j hj]
  refine cntB_congr N fun p hp => ?_
  by_cases e : p = L[i]
  · rw [e, hq]
    simp
  · congr 1
    rw [decide_eq_decide.2 (show p ∈ L.take (i + 1) ↔ p ∈ L.take i from by rw [take_more hi]; simp [e])]
theorem TQ.one {i n : Nat} {L : List Nat} {J : Nat → Nat} (h : TQ nx N i L J) (hi : i < L.length) (hq : nx L[i] = some n) (hn : n < N) : 1 ≤ J n ∧ n ∉ L ∧ ∀ j, j < N → updF J n (J n - 1) j = cntB (fun p => !decide (p ∈ L.take (i + 1)) && decide (nx p = some j)) N := by
  have hqN := h.lt _ (List.getElem_mem hi)
  have e1 : ∀ j, j < N → j ≠ n → cntB (fun p => !decide (p ∈ L.take (i + 1)) && decide (nx p = some j)) N = cntB (fun p => !decide (p ∈ L.take i) && decide (nx p = some j)) N := fun j _ hj => cntB_congr N fun p hp => by
    by_cases e : p = L[i]
    · rw [e, hq]
      simp [Ne.symm hj]
    · congr 1
      rw [decide_eq_decide.2 (show p ∈ L.take (i + 1) ↔ p ∈ L.take i from by rw [take_more hi]; simp [e])]
  have e2 : cntB (fun p => !decide (p ∈ L.take i) && decide (nx p = some n)) N = cntB (fun p => !decide (p ∈ L.take (i + 1)) && decide (nx p = some n)) N + 1 := by
    refine cntB_one (q := L[i]) ?_ ?_ N hqN fun p hp hpq => ?_
    · rw [hq]
      simpa using nd_take h.nd hi
    · have : L[i] ∈ L.take (i + 1) := (take_more hi _).2 (.inr rfl)
      simp [this]
    · congr 1
      rw [decide_eq_decide.2 (show p ∈ L.take (i + 1) ↔ p ∈ L.take i from by rw [take_more hi]; simp [hpq])]
  have h1 := h.cnt n hn
  refine ⟨by omega, fun hm => ?_, fun j hj => ?_⟩
  · have := (h.iff n hn).1 hm
    omega
  · by_cases e : j = n
    · subst e
      rw [updF_same]
      omega
    · rw [updF_ne _ _ e, e1 j hj e]
      exact h.cnt j hj
theorem TQ.less {i n : Nat} {L : List Nat} {J : Nat → Nat} (h : TQ nx N i L J) (hi : i < L.length) (hq : nx L[i] = some n) (hn : n < N) (h0 : J n - 1 ≠ 0) : TQ nx N (i + 1) L (updF J n (J n - 1)) := by
  obtain ⟨h1, h2, h3⟩ := h.one hi hq hn
  refine ⟨h.lt, h.nd, hi, h3, fun j hj => ?_, fun a ha p hp hn => take_le (by omega) (h.ord a ha p hp hn)⟩
  by_cases e : j = n
  · subst e
    rw [updF_same]
    exact ⟨fun h => absurd h h2, fun h => absurd h h0⟩
  · rw [updF_ne _ _ e]
    exact h.iff j hj
theorem TQ.push {i n : Nat} {L : List Nat} {J : Nat → Nat} (h : TQ nx N i L J) (hi : i < L.length) (hq : nx L[i] = some n) (hn : n < N) (h0 : J n - 1 = 0) : TQ nx N (i + 1) (L ++ [n]) (updF J n (J n - 1)) := by
  obtain ⟨h1, h2, h3⟩ := h.one hi hq hn
  have ht : (L ++ [n]).take (i + 1) = L.take (i + 1) := List.take_append_of_le_length (by omega)
  refine ⟨fun k hk => ?_, ?_, by simp; omega, fun j hj => ?_, fun j hj => ?_, fun a ha p hp hnx => ?_⟩
  · rcases List.mem_append.1 hk with hk | hk
    · exact h.lt k hk
    · rw [List.mem_singleton.1 hk]
      exact hn
  · refine List.nodup_append.2 ⟨h.nd, by simp, fun x hx y hy => ?_⟩
    rw [List.mem_singleton.1 hy]
    rintro rfl
    exact h2 hx
  · rw [ht]
    exact h3 j hj
  · by_cases e : j = n
    · subst e
      rw [updF_same]
      simp [h0]
    · rw [updF_ne _ _ e, List.mem_append, List.mem_singleton]
      rw [← h.iff j hj]
      simp [e]
  · rcases Nat.lt_or_ge a L.length with h4 | h4
    · rw [List.getElem_append_left h4] at hnx
      have h5 := h.ord a h4 p hp hnx
      rw [List.take_append_of_le_length (by omega)]
      exact take_le (by omega) h5
    · have ha' : a = L.length := by simp at ha; omega
      subst ha'
      rw [List.getElem_append_right (Nat.le_refl _)] at hnx
      simp at hnx
      have h5 := h3 n hn
      rw [updF_same, h0] at h5
      have h6 := cntB_none h5.symm p hp
      rw [hnx] at h6
      simp at h6
      rw [show min L.length (i + 1) = i + 1 by omega, ht]
      exact h6
theorem TQ.len {i : Nat} {L : List Nat} {J : Nat → Nat} (h : TQ nx N i L J) : L.length ≤ N := nodup_le h.nd h.lt
/-- the cells in an order: each behind all that lead to it; those of loops, and what they lead to, are missing -/
structure Topo (nx : Nat → Option Nat) (N : Nat) (L : List Nat) : Prop where
  lt : ∀ k ∈ L, k < N
  nd : L.Nodup
  ord : ∀ a (ha : a < L.length) p, p < N → nx p = some L[a] → p ∈ L.take a
  full : ∀ j, j < N → (∀ p, p < N → nx p = some j → p ∈ L) → j ∈ L
theorem TQ.fin {L : List Nat} {J : Nat → Nat} (h : TQ nx N L.length L J) : Topo nx N L := by
  refine ⟨h.lt, h.nd, fun a ha p hp hn => ?_, fun j hj hp => ?_⟩
  · have := h.ord a ha p hp hn
    rwa [show min a L.length = a by omega] at this
  · refine (h.iff j hj).2 ?_
    rw [h.cnt j hj]
    refine cntB_nil fun p hpN => ?_
    rw [List.take_length]
    by_cases e : nx p = some j
    · simp [hp p hpN e]
    · simp [e]
theorem top_of (m : Nat → Nat) : ∀ N, ∃ M, ∀ p, p < N → m p ≤ M
  | 0 => ⟨0, fun p h => by omega⟩
  | N + 1 => by
    obtain ⟨M, h⟩ := top_of m N
    refine ⟨max M (m N), fun p hp => ?_⟩
    rcases Nat.lt_or_ge p N with h1 | h1
    · have := h p h1
      omega
    · obtain rfl : p = N := by omega
      omega
theorem Topo.all {L : List Nat} (h : Topo nx N L) (m : Nat → Nat) (hm : ∀ p n, p < N → nx p = some n → m n < m p) : ∀ j, j < N → j ∈ L := by
  obtain ⟨M, hM⟩ := top_of m N
  have key : ∀ b j, j < N → M - m j < b → j ∈ L := by
    intro b
    induction b with
    | zero => intro j _ h; omega
    | succ b ih =>
      intro j hj hb
      refine h.full j hj fun p hp hn => ih p hp ?_
      have h1 := hm p j hp hn
      have h2 := hM p hp
      omega
  exact fun j hj => key (M - m j + 1) j hj (Nat.lt_succ_self _)
end
end Go.Proofs.Ytinohfgokpbcdaa
