/- Contracts: how deep water cuts, in the program and in the reference. -/
import Derived.Test.YtinohfgokpbcdaaDepthA
import Derived.Laws.Closers25b
namespace Go.Proofs.Ytinohfgokpbcdaa
open Go.RowKit Ieee
attribute [local go_sem ↓] Go.wp_at_zero Go.wp_at_succ

theorem int_pos {n : Int} (h : 0 ≤ n) : floatOfInt .f32 n < 2147483648 := by
  have e : floatOfInt .f32 n = single.nearest (decide (n < 0)) n.natAbs 0 := rfl
  rw [e, show decide (n < 0) = false by simp; omega]
  exact near_false _ _
/-- the root of an integer -/
def rootI (n : Int) : Nat := rootB (floatOfInt .f32 n)
theorem rootI_bd {n : Int} (h0 : 0 ≤ n) (h : n ≤ 1099511627776) : Bd 41 (floatOfInt .f32 n) ∧ Bd 48 (rootI n) := by
  have hb := int_bd (K := 41) (n := n) (by omega) (by omega)
  obtain ⟨_, _, _, _, _, h5, _⟩ := root_ok hb (int_pos h0) (by omega)
  exact ⟨hb, h5⟩
set_option maxHeartbeats 800000 in
theorem rootI_any (n : Int) (w : World) (h0 : 0 ≤ n) (h : n ≤ 1099511627776) : Calls Try.prog 92 #[.int .i64 n] w fun e w' => e = .returned (.float .f32 (rootI n)) ∧ w = w' := by
  have HR := fun (w : World) => hidA (noiseRoot_any (rootI_bd h0 h).1 (int_pos h0) (by omega) w)
  go_enter Try.func92, Try.ntmps92
  go_wp2_with (go_at_call 142; refine ((HR _).out).mono ?_; rintro e w1 ⟨rfl, rfl⟩)
  go_ret
  exact ⟨rfl, rfl⟩
/-- the lesser of two -/
def lesserB (a b : Nat) : Nat := if lt b a = true then b else a
set_option maxHeartbeats 800000 in
theorem lesser_any (a b : Nat) (w : World) : Calls Try.prog 96 #[.float .f32 a, .float .f32 b] w fun e w' => e = .returned (.float .f32 (lesserB a b)) ∧ w = w' := by
  have hb : (FloatKind.f32.format.order b a == some .lt) = lt b a := rfl
  unfold lesserB
  cases h : lt b a
  all_goals
    rw [h] at hb
    clear h
    go_enter Try.func96, Try.ntmps96
    go_wp2
    go_ret
    exact ⟨rfl, rfl⟩
/-- how deep water cuts -/
def depF (r le mo : Nat) (n : Int) (drop : Nat) : Nat :=
  if n < 1 ∨ gt drop 0 = false then 0 else
    if lt (fmul (fmul r (rootI n)) drop) le = true then 0 else lesserB (lesserB (fmul (fmul r (rootI n)) drop) mo) (fmul drop 1056964608)
theorem dep_ok {r n : Nat} {drop : Nat} (hr : Bd 20 r) (hn : Bd 48 n) (hd : Bd 20 drop) : floatBits .mul .f32 r n = some (fmul r n) ∧ floatBits .mul .f32 (fmul r n) drop = some (fmul (fmul r n) drop) ∧ floatBits .mul .f32 drop 1056964608 = some (fmul drop 1056964608) := by
  obtain ⟨a1, a2⟩ := fmul_ok hr hn (by omega)
  obtain ⟨b1, b2⟩ := fmul_ok a2 hd (by omega)
  exact ⟨a1, b1, (fmul_ok hd half_bd (by omega)).1⟩
theorem leq_gt {d : Nat} (h : Bd 20 d) : (FloatKind.f32.format.order d 0 == some .lt || FloatKind.f32.format.order d 0 == some .eq) = !gt d 0 := by
  have e := ord_valI (bd_Fin h (by omega)) (show Fin 0 by unfold Fin; omega)
  unfold gt
  rw [ord_def, e]
  cases compare (valI d) (valI 0) <;> rfl

set_option maxRecDepth 100000 in
set_option maxHeartbeats 3200000 in
theorem depth_any (r le mo : Nat) (st n : Int) (drop : Nat) (w : World) (hr : Bd 20 r) (hd : Bd 20 drop) (hn : n ≤ 1099511627776) : Calls Try.prog 88 #[.agg #[.float .f32 r, .float .f32 le, .float .f32 mo, .int .i64 st], .int .i64 n, .float .f32 drop] w fun e w' => e = .returned (.float .f32 (depF r le mo n drop)) ∧ Ext w w' := by
  have hd0 : (FloatKind.f32.format.order drop 0 == some .lt || FloatKind.f32.format.order drop 0 == some .eq) = !gt drop 0 := leq_gt hd
  have hd1 : (FloatKind.f32.format.order drop 0 == some .gt) = gt drop 0 := rfl
  have hE : depF r le mo n drop = if n < 1 ∨ gt drop 0 = false then 0 else if lt (fmul (fmul r (rootI n)) drop) le = true then 0 else lesserB (lesserB (fmul (fmul r (rootI n)) drop) mo) (fmul drop 1056964608) := rfl
  have HE := hidA hE
  generalize depF r le mo n drop = E at *
  clear hE
  by_cases h1 : n < 1
  · have hv : Hid (E = 0) := by show E = _; rw [HE.out, if_pos (.inl h1)]
    clear hd0 hd1
    go_enter Try.func88, Try.ntmps88
    go_wp2
    go_ret
    exact ⟨ret_f hv.out.symm, (by repeat (first | (with_reducible exact Ext.refl _) | (with_reducible assumption) | (with_reducible refine Ext.setCell ?_ (by first | (simp; done) | (simp; omega)) _) | (with_reducible refine Ext.drewN ?_ _) | (with_reducible refine Ext.alloc ?_ _) | (with_reducible refine Ext.drew ?_) | (with_reducible refine Ext.trans ?_ (by assumption))))⟩
  · cases h2 : gt drop 0
    · have hv : Hid (E = 0) := by show E = _; rw [HE.out, if_pos (.inr h2)]
      rw [h2] at hd0
      clear h2 hd1
      have hd2 : (FloatKind.f32.format.order drop 0 == some .lt || FloatKind.f32.format.order drop 0 == some .eq) = true := hd0
      clear hd0
      go_enter Try.func88, Try.ntmps88
      go_wp2
      go_ret
      exact ⟨ret_f hv.out.symm, (by repeat (first | (with_reducible exact Ext.refl _) | (with_reducible assumption) | (with_reducible refine Ext.setCell ?_ (by first | (simp; done) | (simp; omega)) _) | (with_reducible refine Ext.drewN ?_ _) | (with_reducible refine Ext.alloc ?_ _) | (with_reducible refine Ext.drew ?_) | (with_reducible refine Ext.trans ?_ (by assumption))))⟩
    · obtain ⟨m1, m2, m3⟩ := dep_ok hr (rootI_bd (show 0 ≤ n by omega) hn).2 hd
      have r1 := fun (w : World) => run_float_arith (P := Try.prog) w .mul 27 .f32 _ _ _ m1
      have r2 := fun (w : World) => run_float_arith (P := Try.prog) w .mul 27 .f32 _ _ _ m2
      have r3 := fun (w : World) => run_float_arith (P := Try.prog) w .mul 27 .f32 _ _ _ m3
      have HR := fun (w : World) => hidA (rootI_any n w (by omega) hn)
      have hv : Hid (E = if lt (fmul (fmul r (rootI n)) drop) le = true then 0 else lesserB (lesserB (fmul (fmul r (rootI n)) drop) mo) (fmul drop 1056964608)) := by show E = _; rw [HE.out, if_neg (by rw [h2]; simp; omega)]
      have hd2 : (FloatKind.f32.format.order drop 0 == some .lt || FloatKind.f32.format.order drop 0 == some .eq) = false := by rw [hd0, h2]; rfl
      clear m1 m2 m3 hd0 hd1 h2 HE hr hd hn
      generalize rootI n = q at *
      generalize fmul r q = m at *
      generalize fmul m drop = d at *
      generalize fmul drop 1056964608 = hf at *
      have hb : (FloatKind.f32.format.order d le == some .lt) = lt d le := rfl
      cases h3 : lt d le
      · have hv2 : Hid (E = lesserB (lesserB d mo) hf) := by show E = _; rw [hv.out, if_neg (by rw [h3]; decide)]
        rw [h3] at hb
        clear h3 hv
        go_enter Try.func88, Try.ntmps88
        go_wp2
        go_quiet ((go_at_call 92; exact Calls.quiet_of_same ((HR _).out.mono fun e w' h => ⟨h.1, h.2.symm⟩)))
        go_wp2_with (go_at_call 96; refine (lesser_any _ _ _).mono ?_; rintro e w1 ⟨rfl, rfl⟩)
        go_ret
        exact ⟨ret_f hv2.out.symm, (by repeat (first | (with_reducible exact Ext.refl _) | (with_reducible assumption) | (with_reducible refine Ext.setCell ?_ (by first | (simp; done) | (simp; omega)) _) | (with_reducible refine Ext.drewN ?_ _) | (with_reducible refine Ext.alloc ?_ _) | (with_reducible refine Ext.drew ?_) | (with_reducible refine Ext.trans ?_ (by assumption))))⟩
      · have hv2 : Hid (E = 0) := by show E = _; rw [hv.out, if_pos h3]
        rw [h3] at hb
        clear h3 hv
        go_enter Try.func88, Try.ntmps88
        go_wp2
        go_quiet ((go_at_call 92; exact Calls.quiet_of_same ((HR _).out.mono fun e w' h => ⟨h.1, h.2.symm⟩)))
        go_wp2
        go_ret
        exact ⟨ret_f hv2.out.symm, (by repeat (first | (with_reducible exact Ext.refl _) | (with_reducible assumption) | (with_reducible refine Ext.setCell ?_ (by first | (simp; done) | (simp; omega)) _) | (with_reducible refine Ext.drewN ?_ _) | (with_reducible refine Ext.alloc ?_ _) | (with_reducible refine Ext.drew ?_) | (with_reducible refine Ext.trans ?_ (by assumption))))⟩

set_option maxRecDepth 100000 in
set_option maxHeartbeats 3200000 in
theorem depthOf_any (r le mo : Nat) (st n : Int) (drop : Nat) (w : World) (hr : Bd 20 r) (hd : Bd 20 drop) (hn : n ≤ 1099511627776) : Calls Try.prog 34 #[.agg #[.float .f32 r, .float .f32 le, .float .f32 mo, .int .i64 st], .int .i64 n, .float .f32 drop] w fun e w' => e = .returned (.float .f32 (depF r le mo n drop)) ∧ Ext w w' := by
  have hd0 : (FloatKind.f32.format.order drop 0 == some .lt || FloatKind.f32.format.order drop 0 == some .eq) = !gt drop 0 := leq_gt hd
  have hd1 : (FloatKind.f32.format.order drop 0 == some .gt) = gt drop 0 := rfl
  have hE : depF r le mo n drop = if n < 1 ∨ gt drop 0 = false then 0 else if lt (fmul (fmul r (rootI n)) drop) le = true then 0 else lesserB (lesserB (fmul (fmul r (rootI n)) drop) mo) (fmul drop 1056964608) := rfl
  have HE := hidA hE
  generalize depF r le mo n drop = E at *
  clear hE
  by_cases h1 : n < 1
  · have hv : Hid (E = 0) := by show E = _; rw [HE.out, if_pos (.inl h1)]
    clear hd0 hd1
    go_enter Try.func34, Try.ntmps34
    go_wp2
    go_ret
    exact ⟨ret_f hv.out.symm, (by repeat (first | (with_reducible exact Ext.refl _) | (with_reducible assumption) | (with_reducible refine Ext.setCell ?_ (by first | (simp; done) | (simp; omega)) _) | (with_reducible refine Ext.drewN ?_ _) | (with_reducible refine Ext.alloc ?_ _) | (with_reducible refine Ext.drew ?_) | (with_reducible refine Ext.trans ?_ (by assumption))))⟩
  · cases h2 : gt drop 0
    · have hv : Hid (E = 0) := by show E = _; rw [HE.out, if_pos (.inr h2)]
      rw [h2] at hd1
      clear h2 hd0
      go_enter Try.func34, Try.ntmps34
      go_wp2
      go_ret
      exact ⟨ret_f hv.out.symm, (by repeat (first | (with_reducible exact Ext.refl _) | (with_reducible assumption) | (with_reducible refine Ext.setCell ?_ (by first | (simp; done) | (simp; omega)) _) | (with_reducible refine Ext.drewN ?_ _) | (with_reducible refine Ext.alloc ?_ _) | (with_reducible refine Ext.drew ?_) | (with_reducible refine Ext.trans ?_ (by assumption))))⟩
    · obtain ⟨m1, m2, m3⟩ := dep_ok hr (rootI_bd (show 0 ≤ n by omega) hn).2 hd
      have r1 := fun (w : World) => run_float_arith (P := Try.prog) w .mul 27 .f32 _ _ _ m1
      have r2 := fun (w : World) => run_float_arith (P := Try.prog) w .mul 27 .f32 _ _ _ m2
      have r3 := fun (w : World) => run_float_arith (P := Try.prog) w .mul 27 .f32 _ _ _ m3
      have HR : ∀ w : World, Hid (Calls Try.prog 38 #[.float .f32 (floatOfInt .f32 n)] w fun e w' => e = .returned (.float .f32 (rootI n)) ∧ w' = w) := fun w => refRoot_any (rootI_bd (show 0 ≤ n by omega) hn).1 (int_pos (by omega)) (by omega) w
      have hv : Hid (E = if lt (fmul (fmul r (rootI n)) drop) le = true then 0 else lesserB (lesserB (fmul (fmul r (rootI n)) drop) mo) (fmul drop 1056964608)) := by show E = _; rw [HE.out, if_neg (by rw [h2]; simp; omega)]
      rw [h2] at hd1
      clear m1 m2 m3 hd0 h2 HE hr hd hn
      generalize rootI n = q at *
      generalize fmul r q = m at *
      generalize fmul m drop = d at *
      generalize fmul drop 1056964608 = hf at *
      have hb : (FloatKind.f32.format.order d le == some .lt) = lt d le := rfl
      cases h3 : lt d le
      · have hv2 : Hid (E = lesserB (lesserB d mo) hf) := by show E = _; rw [hv.out, if_neg (by rw [h3]; decide)]
        rw [h3] at hb
        clear h3 hv
        have hb2 : (FloatKind.f32.format.order mo d == some .lt) = lt mo d := rfl
        cases h4 : lt mo d
        · rw [h4] at hb2
          have hb3 : (FloatKind.f32.format.order hf d == some .lt) = lt hf d := rfl
          cases h5 : lt hf d
          · have hv3 : Hid (E = d) := by show E = _; rw [hv2.out]; unfold lesserB; simp [h4, h5]
            rw [h5] at hb3
            clear h4 h5 hv2
            go_enter Try.func34, Try.ntmps34
            go_wp2
            go_quiet ((go_at_call 38; exact Calls.quiet_of_same (HR _).out))
            go_wp2
            go_ret
            exact ⟨ret_f hv3.out.symm, (by repeat (first | (with_reducible exact Ext.refl _) | (with_reducible assumption) | (with_reducible refine Ext.setCell ?_ (by first | (simp; done) | (simp; omega)) _) | (with_reducible refine Ext.drewN ?_ _) | (with_reducible refine Ext.alloc ?_ _) | (with_reducible refine Ext.drew ?_) | (with_reducible refine Ext.trans ?_ (by assumption))))⟩
          · have hv3 : Hid (E = hf) := by show E = _; rw [hv2.out]; unfold lesserB; simp [h4, h5]
            rw [h5] at hb3
            clear h4 h5 hv2
            go_enter Try.func34, Try.ntmps34
            go_wp2
            go_quiet ((go_at_call 38; exact Calls.quiet_of_same (HR _).out))
            go_wp2
            go_ret
            exact ⟨ret_f hv3.out.symm, (by repeat (first | (with_reducible exact Ext.refl _) | (with_reducible assumption) | (with_reducible refine Ext.setCell ?_ (by first | (simp; done) | (simp; omega)) _) | (with_reducible refine Ext.drewN ?_ _) | (with_reducible refine Ext.alloc ?_ _) | (with_reducible refine Ext.drew ?_) | (with_reducible refine Ext.trans ?_ (by assumption))))⟩
        · rw [h4] at hb2
          have hb3 : (FloatKind.f32.format.order hf mo == some .lt) = lt hf mo := rfl
          cases h5 : lt hf mo
          · have hv3 : Hid (E = mo) := by show E = _; rw [hv2.out]; unfold lesserB; simp [h4, h5]
            rw [h5] at hb3
            clear h4 h5 hv2
            go_enter Try.func34, Try.ntmps34
            go_wp2
            go_quiet ((go_at_call 38; exact Calls.quiet_of_same (HR _).out))
            go_wp2
            go_ret
            exact ⟨ret_f hv3.out.symm, (by repeat (first | (with_reducible exact Ext.refl _) | (with_reducible assumption) | (with_reducible refine Ext.setCell ?_ (by first | (simp; done) | (simp; omega)) _) | (with_reducible refine Ext.drewN ?_ _) | (with_reducible refine Ext.alloc ?_ _) | (with_reducible refine Ext.drew ?_) | (with_reducible refine Ext.trans ?_ (by assumption))))⟩
          · have hv3 : Hid (E = hf) := by show E = _; rw [hv2.out]; unfold lesserB; simp [h4, h5]
            rw [h5] at hb3
            clear h4 h5 hv2
            go_enter Try.func34, Try.ntmps34
            go_wp2
            go_quiet ((go_at_call 38; exact Calls.quiet_of_same (HR _).out))
            go_wp2
            go_ret
            exact ⟨ret_f hv3.out.symm, (by repeat (first | (with_reducible exact Ext.refl _) | (with_reducible assumption) | (with_reducible refine Ext.setCell ?_ (by first | (simp; done) | (simp; omega)) _) | (with_reducible refine Ext.drewN ?_ _) | (with_reducible refine Ext.alloc ?_ _) | (with_reducible refine Ext.drew ?_) | (with_reducible refine Ext.trans ?_ (by assumption))))⟩
      · have hv3 : Hid (E = 0) := by show E = _; rw [hv.out, if_pos h3]
        rw [h3] at hb
        clear h3 hv
        go_enter Try.func34, Try.ntmps34
        go_wp2
        go_quiet ((go_at_call 38; exact Calls.quiet_of_same (HR _).out))
        go_wp2
        go_ret
        exact ⟨ret_f hv3.out.symm, (by repeat (first | (with_reducible exact Ext.refl _) | (with_reducible assumption) | (with_reducible refine Ext.setCell ?_ (by first | (simp; done) | (simp; omega)) _) | (with_reducible refine Ext.drewN ?_ _) | (with_reducible refine Ext.alloc ?_ _) | (with_reducible refine Ext.drew ?_) | (with_reducible refine Ext.trans ?_ (by assumption))))⟩
end Go.Proofs.Ytinohfgokpbcdaa
