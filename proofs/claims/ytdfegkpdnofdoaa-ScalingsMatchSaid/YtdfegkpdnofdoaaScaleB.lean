/- Contracts: export.levelOf, tarnref2.LevelOf, export.value, tarnref2.ValueOf. -/
import Derived.Test.YtdfegkpdnofdoaaScaleA
namespace Go.Proofs.Ytdfegkpdnofdoaa
open Go.RowKit
attribute [local go_sem ↓] Go.wp_at_zero Go.wp_at_succ

theorem wrap_pow {b : Nat} (h : b ≤ 24) : wrap64 ((2 : Int) ^ b) = ((2 ^ b : Nat) : Int) := by
  have h4 : (2 : Nat) ^ b ≤ 2 ^ 24 := Nat.pow_le_pow_right (by omega) h
  have h5 := Nat.two_pow_pos b
  have e : (2 : Int) ^ b = ((2 ^ b : Nat) : Int) := by simp
  rw [e]
  unfold wrap64
  omega
theorem most_cast {b : Nat} (h1 : 1 ≤ b) (h2 : b ≤ 24) : ((mostN b : Nat) : Int) = ((2 ^ b : Nat) : Int) - 1 := by
  have := mostN_bd h1 h2
  omega
set_option maxRecDepth 100000 in
set_option maxHeartbeats 1600000 in
theorem levelOf_any (s : ScaleR) (v b : Nat) (w : World) (hb : s.bits = b) (h1 : 1 ≤ b) (h2 : b ≤ 24) (h : scaleE s = 0) (hv : numE [v] = 0) :
    Calls Try.prog 50 #[s.v, .float .f32 v] w fun e w' => e = .returned (.tuple #[.int .i64 (levN (lvq s v) (mostN b)).1, .bool (levN (lvq s v) (mostN b)).2]) ∧ Ext w w' := by
  obtain ⟨p1, p2, p3, hq⟩ := lv_ok h hv
  obtain ⟨m1, m2, m3⟩ := mostN_bd h1 h2
  have hW := whole_any m1 m2 hq
  have mc := most_cast h1 h2
  have q1 := fun (w : World) => run_float_arith (P := Try.prog) w .sub 22 .f32 _ _ _ p1
  have q2 := fun (w : World) => run_float_arith (P := Try.prog) w .quo 22 .f32 _ _ _ p2
  have q3 := fun (w : World) => run_float_arith (P := Try.prog) w .add 22 .f32 _ _ _ p3
  have sh := wrap_pow h2
  have w2 : wrap64 (((2 ^ b : Nat) : Int) - 1) = ((2 ^ b : Nat) : Int) - 1 := by unfold wrap64; omega
  have w3 : wrap64 (((2 ^ b : Nat) : Int) - 1 + 1) = ((2 ^ b : Nat) : Int) := by unfold wrap64; omega
  clear p1 p2 p3 hq h hv
  generalize fdiv (fsub v s.low) s.step = t1 at *
  generalize fsub v s.low = t2 at *
  generalize lvq s v = q at *
  have hS : 2 ≤ 2 ^ b ∧ 2 ^ b ≤ 16777216 := by omega
  have HF := fun (w : World) => hidA (floor_any hW w)
  have hneg := hW.neg
  have hint := hW.int
  rcases hA : lt q 0
  · have a1 : (FloatKind.f32.format.order (floorB q) 0 == some .lt) = false := hneg.trans hA
    rcases hB : gt (floorB q) (floatOfInt .f32 ((mostN b : Nat) : Int))
    · obtain ⟨n, _, i1, i2⟩ := hint hA hB
      have e0 : levN q (mostN b) = ((n : Int), true) := by unfold levN; rw [if_neg (by simp [hA]), if_neg (by simp [hB]), i2]; rfl
      rw [e0]
      have c3 := fun (w : World) => run_convert_float_int (P := Try.prog) w 22 3 .f32 .i64 (floorB q) n (by kernel_rfl) Try.underlying3 i1
      rw [mc] at hB
      have a2 : (FloatKind.f32.format.order (floorB q) (floatOfInt .f32 (((2 ^ b : Nat) : Int) - 1)) == some .gt) = false := hB
      clear hA hB hneg hint i1 i2 e0 hW mc m1 m2 m3
      generalize floorB q = z at *
      generalize 2 ^ b = S at *
      obtain ⟨lo, st, bt⟩ := s
      simp only [ScaleR.v] at *
      subst hb
      go_enter Try.func50, Try.ntmps50
      go_wp2_with fail
      refine ((HF _).out).mono ?_
      rintro e w1 ⟨rfl, hw1⟩
      rw [hw1]
      clear hw1 w1
      go_wp2_with fail
      go_ret2
      exact ⟨rfl, (by repeat (first | exact Ext.refl _ | assumption | refine Ext.setCell ?_ (by first | (simp; done) | (simp; omega)) _ | refine Ext.drewN ?_ _ | refine Ext.alloc ?_ _ | refine Ext.drew ?_ | refine Ext.trans ?_ (by assumption)))⟩
    · have e0 : levN q (mostN b) = (((2 ^ b : Nat) : Int) - 1, false) := by unfold levN; rw [if_neg (by simp [hA]), if_pos hB, mc]
      rw [e0]
      rw [mc] at hB
      have a2 : (FloatKind.f32.format.order (floorB q) (floatOfInt .f32 (((2 ^ b : Nat) : Int) - 1)) == some .gt) = true := hB
      clear hA hB hneg hint e0 hW mc m1 m2 m3
      generalize floorB q = z at *
      generalize 2 ^ b = S at *
      obtain ⟨lo, st, bt⟩ := s
      simp only [ScaleR.v] at *
      subst hb
      go_enter Try.func50, Try.ntmps50
      go_wp2_with fail
      refine ((HF _).out).mono ?_
      rintro e w1 ⟨rfl, hw1⟩
      rw [hw1]
      clear hw1 w1
      go_wp2_with fail
      go_ret2
      exact ⟨rfl, (by repeat (first | exact Ext.refl _ | assumption | refine Ext.setCell ?_ (by first | (simp; done) | (simp; omega)) _ | refine Ext.drewN ?_ _ | refine Ext.alloc ?_ _ | refine Ext.drew ?_ | refine Ext.trans ?_ (by assumption)))⟩
  · have a1 : (FloatKind.f32.format.order (floorB q) 0 == some .lt) = true := hneg.trans hA
    have e0 : levN q (mostN b) = (0, false) := by unfold levN; rw [if_pos hA]
    rw [e0]
    clear hA hneg hint e0 hW mc m1 m2 m3
    generalize floorB q = z at *
    generalize 2 ^ b = S at *
    obtain ⟨lo, st, bt⟩ := s
    simp only [ScaleR.v] at *
    subst hb
    go_enter Try.func50, Try.ntmps50
    go_wp2_with fail
    refine ((HF _).out).mono ?_
    rintro e w1 ⟨rfl, hw1⟩
    rw [hw1]
    clear hw1 w1
    go_wp2_with fail
    go_ret2
    exact ⟨rfl, (by repeat (first | exact Ext.refl _ | assumption | refine Ext.setCell ?_ (by first | (simp; done) | (simp; omega)) _ | refine Ext.drewN ?_ _ | refine Ext.alloc ?_ _ | refine Ext.drew ?_ | refine Ext.trans ?_ (by assumption)))⟩
set_option maxRecDepth 100000 in
set_option maxHeartbeats 1600000 in
theorem levelRef_any (s : ScaleR) (v b : Nat) (w : World) (hb : s.bits = b) (h1 : 1 ≤ b) (h2 : b ≤ 24) (h : scaleE s = 0) (hv : numE [v] = 0) :
    Calls Try.prog 17 #[s.v, .float .f32 v] w fun e w' => e = .returned (.tuple #[.int .i64 (levN (lvq s v) (mostN b)).1, .bool (levN (lvq s v) (mostN b)).2]) ∧ Ext w w' := by
  obtain ⟨p1, p2, p3, hq⟩ := lv_ok h hv
  obtain ⟨m1, m2, m3⟩ := mostN_bd h1 h2
  have hW := whole_any m1 m2 hq
  have mc := most_cast h1 h2
  have q1 := fun (w : World) => run_float_arith (P := Try.prog) w .sub 22 .f32 _ _ _ p1
  have q2 := fun (w : World) => run_float_arith (P := Try.prog) w .quo 22 .f32 _ _ _ p2
  have q3 := fun (w : World) => run_float_arith (P := Try.prog) w .add 22 .f32 _ _ _ p3
  have sh := wrap_pow h2
  have w2 : wrap64 (((2 ^ b : Nat) : Int) - 1) = ((2 ^ b : Nat) : Int) - 1 := by unfold wrap64; omega
  have w3 : wrap64 (((2 ^ b : Nat) : Int) - 1 + 1) = ((2 ^ b : Nat) : Int) := by unfold wrap64; omega
  clear p1 p2 p3 hq h hv
  generalize fdiv (fsub v s.low) s.step = t1 at *
  generalize fsub v s.low = t2 at *
  generalize lvq s v = q at *
  have hS : 2 ≤ 2 ^ b ∧ 2 ^ b ≤ 16777216 := by omega
  obtain ⟨d, k1, _, _, k2⟩ := hW.conv
  have c1 := fun (w : World) => run_convert_float_float (P := Try.prog) w 22 64 .f32 .f64 q d (by kernel_rfl) Try.underlying64 k1
  have hint := hW.int
  have m4 : ((mostN b + 1 : Nat) : Int) = ((2 ^ b : Nat) : Int) := by rw [m3]
  rcases hA : lt q 0
  · have a1 : (FloatKind.f32.format.order q 0 == some .lt) = false := hA
    have k3 := k2 hA
    rw [m4] at k3
    rcases hB : gt (floorB q) (floatOfInt .f32 ((mostN b : Nat) : Int))
    · obtain ⟨n, _, i1, i2⟩ := hint hA hB
      have e0 : levN q (mostN b) = ((n : Int), true) := by unfold levN; rw [if_neg (by simp [hA]), if_neg (by simp [hB]), i2]; rfl
      rw [e0]
      have c3 := fun (w : World) => run_convert_float_int (P := Try.prog) w 22 3 .f32 .i64 q n (by kernel_rfl) Try.underlying3 i2
      rw [hB] at k3
      have a2 : (FloatKind.f64.format.order d (floatOfInt .f64 ((2 ^ b : Nat) : Int)) == some .gt || FloatKind.f64.format.order d (floatOfInt .f64 ((2 ^ b : Nat) : Int)) == some .eq) = false := k3.symm
      clear hA hB hint i1 i2 e0 hW mc m1 m2 m3 m4 k1 k2 k3
      generalize 2 ^ b = S at *
      obtain ⟨lo, st, bt⟩ := s
      simp only [ScaleR.v] at *
      subst hb
      go_enter Try.func17, Try.ntmps17
      go_wp2_with fail
      go_ret2
      exact ⟨rfl, (by repeat (first | exact Ext.refl _ | assumption | refine Ext.setCell ?_ (by first | (simp; done) | (simp; omega)) _ | refine Ext.drewN ?_ _ | refine Ext.alloc ?_ _ | refine Ext.drew ?_ | refine Ext.trans ?_ (by assumption)))⟩
    · have e0 : levN q (mostN b) = (((2 ^ b : Nat) : Int) - 1, false) := by unfold levN; rw [if_neg (by simp [hA]), if_pos hB, mc]
      rw [e0]
      rw [hB] at k3
      have a2 : (FloatKind.f64.format.order d (floatOfInt .f64 ((2 ^ b : Nat) : Int)) == some .gt || FloatKind.f64.format.order d (floatOfInt .f64 ((2 ^ b : Nat) : Int)) == some .eq) = true := k3.symm
      clear hA hB hint e0 hW mc m1 m2 m3 m4 k1 k2 k3
      generalize 2 ^ b = S at *
      obtain ⟨lo, st, bt⟩ := s
      simp only [ScaleR.v] at *
      subst hb
      go_enter Try.func17, Try.ntmps17
      go_wp2_with fail
      go_ret2
      exact ⟨rfl, (by repeat (first | exact Ext.refl _ | assumption | refine Ext.setCell ?_ (by first | (simp; done) | (simp; omega)) _ | refine Ext.drewN ?_ _ | refine Ext.alloc ?_ _ | refine Ext.drew ?_ | refine Ext.trans ?_ (by assumption)))⟩
  · have a1 : (FloatKind.f32.format.order q 0 == some .lt) = true := hA
    have e0 : levN q (mostN b) = (0, false) := by unfold levN; rw [if_pos hA]
    rw [e0]
    clear hA hint e0 hW mc m1 m2 m3 m4 k1 k2
    generalize 2 ^ b = S at *
    obtain ⟨lo, st, bt⟩ := s
    simp only [ScaleR.v] at *
    subst hb
    go_enter Try.func17, Try.ntmps17
    go_wp2_with fail
    go_ret2
    exact ⟨rfl, (by repeat (first | exact Ext.refl _ | assumption | refine Ext.setCell ?_ (by first | (simp; done) | (simp; omega)) _ | refine Ext.drewN ?_ _ | refine Ext.alloc ?_ _ | refine Ext.drew ?_ | refine Ext.trans ?_ (by assumption)))⟩
set_option maxRecDepth 100000 in
set_option maxHeartbeats 1600000 in
theorem value1_any (s : ScaleR) (n : Int) (w : World) (h : scaleE s = 0) (hn : n.natAbs < 2 ^ 25) :
    Calls Try.prog 51 #[s.v, .int .i64 n] w fun e w' => e = .returned (.float .f32 (valN s n)) ∧ Ext w w' := by
  obtain ⟨p1, p2, _⟩ := val_ok h hn
  have q1 := fun (w : World) => run_float_arith (P := Try.prog) w .mul 22 .f32 _ _ _ p1
  have q2 := fun (w : World) => run_float_arith (P := Try.prog) w .add 22 .f32 _ _ _ p2
  clear p1 p2 h hn
  generalize valN s n = r at *
  generalize fmul (floatOfInt .f32 n) s.step = t1 at *
  obtain ⟨lo, st, bt⟩ := s
  simp only [ScaleR.v] at *
  go_enter Try.func51, Try.ntmps51
  go_wp2_with fail
  go_ret
  exact ⟨rfl, (by repeat (first | exact Ext.refl _ | assumption | refine Ext.setCell ?_ (by first | (simp; done) | (simp; omega)) _ | refine Ext.drewN ?_ _ | refine Ext.alloc ?_ _ | refine Ext.drew ?_ | refine Ext.trans ?_ (by assumption)))⟩
set_option maxRecDepth 100000 in
set_option maxHeartbeats 1600000 in
theorem valueOf_any (s : ScaleR) (n : Int) (w : World) (h : scaleE s = 0) (hn : n.natAbs < 2 ^ 25) :
    Calls Try.prog 21 #[s.v, .int .i64 n] w fun e w' => e = .returned (.float .f32 (valN s n)) ∧ Ext w w' := by
  obtain ⟨p1, p2, _⟩ := val_ok h hn
  have q1 := fun (w : World) => run_float_arith (P := Try.prog) w .mul 22 .f32 _ _ _ p1
  have q2 := fun (w : World) => run_float_arith (P := Try.prog) w .add 22 .f32 _ _ _ p2
  clear p1 p2 h hn
  generalize valN s n = r at *
  generalize fmul (floatOfInt .f32 n) s.step = t1 at *
  obtain ⟨lo, st, bt⟩ := s
  simp only [ScaleR.v] at *
  go_enter Try.func21, Try.ntmps21
  go_wp2_with fail
  go_ret
  exact ⟨rfl, (by repeat (first | exact Ext.refl _ | assumption | refine Ext.setCell ?_ (by first | (simp; done) | (simp; omega)) _ | refine Ext.drewN ?_ _ | refine Ext.alloc ?_ _ | refine Ext.drew ?_ | refine Ext.trans ?_ (by assumption)))⟩
end Go.Proofs.Ytdfegkpdnofdoaa
