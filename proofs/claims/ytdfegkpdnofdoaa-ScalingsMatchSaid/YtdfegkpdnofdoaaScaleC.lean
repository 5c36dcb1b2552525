/- Contracts: export.Level and export.Value. -/
import Derived.Test.YtdfegkpdnofdoaaScaleB
import Derived.Test.YtdfegkpdnofdoaaCamA
namespace Go.Proofs.Ytdfegkpdnofdoaa
open Go.RowKit
attribute [local go_sem ↓] Go.wp_at_zero Go.wp_at_succ

/-- what export.Level answers for an error -/
def levE (s : ScaleR) (v : Nat) : Int := if scaleE s ≠ 0 then scaleE s else numE [v]
set_option maxRecDepth 100000 in
set_option maxHeartbeats 1600000 in
theorem level_bad (s : ScaleR) (v : Nat) (w : World) (h : levE s v ≠ 0) :
    Calls Try.prog 14 #[s.v, .float .f32 v] w fun e w' => e = .returned (.tuple #[.int .i64 0, .bool false, .int .i64 (levE s v)]) ∧ Ext w w' := by
  have HS := fun (w : World) => hidA (checkScale_any s w)
  have HN := fun (A : Option Addr) (w : World) (hr : Rd w A (flt [v])) => hidA (heights_any A 1 1 [v] w rfl hr (by omega))
  by_cases h1 : scaleE s = 0
  · have e : levE s v = numE [v] := by unfold levE; rw [if_neg (by simpa using h1)]
    rw [e] at h ⊢
    rw [h1] at HS
    have t1 : (numE [v] != 0) = true := by simpa using h
    clear h e h1
    generalize numE [v] = q at *
    obtain ⟨lo, st, bt⟩ := s
    simp only [ScaleR.v] at *
    go_enter Try.func14, Try.ntmps14
    go_wp2_with fail
    refine ((HS _).out).mono ?_
    rintro e w1 ⟨rfl, hb1⟩
    go_wp2_with fail
    refine ((HN _ _ (Rd.new (by first | rfl | simp) rfl)).out).mono ?_
    rintro e w2 ⟨rfl, rfl⟩
    go_wp2_with fail
    go_ret3
    exact ⟨rfl, (by repeat (first | exact Ext.refl _ | assumption | refine Ext.setCell ?_ (by first | (simp; done) | (simp; omega)) _ | refine Ext.drewN ?_ _ | refine Ext.alloc ?_ _ | refine Ext.drew ?_ | refine Ext.trans ?_ (by assumption)))⟩
  · have e : levE s v = scaleE s := by unfold levE; rw [if_pos h1]
    rw [e] at h ⊢
    have t1 : (scaleE s != 0) = true := by simpa using h
    clear h e h1
    generalize scaleE s = q at *
    obtain ⟨lo, st, bt⟩ := s
    simp only [ScaleR.v] at *
    go_enter Try.func14, Try.ntmps14
    go_wp2_with fail
    refine ((HS _).out).mono ?_
    rintro e w1 ⟨rfl, hb1⟩
    go_wp2_with fail
    go_ret3
    exact ⟨rfl, (by repeat (first | exact Ext.refl _ | assumption | refine Ext.setCell ?_ (by first | (simp; done) | (simp; omega)) _ | refine Ext.drewN ?_ _ | refine Ext.alloc ?_ _ | refine Ext.drew ?_ | refine Ext.trans ?_ (by assumption)))⟩

set_option maxRecDepth 100000 in
set_option maxHeartbeats 1600000 in
theorem level_ok (s : ScaleR) (v b : Nat) (w : World) (hb : s.bits = b) (h1 : 1 ≤ b) (h2 : b ≤ 24) (h : scaleE s = 0) (hv : numE [v] = 0) :
    Calls Try.prog 14 #[s.v, .float .f32 v] w fun e w' => e = .returned (.tuple #[.int .i64 (levN (lvq s v) (mostN b)).1, .bool (levN (lvq s v) (mostN b)).2, .int .i64 0]) ∧ Ext w w' := by
  have HS := fun (w : World) => hidA (checkScale_any s w)
  have HN := fun (A : Option Addr) (w : World) (hr : Rd w A (flt [v])) => hidA (heights_any A 1 1 [v] w rfl hr (by omega))
  have HL := fun (w : World) => hidA (levelOf_any s v b w hb h1 h2 h hv)
  rw [h] at HS
  rw [hv] at HN
  clear h hv hb h1 h2
  generalize levN (lvq s v) (mostN b) = z at *
  obtain ⟨lo, st, bt⟩ := s
  simp only [ScaleR.v] at *
  go_enter Try.func14, Try.ntmps14
  go_wp2_with fail
  refine ((HS _).out).mono ?_
  rintro e w1 ⟨rfl, hb1⟩
  have hC : Bk w1 w.heap.size 38 #[.float .f32 lo, .float .f32 st, .int .i64 bt] := (Bk.new' rfl).ext hb1
  have hx1 : Ext w w1 := ((Ext.refl w).alloc _).trans hb1
  have k0 := hC.cell 0
  have k1 := hC.cell 1
  have k2 := hC.cell 2
  have hlt := hC.lt
  clear hC hb1
  go_wp2_with fail
  refine ((HN _ _ (Rd.new (by first | rfl | simp) rfl)).out).mono ?_
  rintro e w2 ⟨rfl, rfl⟩
  go_wp2_with fail
  refine ((HL _).out).mono ?_
  rintro e w3 ⟨rfl, hb3⟩
  go_wp2_with fail
  go_ret3
  exact ⟨rfl, (hx1.alloc _).trans hb3⟩

/-- what export.Value answers for an error -/
def valE (s : ScaleR) (n : Int) : Int := if scaleE s ≠ 0 then scaleE s else if n < 0 ∨ (2 : Int) ^ s.bits.toNat ≤ n then 3 else numE [valN s n]
set_option maxRecDepth 100000 in
set_option maxHeartbeats 1600000 in
theorem value_bad (s : ScaleR) (n : Int) (w : World) (h : scaleE s ≠ 0) :
    Calls Try.prog 18 #[s.v, .int .i64 n] w fun e w' => e = .returned (.tuple #[.float .f32 0, .int .i64 (scaleE s)]) ∧ Ext w w' := by
  have HS := fun (w : World) => hidA (checkScale_any s w)
  have t1 : (scaleE s != 0) = true := by simpa using h
  clear h
  generalize scaleE s = q at *
  obtain ⟨lo, st, bt⟩ := s
  simp only [ScaleR.v] at *
  go_enter Try.func18, Try.ntmps18
  go_wp2_with fail
  refine ((HS _).out).mono ?_
  rintro e w1 ⟨rfl, hb1⟩
  go_wp2_with fail
  go_ret2
  exact ⟨rfl, (by repeat (first | exact Ext.refl _ | assumption | refine Ext.setCell ?_ (by first | (simp; done) | (simp; omega)) _ | refine Ext.drewN ?_ _ | refine Ext.alloc ?_ _ | refine Ext.drew ?_ | refine Ext.trans ?_ (by assumption)))⟩
set_option maxRecDepth 100000 in
set_option maxHeartbeats 1600000 in
theorem value_out (s : ScaleR) (n : Int) (b : Nat) (w : World) (hb : s.bits = b) (h2 : b ≤ 24) (h : scaleE s = 0) (hn : n < 0 ∨ ((2 ^ b : Nat) : Int) ≤ n) :
    Calls Try.prog 18 #[s.v, .int .i64 n] w fun e w' => e = .returned (.tuple #[.float .f32 0, .int .i64 3]) ∧ Ext w w' := by
  have HS := fun (w : World) => hidA (checkScale_any s w)
  have sh := wrap_pow h2
  rw [h] at HS
  clear h
  obtain ⟨lo, st, bt⟩ := s
  simp only [ScaleR.v] at *
  subst hb
  have h3 : (2 : Nat) ^ b ≤ 2 ^ 24 := Nat.pow_le_pow_right (by omega) h2
  have h4 : 2 ^ b ≤ 16777216 := h3
  clear h3
  generalize 2 ^ b = S at *
  by_cases h0 : n < 0
  · go_enter Try.func18, Try.ntmps18
    go_wp2_with fail
    refine ((HS _).out).mono ?_
    rintro e w1 ⟨rfl, hb1⟩
    go_wp2_with fail
    go_ret2
    exact ⟨rfl, (by repeat (first | exact Ext.refl _ | assumption | refine Ext.setCell ?_ (by first | (simp; done) | (simp; omega)) _ | refine Ext.drewN ?_ _ | refine Ext.alloc ?_ _ | refine Ext.drew ?_ | refine Ext.trans ?_ (by assumption)))⟩
  · have h5 : (S : Int) ≤ n := by omega
    go_enter Try.func18, Try.ntmps18
    go_wp2_with fail
    refine ((HS _).out).mono ?_
    rintro e w1 ⟨rfl, hb1⟩
    have hC : Bk w1 w.heap.size 38 #[.float .f32 lo, .float .f32 st, .int .i64 b] := (Bk.new' rfl).ext hb1
    have hx1 : Ext w w1 := ((Ext.refl w).alloc _).trans hb1
    have k2 := hC.cell 2
    clear hC hb1
    go_wp2_with fail
    go_ret2
    exact ⟨rfl, hx1⟩
set_option maxRecDepth 100000 in
set_option maxHeartbeats 1600000 in
theorem value_ok (s : ScaleR) (n : Int) (b : Nat) (w : World) (hb : s.bits = b) (h2 : b ≤ 24) (h : scaleE s = 0) (hn : ¬ (n < 0 ∨ ((2 ^ b : Nat) : Int) ≤ n)) :
    Calls Try.prog 18 #[s.v, .int .i64 n] w fun e w' => e = .returned (.tuple #[.float .f32 (if numE [valN s n] = 0 then valN s n else 0), .int .i64 (numE [valN s n])]) ∧ Ext w w' := by
  have HS := fun (w : World) => hidA (checkScale_any s w)
  have sh := wrap_pow h2
  have h3 : (2 : Nat) ^ b ≤ 2 ^ 24 := Nat.pow_le_pow_right (by omega) h2
  have h4 : 2 ^ b ≤ 16777216 := h3
  clear h3
  have hn2 : n.natAbs < 2 ^ 25 := by omega
  have HV1 := fun (w : World) => hidA (value1_any s n w h hn2)
  have HV2 := fun (w : World) => hidA (value_any (valN s n) w (val_ok h hn2).2.2)
  rw [h] at HS
  clear h hn2
  generalize valN s n = r at *
  generalize numE [r] = q at *
  generalize (if q = 0 then r else 0) = z at *
  obtain ⟨lo, st, bt⟩ := s
  simp only [ScaleR.v] at *
  subst hb
  generalize 2 ^ b = S at *
  have n1 : ¬ n < 0 := by omega
  have n2 : n < (S : Int) := by omega
  clear hn
  go_enter Try.func18, Try.ntmps18
  go_wp2_with fail
  refine ((HS _).out).mono ?_
  rintro e w1 ⟨rfl, hb1⟩
  have hC : Bk w1 w.heap.size 38 #[.float .f32 lo, .float .f32 st, .int .i64 b] := (Bk.new' rfl).ext hb1
  have hx1 : Ext w w1 := ((Ext.refl w).alloc _).trans hb1
  have k0 := hC.cell 0
  have k1 := hC.cell 1
  have k2 := hC.cell 2
  clear hC hb1
  go_wp2_with fail
  refine ((HV1 _).out).mono ?_
  rintro e w2 ⟨rfl, hb2⟩
  go_wp2_with fail
  refine ((HV2 _).out).mono ?_
  rintro e w3 ⟨rfl, hw3⟩
  rw [hw3]
  clear hw3 w3
  go_wp2_with fail
  go_ret2
  exact ⟨rfl, hx1.trans hb2⟩
end Go.Proofs.Ytdfegkpdnofdoaa
