/- Contracts: math.Floor, field.Floor, export.CheckScale, tarnref2.ScaleError, export.levelOf, tarnref2.LevelOf, export.value, tarnref2.ValueOf. -/
import Derived.Test.YtdfegkpdnofdoaaScaleP
import Derived.Test.YtdfegkpdnofdoaaBaseC
import Derived.Deep.QuietTactic
import Derived.BigQuiet
namespace Go.Proofs.Ytdfegkpdnofdoaa
open Go.RowKit
attribute [local go_sem ↓] Go.wp_at_zero Go.wp_at_succ

theorem floor_ext (d : Nat) (D : Ieee.Datum) (hn : D.isNaN = false) (h : Ieee.double.read d = D) (w : World) : (callFunc 94 #[.float .f64 d]).run Try.prog w = .ok (.value (.float .f64 (Ieee.double.write (D.integral .down)))) w := by
  have e : (callFunc 94 #[.float .f64 d]).run Try.prog w = ((Extern.MathFloor.toIntegral "math.archFloor" .down #[.float .f64 d]) >>= fun v => pure (Next.value v)).run Try.prog w := by kernel_rfl
  have h2 : FloatKind.f64.decode d = D := h
  obtain ⟨X, e2⟩ : ∃ X, Extern.MathFloor.toIntegral "math.archFloor" .down #[.float .f64 d] = Extern.MathFloor.toIntegral.match_1 (motive := fun _ => Sem Value) (FloatKind.f64.decode d) X (fun D => pure (.float .f64 (FloatKind.f64.encode (D.integral .down)))) := ⟨_, rfl⟩
  rw [e, e2, h2]
  cases D with
  | nan s t => cases hn
  | infinity s => rfl
  | number s m p => rfl
theorem mathFloor_any (d r : Nat) (hn : (Ieee.double.read d).isNaN = false) (hr : Ieee.double.write ((Ieee.double.read d).integral .down) = r) (w : World) :
    Calls Try.prog 90 #[.float .f64 d] w fun e w' => e = .returned (.float .f64 r) ∧ w' = w := by
  have h := floor_ext d _ hn rfl
  rw [hr] at h
  clear hn hr
  go_enter Try.func90, Try.ntmps90
  go_wp2
  go_ret
  exact ⟨rfl, rfl⟩
theorem floor_any {q most : Nat} (h : Whole q most) (w : World) :
    Calls Try.prog 78 #[.float .f32 q] w fun e w' => e = .returned (.float .f32 (floorB q)) ∧ w' = w := by
  obtain ⟨d, h1, hn, h2, _⟩ := h.conv
  have hA := fun (w : World) => hidA (mathFloor_any d _ hn rfl w)
  generalize Ieee.double.write ((Ieee.double.read d).integral .down) = r at *
  have c1 := fun (w : World) => run_convert_float_float (P := Try.prog) w 22 64 .f32 .f64 q d (by kernel_rfl) Try.underlying64 h1
  have c2 := fun (w : World) => run_convert_float_float (P := Try.prog) w 64 22 .f64 .f32 r (floorB q) (by kernel_rfl) Try.underlying22 h2
  clear h1 h2 hn h
  generalize floorB q = z at *
  go_enter Try.func78, Try.ntmps78
  go_wp2_with fail
  refine ((hA _).out).mono ?_
  rintro e w1 ⟨rfl, hw1⟩
  rw [hw1]
  clear hw1 w1
  go_wp2_with fail
  go_ret
  exact ⟨rfl, rfl⟩
set_option maxRecDepth 100000 in
set_option maxHeartbeats 1600000 in
theorem scaleError_any (s : ScaleR) (w : World) :
    Calls Try.prog 15 #[s.v] w fun e w' => e = .returned (.int .i64 (scaleE s)) ∧ Ext w w' := by
  have HN := fun (A : Option Addr) (w : World) (hr : Rd w A (flt [s.low, s.step])) => hidA (numberError_any A 2 2 [s.low, s.step] w rfl hr (by omega))
  by_cases h : numE [s.low, s.step] = 0
  · rcases hg : gt s.step 0
    · rw [scaleE_out h (.inl hg)]
      have b0 : (FloatKind.f32.format.order s.step 0 == some .gt) = false := hg
      rw [h] at HN
      clear h hg
      obtain ⟨lo, st, bt⟩ := s
      simp only [ScaleR.v] at *
      go_enter Try.func15, Try.ntmps15
      go_wp2_with fail
      refine ((HN _ _ (Rd.new (by first | rfl | simp) rfl)).out).mono ?_
      rintro e w1 ⟨rfl, rfl⟩
      go_wp2_with fail
      go_ret
      exact ⟨rfl, (by repeat (first | exact Ext.refl _ | assumption | refine Ext.setCell ?_ (by first | (simp; done) | (simp; omega)) _ | refine Ext.drewN ?_ _ | refine Ext.alloc ?_ _ | refine Ext.drew ?_ | refine Ext.trans ?_ (by assumption)))⟩
    · have b0 : (FloatKind.f32.format.order s.step 0 == some .gt) = true := hg
      by_cases h1 : s.bits < 1
      · rw [scaleE_out h (.inr (.inl h1))]
        rw [h] at HN
        have h1' : (decide (s.bits < 1)) = true := by simpa using h1
        clear h hg
        obtain ⟨lo, st, bt⟩ := s
        simp only [ScaleR.v] at *
        go_enter Try.func15, Try.ntmps15
        go_wp2_with fail
        refine ((HN _ _ (Rd.new (by first | rfl | simp) rfl)).out).mono ?_
        rintro e w1 ⟨rfl, rfl⟩
        go_wp2_with fail
        go_ret
        exact ⟨rfl, (by repeat (first | exact Ext.refl _ | assumption | refine Ext.setCell ?_ (by first | (simp; done) | (simp; omega)) _ | refine Ext.drewN ?_ _ | refine Ext.alloc ?_ _ | refine Ext.drew ?_ | refine Ext.trans ?_ (by assumption)))⟩
      · by_cases h2 : 24 < s.bits
        · rw [scaleE_out h (.inr (.inr h2))]
          rw [h] at HN
          clear h hg
          obtain ⟨lo, st, bt⟩ := s
          simp only [ScaleR.v] at *
          go_enter Try.func15, Try.ntmps15
          go_wp2_with fail
          refine ((HN _ _ (Rd.new (by first | rfl | simp) rfl)).out).mono ?_
          rintro e w1 ⟨rfl, rfl⟩
          go_wp2_with fail
          go_ret
          exact ⟨rfl, (by repeat (first | exact Ext.refl _ | assumption | refine Ext.setCell ?_ (by first | (simp; done) | (simp; omega)) _ | refine Ext.drewN ?_ _ | refine Ext.alloc ?_ _ | refine Ext.drew ?_ | refine Ext.trans ?_ (by assumption)))⟩
        · rw [scaleE_in h hg (by omega) (by omega)]
          rw [h] at HN
          clear h hg
          obtain ⟨lo, st, bt⟩ := s
          simp only [ScaleR.v] at *
          go_enter Try.func15, Try.ntmps15
          go_wp2_with fail
          refine ((HN _ _ (Rd.new (by first | rfl | simp) rfl)).out).mono ?_
          rintro e w1 ⟨rfl, rfl⟩
          go_wp2_with fail
          go_ret
          exact ⟨rfl, (by repeat (first | exact Ext.refl _ | assumption | refine Ext.setCell ?_ (by first | (simp; done) | (simp; omega)) _ | refine Ext.drewN ?_ _ | refine Ext.alloc ?_ _ | refine Ext.drew ?_ | refine Ext.trans ?_ (by assumption)))⟩
  · rw [scaleE_bad h]
    have t1 : (numE [s.low, s.step] != 0) = true := by simpa using h
    clear h
    generalize numE [s.low, s.step] = q at *
    obtain ⟨lo, st, bt⟩ := s
    simp only [ScaleR.v] at *
    go_enter Try.func15, Try.ntmps15
    go_wp2_with fail
    refine ((HN _ _ (Rd.new (by first | rfl | simp) rfl)).out).mono ?_
    rintro e w1 ⟨rfl, rfl⟩
    go_wp2_with fail
    go_ret
    exact ⟨rfl, (by repeat (first | exact Ext.refl _ | assumption | refine Ext.setCell ?_ (by first | (simp; done) | (simp; omega)) _ | refine Ext.drewN ?_ _ | refine Ext.alloc ?_ _ | refine Ext.drew ?_ | refine Ext.trans ?_ (by assumption)))⟩
theorem le_zero {b : Nat} (h : finB b = true) : (FloatKind.f32.format.order b 0 == some .lt || FloatKind.f32.format.order b 0 == some .eq) = !gt b 0 := by
  obtain ⟨o, ho⟩ := ord_some (fin_not_nan h) (show nanB 0 = false by decide +kernel)
  rw [gt_def ho, ord_def, ho]
  cases o <;> rfl
set_option maxRecDepth 100000 in
set_option maxHeartbeats 1600000 in
theorem checkScale_any (s : ScaleR) (w : World) :
    Calls Try.prog 16 #[s.v] w fun e w' => e = .returned (.int .i64 (scaleE s)) ∧ Ext w w' := by
  have HN := fun (A : Option Addr) (w : World) (hr : Rd w A (flt [s.low, s.step])) => hidA (heights_any A 2 2 [s.low, s.step] w rfl hr (by omega))
  by_cases h : numE [s.low, s.step] = 0
  · rcases hg : gt s.step 0
    · rw [scaleE_out h (.inl hg)]
      have b0 := le_zero ((numE_zero h).1 s.step (by simp))
      rw [hg] at b0
      simp only [Bool.not_false] at b0
      rw [h] at HN
      clear h hg
      obtain ⟨lo, st, bt⟩ := s
      simp only [ScaleR.v] at *
      go_enter Try.func16, Try.ntmps16
      go_wp2_with fail
      refine ((HN _ _ (Rd.new (by first | rfl | simp) rfl)).out).mono ?_
      rintro e w1 ⟨rfl, rfl⟩
      go_wp2_with fail
      go_ret
      exact ⟨rfl, (by repeat (first | exact Ext.refl _ | assumption | refine Ext.setCell ?_ (by first | (simp; done) | (simp; omega)) _ | refine Ext.drewN ?_ _ | refine Ext.alloc ?_ _ | refine Ext.drew ?_ | refine Ext.trans ?_ (by assumption)))⟩
    · have b0 := le_zero ((numE_zero h).1 s.step (by simp))
      rw [hg] at b0
      simp only [Bool.not_true] at b0
      by_cases h1 : s.bits < 1
      · rw [scaleE_out h (.inr (.inl h1))]
        rw [h] at HN
        have h1' : (decide (s.bits < 1)) = true := by simpa using h1
        clear h hg
        obtain ⟨lo, st, bt⟩ := s
        simp only [ScaleR.v] at *
        go_enter Try.func16, Try.ntmps16
        go_wp2_with fail
        refine ((HN _ _ (Rd.new (by first | rfl | simp) rfl)).out).mono ?_
        rintro e w1 ⟨rfl, rfl⟩
        go_wp2_with fail
        go_ret
        exact ⟨rfl, (by repeat (first | exact Ext.refl _ | assumption | refine Ext.setCell ?_ (by first | (simp; done) | (simp; omega)) _ | refine Ext.drewN ?_ _ | refine Ext.alloc ?_ _ | refine Ext.drew ?_ | refine Ext.trans ?_ (by assumption)))⟩
      · by_cases h2 : 24 < s.bits
        · rw [scaleE_out h (.inr (.inr h2))]
          rw [h] at HN
          clear h hg
          obtain ⟨lo, st, bt⟩ := s
          simp only [ScaleR.v] at *
          go_enter Try.func16, Try.ntmps16
          go_wp2_with fail
          refine ((HN _ _ (Rd.new (by first | rfl | simp) rfl)).out).mono ?_
          rintro e w1 ⟨rfl, rfl⟩
          go_wp2_with fail
          go_ret
          exact ⟨rfl, (by repeat (first | exact Ext.refl _ | assumption | refine Ext.setCell ?_ (by first | (simp; done) | (simp; omega)) _ | refine Ext.drewN ?_ _ | refine Ext.alloc ?_ _ | refine Ext.drew ?_ | refine Ext.trans ?_ (by assumption)))⟩
        · rw [scaleE_in h hg (by omega) (by omega)]
          rw [h] at HN
          clear h hg
          obtain ⟨lo, st, bt⟩ := s
          simp only [ScaleR.v] at *
          go_enter Try.func16, Try.ntmps16
          go_wp2_with fail
          refine ((HN _ _ (Rd.new (by first | rfl | simp) rfl)).out).mono ?_
          rintro e w1 ⟨rfl, rfl⟩
          go_wp2_with fail
          go_ret
          exact ⟨rfl, (by repeat (first | exact Ext.refl _ | assumption | refine Ext.setCell ?_ (by first | (simp; done) | (simp; omega)) _ | refine Ext.drewN ?_ _ | refine Ext.alloc ?_ _ | refine Ext.drew ?_ | refine Ext.trans ?_ (by assumption)))⟩
  · rw [scaleE_bad h]
    have t1 : (numE [s.low, s.step] != 0) = true := by simpa using h
    clear h
    generalize numE [s.low, s.step] = q at *
    obtain ⟨lo, st, bt⟩ := s
    simp only [ScaleR.v] at *
    go_enter Try.func16, Try.ntmps16
    go_wp2_with fail
    refine ((HN _ _ (Rd.new (by first | rfl | simp) rfl)).out).mono ?_
    rintro e w1 ⟨rfl, rfl⟩
    go_wp2_with fail
    go_ret
    exact ⟨rfl, (by repeat (first | exact Ext.refl _ | assumption | refine Ext.setCell ?_ (by first | (simp; done) | (simp; omega)) _ | refine Ext.drewN ?_ _ | refine Ext.alloc ?_ _ | refine Ext.drew ?_ | refine Ext.trans ?_ (by assumption)))⟩
end Go.Proofs.Ytdfegkpdnofdoaa
