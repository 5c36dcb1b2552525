/- Contracts: road.length, grade, beside. -/
import Derived.Test.YtpgdinpckolfpaaRdE
import Derived.Test.YtpgdinpckolfpaaMagA
import Derived.Deep.DeepCutAuto
import Derived.BigQuiet
namespace Go.Proofs.Ytpgdinpckolfpaa
open Go.RowKit
attribute [local go_sem ↓] Go.wp_at_zero Go.wp_at_succ

/-- a field with rules -/
def gcells (X Y : Int) (Wn Hn : Nat) (A : Option Addr) (N c : Nat) (R : RlR) (C : Option Addr) (m cc : Nat) : Array Value :=
  #[.int .i64 X, .int .i64 Y, .int .i64 (Wn : Int), .int .i64 (Hn : Int), .slice A N c, .float .f32 R.gr, .float .f32 R.wt, .float .f32 R.br, .float .f32 R.de, .int .i64 (R.sp : Int), .slice C m cc]

theorem longE_any (d : Nat) (w : World) (h : d < 8) :
    Calls Try.prog 129 #[.int .i64 d] w fun e w' => e = .returned (.float .f32 (longN d)) ∧ w' = w := by
  have hd : d = 0 ∨ d = 1 ∨ d = 2 ∨ d = 3 ∨ d = 4 ∨ d = 5 ∨ d = 6 ∨ d = 7 := by omega
  rcases hd with rfl | rfl | rfl | rfl | rfl | rfl | rfl | rfl
  all_goals
    go_enter Try.func129, Try.ntmps129
    go_wp2
    go_ret
    exact ⟨rfl, rfl⟩
theorem length_any (d n : Nat) (w : World) (h : d < 8) (h1 : 1 ≤ n) (h2 : n ≤ 12) :
    Calls Try.prog 116 #[.int .i64 d, .int .i64 n] w fun e w' => e = .returned (.float .f32 (lenR d n)) ∧ w' = w := by
  have HL := fun (w : World) => hidA (longE_any d w h)
  by_cases hn : n = 1
  · subst hn
    have he : Hid (lenR d 1 = longN d) := if_pos rfl
    clear h h1 h2
    generalize longN d = x at *
    go_enter Try.func116, Try.ntmps116
    go_wp2_with (go_at_call 129; refine ((HL _).out).mono ?_; rintro e w' ⟨rfl, hw'⟩; subst hw')
    go_ret
    exact ⟨ret_f he.out.symm, rfl⟩
  · have he : Hid (lenR d n = fmul (floatOfInt .f32 (n : Int)) (longN d)) := if_neg hn
    have hm := fun (w : World) => run_float_arith (P := Try.prog) w .mul 27 .f32 _ _ _ (len_mul (d := d) h1 h2)
    have hne : ¬ (n : Int) = 1 := by omega
    clear h h1 h2 hn
    generalize longN d = x at *
    go_enter Try.func116, Try.ntmps116
    go_wp2_with (go_at_call 129; refine ((HL _).out).mono ?_; rintro e w' ⟨rfl, hw'⟩; subst hw')
    go_ret
    exact ⟨ret_f he.out.symm, rfl⟩
theorem grade_any (a b long : Nat) (w : World) (ha : Bd 20 a) (hb : Bd 20 b) (hl : Ge1 long) (hp : long < 2147483648) :
    Calls Try.prog 90 #[.float .f32 a, .float .f32 b, .float .f32 long] w fun e w' => e = .returned (.float .f32 (grF a b long)) ∧ w' = w := by
  obtain ⟨g1, g2, g3, g4, g5⟩ := gr_ok ha hb hl hp
  have q1 := fun (w : World) => run_float_arith (P := Try.prog) w .sub 27 .f32 _ _ _ g1
  have q2 := fun (w : World) => run_float_arith (P := Try.prog) w .quo 27 .f32 _ _ _ g3
  have HM := fun (w : World) => hidA (magnitude_any (fsub b a) w g2 (by omega))
  clear g1 g2 g3 g4 g5 ha hb hl hp
  generalize grF a b long = r at *
  generalize fsub b a = x at *
  generalize absB x = y at *
  go_enter Try.func90, Try.ntmps90
  go_wp2_with (go_at_call 119; refine ((HM _).out).mono ?_; rintro e w' ⟨rfl, hw'⟩; subst hw')
  go_ret
  exact ⟨rfl, rfl⟩
theorem mul_step (n : Nat) (d : Int) (hn : n ≤ 12) : -12 ≤ (n : Int) * stepX d ∧ (n : Int) * stepX d ≤ 12 ∧ -12 ≤ (n : Int) * stepY d ∧ (n : Int) * stepY d ≤ 12 := by
  have key : ∀ s : Int, s = -1 ∨ s = 0 ∨ s = 1 → -12 ≤ (n : Int) * s ∧ (n : Int) * s ≤ 12 := fun s h => by
    rcases h with rfl | rfl | rfl <;> omega
  obtain ⟨s1, s2, s3, s4⟩ := step_bd d
  have a := key (stepX d) (by omega)
  have b := key (stepY d) (by omega)
  exact ⟨a.1, a.2, b.1, b.2⟩
theorem bes_facts {a b Wn Hn : Nat} {sx sy : Int} (f1 : a < Wn) (f2 : b < Hn) (z2 : Wn ≤ 512) (z3 : Hn ≤ 512) (s1 : -12 ≤ sx) (s2 : sx ≤ 12) (s3 : -12 ≤ sy) (s4 : sy ≤ 12) :
    wrap64 (b : Int) = b ∧ wrap64 ((a : Int) + sx) = (a : Int) + sx ∧ wrap64 ((b : Int) + sy) = (b : Int) + sy ∧
      (((a : Int) + sx < 0) ∨ (¬ (a : Int) + sx < 0 ∧ (b : Int) + sy < 0) ∨ (¬ (a : Int) + sx < 0 ∧ ¬ (b : Int) + sy < 0 ∧ (Wn : Int) ≤ (a : Int) + sx) ∨ (¬ (a : Int) + sx < 0 ∧ ¬ (b : Int) + sy < 0 ∧ ¬ (Wn : Int) ≤ (a : Int) + sx ∧ (Hn : Int) ≤ (b : Int) + sy) ∨ (¬ (a : Int) + sx < 0 ∧ ¬ (b : Int) + sy < 0 ∧ ¬ (Wn : Int) ≤ (a : Int) + sx ∧ ¬ (Hn : Int) ≤ (b : Int) + sy)) :=
  ⟨IntWalk.wrap64_in _ ⟨by omega, by omega⟩, IntWalk.wrap64_in _ ⟨by omega, by omega⟩, IntWalk.wrap64_in _ ⟨by omega, by omega⟩, by omega⟩
theorem bes_case {a b Wn Hn : Nat} {sx sy : Int} {nb : Option Nat} (h : nb = if 0 ≤ (a : Int) + sx ∧ (a : Int) + sx < Wn ∧ 0 ≤ (b : Int) + sy ∧ (b : Int) + sy < Hn then some (((b : Int) + sy).toNat * Wn + ((a : Int) + sx).toNat) else none)
    (hm : ((a : Int) + sx).toNat < Wn → ((b : Int) + sy).toNat < Hn → ((b : Int) + sy).toNat * Wn + ((a : Int) + sx).toNat < Wn * Hn) :
    (∃ x' y' : Nat, (a : Int) + sx = x' ∧ (b : Int) + sy = y' ∧ nb = some (y' * Wn + x') ∧ y' * Wn + x' < Wn * Hn ∧ x' < Wn ∧ y' < Hn) ∨ nb = none ∧ ((a : Int) + sx < 0 ∨ (b : Int) + sy < 0 ∨ (Wn : Int) ≤ (a : Int) + sx ∨ (Hn : Int) ≤ (b : Int) + sy) := by
  by_cases hc : 0 ≤ (a : Int) + sx ∧ (a : Int) + sx < Wn ∧ 0 ≤ (b : Int) + sy ∧ (b : Int) + sy < Hn
  · left
    rw [if_pos hc] at h
    have h1 : ((a : Int) + sx).toNat < Wn := by clear h hm; omega
    have h2 : ((b : Int) + sy).toNat < Hn := by clear h hm; omega
    exact ⟨((a : Int) + sx).toNat, ((b : Int) + sy).toNat, by clear h hm; omega, by clear h hm; omega, h, hm h1 h2, h1, h2⟩
  · right
    rw [if_neg hc] at h
    refine ⟨h, ?_⟩
    clear h hm
    omega
set_option maxRecDepth 100000 in
set_option maxHeartbeats 6400000 in
theorem bes_any (X Y : Int) (Wn Hn : Nat) (A : Option Addr) (N c : Nat) (R : RlR) (C : Option Addr) (m cc k d n : Nat) (w : World) (hr : Reg X Y Wn Hn) (hk : k < Wn * Hn) (hd : d < 8) (hn12 : n ≤ 12) :
    Calls Try.prog 105 #[.agg (gcells X Y Wn Hn A N c R C m cc), .int .i64 k, .int .i64 d, .int .i64 n] w fun e w' => e = .returned (nbV (besK Wn Hn k d n)) ∧ Ext w w' := by
  obtain ⟨f1, f2⟩ := grid_facts hr.w1 hk
  obtain ⟨s1, s2, s3, s4⟩ := mul_step n d hn12
  have hk6 : k < 65536 := Nat.lt_of_lt_of_le hk hr.n
  have HT := fun (w : World) => hidA (toward_any d w (by omega) (by omega))
  have z1 := hr.w1
  have z2 := hr.w2
  have z3 := hr.h2
  have e1 := hidA (show (k : Int) % (Wn : Int) = ((k % Wn : Nat) : Int) from rfl)
  have e2 := hidA (show (k : Int) / (Wn : Int) = ((k / Wn : Nat) : Int) from rfl)
  have hmul := @mul_lt ((((k % Wn : Nat) : Int) + n * stepX d).toNat) ((((k / Wn : Nat) : Int) + n * stepY d).toNat) Wn Hn
  have hn6 := hr.n
  have hnb : besK Wn Hn k d n = if 0 ≤ ((k % Wn : Nat) : Int) + n * stepX d ∧ ((k % Wn : Nat) : Int) + n * stepX d < Wn ∧ 0 ≤ ((k / Wn : Nat) : Int) + n * stepY d ∧ ((k / Wn : Nat) : Int) + n * stepY d < Hn then some ((((k / Wn : Nat) : Int) + n * stepY d).toNat * Wn + (((k % Wn : Nat) : Int) + n * stepX d).toNat) else none := rfl
  generalize hga : k % Wn = a at *
  generalize hgb : k / Wn = b at *
  generalize hsx : stepX d = tx at *
  generalize hsy : stepY d = ty at *
  generalize hpx : (n : Int) * tx = sx at *
  generalize hpy : (n : Int) * ty = sy at *
  have U1 := hidA (show wrap64 ((n : Int) * tx) = sx from by rw [hpx]; exact IntWalk.wrap64_in _ ⟨by omega, by omega⟩)
  have U2 := hidA (show wrap64 ((n : Int) * ty) = sy from by rw [hpy]; exact IntWalk.wrap64_in _ ⟨by omega, by omega⟩)
  have U3 := hidA (show IntKind.i64.wrap ((n : Int) * tx) = sx from by rw [hpx]; exact IntWalk.i64_in _ ⟨by omega, by omega⟩)
  have U4 := hidA (show IntKind.i64.wrap ((n : Int) * ty) = sy from by rw [hpy]; exact IntWalk.i64_in _ ⟨by omega, by omega⟩)
  clear hga hgb hsx hsy hpx hpy
  generalize besK Wn Hn k d n = nb at *
  have Hnb := hidA hnb
  have Hmul := hidA hmul
  clear hr hk hnb hmul
  obtain ⟨q1, q2, q3, hcase⟩ := bes_facts f1 f2 z2 z3 s1 s2 s3 s4
  have r1 : wrap64 ((k : Int) % (Wn : Int) + sx) = (a : Int) + sx := by rw [e1.out]; exact q2
  have r2 : wrap64 (wrap64 ((k : Int) / (Wn : Int)) + sy) = (b : Int) + sy := by rw [e2.out, q1]; exact q3
  have hv0 : (∃ x' y' : Nat, (a : Int) + sx = x' ∧ (b : Int) + sy = y' ∧ nb = some (y' * Wn + x') ∧ y' * Wn + x' < Wn * Hn ∧ x' < Wn ∧ y' < Hn) ∨ nb = none ∧ ((a : Int) + sx < 0 ∨ (b : Int) + sy < 0 ∨ (Wn : Int) ≤ (a : Int) + sx ∨ (Hn : Int) ≤ (b : Int) + sy) := bes_case Hnb.out Hmul.out
  have y1 : (1 : Int) ≤ Wn := by clear hcase r1 r2 hv0 q1 q2 q3; omega
  have HN6 := hidA hn6
  clear e1 e2 q1 q2 q3 Hnb Hmul s1 s2 s3 s4 f1 f2 z1 z2 z3 hk6 hn6 hn12
  generalize (a : Int) + sx = px at *
  generalize (b : Int) + sy = py at *
  have u1 := U1.out
  have u2 := U2.out
  have u3 := U3.out
  have u4 := U4.out
  clear U1 U2 U3 U4
  have Hv := hidA hv0
  clear hv0
  unfold gcells
  rcases hcase with c1 | ⟨c1, c2⟩ | ⟨c1, c2, c3⟩ | ⟨c1, c2, c3, c4⟩ | ⟨c1, c2, c3, c4⟩
  · have hv : Hid (nb = none) := by
      rcases Hv.out with ⟨x', y', h1, h2, h3, h4, h5, h6⟩ | h1
      · exfalso; clear r1 r2 u1 u2 u3 u4; omega
      · exact h1.1
    clear Hv
    go_enter Try.func105, Try.ntmps105
    go_wp2_with (go_at_call 79; refine (HT _).out.mono ?_; rintro e w1 ⟨rfl, hb1⟩; have kR : Bk w1 w.heap.size 115 #[.int .i64 X, .int .i64 Y, .int .i64 (Wn : Int), .int .i64 (Hn : Int), .slice A N c, .float .f32 R.gr, .float .f32 R.wt, .float .f32 R.br, .float .f32 R.de, .int .i64 (R.sp : Int), .slice C m cc] := (Bk.new' rfl).ext hb1; have k2 := kR.cell 2; have k3 := kR.cell 3; have kl := kR.lt)
    go_quiet (fail)
    go_wp2
    go_ret2
    exact ⟨by rw [hv.out]; rfl, (by repeat (first | exact Ext.refl _ | assumption | refine Ext.setCell ?_ (by first | (simp; done) | (simp; omega)) _ | refine Ext.drewN ?_ _ | refine Ext.alloc ?_ _ | refine Ext.drew ?_ | refine Ext.trans ?_ (by assumption)))⟩
  · have hv : Hid (nb = none) := by
      rcases Hv.out with ⟨x', y', h1, h2, h3, h4, h5, h6⟩ | h1
      · exfalso; clear r1 r2 u1 u2 u3 u4; omega
      · exact h1.1
    clear Hv
    go_enter Try.func105, Try.ntmps105
    go_wp2_with (go_at_call 79; refine (HT _).out.mono ?_; rintro e w1 ⟨rfl, hb1⟩; have kR : Bk w1 w.heap.size 115 #[.int .i64 X, .int .i64 Y, .int .i64 (Wn : Int), .int .i64 (Hn : Int), .slice A N c, .float .f32 R.gr, .float .f32 R.wt, .float .f32 R.br, .float .f32 R.de, .int .i64 (R.sp : Int), .slice C m cc] := (Bk.new' rfl).ext hb1; have k2 := kR.cell 2; have k3 := kR.cell 3; have kl := kR.lt)
    go_quiet (fail)
    go_wp2
    go_ret2
    exact ⟨by rw [hv.out]; rfl, (by repeat (first | exact Ext.refl _ | assumption | refine Ext.setCell ?_ (by first | (simp; done) | (simp; omega)) _ | refine Ext.drewN ?_ _ | refine Ext.alloc ?_ _ | refine Ext.drew ?_ | refine Ext.trans ?_ (by assumption)))⟩
  · have hv : Hid (nb = none) := by
      rcases Hv.out with ⟨x', y', h1, h2, h3, h4, h5, h6⟩ | h1
      · exfalso; clear r1 r2 u1 u2 u3 u4; omega
      · exact h1.1
    clear Hv
    go_enter Try.func105, Try.ntmps105
    go_wp2_with (go_at_call 79; refine (HT _).out.mono ?_; rintro e w1 ⟨rfl, hb1⟩; have kR : Bk w1 w.heap.size 115 #[.int .i64 X, .int .i64 Y, .int .i64 (Wn : Int), .int .i64 (Hn : Int), .slice A N c, .float .f32 R.gr, .float .f32 R.wt, .float .f32 R.br, .float .f32 R.de, .int .i64 (R.sp : Int), .slice C m cc] := (Bk.new' rfl).ext hb1; have k2 := kR.cell 2; have k3 := kR.cell 3; have kl := kR.lt)
    go_quiet (fail)
    go_wp2
    go_ret2
    exact ⟨by rw [hv.out]; rfl, (by repeat (first | exact Ext.refl _ | assumption | refine Ext.setCell ?_ (by first | (simp; done) | (simp; omega)) _ | refine Ext.drewN ?_ _ | refine Ext.alloc ?_ _ | refine Ext.drew ?_ | refine Ext.trans ?_ (by assumption)))⟩
  · have hv : Hid (nb = none) := by
      rcases Hv.out with ⟨x', y', h1, h2, h3, h4, h5, h6⟩ | h1
      · exfalso; clear r1 r2 u1 u2 u3 u4; omega
      · exact h1.1
    clear Hv
    go_enter Try.func105, Try.ntmps105
    go_wp2_with (go_at_call 79; refine (HT _).out.mono ?_; rintro e w1 ⟨rfl, hb1⟩; have kR : Bk w1 w.heap.size 115 #[.int .i64 X, .int .i64 Y, .int .i64 (Wn : Int), .int .i64 (Hn : Int), .slice A N c, .float .f32 R.gr, .float .f32 R.wt, .float .f32 R.br, .float .f32 R.de, .int .i64 (R.sp : Int), .slice C m cc] := (Bk.new' rfl).ext hb1; have k2 := kR.cell 2; have k3 := kR.cell 3; have kl := kR.lt)
    go_quiet (fail)
    go_wp2
    go_ret2
    exact ⟨by rw [hv.out]; rfl, (by repeat (first | exact Ext.refl _ | assumption | refine Ext.setCell ?_ (by first | (simp; done) | (simp; omega)) _ | refine Ext.drewN ?_ _ | refine Ext.alloc ?_ _ | refine Ext.drew ?_ | refine Ext.trans ?_ (by assumption)))⟩
  · obtain ⟨x', y', rfl, rfl, h3, h4, h5, h6⟩ | h1 := Hv.out
    · have hv := hidA h3
      clear h3 Hv
      have e3 : (y' : Int) * (Wn : Int) = ((y' * Wn : Nat) : Int) := (Int.natCast_mul _ _).symm
      have E3 := hidA e3
      clear e3
      generalize hp : y' * Wn = pr at hv h4 E3
      have p2 : (0 : Int) ≤ (y' : Int) * (Wn : Int) ∧ (y' : Int) * (Wn : Int) ≤ 65536 := by rw [E3.out]; have := HN6.out; clear r1 r2 u1 u2 u3 u4 hp; omega
      obtain ⟨p3, p4⟩ := p2
      have h7 := hidA (show wrap64 ((pr : Int) + (x' : Int)) = (pr : Int) + (x' : Int) from IntWalk.wrap64_in _ (by have := HN6.out; clear r1 r2 u1 u2 u3 u4 hp p3 p4; omega))
      clear hp
      go_enter Try.func105, Try.ntmps105
      go_wp2_with (go_at_call 79; refine (HT _).out.mono ?_; rintro e w1 ⟨rfl, hb1⟩; have kR : Bk w1 w.heap.size 115 #[.int .i64 X, .int .i64 Y, .int .i64 (Wn : Int), .int .i64 (Hn : Int), .slice A N c, .float .f32 R.gr, .float .f32 R.wt, .float .f32 R.br, .float .f32 R.de, .int .i64 (R.sp : Int), .slice C m cc] := (Bk.new' rfl).ext hb1; have k2 := kR.cell 2; have k3 := kR.cell 3; have kl := kR.lt)
      go_quiet (fail)
      go_wp2
      go_ret2
      refine ⟨?_, (by repeat (first | exact Ext.refl _ | assumption | refine Ext.setCell ?_ (by first | (simp; done) | (simp; omega)) _ | refine Ext.drewN ?_ _ | refine Ext.alloc ?_ _ | refine Ext.drew ?_ | refine Ext.trans ?_ (by assumption)))⟩
      rw [hv.out]
      unfold nbV
      simp [E3.out, h7.out]
    · exfalso; clear r1 r2 u1 u2 u3 u4; omega
end Go.Proofs.Ytpgdinpckolfpaa
