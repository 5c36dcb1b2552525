/- Contracts: how well ground suits a kind: plant.suit and tarnref2.SuitOf reckon the same; plant.Slack. -/
import Derived.Test.YtjkalnboijkikaaDoorSlackA
import Derived.Test.YtjkalnboijkikaaDoorBaseB
namespace Go.Proofs.YtjkalnboijkikaaDoor
open Go.RowKit
attribute [local go_sem ↓] Go.wp_at_zero Go.wp_at_succ

def slopeF (g1 a3 : Nat) : Nat := if gt g1 a3 = true then 0 else if gt a3 0 = true then fsub 1065353216 (fmul 1056964608 (fdiv g1 a3)) else 1065353216
def suitF (a0 a1 a2 a3 a4 a5 g0 g1 g2 : Nat) : Nat := fmul (fmul (slackF g0 a0 a1 a2) (slopeF g1 a3)) (slackF g2 a4 a5 (fadd a4 1065353216))
def slackE (v low high soft : Nat) : Int := if numE [v, low, high, soft] ≠ 0 then numE [v, low, high, soft] else if lt high low = true then 8 else if lt soft 0 = true then 3 else 0
theorem slackE_zero {v low high soft : Nat} (h : slackE v low high soft = 0) : Bd 20 v ∧ Bd 20 low ∧ Bd 20 high ∧ Bd 22 soft := by
  unfold slackE at h
  split at h
  · contradiction
  · rename_i h1
    have h2 := (numE_zero (by omega : numE [v, low, high, soft] = 0)).2
    exact ⟨hgt_bd (h2 _ (by simp)), hgt_bd (h2 _ (by simp)), hgt_bd (h2 _ (by simp)), (hgt_bd (h2 soft (by simp))).mono (by omega)⟩

set_option maxHeartbeats 1600000 in
theorem Slack_bad (v low high soft : Nat) (w : World) (h : slackE v low high soft ≠ 0) :
    Calls Tryd.prog 11 #[.float .f32 v, .float .f32 low, .float .f32 high, .float .f32 soft] w fun e w' => e = .returned (.tuple #[.float .f32 0, .int .i64 (slackE v low high soft)]) ∧ Ext w w' := by
  go_enter Tryd.func11, Tryd.ntmps11
  go_wp2_with fail
  refine (heights_any _ 4 4 [v, low, high, soft] _ rfl (Rd.new (by first | rfl | simp) rfl) (by omega)).mono ?_
  rintro e w' ⟨rfl, rfl⟩
  by_cases h1 : numE [v, low, high, soft] = 0
  · have b0 : (numE [v, low, high, soft] != 0) = false := by simpa using h1
    by_cases h2 : lt high low = true
    · have HN : Hid (slackE v low high soft = 8) := by show _ = _; unfold slackE; rw [if_neg (by simpa using h1), if_pos h2]
      have C1 : (FloatKind.f32.format.order high low == some .lt) = true := h2
      clear h h1 h2
      go_wp2
      go_ret2
      exact ⟨by rw [HN.out]; rfl, (by repeat (first | exact Ext.refl _ | assumption | refine Ext.setCell ?_ (by first | (simp; done) | (simp; omega)) _ | refine Ext.drewN ?_ _ | refine Ext.alloc ?_ _ | refine Ext.drew ?_ | refine Ext.trans ?_ (by assumption)))⟩
    · have C1 : (FloatKind.f32.format.order high low == some .lt) = false := (Bool.not_eq_true _).mp h2
      by_cases h3 : lt soft 0 = true
      · have HN : Hid (slackE v low high soft = 3) := by show _ = _; unfold slackE; rw [if_neg (by simpa using h1), if_neg h2, if_pos h3]
        have C2 : (FloatKind.f32.format.order soft 0 == some .lt) = true := h3
        clear h h1 h2 h3
        go_wp2
        go_ret2
        exact ⟨by rw [HN.out]; rfl, (by repeat (first | exact Ext.refl _ | assumption | refine Ext.setCell ?_ (by first | (simp; done) | (simp; omega)) _ | refine Ext.drewN ?_ _ | refine Ext.alloc ?_ _ | refine Ext.drew ?_ | refine Ext.trans ?_ (by assumption)))⟩
      · exfalso
        apply h
        unfold slackE
        rw [if_neg (by simpa using h1), if_neg h2, if_neg h3]
  · have HN : Hid (slackE v low high soft = numE [v, low, high, soft]) := if_pos h1
    have b0 : (numE [v, low, high, soft] != 0) = true := by simpa using h1
    clear h h1
    go_wp2
    go_ret2
    exact ⟨by rw [HN.out]; rfl, (by repeat (first | exact Ext.refl _ | assumption | refine Ext.setCell ?_ (by first | (simp; done) | (simp; omega)) _ | refine Ext.drewN ?_ _ | refine Ext.alloc ?_ _ | refine Ext.drew ?_ | refine Ext.trans ?_ (by assumption)))⟩
set_option maxHeartbeats 1600000 in
theorem Slack_ok (v low high soft : Nat) (w : World) (h : slackE v low high soft = 0) :
    Calls Tryd.prog 11 #[.float .f32 v, .float .f32 low, .float .f32 high, .float .f32 soft] w fun e w' => e = .returned (.tuple #[.float .f32 (slackF v low high soft), .int .i64 0]) ∧ Ext w w' := by
  obtain ⟨hb0, hb1, hb2, hb3⟩ := slackE_zero h
  unfold slackE at h
  have HS := fun (w : World) => hidA (slack_any v low high soft w hb0 hb1 hb2 hb3)
  have h1 : numE [v, low, high, soft] = 0 := by
    by_cases h1 : numE [v, low, high, soft] = 0
    · exact h1
    · rw [if_pos h1] at h; exact h
  rw [if_neg (by simpa using h1)] at h
  have b0 : (numE [v, low, high, soft] != 0) = false := by simpa using h1
  have h2 : ¬ lt high low = true := fun h2 => by rw [if_pos h2] at h; omega
  rw [if_neg h2] at h
  have h3 : ¬ lt soft 0 = true := fun h3 => by rw [if_pos h3] at h; omega
  have C1 : (FloatKind.f32.format.order high low == some .lt) = false := (Bool.not_eq_true _).mp h2
  have C2 : (FloatKind.f32.format.order soft 0 == some .lt) = false := (Bool.not_eq_true _).mp h3
  clear h h1 h2 h3
  go_enter Tryd.func11, Tryd.ntmps11
  go_wp2_with fail
  refine (heights_any _ 4 4 [v, low, high, soft] _ rfl (Rd.new (by first | rfl | simp) rfl) (by omega)).mono ?_
  rintro e w' ⟨rfl, rfl⟩
  go_wp2_with fail
  refine ((HS _).out).mono ?_
  rintro e w1 ⟨rfl, hw1⟩
  rw [hw1]
  clear hw1 w1
  go_wp2
  go_ret2
  exact ⟨rfl, (by repeat (first | exact Ext.refl _ | assumption | refine Ext.setCell ?_ (by first | (simp; done) | (simp; omega)) _ | refine Ext.drewN ?_ _ | refine Ext.alloc ?_ _ | refine Ext.drew ?_ | refine Ext.trans ?_ (by assumption)))⟩

set_option maxRecDepth 100000 in
set_option maxHeartbeats 3200000 in
theorem suit_any (s : ByteArray) (a0 a1 a2 a3 a4 a5 a6 a7 a8 a9 g0 g1 g2 : Nat) (p q : Int) (w : World) (b0 : Bd 20 g0) (b1 : Bd 22 g1) (b2 : Bd 20 g2) (hg1 : ord g1 0 ≠ some .lt)
    (hs0 : Bd 20 a0) (hs1 : Bd 20 a1) (hs2 : Bd 20 a2) (hs3 : Bd 20 a3) (hs4 : Bd 20 a4) (hs5 : Bd 20 a5) :
    Calls Tryd.prog 32 #[.agg #[.string s, .float .f32 a0, .float .f32 a1, .float .f32 a2, .float .f32 a3, .float .f32 a4, .float .f32 a5, .float .f32 a6, .float .f32 a7, .float .f32 a8, .float .f32 a9, .int .i64 p, .int .i64 q], .agg #[.float .f32 g0, .float .f32 g1, .float .f32 g2]] w fun e w' => e = .returned (.float .f32 (suitF a0 a1 a2 a3 a4 a5 g0 g1 g2)) ∧ Ext w w' := by
  obtain ⟨p1, pb1⟩ := fadd_ok (K := 20) hs4 (one_bd.mono (show 0 ≤ 20 by omega)) (by omega)
  have rp := fun (w : World) => run_float_arith (P := Tryd.prog) w .add 26 .f32 _ _ _ p1
  have ha := slack_bd b0 hs0 hs1 (hs2.mono (show 20 ≤ 22 by omega))
  have hc := slack_bd b2 hs4 hs5 pb1
  have H1 := fun (w : World) => hidA (slack_any g0 a0 a1 a2 w b0 hs0 hs1 (hs2.mono (show 20 ≤ 22 by omega)))
  have H2 := fun (w : World) => hidA (slack_any g2 a4 a5 (fadd a4 1065353216) w b2 hs4 hs5 pb1)
  clear p1 pb1
  by_cases h1 : gt g1 a3 = true
  · have C1 : (FloatKind.f32.format.order g1 a3 == some .gt) = true := h1
    have hz := zero_bd.mono (show 0 ≤ 5 by omega)
    obtain ⟨m1, mb1⟩ := fmul_ok (K := 4) (J := 5) ha hz (by omega)
    obtain ⟨m2, mb2⟩ := fmul_ok (K := 10) (J := 4) mb1 hc (by omega)
    have r1 := fun (w : World) => run_float_arith (P := Tryd.prog) w .mul 26 .f32 _ _ _ m1
    have r2 := fun (w : World) => run_float_arith (P := Tryd.prog) w .mul 26 .f32 _ _ _ m2
    have HF : Hid (fmul (fmul (slackF g0 a0 a1 a2) 0) (slackF g2 a4 a5 (fadd a4 1065353216)) = suitF a0 a1 a2 a3 a4 a5 g0 g1 g2) := by show _ = _; unfold suitF slopeF; rw [if_pos h1]
    clear m1 mb1 m2 mb2 ha hc
    go_enter Tryd.func32, Tryd.ntmps32
    go_wp2_with fail
    refine ((H1 _).out).mono ?_
    rintro e w1 ⟨rfl, hw1⟩
    rw [hw1]
    clear hw1 w1
    go_wp2_with fail
    refine ((H2 _).out).mono ?_
    rintro e w1 ⟨rfl, hw1⟩
    rw [hw1]
    clear hw1 w1
    go_wp2
    go_ret
    exact ⟨ret_f HF.out, (by repeat (first | exact Ext.refl _ | assumption | refine Ext.setCell ?_ (by first | (simp; done) | (simp; omega)) _ | refine Ext.drewN ?_ _ | refine Ext.alloc ?_ _ | refine Ext.drew ?_ | refine Ext.trans ?_ (by assumption)))⟩
  · by_cases h2 : gt a3 0 = true
    · have C1 : (FloatKind.f32.format.order g1 a3 == some .gt) = false := (Bool.not_eq_true _).mp h1
      have C2 : (FloatKind.f32.format.order a3 0 == some .gt) = true := h2
      obtain ⟨d1, db1⟩ := fquot_ok b1 hs3 (by omega) (by omega) hg1 ((ord_swap hs3 zero_bd (by omega) (by omega)).1 (gt_ord.1 h2)) (fun h => h1 (gt_ord.2 h))
      obtain ⟨d2, db2⟩ := fmul_ok half_bd db1 (by omega)
      obtain ⟨d3, db3⟩ := fsub_ok (one_bd.mono (show 0 ≤ 3 by omega)) db2 (by omega)
      have q1 := fun (w : World) => run_float_arith (P := Tryd.prog) w .quo 26 .f32 _ _ _ d1
      have q2 := fun (w : World) => run_float_arith (P := Tryd.prog) w .mul 26 .f32 _ _ _ d2
      have q3 := fun (w : World) => run_float_arith (P := Tryd.prog) w .sub 26 .f32 _ _ _ d3
      clear d1 d2 d3 db1 db2
      obtain ⟨m1, mb1⟩ := fmul_ok (K := 4) (J := 5) ha db3 (by omega)
      obtain ⟨m2, mb2⟩ := fmul_ok (K := 10) (J := 4) mb1 hc (by omega)
      have r1 := fun (w : World) => run_float_arith (P := Tryd.prog) w .mul 26 .f32 _ _ _ m1
      have r2 := fun (w : World) => run_float_arith (P := Tryd.prog) w .mul 26 .f32 _ _ _ m2
      have HF : Hid (fmul (fmul (slackF g0 a0 a1 a2) (fsub 1065353216 (fmul 1056964608 (fdiv g1 a3)))) (slackF g2 a4 a5 (fadd a4 1065353216)) = suitF a0 a1 a2 a3 a4 a5 g0 g1 g2) := by show _ = _; unfold suitF slopeF; rw [if_neg h1, if_pos h2]
      clear m1 mb1 m2 mb2 ha hc
      go_enter Tryd.func32, Tryd.ntmps32
      go_wp2_with fail
      refine ((H1 _).out).mono ?_
      rintro e w1 ⟨rfl, hw1⟩
      rw [hw1]
      clear hw1 w1
      go_wp2_with fail
      refine ((H2 _).out).mono ?_
      rintro e w1 ⟨rfl, hw1⟩
      rw [hw1]
      clear hw1 w1
      go_wp2
      go_ret
      exact ⟨ret_f HF.out, (by repeat (first | exact Ext.refl _ | assumption | refine Ext.setCell ?_ (by first | (simp; done) | (simp; omega)) _ | refine Ext.drewN ?_ _ | refine Ext.alloc ?_ _ | refine Ext.drew ?_ | refine Ext.trans ?_ (by assumption)))⟩
    · have C1 : (FloatKind.f32.format.order g1 a3 == some .gt) = false := (Bool.not_eq_true _).mp h1
      have C2 : (FloatKind.f32.format.order a3 0 == some .gt) = false := (Bool.not_eq_true _).mp h2
      have ho := one_bd.mono (show 0 ≤ 5 by omega)
      obtain ⟨m1, mb1⟩ := fmul_ok (K := 4) (J := 5) ha ho (by omega)
      obtain ⟨m2, mb2⟩ := fmul_ok (K := 10) (J := 4) mb1 hc (by omega)
      have r1 := fun (w : World) => run_float_arith (P := Tryd.prog) w .mul 26 .f32 _ _ _ m1
      have r2 := fun (w : World) => run_float_arith (P := Tryd.prog) w .mul 26 .f32 _ _ _ m2
      have HF : Hid (fmul (fmul (slackF g0 a0 a1 a2) 1065353216) (slackF g2 a4 a5 (fadd a4 1065353216)) = suitF a0 a1 a2 a3 a4 a5 g0 g1 g2) := by show _ = _; unfold suitF slopeF; rw [if_neg h1, if_neg h2]
      clear m1 mb1 m2 mb2 ha hc
      go_enter Tryd.func32, Tryd.ntmps32
      go_wp2_with fail
      refine ((H1 _).out).mono ?_
      rintro e w1 ⟨rfl, hw1⟩
      rw [hw1]
      clear hw1 w1
      go_wp2_with fail
      refine ((H2 _).out).mono ?_
      rintro e w1 ⟨rfl, hw1⟩
      rw [hw1]
      clear hw1 w1
      go_wp2
      go_ret
      exact ⟨ret_f HF.out, (by repeat (first | exact Ext.refl _ | assumption | refine Ext.setCell ?_ (by first | (simp; done) | (simp; omega)) _ | refine Ext.drewN ?_ _ | refine Ext.alloc ?_ _ | refine Ext.drew ?_ | refine Ext.trans ?_ (by assumption)))⟩

set_option maxRecDepth 100000 in
set_option maxHeartbeats 3200000 in
theorem suitOf_any (s : ByteArray) (a0 a1 a2 a3 a4 a5 a6 a7 a8 a9 g0 g1 g2 : Nat) (p q : Int) (w : World) (b0 : Bd 20 g0) (b1 : Bd 22 g1) (b2 : Bd 20 g2) (hg1 : ord g1 0 ≠ some .lt)
    (hs0 : Bd 20 a0) (hs1 : Bd 20 a1) (hs2 : Bd 20 a2) (hs3 : Bd 20 a3) (hs4 : Bd 20 a4) (hs5 : Bd 20 a5) :
    Calls Tryd.prog 18 #[.agg #[.string s, .float .f32 a0, .float .f32 a1, .float .f32 a2, .float .f32 a3, .float .f32 a4, .float .f32 a5, .float .f32 a6, .float .f32 a7, .float .f32 a8, .float .f32 a9, .int .i64 p, .int .i64 q], .agg #[.float .f32 g0, .float .f32 g1, .float .f32 g2]] w fun e w' => e = .returned (.float .f32 (suitF a0 a1 a2 a3 a4 a5 g0 g1 g2)) ∧ Ext w w' := by
  obtain ⟨p1, pb1⟩ := fadd_ok (K := 20) hs4 (one_bd.mono (show 0 ≤ 20 by omega)) (by omega)
  have rp := fun (w : World) => run_float_arith (P := Tryd.prog) w .add 26 .f32 _ _ _ p1
  have ha := slack_bd b0 hs0 hs1 (hs2.mono (show 20 ≤ 22 by omega))
  have hc := slack_bd b2 hs4 hs5 pb1
  have H1 := fun (w : World) => hidA (slackOf_any g0 a0 a1 a2 w b0 hs0 hs1 (hs2.mono (show 20 ≤ 22 by omega)))
  have H2 := fun (w : World) => hidA (slackOf_any g2 a4 a5 (fadd a4 1065353216) w b2 hs4 hs5 pb1)
  clear p1 pb1
  by_cases h1 : gt g1 a3 = true
  · have C1 : (FloatKind.f32.format.order g1 a3 == some .gt) = true := h1
    have hz := zero_bd.mono (show 0 ≤ 5 by omega)
    obtain ⟨m1, mb1⟩ := fmul_ok (K := 4) (J := 5) ha hz (by omega)
    obtain ⟨m2, mb2⟩ := fmul_ok (K := 10) (J := 4) mb1 hc (by omega)
    have r1 := fun (w : World) => run_float_arith (P := Tryd.prog) w .mul 26 .f32 _ _ _ m1
    have r2 := fun (w : World) => run_float_arith (P := Tryd.prog) w .mul 26 .f32 _ _ _ m2
    have HF : Hid (fmul (fmul (slackF g0 a0 a1 a2) 0) (slackF g2 a4 a5 (fadd a4 1065353216)) = suitF a0 a1 a2 a3 a4 a5 g0 g1 g2) := by show _ = _; unfold suitF slopeF; rw [if_pos h1]
    clear m1 mb1 m2 mb2 ha hc
    go_enter Tryd.func18, Tryd.ntmps18
    go_wp2_with fail
    refine ((H1 _).out).mono ?_
    rintro e w1 ⟨rfl, hw1⟩
    rw [hw1]
    clear hw1 w1
    go_wp2_with fail
    refine ((H2 _).out).mono ?_
    rintro e w1 ⟨rfl, hw1⟩
    rw [hw1]
    clear hw1 w1
    go_wp2
    go_ret
    exact ⟨ret_f HF.out, (by repeat (first | exact Ext.refl _ | assumption | refine Ext.setCell ?_ (by first | (simp; done) | (simp; omega)) _ | refine Ext.drewN ?_ _ | refine Ext.alloc ?_ _ | refine Ext.drew ?_ | refine Ext.trans ?_ (by assumption)))⟩
  · by_cases h2 : gt a3 0 = true
    · have C1 : (FloatKind.f32.format.order g1 a3 == some .gt) = false := (Bool.not_eq_true _).mp h1
      have C2 : (FloatKind.f32.format.order a3 0 == some .gt) = true := h2
      obtain ⟨d1, db1⟩ := fquot_ok b1 hs3 (by omega) (by omega) hg1 ((ord_swap hs3 zero_bd (by omega) (by omega)).1 (gt_ord.1 h2)) (fun h => h1 (gt_ord.2 h))
      obtain ⟨d2, db2⟩ := fmul_ok half_bd db1 (by omega)
      obtain ⟨d3, db3⟩ := fsub_ok (one_bd.mono (show 0 ≤ 3 by omega)) db2 (by omega)
      have q1 := fun (w : World) => run_float_arith (P := Tryd.prog) w .quo 26 .f32 _ _ _ d1
      have q2 := fun (w : World) => run_float_arith (P := Tryd.prog) w .mul 26 .f32 _ _ _ d2
      have q3 := fun (w : World) => run_float_arith (P := Tryd.prog) w .sub 26 .f32 _ _ _ d3
      clear d1 d2 d3 db1 db2
      obtain ⟨m1, mb1⟩ := fmul_ok (K := 4) (J := 5) ha db3 (by omega)
      obtain ⟨m2, mb2⟩ := fmul_ok (K := 10) (J := 4) mb1 hc (by omega)
      have r1 := fun (w : World) => run_float_arith (P := Tryd.prog) w .mul 26 .f32 _ _ _ m1
      have r2 := fun (w : World) => run_float_arith (P := Tryd.prog) w .mul 26 .f32 _ _ _ m2
      have HF : Hid (fmul (fmul (slackF g0 a0 a1 a2) (fsub 1065353216 (fmul 1056964608 (fdiv g1 a3)))) (slackF g2 a4 a5 (fadd a4 1065353216)) = suitF a0 a1 a2 a3 a4 a5 g0 g1 g2) := by show _ = _; unfold suitF slopeF; rw [if_neg h1, if_pos h2]
      clear m1 mb1 m2 mb2 ha hc
      go_enter Tryd.func18, Tryd.ntmps18
      go_wp2_with fail
      refine ((H1 _).out).mono ?_
      rintro e w1 ⟨rfl, hw1⟩
      rw [hw1]
      clear hw1 w1
      go_wp2_with fail
      refine ((H2 _).out).mono ?_
      rintro e w1 ⟨rfl, hw1⟩
      rw [hw1]
      clear hw1 w1
      go_wp2
      go_ret
      exact ⟨ret_f HF.out, (by repeat (first | exact Ext.refl _ | assumption | refine Ext.setCell ?_ (by first | (simp; done) | (simp; omega)) _ | refine Ext.drewN ?_ _ | refine Ext.alloc ?_ _ | refine Ext.drew ?_ | refine Ext.trans ?_ (by assumption)))⟩
    · have C1 : (FloatKind.f32.format.order g1 a3 == some .gt) = false := (Bool.not_eq_true _).mp h1
      have C2 : (FloatKind.f32.format.order a3 0 == some .gt) = false := (Bool.not_eq_true _).mp h2
      have ho := one_bd.mono (show 0 ≤ 5 by omega)
      obtain ⟨m1, mb1⟩ := fmul_ok (K := 4) (J := 5) ha ho (by omega)
      obtain ⟨m2, mb2⟩ := fmul_ok (K := 10) (J := 4) mb1 hc (by omega)
      have r1 := fun (w : World) => run_float_arith (P := Tryd.prog) w .mul 26 .f32 _ _ _ m1
      have r2 := fun (w : World) => run_float_arith (P := Tryd.prog) w .mul 26 .f32 _ _ _ m2
      have HF : Hid (fmul (fmul (slackF g0 a0 a1 a2) 1065353216) (slackF g2 a4 a5 (fadd a4 1065353216)) = suitF a0 a1 a2 a3 a4 a5 g0 g1 g2) := by show _ = _; unfold suitF slopeF; rw [if_neg h1, if_neg h2]
      clear m1 mb1 m2 mb2 ha hc
      go_enter Tryd.func18, Tryd.ntmps18
      go_wp2_with fail
      refine ((H1 _).out).mono ?_
      rintro e w1 ⟨rfl, hw1⟩
      rw [hw1]
      clear hw1 w1
      go_wp2_with fail
      refine ((H2 _).out).mono ?_
      rintro e w1 ⟨rfl, hw1⟩
      rw [hw1]
      clear hw1 w1
      go_wp2
      go_ret
      exact ⟨ret_f HF.out, (by repeat (first | exact Ext.refl _ | assumption | refine Ext.setCell ?_ (by first | (simp; done) | (simp; omega)) _ | refine Ext.drewN ?_ _ | refine Ext.alloc ?_ _ | refine Ext.drew ?_ | refine Ext.trans ?_ (by assumption)))⟩
end Go.Proofs.YtjkalnboijkikaaDoor
