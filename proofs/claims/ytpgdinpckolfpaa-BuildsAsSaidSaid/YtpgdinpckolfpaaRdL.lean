/- Contracts: ground.point, ground.before: the first cell from which a tight step of a shortest way leads to a cell. -/
import Derived.Test.YtpgdinpckolfpaaRdK
namespace Go.Proofs.Ytpgdinpckolfpaa
open Go.RowKit
attribute [local go_sem ↓] Go.wp_at_zero Go.wp_at_succ
attribute [local go_sem] run_store_float

set_option maxRecDepth 100000 in
set_option maxHeartbeats 3200000 in
theorem point_any (X Y : Int) (Wn Hn : Nat) (A : Option Addr) (N c : Nat) (R : RlR) (C : Option Addr) (m cc k : Nat) (w : World) (hr : Reg X Y Wn Hn) (hk : k ≤ 65536) :
    Calls Try.prog 74 #[.agg (gcells X Y Wn Hn A N c R C m cc), .int .i64 k] w fun e w' => e = .returned (.agg #[.int .i64 (X + ((k % Wn : Nat) : Int)), .int .i64 (Y + ((k / Wn : Nat) : Int))]) ∧ Ext w w' := by
  obtain ⟨y1, y2, z6, b1, _⟩ := place_facts (k := k) (Wn := Wn) (X := X) (Y := Y) hk hr.w1 hr.w2 hr.x1 (by have := hr.x2; have := hr.w1; omega) hr.y1 (by have := hr.y2; have := hr.h1; omega)
  have z7 : wrap64 (X + (k : Int) % (Wn : Int)) = X + (k : Int) % (Wn : Int) := IntWalk.wrap64_in _ ⟨by omega, by omega⟩
  have w1 := hr.w1
  have nz : ¬ (Wn : Int) = 0 := by omega
  have p1 : (1 : Int) ≤ Wn := by omega
  have k0 : (0 : Int) ≤ k := by omega
  clear hr
  unfold gcells
  go_enter Try.func74, Try.ntmps74
  go_upto_region 1 with fail
  have kG : Bk ((w.alloc (.cells #[.int .i64 X, .int .i64 Y, .int .i64 (Wn : Int), .int .i64 (Hn : Int), .slice A N c, .float .f32 R.gr, .float .f32 R.wt, .float .f32 R.br, .float .f32 R.de, .int .i64 (R.sp : Int), .slice C m cc] 115)).alloc (.cells #[.int .i64 0, .int .i64 0] 32)) w.heap.size 115 #[.int .i64 X, .int .i64 Y, .int .i64 (Wn : Int), .int .i64 (Hn : Int), .slice A N c, .float .f32 R.gr, .float .f32 R.wt, .float .f32 R.br, .float .f32 R.de, .int .i64 (R.sp : Int), .slice C m cc] := (Bk.new' rfl).alloc _
  have kA : Bk ((w.alloc (.cells #[.int .i64 X, .int .i64 Y, .int .i64 (Wn : Int), .int .i64 (Hn : Int), .slice A N c, .float .f32 R.gr, .float .f32 R.wt, .float .f32 R.br, .float .f32 R.de, .int .i64 (R.sp : Int), .slice C m cc] 115)).alloc (.cells #[.int .i64 0, .int .i64 0] 32)) (w.heap.size + 1) 32 #[.int .i64 0, .int .i64 0] := Bk.new' (by simp)
  have hx0 : Ext w ((w.alloc (.cells #[.int .i64 X, .int .i64 Y, .int .i64 (Wn : Int), .int .i64 (Hn : Int), .slice A N c, .float .f32 R.gr, .float .f32 R.wt, .float .f32 R.br, .float .f32 R.de, .int .i64 (R.sp : Int), .slice C m cc] 115)).alloc (.cells #[.int .i64 0, .int .i64 0] 32)) := ((Ext.refl w).alloc _).alloc _
  have hle : w.heap.size ≤ w.heap.size + 1 := by omega
  generalize (w.alloc (.cells #[.int .i64 X, .int .i64 Y, .int .i64 (Wn : Int), .int .i64 (Hn : Int), .slice A N c, .float .f32 R.gr, .float .f32 R.wt, .float .f32 R.br, .float .f32 R.de, .int .i64 (R.sp : Int), .slice C m cc] 115)).alloc (.cells #[.int .i64 0, .int .i64 0] 32) = w0 at *
  generalize w.heap.size + 1 = ha at *
  generalize hge : w.heap.size = hg at *
  have g0 := kG.cell 0
  have g1 := kG.cell 1
  have g2 := kG.cell 2
  have a0 := kA.cell 0
  have a1 := kA.cell 1
  have f0 := kA.frozen 0
  have f1 := kA.frozen 1
  have kA2 := (kA.set 0 (.int .i64 (X + (k : Int) % (Wn : Int)))).set 1 (.int .i64 (Y + (k : Int) / (Wn : Int)))
  have hx2 := (hx0.setCell (p := ⟨ha, 0, none⟩) (by show w.heap.size ≤ ha; omega) (.int .i64 (X + (k : Int) % (Wn : Int)))).setCell (p := ⟨ha, 1, none⟩) (by show w.heap.size ≤ ha; omega) (.int .i64 (Y + (k : Int) / (Wn : Int)))
  have K2 := hidA (And.intro kA2 hx2)
  clear kA2 hx2 kG kA hx0
  go_region
  obtain ⟨kA2, hx2⟩ := K2.out
  have q0 := (kA2.drew).cell 0
  have q1 := (kA2.drew).cell 1
  go_wp2
  refine bodyPost_ret (v := .agg #[.int .i64 (X + (k : Int) % (Wn : Int)), .int .i64 (Y + (k : Int) / (Wn : Int))]) (by simp [results, Try.results74, go_sem, q0, q1]) rfl ?_
  exact ⟨rfl, hx2.trans (by repeat (first | exact Ext.refl _ | assumption | refine Ext.setCell ?_ (by first | (simp; done) | (simp; omega)) _ | refine Ext.drewN ?_ _ | refine Ext.alloc ?_ _ | refine Ext.drew ?_ | refine Ext.trans ?_ (by assumption)))⟩

theorem stepF_ok {R : RlR} {V : Nat → Nat} {Wn Hn N k t x : Nat} (hR : RlOk R N) (hW : 1 ≤ Wn) (hN : N = Wn * Hn) (hV : ∀ j, j < N → Bd 20 (V j)) (hk : k < N) (ht : t < N) (h : stepF R V Wn Hn k t = some x) : Bd 56 x ∧ 0 < valI x := by
  unfold stepF at h
  split at h
  · cases h
  · rename_i d n hlp
    split at h
    · rename_i hn
      obtain ⟨_, h1, _, _⟩ := leap_grid hW (by rw [← hN]; exact hk) (by rw [← hN]; exact ht) hlp
      have := hR.sp
      have h2 := costF_ok hR (hV k hk) (hV t ht) ht h1 (by unfold spanN at hn; omega) h
      exact ⟨h2.1, by omega⟩
    · cases h
/-- p comes ahead of k -/
def good (R : RlR) (V : Nat → Nat) (Wn Hn : Nat) (H : Nat → Int) (P : Nat → Nat) (k p : Nat) : Prop := H p = H k - 1 ∧ ∃ x, stepF R V Wn Hn p k = some x ∧ feqB (fadd (P p) x) (P k) = true
/-- what is known of the cells that were looked at -/
structure VB (R : RlR) (V : Nat → Nat) (Wn Hn N : Nat) (H : Nat → Int) (P : Nat → Nat) (k d n best : Nat) : Prop where
  b1 : best = N ∨ best < N ∧ good R V Wn Hn H P k best
  b2 : ∀ d' n' p, d' < 8 → 1 ≤ n' → n' ≤ spanN R → besK Wn Hn k d' n' = some p → (d' < d ∨ d' = d ∧ n' < n) → good R V Wn Hn H P k p → best ≤ p
section
variable {R : RlR} {V : Nat → Nat} {Wn Hn N : Nat} {H : Nat → Int} {P : Nat → Nat} {k d n best : Nat}
theorem VB.start : VB R V Wn Hn N H P k 0 1 N := ⟨.inl rfl, fun d' n' p _ h1 _ _ h2 => by omega⟩
theorem VB.le (h : VB R V Wn Hn N H P k d n best) : best ≤ N := by
  rcases h.b1 with h1 | h1
  · omega
  · omega
/-- the next cell is not better -/
theorem VB.stay (h : VB R V Wn Hn N H P k d n best) {t : Nat} (hb : besK Wn Hn k d n = some t) (hs : best ≤ t ∨ ¬ good R V Wn Hn H P k t) : VB R V Wn Hn N H P k d (n + 1) best :=
  ⟨h.b1, fun d' n' p h8 h1 h2 h3 h4 h5 => by
    by_cases e : d' = d ∧ n' = n
    · obtain ⟨rfl, rfl⟩ := e
      rw [hb] at h3
      injection h3 with h3
      subst h3
      rcases hs with hs | hs
      · exact hs
      · exact absurd h5 hs
    · exact h.b2 d' n' p h8 h1 h2 h3 (by omega) h5⟩
theorem VB.take (h : VB R V Wn Hn N H P k d n best) {t : Nat} (hb : besK Wn Hn k d n = some t) (hN : N = Wn * Hn) (hlt : t < best) (hg : good R V Wn Hn H P k t) : VB R V Wn Hn N H P k d (n + 1) t :=
  ⟨.inr ⟨by rw [hN]; exact besK_lt hb, hg⟩, fun d' n' p h8 h1 h2 h3 h4 h5 => by
    by_cases e : d' = d ∧ n' = n
    · obtain ⟨rfl, rfl⟩ := e
      rw [hb] at h3
      injection h3 with h3
      omega
    · have := h.b2 d' n' p h8 h1 h2 h3 (by omega) h5
      omega⟩
theorem besK_mono {d n i t : Nat} (hW : 1 ≤ Wn) (hk : k < Wn * Hn) (h : besK Wn Hn k d n = some t) (hi : i ≤ n) : ∃ m, besK Wn Hn k d i = some m := by
  obtain ⟨k1, k2⟩ := grid_facts hW hk
  obtain ⟨s1, s2, s3, s4⟩ := step_bd d
  unfold besK at h ⊢
  split at h
  · rename_i hc
    obtain ⟨c1, c2, c3, c4⟩ := hc
    clear h hk
    generalize k % Wn = a at *
    generalize k / Wn = b at *
    have A := sgn_between (a := (a : Int)) (s := stepX d) (Wn := (Wn : Int)) (i := (i : Int)) (n := (n : Int)) (by omega) (by omega) (by omega) c1 c2 (by omega) (by omega)
    have B := sgn_between (a := (b : Int)) (s := stepY d) (Wn := (Hn : Int)) (i := (i : Int)) (n := (n : Int)) (by omega) (by omega) (by omega) c3 c4 (by omega) (by omega)
    exact ⟨_, if_pos ⟨A.1, A.2, B.1, B.2⟩⟩
  · cases h
/-- no cell lies farther in this direction -/
theorem VB.out (h : VB R V Wn Hn N H P k d n best) (hW : 1 ≤ Wn) (hk : k < Wn * Hn) (hb : besK Wn Hn k d n = none) : VB R V Wn Hn N H P k (d + 1) 1 best :=
  ⟨h.b1, fun d' n' p h8 h1 h2 h3 h4 h5 => by
    by_cases e : d' = d ∧ n ≤ n'
    · obtain ⟨rfl, e⟩ := e
      obtain ⟨m, hm⟩ := besK_mono hW hk h3 e
      rw [hb] at hm
      cases hm
    · exact h.b2 d' n' p h8 h1 h2 h3 (by omega) h5⟩
theorem VB.done (h : VB R V Wn Hn N H P k d n best) (hn : spanN R < n) : VB R V Wn Hn N H P k (d + 1) 1 best :=
  ⟨h.b1, fun d' n' p h8 h1 h2 h3 h4 h5 => h.b2 d' n' p h8 h1 h2 h3 (by omega) h5⟩
theorem leapO_neg {x y : Int} {d n : Nat} (h : leapO x y = some (d, n)) : leapO (-x) (-y) = some ((d + 4) % 8, n) := by
  obtain ⟨hd, hn, hx, hy⟩ := leapO_spec h
  have e : stepX (((d + 4) % 8 : Nat) : Int) = -stepX d ∧ stepY (((d + 4) % 8 : Nat) : Int) = -stepY d := by
    have h8 : d = 0 ∨ d = 1 ∨ d = 2 ∨ d = 3 ∨ d = 4 ∨ d = 5 ∨ d = 6 ∨ d = 7 := by omega
    rcases h8 with rfl | rfl | rfl | rfl | rfl | rfl | rfl | rfl <;> decide
  have := leapO_of (d := (d + 4) % 8) (n := n) (Nat.mod_lt _ (by omega)) hn
  rw [e.1, e.2, Int.mul_neg, Int.mul_neg, ← hx, ← hy] at this
  exact this
theorem VB.fin (h : VB R V Wn Hn N H P k 8 1 best) (hW : 1 ≤ Wn) (hN : N = Wn * Hn) (hk : k < N) : (best = N ∨ best < N ∧ good R V Wn Hn H P k best) ∧ ∀ p, p < N → good R V Wn Hn H P k p → best ≤ p := by
  refine ⟨h.b1, fun p hp hg => ?_⟩
  obtain ⟨_, x, hx, _⟩ := id hg
  unfold stepF at hx
  split at hx
  · cases hx
  · rename_i d n hlp
    split at hx
    · rename_i hn
      have h2 := leapO_neg hlp
      have e1 : -dX Wn p k = dX Wn k p := by unfold dX; omega
      have e2 : -dY Wn p k = dY Wn k p := by unfold dY; omega
      rw [e1, e2] at h2
      obtain ⟨h3, h4, _, h5⟩ := leap_grid hW (by rw [← hN]; exact hk) (by rw [← hN]; exact hp) h2
      exact h.b2 _ n p h3 h4 hn h5 (.inl h3) hg
    · cases hx
end
set_option maxRecDepth 100000 in
set_option maxHeartbeats 6400000 in
theorem before_any (X Y : Int) (Wn Hn : Nat) (A : Option Addr) (N c : Nat) (R : RlR) (C : Option Addr) (m cc src go gs gi k : Nat) (l : List Nat) (P : Nat → Nat) (H : Nat → Int) (w : World)
    (hr : Reg X Y Wn Hn) (hN : N = Wn * Hn) (hR : RlOk R N) (hl : l.length = N) (hh : ∀ j, j < N → Bd 20 (l.getD j 0)) (hk : k < N) (hV : Rd w A (flt l)) (hC : CoR w C m R.co)
    (hP : ∀ j, j < N → Bd 84 (P j) ∧ 0 ≤ valI (P j)) (hH : ∀ j, j < N → -1 ≤ H j ∧ H j < N) (hgo : Bk w go 27 (flo N P)) (hgi : Bk w gi 3 (intB N H)) :
    Calls Try.prog 110 #[.agg (gcells X Y Wn Hn A N c R C m cc), .agg #[.int .i64 src, .slice (some ⟨go, 0, none⟩) N N, .slice (some ⟨gs, 0, none⟩) N N], .slice (some ⟨gi, 0, none⟩) N N, .int .i64 k] w fun e w' => ∃ best : Nat, e = .returned (.int .i64 best) ∧ VB R (fun j => l.getD j 0) Wn Hn N H P k 8 1 best ∧ Ext w w' := by
  have hN6 : N ≤ 65536 := by rw [hN]; exact hr.n
  have HB := fun (d n : Nat) (w : World) (h1 : d < 8) (h2 : n ≤ 12) => hidA (bes_any X Y Wn Hn A N c R C m cc k d n w hr (by rw [← hN]; exact hk) h1 h2)
  have HPt := fun (j : Nat) (w : World) (hj : j ≤ 65536) => hidA (point_any X Y Wn Hn A N c R C m cc j w hr hj)
  have HSt := fun (t : Nat) (w : World) (ht : t < N) (hV : Rd w A (flt l)) (hC : CoR w C m R.co) => hidA (gstep_any X Y Wn Hn A N c R C m cc t k l w hr hN hR hl hh ht hk hV hC)
  have HSo := hidA (fun (t x : Nat) (ht : t < N) (h : stepF R (fun j => l.getD j 0) Wn Hn t k = some x) => stepF_ok hR hr.w1 hN hh ht hk h)
  have HW := hidA hr.w1
  have HN := hidA hN
  have HP := hidA hP
  have HH := hidA hH
  have hmx : (if (R.sp : Int) < 1 then (1 : Int) else (R.sp : Int)) = (spanN R : Int) := by unfold spanN; split <;> omega
  have Hsp := hidA (show 1 ≤ spanN R ∧ spanN R ≤ 12 from by have := hR.sp; unfold spanN; omega)
  clear hr hN hR hl hh hP hH
  unfold gcells at *
  go_enter Try.func110, Try.ntmps110
  go_upto_region 2 with fail
  obtain ⟨w0, hw0⟩ : ∃ w0, w0 = (w.alloc (.cells #[.int .i64 X, .int .i64 Y, .int .i64 (Wn : Int), .int .i64 (Hn : Int), .slice A N c, .float .f32 R.gr, .float .f32 R.wt, .float .f32 R.br, .float .f32 R.de, .int .i64 (R.sp : Int), .slice C m cc] 115)).alloc (.cells #[.int .i64 src, .slice (some ⟨go, 0, none⟩) N N, .slice (some ⟨gs, 0, none⟩) N N] 124) := ⟨_, rfl⟩
  have kG : Bk w0 w.heap.size 115 #[.int .i64 X, .int .i64 Y, .int .i64 (Wn : Int), .int .i64 (Hn : Int), .slice A N c, .float .f32 R.gr, .float .f32 R.wt, .float .f32 R.br, .float .f32 R.de, .int .i64 (R.sp : Int), .slice C m cc] := by rw [hw0]; exact (Bk.new' rfl).alloc _
  have kP : Bk w0 (w.heap.size + 1) 124 #[.int .i64 src, .slice (some ⟨go, 0, none⟩) N N, .slice (some ⟨gs, 0, none⟩) N N] := by rw [hw0]; exact Bk.new' (by simp)
  have hx0 : Ext w w0 := by rw [hw0]; exact ((Ext.refl w).alloc _).alloc _
  have kO := hgo.ext hx0
  have kI := hgi.ext hx0
  rw [← hw0]
  clear hw0 hgo hgi
  generalize w.heap.size + 1 = hp at *
  generalize hge : w.heap.size = hg at *
  clear hge
  go_wp2
  go_loopw [9, 18] (fun s9 s18 wr => ∃ d best : Nat, d ≤ 8 ∧ s18 = .int .i64 d ∧ s9 = .int .i64 best ∧ VB R (fun j => l.getD j 0) Wn Hn N H P k d 1 best ∧ Ext w0 wr) (fun _ s18 _ => 8 - (intOf s18).toNat)
  case atStart => exact ⟨0, N, by omega, rfl, rfl, VB.start, Ext.refl _⟩
  case round =>
    obtain ⟨d, best, hd, rfl, rfl, hV0, hx⟩ := hrel
    by_cases hd8 : d < 8
    · have HV0 := hidA hV0
      have Hhx := hidA hx
      clear hV0 hx
      go_wp2
      have e19 : decide ((d : Int) < 8) = true := by simp; omega
      simp only [e19]
      clear e19
      obtain ⟨wo, rfl⟩ : ∃ wo, wo = wr := ⟨_, rfl⟩
      go_loopw [9, 11] (fun s9 s11 wr => ∃ n best : Nat, 1 ≤ n ∧ n ≤ spanN R + 1 ∧ s11 = .int .i64 n ∧ s9 = .int .i64 best ∧ VB R (fun j => l.getD j 0) Wn Hn N H P k d n best ∧ Ext w0 wr) (fun _ s11 _ => spanN R + 1 - (intOf s11).toNat)
      case atStart => exact ⟨1, best, by omega, by have := Hsp.out; omega, rfl, rfl, HV0.out, Hhx.out⟩
      case round =>
        clear HV0 Hhx
        obtain ⟨n, best, hn1, hn2, rfl, rfl, hV1, hx⟩ := hrel
        have kG5 := kG.ext hx
        have g9 := kG5.cell 9
        by_cases hns : n ≤ spanN R
        · have g0 := kG5.cell 0
          have g1 := kG5.cell 1
          have g2 := kG5.cell 2
          have g3 := kG5.cell 3
          have g4 := kG5.cell 4
          have g5 := kG5.cell 5
          have g6 := kG5.cell 6
          have g7 := kG5.cell 7
          have g8 := kG5.cell 8
          have g10 := kG5.cell 10
          have h12 : n ≤ 12 := by have := Hsp.out; omega
          have hc1 : (n : Int) ≤ (spanN R : Int) := by omega
          have HBq := fun w => HB d n w hd8 h12
          have HV1 := hidA hV1
          have Hhx := hidA hx
          cases hb : besK Wn Hn k d n with
          | none =>
            have Hb := hidA hb
            rw [hb] at HBq
            clear hb hV1 hx
            simp only [nbV, Option.getD_none, Option.isSome_none] at HBq
            go_wp2_with (go_at_call 105; refine ((HBq _).out).mono ?_; rintro e w3 ⟨rfl, hx3⟩)
            go_roundw
            case rel => exact ⟨d + 1, best, by omega, by go_num, rfl, HV1.out.out HW.out (by rw [← HN.out]; exact hk) Hb.out, Hhx.out.trans hx3⟩
            case measure => simp [intOf]; omega
          | some t =>
            have htN : t < N := by rw [HN.out]; exact besK_lt hb
            have Hb := hidA hb
            rw [hb] at HBq
            clear hb
            simp only [nbV, Option.getD_some, Option.isSome_some] at HBq
            have hbN := hV1.le
            have hHt := HH.out t htN
            have hHk := HH.out k hk
            have wk : wrap64 (H k - 1) = H k - 1 := IntWalk.wrap64_in _ ⟨by omega, by omega⟩
            have Hwk := hidA wk
            clear wk hV1 hx
            go_upto_region 10 with (go_at_call 105; refine ((HBq _).out).mono ?_; rintro e w3 ⟨rfl, hx3⟩)
            have hx03 := Hhx.out.trans hx3
            have KG3 := hidA (kG5.ext hx3)
            have kI3 := kI.ext hx03
            have i1 : w3.cell? ⟨gi, t, none⟩ = some (.int .i64 (H t)) := by rw [kI3.cell]; exact intB_get _ htN
            have i2 : w3.cell? ⟨gi, k, none⟩ = some (.int .i64 (H k)) := by rw [kI3.cell]; exact intB_get _ hk
            have t0 : (0 : Int) ≤ t := by omega
            have t1 : (t : Int) < N := by omega
            have q0 : (0 : Int) ≤ k := by omega
            have q1 : (k : Int) < N := by omega
            have Hx03 := hidA hx03
            have Hns := hidA (show n + 1 ≤ spanN R + 1 by omega)
            have Hn1 := hidA (show 1 ≤ n + 1 by omega)
            clear g0 g1 g2 g3 g4 g5 g6 g7 g8 g9 g10 kG5 HBq hn1 hn2 hns hc1 hx03 hx3 Hhx kI3
            rcases (by omega : (best : Int) ≤ t ∨ ¬ (best : Int) ≤ t ∧ ¬ H t = H k - 1 ∨ ¬ (best : Int) ≤ t ∧ H t = H k - 1) with c1 | ⟨c1, c2⟩ | ⟨c1, c2⟩
            · have Hrel := hidA (HV1.out.stay Hb.out (.inl (by omega)))
              go_quiet (fail)
              clear i1 i2
              go_wp2
              go_roundw
              case rel => exact ⟨n + 1, best, Hn1.out, Hns.out, by go_num, rfl, Hrel.out, Hx03.out.trans (by repeat (first | exact Ext.refl _ | assumption | refine Ext.setCell ?_ (by first | (simp; done) | (simp; omega)) _ | refine Ext.drewN ?_ _ | refine Ext.alloc ?_ _ | refine Ext.drew ?_ | refine Ext.trans ?_ (by assumption)))⟩
              case measure => have := Hns.out; simp [intOf]; omega
            · have Hrel := hidA (HV1.out.stay Hb.out (.inr fun hg => c2 hg.1))
              have wk := Hwk.out
              go_quiet (fail)
              clear i1 i2 wk
              go_wp2
              go_roundw
              case rel => exact ⟨n + 1, best, Hn1.out, Hns.out, by go_num, rfl, Hrel.out, Hx03.out.trans (by repeat (first | exact Ext.refl _ | assumption | refine Ext.setCell ?_ (by first | (simp; done) | (simp; omega)) _ | refine Ext.drewN ?_ _ | refine Ext.alloc ?_ _ | refine Ext.drew ?_ | refine Ext.trans ?_ (by assumption)))⟩
              case measure => have := Hns.out; simp [intOf]; omega
            · have wk := Hwk.out
              have Hc2 := hidA c2
              rw [c2] at i1
              clear c2
              go_quiet (fail)
              clear i1 i2 wk
              have hx4 : Ext w0 (w3.drewN nq) := Hx03.out.trans (by repeat (first | exact Ext.refl _ | assumption | refine Ext.setCell ?_ (by first | (simp; done) | (simp; omega)) _ | refine Ext.drewN ?_ _ | refine Ext.alloc ?_ _ | refine Ext.drew ?_ | refine Ext.trans ?_ (by assumption)))
              have kG4 : Bk (w3.drewN nq) hg 115 #[.int .i64 X, .int .i64 Y, .int .i64 (Wn : Int), .int .i64 (Hn : Int), .slice A N c, .float .f32 R.gr, .float .f32 R.wt, .float .f32 R.br, .float .f32 R.de, .int .i64 (R.sp : Int), .slice C m cc] := KG3.out.ext (by repeat (first | exact Ext.refl _ | assumption | refine Ext.setCell ?_ (by first | (simp; done) | (simp; omega)) _ | refine Ext.drewN ?_ _ | refine Ext.alloc ?_ _ | refine Ext.drew ?_ | refine Ext.trans ?_ (by assumption)))
              generalize w3.drewN nq = w4 at *
              go_upto_region 11 with fail
              have HS1 := fun (w : World) (hV : Rd w A (flt l)) (hC : CoR w C m R.co) => HSt t w htN hV hC
              obtain ⟨o, ho⟩ : ∃ o, o = stepF R (fun j => l.getD j 0) Wn Hn t k := ⟨_, rfl⟩
              rw [← ho] at HS1
              unfold stV at HS1
              have Ho := hidA ho
              clear ho
              have g0 : ∀ w', Ext w4 w' → w'.cell? ⟨hg, 0, none⟩ = some (.int .i64 X) := fun w' h => (kG4.ext h).cell 0
              have g1 : ∀ w', Ext w4 w' → w'.cell? ⟨hg, 1, none⟩ = some (.int .i64 Y) := fun w' h => (kG4.ext h).cell 1
              have g2 : ∀ w', Ext w4 w' → w'.cell? ⟨hg, 2, none⟩ = some (.int .i64 (Wn : Int)) := fun w' h => (kG4.ext h).cell 2
              have g3 : ∀ w', Ext w4 w' → w'.cell? ⟨hg, 3, none⟩ = some (.int .i64 (Hn : Int)) := fun w' h => (kG4.ext h).cell 3
              have g4 : ∀ w', Ext w4 w' → w'.cell? ⟨hg, 4, none⟩ = some (.slice A N c) := fun w' h => (kG4.ext h).cell 4
              have g5 : ∀ w', Ext w4 w' → w'.cell? ⟨hg, 5, none⟩ = some (.float .f32 R.gr) := fun w' h => (kG4.ext h).cell 5
              have g6 : ∀ w', Ext w4 w' → w'.cell? ⟨hg, 6, none⟩ = some (.float .f32 R.wt) := fun w' h => (kG4.ext h).cell 6
              have g7 : ∀ w', Ext w4 w' → w'.cell? ⟨hg, 7, none⟩ = some (.float .f32 R.br) := fun w' h => (kG4.ext h).cell 7
              have g8 : ∀ w', Ext w4 w' → w'.cell? ⟨hg, 8, none⟩ = some (.float .f32 R.de) := fun w' h => (kG4.ext h).cell 8
              have g9 : ∀ w', Ext w4 w' → w'.cell? ⟨hg, 9, none⟩ = some (.int .i64 (R.sp : Int)) := fun w' h => (kG4.ext h).cell 9
              have g10 : ∀ w', Ext w4 w' → w'.cell? ⟨hg, 10, none⟩ = some (.slice C m cc) := fun w' h => (kG4.ext h).cell 10
              refine wp_region_noPanic ?_
              refine wp_region_held_drew (S := fun w' => Ext w4 w') (by kernel_rfl) ?_ (fun hHeld => ?_)
              · (repeat (first | exact Ext.refl _ | assumption | refine Ext.setCell ?_ (by first | (simp; done) | (simp; omega)) _ | refine Ext.drewN ?_ _ | refine Ext.alloc ?_ _ | refine Ext.drew ?_ | refine Ext.trans ?_ (by assumption)))
              refine wpAnyH_take (i := 0) (oi := ?o1x0) (v := ?v1x0) ?hi1x0 (by kernel_rfl) ?hf1x0 ?hr1x0 (fun _ _ _ h => h) ?hy1x0 (by assumption) ?rest1x0
              case hi1x0 => (simp only [List.getElem?_toArray, List.getElem?_cons_zero]; exact rfl)
              case hf1x0 => kernel_rfl
              case hr1x0 => kernel_rfl
              case hy1x0 => (refine Or.inl ⟨by rfl, ?_⟩; intro w hSw; (try dsimp only at hSw); go_simp; try with_reducible rfl)
              simp only [put_mk, List.set_cons_succ, List.set_cons_zero]
              refine wpAnyH_take (i := 1) (oi := ?o1x1) (v := ?v1x1) ?hi1x1 (by kernel_rfl) ?hf1x1 ?hr1x1 (fun _ _ _ h => h) ?hy1x1 (by assumption) ?rest1x1
              case hi1x1 => (simp only [List.getElem?_toArray, List.getElem?_cons_succ, List.getElem?_cons_zero]; exact rfl)
              case hf1x1 => kernel_rfl
              case hr1x1 => kernel_rfl
              case hy1x1 => (refine Or.inl ⟨by rfl, ?_⟩; intro w hSw; (try dsimp only at hSw); go_simp; try with_reducible rfl)
              simp only [put_mk, List.set_cons_succ, List.set_cons_zero]
              refine wpAnyH_take (i := 2) (oi := ?o1x2) (v := ?v1x2) ?hi1x2 (by kernel_rfl) ?hf1x2 ?hr1x2 (fun _ _ _ h => h) ?hy1x2 (by assumption) ?rest1x2
              case hi1x2 => (simp only [List.getElem?_toArray, List.getElem?_cons_succ, List.getElem?_cons_zero]; exact rfl)
              case hf1x2 => kernel_rfl
              case hr1x2 => kernel_rfl
              case hy1x2 => (refine Or.inl ⟨by rfl, ?_⟩; intro w hSw; (try dsimp only at hSw); go_simp; try with_reducible rfl)
              simp only [put_mk, List.set_cons_succ, List.set_cons_zero]
              refine wpAnyH_take (i := 4) (oi := ?o1x4) (v := ?v1x4) ?hi1x4 (by kernel_rfl) ?hf1x4 ?hr1x4 (fun _ _ _ h => h) ?hy1x4 (by assumption) ?rest1x4
              case hi1x4 => (simp only [List.getElem?_toArray, List.getElem?_cons_succ, List.getElem?_cons_zero]; exact rfl)
              case hf1x4 => kernel_rfl
              case hr1x4 => kernel_rfl
              case hy1x4 => (refine Or.inl ⟨by rfl, ?_⟩; intro w hSw; (try dsimp only at hSw); go_simp; try with_reducible rfl)
              simp only [put_mk, List.set_cons_succ, List.set_cons_zero]
              refine wpAnyH_take (i := 5) (oi := ?o1x5) (v := ?v1x5) ?hi1x5 (by kernel_rfl) ?hf1x5 ?hr1x5 (fun _ _ _ h => h) ?hy1x5 (by assumption) ?rest1x5
              case hi1x5 => (simp only [List.getElem?_toArray, List.getElem?_cons_succ, List.getElem?_cons_zero]; exact rfl)
              case hf1x5 => kernel_rfl
              case hr1x5 => kernel_rfl
              case hy1x5 => (refine Or.inl ⟨by rfl, ?_⟩; intro w hSw; (try dsimp only at hSw); go_simp; try with_reducible rfl)
              simp only [put_mk, List.set_cons_succ, List.set_cons_zero]
              refine wpAnyH_ready (rs := [3]) (by kernel_rfl) (by simp) ?_
              refine AllReadyH.cons (o := ?o1x3) ?hi1x3 (fun K hK => ?_) AllReadyH.nil
              case hi1x3 => (simp only [List.getElem?_toArray, List.getElem?_cons_succ, List.getElem?_cons_zero]; exact rfl)
              go_simp
              go_at_call 74; refine ((HPt t _ (by omega)).out).mono ?_; rintro e w5 ⟨rfl, hx5⟩
              refine hK.out _ _ ?_ (fun hHeld => ?_)
              · (repeat (first | exact Ext.refl _ | assumption | refine Ext.setCell ?_ (by first | (simp; done) | (simp; omega)) _ | refine Ext.drewN ?_ _ | refine Ext.alloc ?_ _ | refine Ext.drew ?_ | refine Ext.trans ?_ (by assumption)))
              clear hK K
              refine wpAnyH_ready (rs := [6]) (by kernel_rfl) (by simp) ?_
              refine AllReadyH.cons (o := ?o1x6) ?hi1x6 (fun K hK => ?_) AllReadyH.nil
              case hi1x6 => (simp only [List.getElem?_toArray, List.getElem?_cons_succ, List.getElem?_cons_zero]; exact rfl)
              go_simp
              go_at_call 74; refine ((HPt k _ (by omega)).out).mono ?_; rintro e w6 ⟨rfl, hx6⟩
              refine hK.out _ _ ?_ (fun hHeld => ?_)
              · (repeat (first | exact Ext.refl _ | assumption | refine Ext.setCell ?_ (by first | (simp; done) | (simp; omega)) _ | refine Ext.drewN ?_ _ | refine Ext.alloc ?_ _ | refine Ext.drew ?_ | refine Ext.trans ?_ (by assumption)))
              clear hK K
              refine wpAnyH_ready (rs := [7]) (by kernel_rfl) (by simp) ?_
              refine AllReadyH.cons (o := ?o1x7) ?hi1x7 (fun K hK => ?_) AllReadyH.nil
              case hi1x7 => (simp only [List.getElem?_toArray, List.getElem?_cons_succ, List.getElem?_cons_zero]; exact rfl)
              go_simp
              go_at_call 65; refine ((HS1 _ (hV.ext ((hx0.trans hx4).trans (by repeat (first | exact Ext.refl _ | assumption | refine Ext.setCell ?_ (by first | (simp; done) | (simp; omega)) _ | refine Ext.drewN ?_ _ | refine Ext.alloc ?_ _ | refine Ext.drew ?_ | refine Ext.trans ?_ (by assumption))))) (hC.ext ((hx0.trans hx4).trans (by repeat (first | exact Ext.refl _ | assumption | refine Ext.setCell ?_ (by first | (simp; done) | (simp; omega)) _ | refine Ext.drewN ?_ _ | refine Ext.alloc ?_ _ | refine Ext.drew ?_ | refine Ext.trans ?_ (by assumption)))))).out).mono ?_; rintro e w7 ⟨rfl, hx7⟩
              refine hK.out _ _ ?_ (fun hHeld => ?_)
              · (repeat (first | exact Ext.refl _ | assumption | refine Ext.setCell ?_ (by first | (simp; done) | (simp; omega)) _ | refine Ext.drewN ?_ _ | refine Ext.alloc ?_ _ | refine Ext.drew ?_ | refine Ext.trans ?_ (by assumption)))
              clear hK K
              refine wpAnyH_take (i := 8) (oi := ?o1x8) (v := ?v1x8) ?hi1x8 (by kernel_rfl) ?hf1x8 ?hr1x8 (fun _ _ _ h => h) ?hy1x8 (by assumption) ?rest1x8
              case hi1x8 => (simp only [List.getElem?_toArray, List.getElem?_cons_succ, List.getElem?_cons_zero]; exact rfl)
              case hf1x8 => kernel_rfl
              case hr1x8 => kernel_rfl
              case hy1x8 => (refine Or.inl ⟨by rfl, ?_⟩; intro w hSw; (try dsimp only at hSw); go_simp; try with_reducible rfl)
              simp only [put_mk, List.set_cons_succ, List.set_cons_zero]
              refine wpAnyH_take (i := 9) (oi := ?o1x9) (v := ?v1x9) ?hi1x9 (by kernel_rfl) ?hf1x9 ?hr1x9 (fun _ _ _ h => h) ?hy1x9 (by assumption) ?rest1x9
              case hi1x9 => (simp only [List.getElem?_toArray, List.getElem?_cons_succ, List.getElem?_cons_zero]; exact rfl)
              case hf1x9 => kernel_rfl
              case hr1x9 => kernel_rfl
              case hy1x9 => (refine Or.inl ⟨by rfl, ?_⟩; intro w hSw; (try dsimp only at hSw); go_simp; try with_reducible rfl)
              simp only [put_mk, List.set_cons_succ, List.set_cons_zero]
              refine wpAnyH_take (i := 10) (oi := ?o1x10) (v := ?v1x10) ?hi1x10 (by kernel_rfl) ?hf1x10 ?hr1x10 (fun _ _ _ h => h) ?hy1x10 (by assumption) ?rest1x10
              case hi1x10 => (simp only [List.getElem?_toArray, List.getElem?_cons_succ, List.getElem?_cons_zero]; exact rfl)
              case hf1x10 => kernel_rfl
              case hr1x10 => kernel_rfl
              case hy1x10 => (refine Or.inl ⟨by rfl, ?_⟩; intro w hSw; (try dsimp only at hSw); go_simp; try with_reducible rfl)
              simp only [put_mk, List.set_cons_succ, List.set_cons_zero]
              refine wpAnyH_take (i := 11) (oi := ?o1x11) (v := ?v1x11) ?hi1x11 (by kernel_rfl) ?hf1x11 ?hr1x11 (fun _ _ _ h => h) ?hy1x11 (by assumption) ?rest1x11
              case hi1x11 => (simp only [List.getElem?_toArray, List.getElem?_cons_succ, List.getElem?_cons_zero]; exact rfl)
              case hf1x11 => kernel_rfl
              case hr1x11 => kernel_rfl
              case hy1x11 => (refine Or.inl ⟨by rfl, ?_⟩; intro w hSw; (try dsimp only at hSw); go_simp; try with_reducible rfl)
              simp only [put_mk, List.set_cons_succ, List.set_cons_zero]
              refine wpAnyH_take (i := 12) (oi := ?o1x12) (v := ?v1x12) ?hi1x12 (by kernel_rfl) ?hf1x12 ?hr1x12 (fun _ _ _ h => h) ?hy1x12 (by assumption) ?rest1x12
              case hi1x12 => (simp only [List.getElem?_toArray, List.getElem?_cons_succ, List.getElem?_cons_zero]; exact rfl)
              case hf1x12 => kernel_rfl
              case hr1x12 => kernel_rfl
              case hy1x12 => (refine Or.inl ⟨by rfl, ?_⟩; intro w hSw; (try dsimp only at hSw); go_simp; try with_reducible rfl)
              simp only [put_mk, List.set_cons_succ, List.set_cons_zero]
              refine wpAnyH_done (by kernel_rfl) ?_ _
              refine NoPanic.normal ?_
              have hx8 := hx4.trans (show Ext w4 _ from hHeld)
              have Hx8 := hidA hx8
              clear hx8 hHeld hx7 hx6 hx5 hx4 kG4 g0 g1 g2 g3 g4 g5 g6 g7 g8 g9 g10
              generalize w7 = w8 at *
              cases o with
              | none =>
                have Hrel := hidA (HV1.out.stay Hb.out (.inr fun ⟨_, x, hx, _⟩ => by rw [← Ho.out] at hx; cases hx))
                simp only [Option.getD_none, Option.isSome_none]
                go_upto_region 12 with fail
                go_quiet (fail)
                go_wp2
                go_roundw
                case rel => exact ⟨n + 1, best, Hn1.out, Hns.out, by go_num, rfl, Hrel.out, Hx8.out.trans (by repeat (first | exact Ext.refl _ | assumption | refine Ext.setCell ?_ (by first | (simp; done) | (simp; omega)) _ | refine Ext.drewN ?_ _ | refine Ext.alloc ?_ _ | refine Ext.drew ?_ | refine Ext.trans ?_ (by assumption)))⟩
                case measure => have := Hns.out; simp [intOf]; omega
              | some x =>
                simp only [Option.getD_some, Option.isSome_some]
                obtain ⟨x1, x2⟩ := HSo.out t x htN Ho.out.symm
                obtain ⟨hadd, _, _, _⟩ := sum_ok (HP.out t htN).1 (HP.out t htN).2 x1 x2
                have hrun := fun (w : World) => run_float_arith (P := Try.prog) w .add 27 .f32 _ _ _ hadd
                have kP8 := (kP.ext Hx8.out).cell 1
                have o1 : w8.cell? ⟨go, t, none⟩ = some (.float .f32 (P t)) := by rw [(kO.ext Hx8.out).cell]; exact flo_get _ htN
                have o2 : w8.cell? ⟨go, k, none⟩ = some (.float .f32 (P k)) := by rw [(kO.ext Hx8.out).cell]; exact flo_get _ hk
                clear hadd x1 x2
                cases hf : feqB (fadd (P t) x) (P k)
                · have hf' : (FloatKind.f32.format.order (fadd (P t) x) (P k) == some .eq) = false := hf
                  have Hrel := hidA (HV1.out.stay Hb.out (.inr fun ⟨_, x', hx, hq⟩ => by rw [← Ho.out] at hx; injection hx with hx; subst hx; rw [hf] at hq; cases hq))
                  clear hf
                  generalize fadd (P t) x = z at *
                  go_upto_region 12 with fail
                  go_quiet (fail)
                  clear o1 o2 kP8 hrun
                  go_wp2
                  go_roundw
                  case rel => exact ⟨n + 1, best, Hn1.out, Hns.out, by go_num, rfl, Hrel.out, Hx8.out.trans (by repeat (first | exact Ext.refl _ | assumption | refine Ext.setCell ?_ (by first | (simp; done) | (simp; omega)) _ | refine Ext.drewN ?_ _ | refine Ext.alloc ?_ _ | refine Ext.drew ?_ | refine Ext.trans ?_ (by assumption)))⟩
                  case measure => have := Hns.out; simp [intOf]; omega
                · have hf' : (FloatKind.f32.format.order (fadd (P t) x) (P k) == some .eq) = true := hf
                  have Hrel := hidA (HV1.out.take Hb.out HN.out (by omega) ⟨Hc2.out, x, Ho.out.symm, hf⟩)
                  clear hf
                  generalize fadd (P t) x = z at *
                  go_upto_region 12 with fail
                  go_quiet (fail)
                  clear o1 o2 kP8 hrun
                  go_wp2
                  go_roundw
                  case rel => exact ⟨n + 1, t, Hn1.out, Hns.out, by go_num, rfl, Hrel.out, Hx8.out.trans (by repeat (first | exact Ext.refl _ | assumption | refine Ext.setCell ?_ (by first | (simp; done) | (simp; omega)) _ | refine Ext.drewN ?_ _ | refine Ext.alloc ?_ _ | refine Ext.drew ?_ | refine Ext.trans ?_ (by assumption)))⟩
                  case measure => have := Hns.out; simp [intOf]; omega
        · obtain rfl : n = spanN R + 1 := by omega
          have hc1 : ¬ ((spanN R + 1 : Nat) : Int) ≤ (spanN R : Int) := by omega
          have Hrel := hidA (hV1.done (by omega))
          go_wp2
          go_roundw
          case rel => exact ⟨d + 1, best, by omega, by go_num, rfl, Hrel.out, hx⟩
          case measure => simp [intOf]; omega
    · obtain rfl : d = 8 := by omega
      go_wp2
      go_ret
      exact ⟨best, rfl, hV0, hx0.trans hx⟩
end Go.Proofs.Ytpgdinpckolfpaa
