/- Contract: export.Fit. -/
import Derived.Test.YtdfegkpdnofdoaaMinMax
import Derived.Test.YtdfegkpdnofdoaaExtr
import Derived.Test.YtdfegkpdnofdoaaScaleC
import Derived.Test.YtdfegkpdnofdoaaCheckP
namespace Go.Proofs.Ytdfegkpdnofdoaa
open Go.RowKit
attribute [local go_sem ↓] Go.wp_at_zero Go.wp_at_succ

theorem run_store_float' {P : Program} {a : Addr} {m : Mode} {w : World} (k : FloatKind) (b : Nat) : (store a (.float k b) m).run P w = stored P w a (.float k b) m := run_store P w a _ m rfl
attribute [local go_sem] run_store_float'

theorem fieldE_facts {X Y W H : Int} {l : List Nat} {n : Nat} (hn : l.length = n) (h : fieldE X Y W H l = 0) : 1 ≤ n ∧ n ≤ 65536 ∧ (∀ b ∈ l, Bd 20 b) := by
  have hr : regE X Y W H = 0 := by
    by_cases h1 : regE X Y W H = 0
    · exact h1
    · rw [fieldE_reg h1] at h
      exact absurd h h1
  obtain ⟨r1, r2, r3, r4, r5, _⟩ := regE_zero hr
  have hl : (l.length : Int) = W * H := by
    by_cases h1 : (l.length : Int) = W * H
    · exact h1
    · rw [fieldE_len hr h1] at h
      cases h
  rw [fieldE_num hr hl] at h
  rw [hn] at hl
  have h1 := Int.mul_pos (show 0 < W by omega) (show 0 < H by omega)
  exact ⟨by omega, by omega, num_bd' h⟩

set_option maxRecDepth 100000 in
set_option maxHeartbeats 1600000 in
theorem fit_bad (X Y W H bt : Int) (A : Option Addr) (n c : Nat) (l : List Nat) (w : World) (hn : l.length = n) (hd : Rd w A (flt l)) (hb : n ≤ 140737488351232) (h : fieldE X Y W H l ≠ 0) :
    Calls Try.prog 23 #[.agg #[.int .i64 X, .int .i64 Y, .int .i64 W, .int .i64 H, .slice A n c], .int .i64 bt] w fun e w' => e = .returned (.tuple #[.agg #[.float .f32 0, .float .f32 0, .int .i64 0], .int .i64 (fieldE X Y W H l)]) ∧ Ext w w' := by
  have HC := fun (w' : World) (h : Rd w' A (flt l)) => hidA (check_any X Y W H A n c l w' hn h hb)
  have t1 : (fieldE X Y W H l != 0) = true := by simpa using h
  clear h hn hb
  generalize fieldE X Y W H l = q at *
  go_enter Try.func23, Try.ntmps23
  go_wp2_with fail
  refine ((HC _ ((hd.alloc _).alloc _)).out).mono ?_
  rintro e w1 ⟨rfl, hb1⟩
  have hR : Bk w1 (w.heap.size + 1) 38 #[.float .f32 0, .float .f32 0, .int .i64 0] := (Bk.new' (by simp)).ext hb1
  have hx1 : Ext w w1 := (((Ext.refl w).alloc _).alloc _).trans hb1
  have r0 := hR.cell 0
  have r1 := hR.cell 1
  have r2 := hR.cell 2
  have r3 := hR.frozen 0
  have r4 := hR.frozen 1
  have r5 := hR.frozen 2
  clear hR hb1 HC hd
  go_wp2_with fail
  refine bodyPost_ret (v := .tuple #[.agg #[.float .f32 0, .float .f32 0, .int .i64 0], .int .i64 q]) (by simp [results, Try.results23, go_sem, r0, r1, r2]) rfl ⟨rfl, ?_⟩
  exact (by repeat (first | exact Ext.refl _ | assumption | refine Ext.setCell ?_ (by first | (simp; done) | (simp; omega)) _ | refine Ext.drewN ?_ _ | refine Ext.alloc ?_ _ | refine Ext.drew ?_ | refine Ext.trans ?_ (by assumption)))
set_option maxRecDepth 100000 in
set_option maxHeartbeats 1600000 in
theorem fit_out (X Y W H bt : Int) (A : Option Addr) (n c : Nat) (l : List Nat) (w : World) (hn : l.length = n) (hd : Rd w A (flt l)) (hb : n ≤ 140737488351232) (h : fieldE X Y W H l = 0) (ho : bt < 1 ∨ 24 < bt) :
    Calls Try.prog 23 #[.agg #[.int .i64 X, .int .i64 Y, .int .i64 W, .int .i64 H, .slice A n c], .int .i64 bt] w fun e w' => e = .returned (.tuple #[.agg #[.float .f32 0, .float .f32 0, .int .i64 0], .int .i64 3]) ∧ Ext w w' := by
  have HC := fun (w' : World) (h : Rd w' A (flt l)) => hidA (check_any X Y W H A n c l w' hn h hb)
  rw [h] at HC
  clear h hn hb
  by_cases h1 : bt < 1
  all_goals
    first
    | have h2 : bt < 1 := h1
    | have h2 : 24 < bt := by omega
    clear ho
    go_enter Try.func23, Try.ntmps23
    go_wp2_with fail
    refine ((HC _ ((hd.alloc _).alloc _)).out).mono ?_
    rintro e w1 ⟨rfl, hb1⟩
    have hR : Bk w1 (w.heap.size + 1) 38 #[.float .f32 0, .float .f32 0, .int .i64 0] := (Bk.new' (by simp)).ext hb1
    have hx1 : Ext w w1 := (((Ext.refl w).alloc _).alloc _).trans hb1
    have r0 := hR.cell 0
    have r1 := hR.cell 1
    have r2 := hR.cell 2
    have r3 := hR.frozen 0
    have r4 := hR.frozen 1
    have r5 := hR.frozen 2
    clear hR hb1 HC hd
    go_wp2_with fail
    refine bodyPost_ret (v := .tuple #[.agg #[.float .f32 0, .float .f32 0, .int .i64 0], .int .i64 3]) (by simp [results, Try.results23, go_sem, r0, r1, r2]) rfl ⟨rfl, ?_⟩
    exact (by repeat (first | exact Ext.refl _ | assumption | refine Ext.setCell ?_ (by first | (simp; done) | (simp; omega)) _ | refine Ext.drewN ?_ _ | refine Ext.alloc ?_ _ | refine Ext.drew ?_ | refine Ext.trans ?_ (by assumption)))

def fitS (l : List Nat) (b : Nat) : Nat := stepN (extr l).2 (extr l).1 (mostN b : Nat)
theorem fitS_ok {l : List Nat} {b : Nat} (hl : ∀ x ∈ l, Bd 20 x) (h0 : l ≠ []) (h1 : 1 ≤ b) (h2 : b ≤ 24) :
    floatBits .sub .f32 (extr l).2 (extr l).1 = some (fsub (extr l).2 (extr l).1) ∧ floatBits .quo .f32 (fsub (extr l).2 (extr l).1) (floatOfInt .f32 ((mostN b : Nat) : Int)) = some (fdiv (fsub (extr l).2 (extr l).1) (floatOfInt .f32 ((mostN b : Nat) : Int))) ∧ finB (fitS l b) = true := by
  have hm := extr_mem h0
  obtain ⟨m1, m2, _⟩ := mostN_bd h1 h2
  exact step_ok (hl _ hm.2) (hl _ hm.1) (by omega) m2

set_option maxRecDepth 100000 in
set_option maxHeartbeats 3200000 in
theorem fit_ok (X Y W H : Int) (A : Option Addr) (n c b : Nat) (l : List Nat) (w : World) (hn : l.length = n) (hd : Rd w A (flt l)) (hcap : n ≤ c) (h : fieldE X Y W H l = 0) (h1 : 1 ≤ b) (h2 : b ≤ 24) :
    Calls Try.prog 23 #[.agg #[.int .i64 X, .int .i64 Y, .int .i64 W, .int .i64 H, .slice A n c], .int .i64 b] w fun e w' =>
      e = .returned (.tuple #[if numE [fitS l b] = 0 then .agg #[.float .f32 (extr l).1, .float .f32 (fitS l b), .int .i64 b] else .agg #[.float .f32 0, .float .f32 0, .int .i64 0], .int .i64 (numE [fitS l b])]) ∧ Ext w w' := by
  obtain ⟨n1, n2, hl⟩ := fieldE_facts hn h
  have h0 : l ≠ [] := by rintro rfl; simp at hn; omega
  have HC := fun (w' : World) (h : Rd w' A (flt l)) => hidA (check_any X Y W H A n c l w' hn h (by omega))
  rw [h] at HC
  obtain ⟨p1, p2, p3⟩ := fitS_ok hl h0 h1 h2
  have mc := most_cast h1 h2
  have sh := wrap_pow h2
  obtain ⟨m1, m2, m3⟩ := mostN_bd h1 h2
  have w2 : wrap64 (((2 ^ b : Nat) : Int) - 1) = ((2 ^ b : Nat) : Int) - 1 := by unfold wrap64; omega
  have HV := fun (w : World) => hidA (value_any (fitS l b) w p3)
  obtain ⟨ad, rfl, _, _⟩ := hd (by intro e; apply h0; unfold flt at e; simpa using e)
  have HX := fun (w' : World) (h : Rd w' (some ad) (flt l)) => hidA (extremes_all ad n c l w' hn h n1 (by omega) hcap)
  have HS : Hid (fitS l b = if lt (fdiv (fsub (extr l).2 (extr l).1) (floatOfInt .f32 ((mostN b : Nat) : Int))) 897581056 = true then 897581056 else fdiv (fsub (extr l).2 (extr l).1) (floatOfInt .f32 ((mostN b : Nat) : Int))) := rfl
  rw [mc] at p2 HS
  have q1 := fun (w : World) => run_float_arith (P := Try.prog) w .sub 22 .f32 _ _ _ p1
  have q2 := fun (w : World) => run_float_arith (P := Try.prog) w .quo 22 .f32 _ _ _ p2
  have hS : 2 ≤ 2 ^ b ∧ 2 ^ b ≤ 16777216 := by omega
  have HD := hidA hd
  clear p1 p2 p3 hl h0 h hn m1 m2 m3 mc n2 hd
  generalize fitS l b = r at *
  generalize extr l = z at *
  generalize fdiv (fsub z.2 z.1) (floatOfInt .f32 (((2 ^ b : Nat) : Int) - 1)) = d at *
  generalize 2 ^ b = S at *
  have key : ∀ bb, lt d 897581056 = bb → Calls Try.prog 23 #[.agg #[.int .i64 X, .int .i64 Y, .int .i64 W, .int .i64 H, .slice (some ad) n c], .int .i64 b] w fun e w' =>
      e = .returned (.tuple #[if numE [r] = 0 then .agg #[.float .f32 z.1, .float .f32 r, .int .i64 b] else .agg #[.float .f32 0, .float .f32 0, .int .i64 0], .int .i64 (numE [r])]) ∧ Ext w w' := by
    intro bb hbb
    have b0 : (FloatKind.f32.format.order d 897581056 == some .lt) = bb := hbb
    have hr : r = if bb = true then 897581056 else d := by rw [HS.out, hbb]
    clear HS hbb
    by_cases hz : numE [r] = 0
    · rw [if_pos hz, hz]
      rw [hz, if_pos rfl] at HV
      clear hz
      cases bb with
      | true =>
        rw [if_pos rfl] at hr
        subst hr
        go_enter Try.func23, Try.ntmps23
        go_wp2_with fail
        refine ((HC _ ((HD.out.alloc _).alloc _)).out).mono ?_
        rintro e w1 ⟨rfl, hb1⟩
        have hF : Bk w1 w.heap.size 43 #[.int .i64 X, .int .i64 Y, .int .i64 W, .int .i64 H, .slice (some ad) n c] := ((Bk.new' rfl).alloc _).ext hb1
        have hR : Bk w1 (w.heap.size + 1) 38 #[.float .f32 0, .float .f32 0, .int .i64 0] := (Bk.new' (by simp)).ext hb1
        have hx1 : Ext w w1 := (((Ext.refl w).alloc _).alloc _).trans hb1
        have k4 := hF.cell 4
        have hR1 := hidA hR
        clear hF hR hb1 HC
        go_wp2_with fail
        refine ((HX _ (HD.out.ext hx1)).out).mono ?_
        rintro e w2 ⟨rfl, hb2⟩
        have hx2 : Ext w w2 := hx1.trans hb2
        have hR2 := hR1.out.ext hb2
        have r0 := hR2.cell 0
        have r1 := hR2.cell 1
        have r2 := hR2.cell 2
        have r3 := hR2.frozen 0
        have r4 := hR2.frozen 1
        have r5 := hR2.frozen 2
        have hle := hx1.size
        have hle2 := hb2.size
        have hlt2 := hR2.lt
        clear hR2 hR1 hb2 hx1 HX HD k4
        go_wp2_with fail
        refine ((HV _).out).mono ?_
        rintro e w3 ⟨rfl, hw3⟩
        rw [hw3]
        clear hw3 w3
        go_wp2_with fail
        refine bodyPost_ret (v := .tuple #[.agg #[.float .f32 z.1, .float .f32 897581056, .int .i64 b], .int .i64 0]) (by simp [results, Try.results23, go_sem, r0, r1, r2]) rfl ⟨rfl, ?_⟩
        exact (by repeat (first | exact Ext.refl _ | assumption | refine Ext.setCell ?_ (by first | (simp; done) | (simp; omega)) _ | refine Ext.drewN ?_ _ | refine Ext.alloc ?_ _ | refine Ext.drew ?_ | refine Ext.trans ?_ (by assumption)))
      | false =>
        rw [if_neg (by decide)] at hr
        subst hr
        go_enter Try.func23, Try.ntmps23
        go_wp2_with fail
        refine ((HC _ ((HD.out.alloc _).alloc _)).out).mono ?_
        rintro e w1 ⟨rfl, hb1⟩
        have hF : Bk w1 w.heap.size 43 #[.int .i64 X, .int .i64 Y, .int .i64 W, .int .i64 H, .slice (some ad) n c] := ((Bk.new' rfl).alloc _).ext hb1
        have hR : Bk w1 (w.heap.size + 1) 38 #[.float .f32 0, .float .f32 0, .int .i64 0] := (Bk.new' (by simp)).ext hb1
        have hx1 : Ext w w1 := (((Ext.refl w).alloc _).alloc _).trans hb1
        have k4 := hF.cell 4
        have hR1 := hidA hR
        clear hF hR hb1 HC
        go_wp2_with fail
        refine ((HX _ (HD.out.ext hx1)).out).mono ?_
        rintro e w2 ⟨rfl, hb2⟩
        have hx2 : Ext w w2 := hx1.trans hb2
        have hR2 := hR1.out.ext hb2
        have r0 := hR2.cell 0
        have r1 := hR2.cell 1
        have r2 := hR2.cell 2
        have r3 := hR2.frozen 0
        have r4 := hR2.frozen 1
        have r5 := hR2.frozen 2
        have hle := hx1.size
        have hle2 := hb2.size
        have hlt2 := hR2.lt
        clear hR2 hR1 hb2 hx1 HX HD k4
        go_wp2_with fail
        refine ((HV _).out).mono ?_
        rintro e w3 ⟨rfl, hw3⟩
        rw [hw3]
        clear hw3 w3
        go_wp2_with fail
        refine bodyPost_ret (v := .tuple #[.agg #[.float .f32 z.1, .float .f32 r, .int .i64 b], .int .i64 0]) (by simp [results, Try.results23, go_sem, r0, r1, r2]) rfl ⟨rfl, ?_⟩
        exact (by repeat (first | exact Ext.refl _ | assumption | refine Ext.setCell ?_ (by first | (simp; done) | (simp; omega)) _ | refine Ext.drewN ?_ _ | refine Ext.alloc ?_ _ | refine Ext.drew ?_ | refine Ext.trans ?_ (by assumption)))
    · rw [if_neg hz]
      rw [if_neg hz] at HV
      have t1 : (numE [r] != 0) = true := by simpa using hz
      clear hz
      generalize numE [r] = q at *
      cases bb with
      | true =>
        rw [if_pos rfl] at hr
        subst hr
        go_enter Try.func23, Try.ntmps23
        go_wp2_with fail
        refine ((HC _ ((HD.out.alloc _).alloc _)).out).mono ?_
        rintro e w1 ⟨rfl, hb1⟩
        have hF : Bk w1 w.heap.size 43 #[.int .i64 X, .int .i64 Y, .int .i64 W, .int .i64 H, .slice (some ad) n c] := ((Bk.new' rfl).alloc _).ext hb1
        have hR : Bk w1 (w.heap.size + 1) 38 #[.float .f32 0, .float .f32 0, .int .i64 0] := (Bk.new' (by simp)).ext hb1
        have hx1 : Ext w w1 := (((Ext.refl w).alloc _).alloc _).trans hb1
        have k4 := hF.cell 4
        have hR1 := hidA hR
        clear hF hR hb1 HC
        go_wp2_with fail
        refine ((HX _ (HD.out.ext hx1)).out).mono ?_
        rintro e w2 ⟨rfl, hb2⟩
        have hx2 : Ext w w2 := hx1.trans hb2
        have hR2 := hR1.out.ext hb2
        have r0 := hR2.cell 0
        have r1 := hR2.cell 1
        have r2 := hR2.cell 2
        have r3 := hR2.frozen 0
        have r4 := hR2.frozen 1
        have r5 := hR2.frozen 2
        have hle := hx1.size
        have hle2 := hb2.size
        have hlt2 := hR2.lt
        clear hR2 hR1 hb2 hx1 HX HD k4
        go_wp2_with fail
        refine ((HV _).out).mono ?_
        rintro e w3 ⟨rfl, hw3⟩
        rw [hw3]
        clear hw3 w3
        go_wp2_with fail
        refine bodyPost_ret (v := .tuple #[.agg #[.float .f32 0, .float .f32 0, .int .i64 0], .int .i64 q]) (by simp [results, Try.results23, go_sem, r0, r1, r2]) rfl ⟨rfl, ?_⟩
        exact (by repeat (first | exact Ext.refl _ | assumption | refine Ext.setCell ?_ (by first | (simp; done) | (simp; omega)) _ | refine Ext.drewN ?_ _ | refine Ext.alloc ?_ _ | refine Ext.drew ?_ | refine Ext.trans ?_ (by assumption)))
      | false =>
        rw [if_neg (by decide)] at hr
        subst hr
        go_enter Try.func23, Try.ntmps23
        go_wp2_with fail
        refine ((HC _ ((HD.out.alloc _).alloc _)).out).mono ?_
        rintro e w1 ⟨rfl, hb1⟩
        have hF : Bk w1 w.heap.size 43 #[.int .i64 X, .int .i64 Y, .int .i64 W, .int .i64 H, .slice (some ad) n c] := ((Bk.new' rfl).alloc _).ext hb1
        have hR : Bk w1 (w.heap.size + 1) 38 #[.float .f32 0, .float .f32 0, .int .i64 0] := (Bk.new' (by simp)).ext hb1
        have hx1 : Ext w w1 := (((Ext.refl w).alloc _).alloc _).trans hb1
        have k4 := hF.cell 4
        have hR1 := hidA hR
        clear hF hR hb1 HC
        go_wp2_with fail
        refine ((HX _ (HD.out.ext hx1)).out).mono ?_
        rintro e w2 ⟨rfl, hb2⟩
        have hx2 : Ext w w2 := hx1.trans hb2
        have hR2 := hR1.out.ext hb2
        have r0 := hR2.cell 0
        have r1 := hR2.cell 1
        have r2 := hR2.cell 2
        have r3 := hR2.frozen 0
        have r4 := hR2.frozen 1
        have r5 := hR2.frozen 2
        have hle := hx1.size
        have hle2 := hb2.size
        have hlt2 := hR2.lt
        clear hR2 hR1 hb2 hx1 HX HD k4
        go_wp2_with fail
        refine ((HV _).out).mono ?_
        rintro e w3 ⟨rfl, hw3⟩
        rw [hw3]
        clear hw3 w3
        go_wp2_with fail
        refine bodyPost_ret (v := .tuple #[.agg #[.float .f32 0, .float .f32 0, .int .i64 0], .int .i64 q]) (by simp [results, Try.results23, go_sem, r0, r1, r2]) rfl ⟨rfl, ?_⟩
        exact (by repeat (first | exact Ext.refl _ | assumption | refine Ext.setCell ?_ (by first | (simp; done) | (simp; omega)) _ | refine Ext.drewN ?_ _ | refine Ext.alloc ?_ _ | refine Ext.drew ?_ | refine Ext.trans ?_ (by assumption)))
  exact key _ rfl
end Go.Proofs.Ytdfegkpdnofdoaa
