/- Contract: ground.cost. -/
import Derived.Test.YtpgdinpckolfpaaRdA
import Derived.RegionTactic
import Derived.BigRegion
import Derived.Deep.QuietTactic
namespace Go.Proofs.Ytpgdinpckolfpaa
open Go.RowKit
attribute [local go_sem ↓] Go.wp_at_zero Go.wp_at_succ

/-- what ground costs besides, in memory: nothing, or one field -/
def CoR (w : World) (C : Option Addr) (m : Nat) (co : Option (List Nat)) : Prop := match co with
  | none => m = 0
  | some l => m = 1 ∧ ∃ (X' Y' W' H' : Int) (B : Option Addr) (c' : Nat), Rd w C [.int .i64 X', .int .i64 Y', .int .i64 W', .int .i64 H', .slice B l.length c'] ∧ Rd w B (flt l)
theorem CoR.ext {w w' : World} {C : Option Addr} {m : Nat} {co : Option (List Nat)} (h : CoR w C m co) (hx : Ext w w') : CoR w' C m co := by
  cases co with
  | none => exact h
  | some l =>
    obtain ⟨h1, X', Y', W', H', B, c', h2, h3⟩ := h
    exact ⟨h1, X', Y', W', H', B, c', h2.ext hx, h3.ext hx⟩
theorem flt_at {w : World} {A : Option Addr} {l : List Nat} (h : Rd w A (flt l)) {k : Nat} (hk : k < l.length) : ∃ ad, A = some ad ∧ ad.block < w.heap.size ∧ w.cell? (ad.add k) = some (.float .f32 (l.getD k 0)) := by
  obtain ⟨ad, e, hb, hc⟩ := h.at (k := k) (by rw [flt_length]; exact hk)
  refine ⟨ad, e, hb, ?_⟩
  have := hc k _ (flt_get hk)
  rw [this, show l.getD k 0 = l[k] by simp [List.getD_eq_getElem?_getD, hk]]

/-- what cost leaves -/
def CostPost (T : Option Nat) (w : World) (e : Ending) (w' : World) : Prop := ∃ v b, e = .returned (.tuple #[.float .f32 v, .bool b]) ∧ T = (if b = true then some v else none) ∧ Ext w w'
set_option maxRecDepth 100000 in
set_option maxHeartbeats 6400000 in
theorem cost_any (X Y : Int) (Wn Hn : Nat) (A : Option Addr) (N c : Nat) (R : RlR) (C : Option Addr) (m cc k t d n top : Nat) (l : List Nat) (w : World) (hR : RlOk R N) (hl : l.length = N) (hV : Rd w A (flt l)) (hh : ∀ j, j < N → Bd 20 (l.getD j 0)) (hC : CoR w C m R.co) (hk : k < N) (ht : t < N) (hd : d < 8) (hn1 : 1 ≤ n) (hn2 : n ≤ 12) :
    Calls Try.prog 106 #[.agg (gcells X Y Wn Hn A N c R C m cc), .int .i64 k, .int .i64 t, .int .i64 d, .int .i64 n, .float .f32 top] w fun e w' => CostPost (costF R (fun j => l.getD j 0) k t d n top) w e w' := by
  obtain ⟨ad, rfl, hbk, ck⟩ := flt_at hV (k := k) (by omega)
  obtain ⟨ad', e, _, ct⟩ := flt_at hV (k := t) (by omega)
  injection e with e
  subst e
  have HL := fun (w : World) => hidA (length_any d n w hd hn1 hn2)
  obtain ⟨l1, l2, l3⟩ := len_ok (d := d) hn1 hn2
  have l4 := len_val (d := d) hn1 hn2
  have HG := fun (w : World) => hidA (grade_any (l.getD k 0) (l.getD t 0) (lenR d n) w (hh k hk) (hh t ht) l1 l3)
  obtain ⟨g1, g2, g3, g4, g5⟩ := gr_ok (hh k hk) (hh t ht) l1 l3
  have hcf : costF R (fun j => l.getD j 0) k t d n top = if gt (grF (l.getD k 0) (l.getD t 0) (lenR d n)) R.gr = true then none
      else if 1 < n then if lt top (l.getD k 0) = true ∧ lt top (l.getD t 0) = true then some (costB R (lenR d n)) else none
      else some (costC R (costN R (lenR d n) (grF (l.getD k 0) (l.getD t 0) (lenR d n))) t) := rfl
  have B1 := hidA (costB_ok hR l2 l4)
  have S1 := hidA (fun hg => steep_ok hR g4 g5 hg)
  have N1 := hidA (fun hs => costN_ok (s := grF (l.getD k 0) (l.getD t 0) (lenR d n)) hR l2 l4 hs g5)
  generalize costF R (fun j => l.getD j 0) k t d n top = T at *
  have HT := hidA hcf
  have hka : ¬ (k : Int) < 0 := by omega
  have hkb : (k : Int) < N := by omega
  have hta : ¬ (t : Int) < 0 := by omega
  have htb : (t : Int) < N := by omega
  have k0 : (0 : Int) ≤ k := by omega
  have t0 : (0 : Int) ≤ t := by omega
  have HR := hidA hR
  have Ht := hidA ht
  have HC := hidA hC
  have hnn : 1 < n ∨ n = 1 := by omega
  clear hcf g1 g2 g3 g4 g5 l1 l2 l3 l4 hh hR hl hV hk ht hd hn1 hn2 hC
  generalize hst : grF (l.getD k 0) (l.getD t 0) (lenR d n) = st at *
  generalize hlo : lenR d n = long at *
  generalize l.getD k 0 = a at *
  generalize l.getD t 0 = b at *
  clear hst hlo
  unfold gcells
  go_enter Try.func106, Try.ntmps106
  go_upto_region 1 with fail
  have kR : Bk (w.alloc (.cells #[.int .i64 X, .int .i64 Y, .int .i64 (Wn : Int), .int .i64 (Hn : Int), .slice (some ad) N c, .float .f32 R.gr, .float .f32 R.wt, .float .f32 R.br, .float .f32 R.de, .int .i64 (R.sp : Int), .slice C m cc] 115)) w.heap.size 115 #[.int .i64 X, .int .i64 Y, .int .i64 (Wn : Int), .int .i64 (Hn : Int), .slice (some ad) N c, .float .f32 R.gr, .float .f32 R.wt, .float .f32 R.br, .float .f32 R.de, .int .i64 (R.sp : Int), .slice C m cc] := Bk.new' rfl
  have hx0 : Ext w (w.alloc (.cells #[.int .i64 X, .int .i64 Y, .int .i64 (Wn : Int), .int .i64 (Hn : Int), .slice (some ad) N c, .float .f32 R.gr, .float .f32 R.wt, .float .f32 R.br, .float .f32 R.de, .int .i64 (R.sp : Int), .slice C m cc] 115)) := (Ext.refl _).alloc _
  generalize w.alloc (.cells #[.int .i64 X, .int .i64 Y, .int .i64 (Wn : Int), .int .i64 (Hn : Int), .slice (some ad) N c, .float .f32 R.gr, .float .f32 R.wt, .float .f32 R.br, .float .f32 R.de, .int .i64 (R.sp : Int), .slice C m cc] 115) = w0 at *
  rw [← hx0.cell _ (by rw [add_block]; exact hbk)] at ck ct
  have c4 := kR.cell 4
  go_region
  go_upto_region 4 with (first | (go_at_call 116; refine ((HL _).out).mono ?_; rintro e w1 ⟨rfl, hw⟩; subst hw) | (go_at_call 90; refine ((HG _).out).mono ?_; rintro e w1 ⟨rfl, hw⟩; subst hw))
  have hx1 := Ext.drew hx0
  have kR1 := Bk.drew kR
  clear ck ct c4 HL HG hka hkb hta htb k0 t0 hbk hx0 kR
  generalize w0.drew = w1 at *
  have d5 := kR1.cell 5
  cases hg : gt st R.gr
  · have hg' : (FloatKind.f32.format.order st R.gr == some .gt) = false := hg
    have hst := S1.out hg
    clear S1
    rcases hnn with hn1 | rfl
    · have hn' : (1 : Int) < n := by omega
      rw [hg] at HT
      clear hg
      obtain ⟨b1, b2, _, _⟩ := B1.out
      have q1 := fun (w : World) => run_float_arith (P := Try.prog) w .mul 27 .f32 _ _ _ b1
      have q2 := fun (w : World) => run_float_arith (P := Try.prog) w .add 27 .f32 _ _ _ b2
      generalize costB R long = z at *
      generalize fmul long R.br = y at *
      have d7 := kR1.cell 7
      have d8 := kR1.cell 8
      have Hn1 := hidA hn1
      clear hn1 B1 N1 HC HR Ht b1 b2 hst
      cases h1 : lt top a
      · have h1' : (FloatKind.f32.format.order top a == some .lt) = false := h1
        have Hf : Hid (T = none) := by show T = none; rw [HT.out, if_neg (by simp), if_pos Hn1.out, if_neg (by simp [h1])]
        clear h1
        go_wp2
        go_ret2
        exact ⟨z, false, rfl, Hf.out, (by repeat (first | exact Ext.refl _ | assumption | refine Ext.setCell ?_ (by first | (simp; done) | (simp; omega)) _ | refine Ext.drewN ?_ _ | refine Ext.alloc ?_ _ | refine Ext.drew ?_ | refine Ext.trans ?_ (by assumption)))⟩
      · have h1' : (FloatKind.f32.format.order top a == some .lt) = true := h1
        cases h2 : lt top b
        · have h2' : (FloatKind.f32.format.order top b == some .lt) = false := h2
          have Hf : Hid (T = none) := by show T = none; rw [HT.out, if_neg (by simp), if_pos Hn1.out, if_neg (by simp [h2])]
          clear h1 h2
          go_wp2
          go_ret2
          exact ⟨z, false, rfl, Hf.out, (by repeat (first | exact Ext.refl _ | assumption | refine Ext.setCell ?_ (by first | (simp; done) | (simp; omega)) _ | refine Ext.drewN ?_ _ | refine Ext.alloc ?_ _ | refine Ext.drew ?_ | refine Ext.trans ?_ (by assumption)))⟩
        · have h2' : (FloatKind.f32.format.order top b == some .lt) = true := h2
          have Hf : Hid (T = some z) := by show T = some z; rw [HT.out, if_neg (by simp), if_pos Hn1.out, if_pos ⟨h1, h2⟩]
          clear h1 h2
          go_wp2
          go_ret2
          exact ⟨z, true, rfl, Hf.out, (by repeat (first | exact Ext.refl _ | assumption | refine Ext.setCell ?_ (by first | (simp; done) | (simp; omega)) _ | refine Ext.drewN ?_ _ | refine Ext.alloc ?_ _ | refine Ext.drew ?_ | refine Ext.trans ?_ (by assumption)))⟩
    · obtain ⟨b1, b2, b3, b4, b5, b6⟩ := N1.out hst
      have q1 := fun (w : World) => run_float_arith (P := Try.prog) w .mul 27 .f32 _ _ _ b1
      have q2 := fun (w : World) => run_float_arith (P := Try.prog) w .mul 27 .f32 _ _ _ b2
      have q3 := fun (w : World) => run_float_arith (P := Try.prog) w .add 27 .f32 _ _ _ b3
      have q4 := fun (w : World) => run_float_arith (P := Try.prog) w .mul 27 .f32 _ _ _ b4
      have hco : (R.co = none ∧ m = 0) ∨ ∃ l', R.co = some l' ∧ m = 1 := by
        have h := HC.out
        cases hc : R.co with
        | none => rw [hc] at h; exact .inl ⟨rfl, h⟩
        | some l' => rw [hc] at h; exact .inr ⟨l', rfl, h.1⟩
      have Hf : Hid (T = some (if m = 0 then costN R long st else costC R (costN R long st) t)) := by
        show T = _
        rw [HT.out, if_neg (by simp [hg]), if_neg (by omega)]
        rcases hco with ⟨h1, h2⟩ | ⟨l', h1, h2⟩
        · rw [if_pos h2]
          unfold costC
          rw [h1]
        · rw [if_neg (by omega)]
      have C1 := hidA (fun l' (h : R.co = some l') => costC_ok (c := costN R long st) (t := t) HR.out h Ht.out b5 b6)
      clear HT hg hst b1 b2 b3 b4 b5 b6 N1 B1
      generalize costN R long st = cN at *
      generalize fadd 1065353216 (fmul (fmul R.wt st) st) = x3 at *
      generalize fmul (fmul R.wt st) st = x2 at *
      generalize fmul R.wt st = x1 at *
      generalize costC R cN t = cF at *
      have d6 := kR1.cell 6
      have d10 := kR1.cell 10
      have Hco := hidA hco
      clear hco
      go_wp2
      clear q1 q2 q3 q4 d5 d6 d10
      go_loopw [18, 78] (fun s18 s78 wr => ∃ i cv : Nat, i ≤ m ∧ s78 = .int .i64 i ∧ s18 = .float .f32 cv ∧ Hid (cv = if i = 0 then cN else cF) ∧ Ext w1 wr) (fun _ s78 _ => m - (intOf s78).toNat)
      case atStart => exact ⟨0, cN, by omega, rfl, rfl, rfl, Ext.refl _⟩
      case round =>
        obtain ⟨i, cv, hi, rfl, rfl, hcv, hx⟩ := hrel
        by_cases him : i < m
        · obtain ⟨l', hc1, hm1⟩ : ∃ l', R.co = some l' ∧ m = 1 := by
            rcases Hco.out with ⟨_, h⟩ | h
            · omega
            · exact h
          subst hm1
          obtain rfl : i = 0 := by omega
          have hcv2 : cv = cN := hcv.out
          subst hcv2
          have hCC := HC.out
          rw [hc1] at hCC
          obtain ⟨_, X', Y', W', H', B, c', r1, r2⟩ := hCC
          have hl' := HR.out.len l' hc1
          obtain ⟨e1, e2, _, _⟩ := C1.out l' hc1
          have htl : t < l'.length := by rw [hl']; exact Ht.out
          obtain ⟨adB, rfl, hbB, cB⟩ := flt_at (r2.ext (hx1.trans hx)) htl
          obtain ⟨adC, rfl, hbC, cC⟩ := (r1.ext (hx1.trans hx)) (by simp)
          have d0 := cC 0 _ rfl
          have d1 := cC 1 _ rfl
          have d2 := cC 2 _ rfl
          have d3 := cC 3 _ rfl
          have d4 := cC 4 _ rfl
          rw [show adC.add 0 = adC from rfl] at d0
          rw [add_pos _ (by omega)] at d1 d2 d3 d4
          have q1 := fun (w : World) => run_float_arith (P := Try.prog) w .add 27 .f32 _ _ _ e1
          have q2 := fun (w : World) => run_float_arith (P := Try.prog) w .mul 27 .f32 _ _ _ e2
          generalize fadd 1065353216 (l'.getD t 0) = x1 at *
          generalize l'.getD t 0 = x0 at *
          generalize hL : l'.length = L at *
          have g4 := (Bk.new wr 26 #[.int .i64 X', .int .i64 Y', .int .i64 W', .int .i64 H', .slice (some adB) L c']).cell 4
          have gB : (wr.alloc (.cells #[.int .i64 X', .int .i64 Y', .int .i64 W', .int .i64 H', .slice (some adB) L c'] 26)).cell? (adB.add t) = some (.float .f32 x0) := (((Ext.refl wr).alloc _).cell _ (by rw [add_block]; exact hbB)).trans cB
          have t0 : (0 : Int) ≤ t := by omega
          have t1 : (t : Int) < L := by omega
          have hcv3 : Hid (cF = if 0 + 1 = 0 then cv else cF) := rfl
          clear r1 r2 hl' htl cB cC e1 e2 C1 HC HR Hf Hco hL hbB hbC
          go_wp2
          go_roundw
          case rel => exact ⟨1, cF, by omega, rfl, rfl, hcv3, (by repeat (first | exact Ext.refl _ | assumption | refine Ext.setCell ?_ (by first | (simp; done) | (simp; omega)) _ | refine Ext.drewN ?_ _ | refine Ext.alloc ?_ _ | refine Ext.drew ?_ | refine Ext.trans ?_ (by assumption)))⟩
          case measure => decide
        · obtain rfl : i = m := by omega
          go_wp2
          go_ret2
          exact ⟨cv, true, rfl, by rw [Hf.out, hcv.out]; rfl, (by repeat (first | exact Ext.refl _ | assumption | refine Ext.setCell ?_ (by first | (simp; done) | (simp; omega)) _ | refine Ext.drewN ?_ _ | refine Ext.alloc ?_ _ | refine Ext.drew ?_ | refine Ext.trans ?_ (by assumption)))⟩
  · have hg' : (FloatKind.f32.format.order st R.gr == some .gt) = true := hg
    have Hf : Hid (T = none) := by show T = none; rw [HT.out, if_pos hg]
    clear hg S1 B1 N1 HC HR Ht
    go_wp2
    go_ret2
    exact ⟨0, false, rfl, Hf.out, (by repeat (first | exact Ext.refl _ | assumption | refine Ext.setCell ?_ (by first | (simp; done) | (simp; omega)) _ | refine Ext.drewN ?_ _ | refine Ext.alloc ?_ _ | refine Ext.drew ?_ | refine Ext.trans ?_ (by assumption)))⟩
end Go.Proofs.Ytpgdinpckolfpaa
