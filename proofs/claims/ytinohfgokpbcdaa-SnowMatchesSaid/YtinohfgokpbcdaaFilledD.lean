/- The walk of the law FilledIsLeast. -/
import Derived.Test.YtinohfgokpbcdaaFillO
import Derived.Test.YtinohfgokpbcdaaFlows
namespace Go.Proofs.Ytinohfgokpbcdaa
open Go.RowKit
attribute [local go_sem ↓] Go.wp_at_zero Go.wp_at_succ
attribute [local go_sem] run_store_float

set_option maxHeartbeats 1600000 in
theorem eqFlo_same (A B : Option Addr) (n c d : Nat) (a b : List Nat) (w : World) (hn : a.length = n) (hn2 : b.length = n) (ha : Rd w A (flt a)) (hb : Rd w B (flt b)) (hnb : n ≤ 4000000) (he : ∀ k (h1 : k < a.length) (h2 : k < b.length), (FloatKind.f32.format.order a[k] b[k] == some .eq) = true) :
    Calls Try.prog 24 #[.slice A n c, .slice B n d] w fun e w' => e = .returned (.bool true) ∧ Ext w w' := by
  have Hn := hidA hn
  have Hn2 := hidA hn2
  have He := hidA he
  clear hn hn2 he
  go_enter Try.func24, Try.ntmps24
  go_wp2
  go_loopw [13] (fun i wr => ∃ k m : Nat, k ≤ n ∧ i = .int .i64 k ∧ wr = w.drewN m) (fun i _ => n - (intOf i).toNat)
  case atStart => exact ⟨0, 0, Nat.zero_le _, rfl, rfl⟩
  case round =>
    obtain ⟨k, m, hk, rfl, rfl⟩ := hrel
    by_cases hlt : k < n
    · have hkl : k < a.length := by have := Hn.out; omega
      have hkl2 : k < b.length := by have := Hn2.out; omega
      obtain ⟨ad, rfl, hbk, hc⟩ := ha.at (k := k) (by simpa [flt] using hkl)
      obtain ⟨ad2, rfl, hbk2, hc2⟩ := hb.at (k := k) (by simpa [flt] using hkl2)
      have e0 := hc k _ (flt_get hkl)
      have e2 := hc2 k _ (flt_get hkl2)
      have C1 : FloatKind.f32.format.order a[k] b[k] = some .eq := by have := He.out k hkl hkl2; simpa using this
      generalize a[k] = va at *
      generalize b[k] = vb at *
      have k0 : (0 : Int) ≤ k := by omega
      have k1 : (k : Int) < n := by omega
      clear ha hb hc hc2
      go_wp2
      go_quiet (fail)
      go_wp2
      go_roundw
      case rel => exact ⟨k + 1, _, by omega, by go_num, rfl⟩
      case measure => simp [intOf]; omega
    · obtain rfl : k = n := by omega
      go_wp2
      go_ret
      exact ⟨rfl, (by repeat (first | exact Ext.refl _ | assumption | refine Ext.setCell ?_ (by first | (simp; done) | (simp; omega)) _ | refine Ext.drewN ?_ _ | refine Ext.alloc ?_ _ | refine Ext.drew ?_ | refine Ext.trans ?_ (by assumption)))⟩

set_option maxHeartbeats 800000 in
theorem small_any (x y ww hh : Int) (A : Option Addr) (n c : Nat) (w : World) : Calls Try.prog 22 #[.agg #[.int .i64 x, .int .i64 y, .int .i64 ww, .int .i64 hh, .slice A n c]] w fun e w' => e = .returned (.bool (decide ((n : Int) ≤ 200))) ∧ Ext w w' := by
  go_enter Try.func22, Try.ntmps22
  go_wp2
  go_ret
  exact ⟨ret_b (by simp), (by repeat (first | (with_reducible exact Ext.refl _) | (with_reducible assumption) | (with_reducible refine Ext.setCell ?_ (by first | (simp; done) | (simp; omega)) _) | (with_reducible refine Ext.drewN ?_ _) | (with_reducible refine Ext.alloc ?_ _) | (with_reducible refine Ext.drew ?_) | (with_reducible refine Ext.trans ?_ (by assumption))))⟩
/-- the third error of Filled -/
def rangeE (s : Nat) : Int := if (lt s 0 || gt s 1149239296) = true then 3 else 0
theorem first3 (a b c : Int) : firstE [a, b, c] = if a ≠ 0 then a else if b ≠ 0 then b else c := by
  by_cases ha : a = 0
  · by_cases hb : b = 0
    · by_cases hc : c = 0 <;> simp [firstE, ha, hb, hc]
    · simp [firstE, ha, hb]
  · simp [firstE, ha]
theorem fillE_first (x y ww hh : Int) (l : List Nat) (s : Nat) : firstE [fieldE x y ww hh l, numE [s], rangeE s] = fillE x y ww hh l s := by
  rw [first3]
  unfold fillE slopeE rangeE
  simp only [Bool.or_eq_true]
theorem field_reg {x y ww hh : Int} {l : List Nat} (h : fieldE x y ww hh l = 0) : regE x y ww hh = 0 ∧ (l.length : Int) = ww * hh ∧ numE l = 0 := by
  have h1 : regE x y ww hh = 0 := by
    unfold fieldE at h
    split at h
    · rename_i h2; exact absurd h h2
    · rename_i h2; simpa using h2
  have h2 : (l.length : Int) = ww * hh := Classical.byContradiction fun h3 => by
    rw [fieldE_len h1 h3] at h
    cases h
  exact ⟨h1, h2, by rw [← h, fieldE_num h1 h2]⟩
/-- what the law has found ahead of its tests -/
def Wants (x y ww hh : Int) (l : List Nat) (s : Nat) : Int := fillE x y ww hh l s

set_option maxRecDepth 100000 in
set_option maxHeartbeats 3200000 in
theorem filled_bad (x y ww hh : Int) (A : Option Addr) (n c s : Nat) (l : List Nat) (w : World) (hn : l.length = n) (hd : Rd w A (flt l)) (hb : n ≤ 140737488351232) (hE : fillE x y ww hh l s ≠ 0) :
    Calls Try.prog 3 #[.agg #[.int .i64 x, .int .i64 y, .int .i64 ww, .int .i64 hh, .slice A n c], .float .f32 s] w fun e w' => e = .returned (.bool true) ∧ Ext w w' := by
  have HF := fun (w : World) (h : Rd w A (flt l)) => hidA (Filled_bad x y ww hh A n c s l w hn h hb hE)
  have HE := fun (w : World) (h : Rd w A (flt l)) => hidA (fieldError_any x y ww hh A n c l w hn h hb)
  have HN := fun (B : Option Addr) (w : World) (h : Rd w B (flt [s])) => hidA (numberError_any B 1 1 [s] w rfl h (by omega))
  have HS := fun (B : Option Addr) (w : World) (h : Rd w B ([fieldE x y ww hh l, numE [s], rangeE s].map (.int .i64))) => hidA (first_any B 3 3 [fieldE x y ww hh l, numE [s], rangeE s] w rfl h (by omega))
  rw [fillE_first] at HS
  have HZ := fun (w : World) => hidA (empty_zero w)
  have HW := fun (w : World) => hidA (flows_any w)
  have hE' : (fillE x y ww hh l s != 0) = true := by simpa using hE
  have hr : rangeE s = if (lt s 0 || gt s 1149239296) = true then 3 else 0 := rfl
  generalize fillE x y ww hh l s = E at *
  generalize fieldE x y ww hh l = f1 at *
  generalize numE [s] = f2 at *
  have HWh := fun (b : Bool) (w : World) => hidA (when_any b 3 w)
  have Hr := hidA hr
  clear hr hn hb hE
  generalize rangeE s = f3 at *
  have hc : (FloatKind.f32.format.order s 0 == some .lt) = lt s 0 := rfl
  have hc2 : (FloatKind.f32.format.order s 1149239296 == some .gt) = gt s 1149239296 := rfl
  cases h1 : lt s 0
  · cases h2 : gt s 1149239296
    · have hf : f3 = 0 := by rw [Hr.out, h1, h2]; rfl
      subst hf
      rw [h1] at hc
      rw [h2] at hc2
      clear h1 h2 Hr
      go_enter Try.func3, Try.ntmps3
      go_wp2_with fail
      refine ((HF _ (hd.ext (by repeat (first | (with_reducible exact Ext.refl _) | (with_reducible assumption) | (with_reducible refine Ext.setCell ?_ (by first | (simp; done) | (simp; omega)) _) | (with_reducible refine Ext.drewN ?_ _) | (with_reducible refine Ext.alloc ?_ _) | (with_reducible refine Ext.drew ?_) | (with_reducible refine Ext.trans ?_ (by assumption)))))).out).mono ?_
      rintro e w1 ⟨rfl, hx1⟩
      have kF : Bk w1 w.heap.size 26 #[.int .i64 x, .int .i64 y, .int .i64 ww, .int .i64 hh, .slice A n c] := (Bk.new' rfl).ext hx1
      have c0 := kF.cell 0
      have c1 := kF.cell 1
      have c2 := kF.cell 2
      have c3 := kF.cell 3
      have c4 := kF.cell 4
      have kl := kF.lt
      go_wp2_with fail
      refine ((HE _ (hd.ext (by repeat (first | (with_reducible exact Ext.refl _) | (with_reducible assumption) | (with_reducible refine Ext.setCell ?_ (by first | (simp; done) | (simp; omega)) _) | (with_reducible refine Ext.drewN ?_ _) | (with_reducible refine Ext.alloc ?_ _) | (with_reducible refine Ext.drew ?_) | (with_reducible refine Ext.trans ?_ (by assumption)))))).out).mono ?_
      rintro e w2 ⟨rfl, hx2⟩
      have kG : Bk w2 w1.heap.size 26 #[.int .i64 0, .int .i64 0, .int .i64 0, .int .i64 0, .slice none 0 0] := (Bk.new' rfl).ext hx2
      clear c0 c1 c2 c3 c4
      go_wp2_with fail
      refine ((HN _ _ (Rd.new rfl rfl)).out).mono ?_
      rintro e w3 ⟨rfl, rfl⟩
      go_wp2_with fail
      refine ((HWh _ _).out).mono ?_
      rintro e w4 ⟨rfl, rfl⟩
      go_wp2_with fail
      refine ((HS _ _ (Rd.new (by first | rfl | simp) (by first | rfl | simp))).out).mono ?_
      rintro e w5 ⟨rfl, hx5⟩
      have hg5 : Ext w2 w5 := by rw [← hx5]; (repeat (first | (with_reducible exact Ext.refl _) | (with_reducible assumption) | (with_reducible refine Ext.setCell ?_ (by first | (simp; done) | (simp; omega)) _) | (with_reducible refine Ext.drewN ?_ _) | (with_reducible refine Ext.alloc ?_ _) | (with_reducible refine Ext.drew ?_) | (with_reducible refine Ext.trans ?_ (by assumption))))
      clear hx5
      go_wp2_with fail
      refine ((HW _).out).mono ?_
      rintro e w6 ⟨rfl, hx6⟩
      go_wp2_with fail
      refine ((HW _).out).mono ?_
      rintro e w7 ⟨rfl, hx7⟩
      have kG7 := kG.ext (hg5.trans (hx6.trans hx7))
      have c0 := kG7.cell 0
      have c1 := kG7.cell 1
      have c2 := kG7.cell 2
      have c3 := kG7.cell 3
      have c4 := kG7.cell 4
      go_wp2_with fail
      refine ((HZ _).out).mono ?_
      rintro e w8 ⟨rfl, hx8⟩
      go_wp2_with fail
      go_ret
      exact ⟨by first | rfl | simp, (by repeat (first | (with_reducible exact Ext.refl _) | (with_reducible assumption) | (with_reducible refine Ext.setCell ?_ (by first | (simp; done) | (simp; omega)) _) | (with_reducible refine Ext.drewN ?_ _) | (with_reducible refine Ext.alloc ?_ _) | (with_reducible refine Ext.drew ?_) | (with_reducible refine Ext.trans ?_ (by assumption))))⟩
    · have hf : f3 = 3 := by rw [Hr.out, h1, h2]; rfl
      subst hf
      rw [h1] at hc
      rw [h2] at hc2
      clear h1 h2 Hr
      go_enter Try.func3, Try.ntmps3
      go_wp2_with fail
      refine ((HF _ (hd.ext (by repeat (first | (with_reducible exact Ext.refl _) | (with_reducible assumption) | (with_reducible refine Ext.setCell ?_ (by first | (simp; done) | (simp; omega)) _) | (with_reducible refine Ext.drewN ?_ _) | (with_reducible refine Ext.alloc ?_ _) | (with_reducible refine Ext.drew ?_) | (with_reducible refine Ext.trans ?_ (by assumption)))))).out).mono ?_
      rintro e w1 ⟨rfl, hx1⟩
      have kF : Bk w1 w.heap.size 26 #[.int .i64 x, .int .i64 y, .int .i64 ww, .int .i64 hh, .slice A n c] := (Bk.new' rfl).ext hx1
      have c0 := kF.cell 0
      have c1 := kF.cell 1
      have c2 := kF.cell 2
      have c3 := kF.cell 3
      have c4 := kF.cell 4
      have kl := kF.lt
      go_wp2_with fail
      refine ((HE _ (hd.ext (by repeat (first | (with_reducible exact Ext.refl _) | (with_reducible assumption) | (with_reducible refine Ext.setCell ?_ (by first | (simp; done) | (simp; omega)) _) | (with_reducible refine Ext.drewN ?_ _) | (with_reducible refine Ext.alloc ?_ _) | (with_reducible refine Ext.drew ?_) | (with_reducible refine Ext.trans ?_ (by assumption)))))).out).mono ?_
      rintro e w2 ⟨rfl, hx2⟩
      have kG : Bk w2 w1.heap.size 26 #[.int .i64 0, .int .i64 0, .int .i64 0, .int .i64 0, .slice none 0 0] := (Bk.new' rfl).ext hx2
      clear c0 c1 c2 c3 c4
      go_wp2_with fail
      refine ((HN _ _ (Rd.new rfl rfl)).out).mono ?_
      rintro e w3 ⟨rfl, rfl⟩
      go_wp2_with fail
      refine ((HWh _ _).out).mono ?_
      rintro e w4 ⟨rfl, rfl⟩
      go_wp2_with fail
      refine ((HS _ _ (Rd.new (by first | rfl | simp) (by first | rfl | simp))).out).mono ?_
      rintro e w5 ⟨rfl, hx5⟩
      have hg5 : Ext w2 w5 := by rw [← hx5]; (repeat (first | (with_reducible exact Ext.refl _) | (with_reducible assumption) | (with_reducible refine Ext.setCell ?_ (by first | (simp; done) | (simp; omega)) _) | (with_reducible refine Ext.drewN ?_ _) | (with_reducible refine Ext.alloc ?_ _) | (with_reducible refine Ext.drew ?_) | (with_reducible refine Ext.trans ?_ (by assumption))))
      clear hx5
      go_wp2_with fail
      refine ((HW _).out).mono ?_
      rintro e w6 ⟨rfl, hx6⟩
      go_wp2_with fail
      refine ((HW _).out).mono ?_
      rintro e w7 ⟨rfl, hx7⟩
      have kG7 := kG.ext (hg5.trans (hx6.trans hx7))
      have c0 := kG7.cell 0
      have c1 := kG7.cell 1
      have c2 := kG7.cell 2
      have c3 := kG7.cell 3
      have c4 := kG7.cell 4
      go_wp2_with fail
      refine ((HZ _).out).mono ?_
      rintro e w8 ⟨rfl, hx8⟩
      go_wp2_with fail
      go_ret
      exact ⟨by first | rfl | simp, (by repeat (first | (with_reducible exact Ext.refl _) | (with_reducible assumption) | (with_reducible refine Ext.setCell ?_ (by first | (simp; done) | (simp; omega)) _) | (with_reducible refine Ext.drewN ?_ _) | (with_reducible refine Ext.alloc ?_ _) | (with_reducible refine Ext.drew ?_) | (with_reducible refine Ext.trans ?_ (by assumption))))⟩
  · have hf : f3 = 3 := by rw [Hr.out, h1]; rfl
    subst hf
    rw [h1] at hc
    clear h1 hc2 Hr
    go_enter Try.func3, Try.ntmps3
    go_wp2_with fail
    refine ((HF _ (hd.ext (by repeat (first | (with_reducible exact Ext.refl _) | (with_reducible assumption) | (with_reducible refine Ext.setCell ?_ (by first | (simp; done) | (simp; omega)) _) | (with_reducible refine Ext.drewN ?_ _) | (with_reducible refine Ext.alloc ?_ _) | (with_reducible refine Ext.drew ?_) | (with_reducible refine Ext.trans ?_ (by assumption)))))).out).mono ?_
    rintro e w1 ⟨rfl, hx1⟩
    have kF : Bk w1 w.heap.size 26 #[.int .i64 x, .int .i64 y, .int .i64 ww, .int .i64 hh, .slice A n c] := (Bk.new' rfl).ext hx1
    have c0 := kF.cell 0
    have c1 := kF.cell 1
    have c2 := kF.cell 2
    have c3 := kF.cell 3
    have c4 := kF.cell 4
    have kl := kF.lt
    go_wp2_with fail
    refine ((HE _ (hd.ext (by repeat (first | (with_reducible exact Ext.refl _) | (with_reducible assumption) | (with_reducible refine Ext.setCell ?_ (by first | (simp; done) | (simp; omega)) _) | (with_reducible refine Ext.drewN ?_ _) | (with_reducible refine Ext.alloc ?_ _) | (with_reducible refine Ext.drew ?_) | (with_reducible refine Ext.trans ?_ (by assumption)))))).out).mono ?_
    rintro e w2 ⟨rfl, hx2⟩
    have kG : Bk w2 w1.heap.size 26 #[.int .i64 0, .int .i64 0, .int .i64 0, .int .i64 0, .slice none 0 0] := (Bk.new' rfl).ext hx2
    clear c0 c1 c2 c3 c4
    go_wp2_with fail
    refine ((HN _ _ (Rd.new rfl rfl)).out).mono ?_
    rintro e w3 ⟨rfl, rfl⟩
    go_wp2_with fail
    refine ((HWh _ _).out).mono ?_
    rintro e w4 ⟨rfl, rfl⟩
    go_wp2_with fail
    refine ((HS _ _ (Rd.new (by first | rfl | simp) (by first | rfl | simp))).out).mono ?_
    rintro e w5 ⟨rfl, hx5⟩
    have hg5 : Ext w2 w5 := by rw [← hx5]; (repeat (first | (with_reducible exact Ext.refl _) | (with_reducible assumption) | (with_reducible refine Ext.setCell ?_ (by first | (simp; done) | (simp; omega)) _) | (with_reducible refine Ext.drewN ?_ _) | (with_reducible refine Ext.alloc ?_ _) | (with_reducible refine Ext.drew ?_) | (with_reducible refine Ext.trans ?_ (by assumption))))
    clear hx5
    go_wp2_with fail
    refine ((HW _).out).mono ?_
    rintro e w6 ⟨rfl, hx6⟩
    go_wp2_with fail
    refine ((HW _).out).mono ?_
    rintro e w7 ⟨rfl, hx7⟩
    have kG7 := kG.ext (hg5.trans (hx6.trans hx7))
    have c0 := kG7.cell 0
    have c1 := kG7.cell 1
    have c2 := kG7.cell 2
    have c3 := kG7.cell 3
    have c4 := kG7.cell 4
    go_wp2_with fail
    refine ((HZ _).out).mono ?_
    rintro e w8 ⟨rfl, hx8⟩
    go_wp2_with fail
    go_ret
    exact ⟨by first | rfl | simp, (by repeat (first | (with_reducible exact Ext.refl _) | (with_reducible assumption) | (with_reducible refine Ext.setCell ?_ (by first | (simp; done) | (simp; omega)) _) | (with_reducible refine Ext.drewN ?_ _) | (with_reducible refine Ext.alloc ?_ _) | (with_reducible refine Ext.drew ?_) | (with_reducible refine Ext.trans ?_ (by assumption))))⟩

set_option maxRecDepth 100000 in
set_option maxHeartbeats 6400000 in
theorem filled_good (X Y : Int) (Wn Hn N : Nat) (A : Option Addr) (c s : Nat) (l : List Nat) (w : World) (hr : Reg X Y Wn Hn) (hN : N = Wn * Hn) (hn : l.length = N) (hd : Rd w A (flt l)) (hf : fieldE X Y Wn Hn l = 0) (hs : slopeE s = 0) :
    Calls Try.prog 3 #[.agg #[.int .i64 X, .int .i64 Y, .int .i64 (Wn : Int), .int .i64 (Hn : Int), .slice A N c], .float .f32 s] w fun e w' => e = .returned (.bool true) ∧ Ext w w' := by
  obtain ⟨s1, s2, s3, s4, s5⟩ := slope_ok hs
  have hN6 : N ≤ 65536 := by rw [hN]; exact hr.n
  have HNN := hidA hN
  have hh : ∀ x ∈ l, Bd 20 x := fun x hx => hgt_bd ((numE_zero (field_reg hf).2.2).2 x hx)
  have HF := fun (w : World) (h : Rd w A (flt l)) => hidA (Filled_ok X Y Wn Hn N A c s l w hr hN hn h hf hs)
  have HO := fun (w : World) (h : Rd w A (flt l)) => hidA (filledOf_any X Y Wn Hn N A c s l w hr hN hn h hh s1 s2)
  have HE := fun (w : World) (h : Rd w A (flt l)) => hidA (fieldError_any X Y Wn Hn A N c l w hn h (by omega))
  have HN := fun (B : Option Addr) (w : World) (h : Rd w B (flt [s])) => hidA (numberError_any B 1 1 [s] w rfl h (by omega))
  have HS := fun (B : Option Addr) (w : World) (h : Rd w B ([(0 : Int), 0, 0].map (.int .i64))) => hidA (first_any B 3 3 [0, 0, 0] w rfl h (by omega))
  have hS0 : firstE [(0 : Int), 0, 0] = 0 := rfl
  rw [hS0] at HS
  rw [hf] at HE
  rw [s3] at HN
  have HZ := fun (w : World) => hidA (empty_zero w)
  have HW := fun (w : World) => hidA (flows_any w)
  have HSm := fun (w : World) => hidA (small_any X Y Wn Hn A N c w)
  have HWh := fun (w : World) => hidA (when_any false 3 w)
  have hc : (FloatKind.f32.format.order s 0 == some .lt) = false := s4
  have hc2 : (FloatKind.f32.format.order s 1149239296 == some .gt) = false := s5
  clear hS0 s1 s2 s3 s4 s5 hh hr hf hs hn hN
  go_enter Try.func3, Try.ntmps3
  go_wp2_with fail
  refine ((HF _ (hd.ext (by repeat (first | (with_reducible exact Ext.refl _) | (with_reducible assumption) | (with_reducible refine Ext.setCell ?_ (by first | (simp; done) | (simp; omega)) _) | (with_reducible refine Ext.drewN ?_ _) | (with_reducible refine Ext.alloc ?_ _) | (with_reducible refine Ext.drew ?_) | (with_reducible refine Ext.trans ?_ (by assumption)))))).out).mono ?_
  rintro e w1 ⟨g, out, hg, hB, hL, h36, hx1, hor⟩
  obtain ⟨a, b, c', d, vA, vn, vc, ec, rfl, hrel⟩ : ∃ (a b c' d : Int) (vA : Option Addr) (vn vc : Nat) (ec : Int), e = .returned (.tuple #[.agg #[.int .i64 a, .int .i64 b, .int .i64 c', .int .i64 d, .slice vA vn vc], .int .i64 ec]) ∧ ResR X Y Wn Hn (.slice (some ⟨g, 0, none⟩) N N) ((List.range N).map out) a b c' d (.slice vA vn vc) ec := by
    rcases hor with ⟨h1, rfl⟩ | ⟨h1, rfl⟩
    · exact ⟨_, _, _, _, _, _, _, _, rfl, .inl ⟨h1, rfl, rfl, rfl, rfl, rfl, rfl⟩⟩
    · exact ⟨_, _, _, _, _, _, _, _, rfl, .inr ⟨h1, rfl, rfl, rfl, rfl, rfl, rfl⟩⟩
  have Hrel := hidA hrel
  have HL := hidA hL
  have H36 := hidA h36
  clear hor hrel hL h36
  have kF : Bk w1 w.heap.size 26 #[.int .i64 X, .int .i64 Y, .int .i64 (Wn : Int), .int .i64 (Hn : Int), .slice A N c] := (Bk.new' rfl).ext hx1
  have c0 := kF.cell 0
  have c1 := kF.cell 1
  have c2 := kF.cell 2
  have c3 := kF.cell 3
  have c4 := kF.cell 4
  have kl := kF.lt
  go_wp2_with fail
  refine ((HE _ (hd.ext (by repeat (first | (with_reducible exact Ext.refl _) | (with_reducible assumption) | (with_reducible refine Ext.setCell ?_ (by first | (simp; done) | (simp; omega)) _) | (with_reducible refine Ext.drewN ?_ _) | (with_reducible refine Ext.alloc ?_ _) | (with_reducible refine Ext.drew ?_) | (with_reducible refine Ext.trans ?_ (by assumption)))))).out).mono ?_
  rintro e w2 ⟨rfl, hx2⟩
  have kG : Bk w2 w1.heap.size 26 #[.int .i64 a, .int .i64 b, .int .i64 c', .int .i64 d, .slice vA vn vc] := (Bk.new' rfl).ext hx2
  have kF2 : Bk w2 w.heap.size 26 #[.int .i64 X, .int .i64 Y, .int .i64 (Wn : Int), .int .i64 (Hn : Int), .slice A N c] := (kF.alloc _).ext hx2
  have hB2 : Bk w2 g 27 (flo N out) := (hB.alloc _).ext hx2
  have hw2 : Ext w w2 := ((((Ext.refl w).alloc _).trans hx1).alloc _).trans hx2
  clear c0 c1 c2 c3 c4 kl hx2 hx1 kF hB
  go_wp2_with fail
  refine ((HN _ _ (Rd.new rfl rfl)).out).mono ?_
  rintro e w3 ⟨rfl, rfl⟩
  go_wp2_with fail
  refine ((HWh _).out).mono ?_
  rintro e w4 ⟨rfl, rfl⟩
  go_wp2_with fail
  refine ((HS _ _ (Rd.new (by first | rfl | simp) (by first | rfl | simp))).out).mono ?_
  rintro e w5 ⟨rfl, hx5⟩
  have hg5 : Ext w2 w5 := by rw [← hx5]; (repeat (first | (with_reducible exact Ext.refl _) | (with_reducible assumption) | (with_reducible refine Ext.setCell ?_ (by first | (simp; done) | (simp; omega)) _) | (with_reducible refine Ext.drewN ?_ _) | (with_reducible refine Ext.alloc ?_ _) | (with_reducible refine Ext.drew ?_) | (with_reducible refine Ext.trans ?_ (by assumption))))
  clear hx5
  go_wp2_with fail
  refine ((HW _).out).mono ?_
  rintro e w6 ⟨rfl, hx6⟩
  have hg6 := hg5.trans hx6
  clear hg5 hx6
  have kF6 := kF2.ext hg6
  have c0 := kF6.cell 0
  have c1 := kF6.cell 1
  have c2 := kF6.cell 2
  have c3 := kF6.cell 3
  have c4 := kF6.cell 4
  go_wp2_with fail
  refine ((HSm _).out).mono ?_
  rintro e w7 ⟨rfl, hx7⟩
  have hg7 := hg6.trans hx7
  clear hg6 hx7 c0 c1 c2 c3 c4 kF6
  have kF7 := kF2.ext hg7
  have c0 := kF7.cell 0
  have c1 := kF7.cell 1
  have c2 := kF7.cell 2
  have c3 := kF7.cell 3
  have c4 := kF7.cell 4
  by_cases hsm : (N : Int) ≤ 200
  · go_wp2_with fail
    refine ((HO _ ((hd.ext hw2).ext (hg7.trans (by repeat (first | (with_reducible exact Ext.refl _) | (with_reducible assumption) | (with_reducible refine Ext.setCell ?_ (by first | (simp; done) | (simp; omega)) _) | (with_reducible refine Ext.drewN ?_ _) | (with_reducible refine Ext.alloc ?_ _) | (with_reducible refine Ext.drew ?_) | (with_reducible refine Ext.trans ?_ (by assumption))))))).out).mono ?_
    rintro e w8 ⟨g2, out2, rfl, hgg, hB8, hL2, h362, hx8⟩
    have hv : ∀ k, k < N → valI (out2 k) = valI (out k) := fun k hk => hL2.unique HL.out (by rw [← HNN.out]; exact hk)
    have hall : ((List.range N).map out2).all hgtB = ((List.range N).map out).all hgtB := by
      rw [List.all_map, List.all_map, Bool.eq_iff_iff, List.all_eq_true, List.all_eq_true]
      constructor
      · intro h k hk
        rw [Function.comp_apply, ← hgt_val (hv k (List.mem_range.1 hk))]
        exact h k hk
      · intro h k hk
        rw [Function.comp_apply, hgt_val (hv k (List.mem_range.1 hk))]
        exact h k hk
    have hR8 : Rd w8 (some ⟨g2, 0, none⟩) (flt ((List.range N).map out2)) := by
      have h := Rd.new_bk hB8
      rwa [flo_list] at h
    have hg8 := hg7.trans hx8
    have hR8b : Rd w8 (some ⟨g, 0, none⟩) (flt ((List.range N).map out)) := by
      have h := Rd.new_bk (hB2.ext hg8)
      rwa [flo_list] at h
    have HNu := fun (w : World) (h : Rd w (some ⟨g2, 0, none⟩) (flt ((List.range N).map out2))) => hidA (numberError_any (some ⟨g2, 0, none⟩) N N ((List.range N).map out2) w (by simp) h (by omega))
    have HEq := fun (w : World) (h1 : Rd w (some ⟨g, 0, none⟩) (flt ((List.range N).map out))) (h2 : Rd w (some ⟨g2, 0, none⟩) (flt ((List.range N).map out2))) => hidA (eqFlo_same (some ⟨g, 0, none⟩) (some ⟨g2, 0, none⟩) N N N ((List.range N).map out) ((List.range N).map out2) w (by simp) (by simp) h1 h2 (by omega) (fun k k1 k2 => by
      have hk : k < N := by simpa using k1
      simp only [List.getElem_map, List.getElem_range]
      have h9 := (eq_val (bd_Fin (H36.out k hk) (by omega)) (bd_Fin (h362 k hk) (by omega))).2 (hv k hk).symm
      rw [ord_def, h9]
      rfl))
    have hnum : ((List.range N).map out2).all hgtB = true ∧ numE ((List.range N).map out2) = 0 ∨ ((List.range N).map out2).all hgtB = false ∧ numE ((List.range N).map out2) ≠ 0 := by
      cases hb : ((List.range N).map out2).all hgtB
      · exact .inr ⟨rfl, numE_not hb⟩
      · exact .inl ⟨rfl, numE_all hb⟩
    rw [hall] at hnum
    generalize numE ((List.range N).map out2) = nE at *
    have Hnum := hidA hnum
    have kF8 := kF2.ext hg8
    have kG8 := kG.ext hg8
    clear hnum hall hv hL2 h362 hB8 hgg hx8 hg7 c0 c1 c2 c3 c4 kF7 HO HF HE HN HS HSm HWh HW
    have c0 := kF8.cell 0
    have c1 := kF8.cell 1
    have c2 := kF8.cell 2
    have c3 := kF8.cell 3
    have d0 := kG8.cell 0
    have d1 := kG8.cell 1
    have d2 := kG8.cell 2
    have d3 := kG8.cell 3
    have d4 := kG8.cell 4
    go_wp2_with fail
    refine ((HNu _ hR8).out).mono ?_
    rintro e w9 ⟨rfl, rfl⟩
    rcases Hnum.out with ⟨hb, rfl⟩ | ⟨hb, hne⟩
    · rcases Hrel.out with ⟨_, rfl, rfl, rfl, rfl, h6, rfl⟩ | ⟨h1, _⟩
      · injection h6 with e1 e2 e3
        subst e1
        subst e2
        subst e3
        clear hb
        go_wp2_with fail
        refine ((HEq _ hR8b hR8).out).mono ?_
        rintro e w10 ⟨rfl, hx10⟩
        go_wp2_with fail
        go_ret
        exact ⟨by first | rfl | simp, hw2.trans (hg8.trans hx10)⟩
      · rw [hb] at h1; cases h1
    · rcases Hrel.out with ⟨h1, _⟩ | ⟨_, rfl, rfl, rfl, rfl, h6, rfl⟩
      · rw [hb] at h1; cases h1
      · injection h6 with e1 e2 e3
        subst e1
        subst e2
        subst e3
        have hne' : (nE != 0) = true := by simpa using hne
        clear hb hne
        go_wp2_with fail
        refine ((HZ _).out).mono ?_
        rintro e w10 ⟨rfl, hx10⟩
        go_wp2_with fail
        go_ret
        exact ⟨by first | rfl | simp, hw2.trans (hg8.trans hx10)⟩
  · have hsm2 : (200 : Int) < N := by omega
    have hsm3 : decide ((N : Int) ≤ 200) = false := by simpa using hsm2
    clear hsm
    go_wp2_with fail
    go_ret
    exact ⟨by first | rfl | simp, hw2.trans hg7⟩

theorem filled_walk (x y ww hh : Int) (A : Option Addr) (n c : Nat) (l : List Nat) (s : Nat) (w : World) (hn : l.length = n) (hd : Rd w A (flt l)) (hb : n ≤ 140737488351232) :
    Calls Try.prog 3 #[.agg #[.int .i64 x, .int .i64 y, .int .i64 ww, .int .i64 hh, .slice A n c], .float .f32 s] w fun e w' => e = .returned (.bool true) ∧ Ext w w' := by
  by_cases hE : fillE x y ww hh l s = 0
  · have hf : fieldE x y ww hh l = 0 := Classical.byContradiction fun h => by
      unfold fillE at hE
      rw [if_pos h] at hE
      exact h hE
    have hs : slopeE s = 0 := by
      unfold fillE at hE
      rwa [if_neg (fun h => h hf)] at hE
    obtain ⟨h1, h2, _⟩ := field_reg hf
    obtain ⟨Wn, Hn, rfl, rfl, hr⟩ := Reg.of_zero h1
    have hN : n = Wn * Hn := by
      rw [hn, ← Int.natCast_mul] at h2
      exact Int.ofNat.inj h2
    exact filled_good x y Wn Hn n A c s l w hr hN hn hd hf hs
  · exact filled_bad x y ww hh A n c s l w hn hd hb hE
end Go.Proofs.Ytinohfgokpbcdaa
