/- DrainsAsSaid: for every input the call returns true, and each argument reads afterwards as it read before. No condition is asked. -/
import Derived.Test.YtinohfgokpbcdaaDsAP
import Derived.Test.YtinohfgokpbcdaaDsAN
import Derived.Test.YtinohfgokpbcdaaDsAG
import Derived.Test.YtinohfgokpbcdaaRows
import Derived.Test.YtinohfgokpbcdaaDsAA
import Derived.WalkKit
import Derived.ProofKit
import Derived.OpenShut
import Derived.SizedLaws
import Derived.Carry
import Derived.Lib.SmallJoins
import Derived.Deep.Slices
namespace Go.Proofs.Ytinohfgokpbcdaa
open Go.RowKit
attribute [local go_sem ↓] Go.wp_at_zero Go.wp_at_succ
attribute [local go_sem] run_store_float

theorem getD_bd {l : List Nat} {N : Nat} (hl : l.length = N) (hh : ∀ x ∈ l, Bd 20 x) : ∀ k, k < N → Bd 20 (l.getD k 0) := fun k hk => by
  have hkl : k < l.length := by omega
  have e : l.getD k 0 = l[k] := by simp [List.getD_eq_getElem?_getD, hkl]
  rw [e]
  exact hh _ (List.getElem_mem hkl)
theorem intB_rd {w : World} {g N : Nat} {f : Nat → Int} (h : Bk w g 3 (intB N f)) : Rd w (some ⟨g, 0, none⟩) (intL ((List.range N).map f)) := by
  have h1 := Rd.new_bk h
  have e : (intB N f).toList = intL ((List.range N).map f) := by
    unfold intB intL
    simp
  rwa [e] at h1
theorem drn_same {Wn Hn N : Nat} {h v v' : Nat → Nat} (hw : 1 ≤ Wn) (hN : N = Wn * Hn) (hN1 : 1 ≤ N) (hh : ∀ k, k < Wn * Hn → Bd 20 (h k)) (hL : LeastG Wn Hn h 0 (fun k => valI (v k))) (hL' : LeastG Wn Hn h 0 (fun k => valI (v' k))) :
    ∀ k, k < N → drnV v (rkV v Wn Hn (N - 1)) Wn Hn k = drnV v' (rkV v' Wn Hn N) Wn Hn k := fun k hk => by
  have hv := fill_bd hh hL
  have hv' := fill_bd hh hL'
  have hk' : k < Wn * Hn := by rw [← hN]; exact hk
  rw [drn_val hv hv' (fun j hj => hL.unique hL' hj) (N - 1) hk']
  have hr := ranked hw hN hN1 (fun k hk => hh k (by rw [← hN]; exact hk)) (fun k hk => hv' k (by rw [← hN]; exact hk)) hL'
  unfold drnV
  rw [bst_congr (v := v') (v' := v') (R' := rkV v' Wn Hn N) (fun _ _ => rfl) (fun j hj => ?_) hk' 8]
  have := rkV_old (hr j (by rw [hN]; exact hj))
  rw [show N - 1 + 1 = N by omega] at this
  exact this.symm

set_option maxRecDepth 100000 in
set_option maxHeartbeats 1600000 in
theorem Steep_ok (X Y : Int) (Wn Hn N : Nat) (A : Option Addr) (c : Nat) (l : List Nat) (w : World) (hr : Reg X Y Wn Hn) (hN : N = Wn * Hn) (hn : l.length = N) (hd : Rd w A (flt l)) (hf : fieldE X Y Wn Hn l = 0) :
    Calls Try.prog 67 #[.agg #[.int .i64 X, .int .i64 Y, .int .i64 (Wn : Int), .int .i64 (Hn : Int), .slice A N c]] w fun e w' => ∃ gi, e = .returned (.tuple #[.slice (some ⟨gi, 0, none⟩) N N, .int .i64 0]) ∧ Bk w' gi 3 (intB N fun k => (stp (fun j => l.getD j 0) Wn Hn k 8).1) ∧ Ext w w' := by
  have hN6 : N ≤ 65536 := by rw [hN]; exact hr.n
  have hh : ∀ x ∈ l, Bd 20 x := fun x hx => hgt_bd ((numE_zero (field_reg hf).2.2).2 x hx)
  have HC := fun (w : World) (h : Rd w A (flt l)) => hidA (check_any X Y Wn Hn A N c l w hn h (by omega))
  rw [hf] at HC
  have HD := fun (w : World) (h : Rd w A (flt l)) => hidA (steepA_any X Y Wn Hn N A c l w hr hN hn h (getD_bd hn hh))
  clear hr hN hn hf hh
  go_enter Try.func67, Try.ntmps67
  go_wp2_with (go_at_call 80; refine ((HC _ (hd.ext (by repeat (first | exact Ext.refl _ | assumption | refine Ext.setCell ?_ (by first | (simp; done) | (simp; omega)) _ | refine Ext.drewN ?_ _ | refine Ext.alloc ?_ _ | refine Ext.drew ?_ | refine Ext.trans ?_ (by assumption))))).out).mono ?_; rintro e w1 ⟨rfl, hx1⟩; have kF : Bk w1 w.heap.size 26 #[.int .i64 X, .int .i64 Y, .int .i64 (Wn : Int), .int .i64 (Hn : Int), .slice A N c] := (Bk.new' rfl).ext hx1; have c0 := kF.cell 0; have c1 := kF.cell 1; have c2 := kF.cell 2; have c3 := kF.cell 3; have c4 := kF.cell 4)
  refine ((HD _ (hd.ext (by repeat (first | exact Ext.refl _ | assumption | refine Ext.setCell ?_ (by first | (simp; done) | (simp; omega)) _ | refine Ext.drewN ?_ _ | refine Ext.alloc ?_ _ | refine Ext.drew ?_ | refine Ext.trans ?_ (by assumption))))).out).mono ?_
  rintro e w2 ⟨gi, rfl, hB, _, hx2⟩
  go_wp2_with fail
  exact bodyPost_ret (v := .tuple #[.slice (some ⟨gi, 0, none⟩) N N, .int .i64 0]) (by simp [results, Try.results67, go_sem]) rfl ⟨gi, rfl, hB, (by repeat (first | exact Ext.refl _ | assumption | refine Ext.setCell ?_ (by first | (simp; done) | (simp; omega)) _ | refine Ext.drewN ?_ _ | refine Ext.alloc ?_ _ | refine Ext.drew ?_ | refine Ext.trans ?_ (by assumption)))⟩

set_option maxRecDepth 100000 in
set_option maxHeartbeats 1600000 in
theorem Steep_bad (x y ww hh : Int) (A : Option Addr) (n c : Nat) (l : List Nat) (w : World) (hn : l.length = n) (hd : Rd w A (flt l)) (hb : n ≤ 140737488351232) (hE : fieldE x y ww hh l ≠ 0) :
    Calls Try.prog 67 #[.agg #[.int .i64 x, .int .i64 y, .int .i64 ww, .int .i64 hh, .slice A n c]] w fun e w' => e = .returned (.tuple #[.slice none 0 0, .int .i64 (fieldE x y ww hh l)]) ∧ Ext w w' := by
  have HC := fun (w : World) (h : Rd w A (flt l)) => hidA (check_any x y ww hh A n c l w hn h hb)
  have hE' : (fieldE x y ww hh l != 0) = true := by simpa using hE
  clear hn hb hE
  generalize fieldE x y ww hh l = E at *
  go_enter Try.func67, Try.ntmps67
  go_wp2_with (go_at_call 80; refine ((HC _ (hd.ext (by repeat (first | exact Ext.refl _ | assumption | refine Ext.setCell ?_ (by first | (simp; done) | (simp; omega)) _ | refine Ext.drewN ?_ _ | refine Ext.alloc ?_ _ | refine Ext.drew ?_ | refine Ext.trans ?_ (by assumption))))).out).mono ?_; rintro e w1 ⟨rfl, hx1⟩)
  exact bodyPost_ret (v := .tuple #[.slice none 0 0, .int .i64 E]) (by simp [results, Try.results67, go_sem]) rfl ⟨rfl, (by repeat (first | exact Ext.refl _ | assumption | refine Ext.setCell ?_ (by first | (simp; done) | (simp; omega)) _ | refine Ext.drewN ?_ _ | refine Ext.alloc ?_ _ | refine Ext.drew ?_ | refine Ext.trans ?_ (by assumption)))⟩

set_option maxRecDepth 100000 in
set_option maxHeartbeats 1600000 in
theorem Drain_ok (X Y : Int) (Wn Hn N : Nat) (A : Option Addr) (c : Nat) (l : List Nat) (w : World) (hr : Reg X Y Wn Hn) (hN : N = Wn * Hn) (hn : l.length = N) (hd : Rd w A (flt l)) (hf : fieldE X Y Wn Hn l = 0) :
    Calls Try.prog 68 #[.agg #[.int .i64 X, .int .i64 Y, .int .i64 (Wn : Int), .int .i64 (Hn : Int), .slice A N c]] w fun e w' => ∃ gd v, e = .returned (.tuple #[.slice (some ⟨gd, 0, none⟩) N N, .int .i64 0]) ∧ LeastG Wn Hn (fun k => l.getD k 0) 0 (fun k => valI (v k)) ∧ Bk w' gd 3 (intB N (drnV v (rkV v Wn Hn (N - 1)) Wn Hn)) ∧ Ext w w' := by
  have hN6 : N ≤ 65536 := by rw [hN]; exact hr.n
  have hh : ∀ x ∈ l, Bd 20 x := fun x hx => hgt_bd ((numE_zero (field_reg hf).2.2).2 x hx)
  have HC := fun (w : World) (h : Rd w A (flt l)) => hidA (check_any X Y Wn Hn A N c l w hn h (by omega))
  rw [hf] at HC
  have HD := fun (w : World) (h : Rd w A (flt l)) => hidA (drain_any X Y Wn Hn N A c l w hr hN hn h hh)
  clear hr hN hn hf hh
  go_enter Try.func68, Try.ntmps68
  go_wp2_with (go_at_call 80; refine ((HC _ (hd.ext (by repeat (first | exact Ext.refl _ | assumption | refine Ext.setCell ?_ (by first | (simp; done) | (simp; omega)) _ | refine Ext.drewN ?_ _ | refine Ext.alloc ?_ _ | refine Ext.drew ?_ | refine Ext.trans ?_ (by assumption))))).out).mono ?_; rintro e w1 ⟨rfl, hx1⟩; have kF : Bk w1 w.heap.size 26 #[.int .i64 X, .int .i64 Y, .int .i64 (Wn : Int), .int .i64 (Hn : Int), .slice A N c] := (Bk.new' rfl).ext hx1; have c0 := kF.cell 0; have c1 := kF.cell 1; have c2 := kF.cell 2; have c3 := kF.cell 3; have c4 := kF.cell 4)
  refine ((HD _ (hd.ext (by repeat (first | exact Ext.refl _ | assumption | refine Ext.setCell ?_ (by first | (simp; done) | (simp; omega)) _ | refine Ext.drewN ?_ _ | refine Ext.alloc ?_ _ | refine Ext.drew ?_ | refine Ext.trans ?_ (by assumption))))).out).mono ?_
  rintro e w2 ⟨gd, v, rfl, hL, _, hB, _, hx2⟩
  go_wp2_with fail
  exact bodyPost_ret (v := .tuple #[.slice (some ⟨gd, 0, none⟩) N N, .int .i64 0]) (by simp [results, Try.results68, go_sem]) rfl ⟨gd, v, rfl, hL, hB, (by repeat (first | exact Ext.refl _ | assumption | refine Ext.setCell ?_ (by first | (simp; done) | (simp; omega)) _ | refine Ext.drewN ?_ _ | refine Ext.alloc ?_ _ | refine Ext.drew ?_ | refine Ext.trans ?_ (by assumption)))⟩

set_option maxRecDepth 100000 in
set_option maxHeartbeats 1600000 in
theorem Drain_bad (x y ww hh : Int) (A : Option Addr) (n c : Nat) (l : List Nat) (w : World) (hn : l.length = n) (hd : Rd w A (flt l)) (hb : n ≤ 140737488351232) (hE : fieldE x y ww hh l ≠ 0) :
    Calls Try.prog 68 #[.agg #[.int .i64 x, .int .i64 y, .int .i64 ww, .int .i64 hh, .slice A n c]] w fun e w' => e = .returned (.tuple #[.slice none 0 0, .int .i64 (fieldE x y ww hh l)]) ∧ Ext w w' := by
  have HC := fun (w : World) (h : Rd w A (flt l)) => hidA (check_any x y ww hh A n c l w hn h hb)
  have hE' : (fieldE x y ww hh l != 0) = true := by simpa using hE
  clear hn hb hE
  generalize fieldE x y ww hh l = E at *
  go_enter Try.func68, Try.ntmps68
  go_wp2_with (go_at_call 80; refine ((HC _ (hd.ext (by repeat (first | exact Ext.refl _ | assumption | refine Ext.setCell ?_ (by first | (simp; done) | (simp; omega)) _ | refine Ext.drewN ?_ _ | refine Ext.alloc ?_ _ | refine Ext.drew ?_ | refine Ext.trans ?_ (by assumption))))).out).mono ?_; rintro e w1 ⟨rfl, hx1⟩)
  exact bodyPost_ret (v := .tuple #[.slice none 0 0, .int .i64 E]) (by simp [results, Try.results68, go_sem]) rfl ⟨rfl, (by repeat (first | exact Ext.refl _ | assumption | refine Ext.setCell ?_ (by first | (simp; done) | (simp; omega)) _ | refine Ext.drewN ?_ _ | refine Ext.alloc ?_ _ | refine Ext.drew ?_ | refine Ext.trans ?_ (by assumption)))⟩
end Go.Proofs.Ytinohfgokpbcdaa
namespace Go.Proofs.Ytinohfgokpbcdaa
open Go.RowKit
attribute [local go_sem ↓] Go.wp_at_zero Go.wp_at_succ
attribute [local go_sem] run_store_float

set_option maxRecDepth 100000 in
set_option maxHeartbeats 3200000 in
theorem drains_bad (x y ww hh : Int) (A : Option Addr) (n c : Nat) (l : List Nat) (w : World) (hn : l.length = n) (hd : Rd w A (flt l)) (hb : n ≤ 140737488351232) (hE : fieldE x y ww hh l ≠ 0) :
    Calls Try.prog 11 #[.agg #[.int .i64 x, .int .i64 y, .int .i64 ww, .int .i64 hh, .slice A n c]] w fun e w' => e = .returned (.bool true) ∧ Ext w w' := by
  have HS := fun (w : World) (h : Rd w A (flt l)) => hidA (Steep_bad x y ww hh A n c l w hn h hb hE)
  have HD := fun (w : World) (h : Rd w A (flt l)) => hidA (Drain_bad x y ww hh A n c l w hn h hb hE)
  have HE := fun (w : World) (h : Rd w A (flt l)) => hidA (fieldError_any x y ww hh A n c l w hn h hb)
  have HW := fun (w : World) => hidA (flows_any w)
  have hE' : (fieldE x y ww hh l != 0) = true := by simpa using hE
  clear hn hb hE
  generalize fieldE x y ww hh l = E at *
  go_enter Try.func11, Try.ntmps11
  go_wp2_with fail
  refine ((HS _ (hd.ext (by repeat (first | (with_reducible exact Ext.refl _) | (with_reducible assumption) | (with_reducible refine Ext.setCell ?_ (by first | (simp; done) | (simp; omega)) _) | (with_reducible refine Ext.drewN ?_ _) | (with_reducible refine Ext.alloc ?_ _) | (with_reducible refine Ext.drew ?_) | (with_reducible refine Ext.trans ?_ (by assumption)))))).out).mono ?_
  rintro e w1 ⟨rfl, hx1⟩
  have kF1 : Bk w1 w.heap.size 26 #[.int .i64 x, .int .i64 y, .int .i64 ww, .int .i64 hh, .slice A n c] := (Bk.new' rfl).ext hx1
  have c0 := kF1.cell 0
  have c1 := kF1.cell 1
  have c2 := kF1.cell 2
  have c3 := kF1.cell 3
  have c4 := kF1.cell 4
  go_wp2_with fail
  refine ((HD _ (hd.ext (by repeat (first | (with_reducible exact Ext.refl _) | (with_reducible assumption) | (with_reducible refine Ext.setCell ?_ (by first | (simp; done) | (simp; omega)) _) | (with_reducible refine Ext.drewN ?_ _) | (with_reducible refine Ext.alloc ?_ _) | (with_reducible refine Ext.drew ?_) | (with_reducible refine Ext.trans ?_ (by assumption)))))).out).mono ?_
  rintro e w2 ⟨rfl, hx2⟩
  have kF2 := kF1.ext hx2
  clear kF1 c0 c1 c2 c3 c4
  have c0 := kF2.cell 0
  have c1 := kF2.cell 1
  have c2 := kF2.cell 2
  have c3 := kF2.cell 3
  have c4 := kF2.cell 4
  go_wp2_with fail
  refine ((HE _ (hd.ext (by repeat (first | (with_reducible exact Ext.refl _) | (with_reducible assumption) | (with_reducible refine Ext.setCell ?_ (by first | (simp; done) | (simp; omega)) _) | (with_reducible refine Ext.drewN ?_ _) | (with_reducible refine Ext.alloc ?_ _) | (with_reducible refine Ext.drew ?_) | (with_reducible refine Ext.trans ?_ (by assumption)))))).out).mono ?_
  rintro e w3 ⟨rfl, hx3⟩
  clear kF2 c0 c1 c2 c3 c4
  go_wp2_with (go_at_call 20; refine ((HW _).out).mono ?_; rintro e w4 ⟨rfl, hx4⟩)
  go_ret
  exact ⟨by first | rfl | simp, (by repeat (first | (with_reducible exact Ext.refl _) | (with_reducible assumption) | (with_reducible refine Ext.setCell ?_ (by first | (simp; done) | (simp; omega)) _) | (with_reducible refine Ext.drewN ?_ _) | (with_reducible refine Ext.alloc ?_ _) | (with_reducible refine Ext.drew ?_) | (with_reducible refine Ext.trans ?_ (by assumption))))⟩

set_option maxRecDepth 100000 in
set_option maxHeartbeats 6400000 in
theorem drains_good (X Y : Int) (Wn Hn N : Nat) (A : Option Addr) (c : Nat) (l : List Nat) (w : World) (hr : Reg X Y Wn Hn) (hN : N = Wn * Hn) (hn : l.length = N) (hd : Rd w A (flt l)) (hf : fieldE X Y Wn Hn l = 0) :
    Calls Try.prog 11 #[.agg #[.int .i64 X, .int .i64 Y, .int .i64 (Wn : Int), .int .i64 (Hn : Int), .slice A N c]] w fun e w' => e = .returned (.bool true) ∧ Ext w w' := by
  have hN6 : N ≤ 65536 := by rw [hN]; exact hr.n
  have hN1 : 1 ≤ N := by rw [hN]; exact Nat.mul_pos hr.w1 hr.h1
  have hh : ∀ x ∈ l, Bd 20 x := fun x hx => hgt_bd ((numE_zero (field_reg hf).2.2).2 x hx)
  have HS := fun (w : World) (h : Rd w A (flt l)) => hidA (Steep_ok X Y Wn Hn N A c l w hr hN hn h hf)
  have HD := fun (w : World) (h : Rd w A (flt l)) => hidA (Drain_ok X Y Wn Hn N A c l w hr hN hn h hf)
  have HE := fun (w : World) (h : Rd w A (flt l)) => hidA (fieldError_any X Y Wn Hn A N c l w hn h (by omega))
  rw [hf] at HE
  have HW := fun (w : World) => hidA (flows_any w)
  have HSm := fun (w : World) => hidA (small_any X Y Wn Hn A N c w)
  have HSo := fun (w : World) (h : Rd w A (flt l)) => hidA (SteepOf_own X Y Wn Hn N A c l w hr hN hn h (getD_bd hn hh))
  unfold rgv at HSo
  have HDo := fun (w : World) (h : Rd w A (flt l)) => hidA (DrainOf_any X Y Wn Hn N A c l w hr hN hn h hh)
  have HQ := fun (a b : Nat) (f : Nat → Int) (w : World) (h1 : Bk w a 3 (intB N f)) (h2 : Bk w b 3 (intB N f)) => hidA (eqInts_same (some ⟨a, 0, none⟩) (some ⟨b, 0, none⟩) N N N ((List.range N).map f) w (by simp) (intB_rd h1) (intB_rd h2) (by omega))
  have Hsame := hidA (fun (v v' : Nat → Nat) (h1 : LeastG Wn Hn (fun k => l.getD k 0) 0 (fun k => valI (v k))) (h2 : LeastG Wn Hn (fun k => l.getD k 0) 0 (fun k => valI (v' k))) => drn_same hr.w1 hN hN1 (fun k hk => getD_bd hn hh k (by rw [hN]; exact hk)) h1 h2)
  clear hr hN hn hf hh hN1
  go_enter Try.func11, Try.ntmps11
  go_wp2_with fail
  refine ((HS _ (hd.ext (by repeat (first | (with_reducible exact Ext.refl _) | (with_reducible assumption) | (with_reducible refine Ext.setCell ?_ (by first | (simp; done) | (simp; omega)) _) | (with_reducible refine Ext.drewN ?_ _) | (with_reducible refine Ext.alloc ?_ _) | (with_reducible refine Ext.drew ?_) | (with_reducible refine Ext.trans ?_ (by assumption)))))).out).mono ?_
  rintro e w1 ⟨gs, rfl, hB1, hx1⟩
  have kF1 : Bk w1 w.heap.size 26 #[.int .i64 X, .int .i64 Y, .int .i64 (Wn : Int), .int .i64 (Hn : Int), .slice A N c] := (Bk.new' rfl).ext hx1
  have c0 := kF1.cell 0
  have c1 := kF1.cell 1
  have c2 := kF1.cell 2
  have c3 := kF1.cell 3
  have c4 := kF1.cell 4
  go_wp2_with fail
  refine ((HD _ (hd.ext (by repeat (first | (with_reducible exact Ext.refl _) | (with_reducible assumption) | (with_reducible refine Ext.setCell ?_ (by first | (simp; done) | (simp; omega)) _) | (with_reducible refine Ext.drewN ?_ _) | (with_reducible refine Ext.alloc ?_ _) | (with_reducible refine Ext.drew ?_) | (with_reducible refine Ext.trans ?_ (by assumption)))))).out).mono ?_
  rintro e w2 ⟨gd, v, rfl, hL, hB2, hx2⟩
  have HL := hidA hL
  clear hL
  have kF2 := kF1.ext hx2
  clear kF1 c0 c1 c2 c3 c4
  have c0 := kF2.cell 0
  have c1 := kF2.cell 1
  have c2 := kF2.cell 2
  have c3 := kF2.cell 3
  have c4 := kF2.cell 4
  go_wp2_with fail
  refine ((HE _ (hd.ext (by repeat (first | (with_reducible exact Ext.refl _) | (with_reducible assumption) | (with_reducible refine Ext.setCell ?_ (by first | (simp; done) | (simp; omega)) _) | (with_reducible refine Ext.drewN ?_ _) | (with_reducible refine Ext.alloc ?_ _) | (with_reducible refine Ext.drew ?_) | (with_reducible refine Ext.trans ?_ (by assumption)))))).out).mono ?_
  rintro e w3 ⟨rfl, hx3⟩
  have kF3 := kF2.ext hx3
  clear kF2 c0 c1 c2 c3 c4
  go_wp2_with (go_at_call 20; refine ((HW _).out).mono ?_; rintro e w4 ⟨rfl, hx4⟩; have kF4 := kF3.ext hx4; have c0 := kF4.cell 0; have c1 := kF4.cell 1; have c2 := kF4.cell 2; have c3 := kF4.cell 3; have c4 := kF4.cell 4)
  refine ((HSm _).out).mono ?_
  rintro e w5 ⟨rfl, hx5⟩
  have kF5 := kF4.ext hx5
  clear kF3
  clear kF4 c0 c1 c2 c3 c4
  have c0 := kF5.cell 0
  have c1 := kF5.cell 1
  have c2 := kF5.cell 2
  have c3 := kF5.cell 3
  have c4 := kF5.cell 4
  have hw5 : Ext w w5 := (by repeat (first | (with_reducible exact Ext.refl _) | (with_reducible assumption) | (with_reducible refine Ext.setCell ?_ (by first | (simp; done) | (simp; omega)) _) | (with_reducible refine Ext.drewN ?_ _) | (with_reducible refine Ext.alloc ?_ _) | (with_reducible refine Ext.drew ?_) | (with_reducible refine Ext.trans ?_ (by assumption))))
  have hB15 : Bk w5 gs 3 _ := hB1.ext (hx2.trans (hx3.trans (hx4.trans hx5)))
  have hB25 : Bk w5 gd 3 _ := hB2.ext (hx3.trans (hx4.trans hx5))
  clear hB1 hB2 hx1 hx2 hx3 hx4 hx5
  by_cases hsm : (N : Int) ≤ 200
  · go_wp2_with fail
    refine ((HSo _ (hd.ext hw5)).out).mono ?_
    rintro e w6 ⟨gi, gf, rfl, hBi, _, hx6, _⟩
    have kF6 := kF5.ext hx6
    clear kF5 c0 c1 c2 c3 c4
    have c0 := kF6.cell 0
    have c1 := kF6.cell 1
    have c2 := kF6.cell 2
    have c3 := kF6.cell 3
    have c4 := kF6.cell 4
    go_wp2_with fail
    refine ((HQ _ _ _ _ (hB15.ext hx6) hBi).out).mono ?_
    rintro e w7 ⟨rfl, hx7⟩
    have kF7 := kF6.ext hx7
    clear kF6 c0 c1 c2 c3 c4
    have c0 := kF7.cell 0
    have c1 := kF7.cell 1
    have c2 := kF7.cell 2
    have c3 := kF7.cell 3
    have c4 := kF7.cell 4
    go_wp2_with fail
    refine ((HDo _ ((hd.ext hw5).ext (hx6.trans hx7))).out).mono ?_
    rintro e w8 ⟨go, v', rfl, hL', hBo, hx8⟩
    have hBo' : Bk w8 go 3 (intB N (drnV v (rkV v Wn Hn (N - 1)) Wn Hn)) := by
      have e : intB N (drnV v (rkV v Wn Hn (N - 1)) Wn Hn) = intB N (drnV v' (rkV v' Wn Hn N) Wn Hn) := by unfold intB; congr 1; refine List.map_congr_left fun k hk => ?_; rw [Hsame.out v v' HL.out hL' k (List.mem_range.1 hk)]
      rw [e]
      exact hBo
    clear hL' hBo
    go_wp2_with fail
    refine ((HQ _ _ _ _ (hB25.ext (hx6.trans (hx7.trans hx8))) hBo').out).mono ?_
    rintro e w9 ⟨rfl, hx9⟩
    go_wp2_with fail
    go_ret
    exact ⟨by first | rfl | simp, hw5.trans (hx6.trans (hx7.trans (hx8.trans hx9)))⟩
  · have hsm2 : (200 : Int) < N := by omega
    have hsm3 : decide ((N : Int) ≤ 200) = false := by simpa using hsm2
    clear hsm
    go_wp2_with fail
    go_ret
    exact ⟨by first | rfl | simp, hw5⟩

theorem drains_walk (x y ww hh : Int) (A : Option Addr) (n c : Nat) (l : List Nat) (w : World) (hn : l.length = n) (hd : Rd w A (flt l)) (hb : n ≤ 140737488351232) :
    Calls Try.prog 11 #[.agg #[.int .i64 x, .int .i64 y, .int .i64 ww, .int .i64 hh, .slice A n c]] w fun e w' => e = .returned (.bool true) ∧ Ext w w' := by
  by_cases hf : fieldE x y ww hh l = 0
  · obtain ⟨h1, h2, _⟩ := field_reg hf
    obtain ⟨Wn, Hn, rfl, rfl, hr⟩ := Reg.of_zero h1
    have hN : n = Wn * Hn := by
      rw [hn, ← Int.natCast_mul] at h2
      exact Int.ofNat.inj h2
    exact drains_good x y Wn Hn n A c l w hr hN hn hd hf
  · exact drains_bad x y ww hh A n c l w hn hd hb hf
end Go.Proofs.Ytinohfgokpbcdaa
namespace Go.Proofs.Ytinohfgokpbcdaa
open Go.ChangeShapes Go.WideShapes Go.ChangeAt Go.RowKit Go.Joins Go.Deep 

theorem own : ownKnob Try.prog.godebug = none := by kernel_rfl
theorem laidOut : laidOutB Try.prog = true := by kernel_rfl
theorem cellsField : Try.prog.cellsOf 26 = 5 := by kernel_rfl
theorem cellsRegion : Try.prog.cellsOf 23 = 4 := by kernel_rfl
theorem cellsPoint : Try.prog.cellsOf 76 = 2 := by kernel_rfl
theorem cellsInt : Try.prog.cellsOf 3 = 1 := by kernel_rfl
theorem cellsFloats : Try.prog.cellsOf 24 = 1 := by kernel_rfl
theorem cellsFloat : Try.prog.cellsOf 27 = 1 := by kernel_rfl
theorem bytesFloat : Try.prog.bytesOf 27 = 4 := by kernel_rfl

section
variable {H : Type} {enc : TypeId × Value → H} {W : World} {base : Nat}

theorem trod_flo {P : Program} {w : World} {spare : Nat → Bool} {held : Bool} {fuel : Nat} {t : TypeId} {k : FloatKind} {cs : List Value} {x : DataW H × List MemPlace} (ht : P.underlying t = some (.float k)) (h : DataW.trod enc P w base spare held fuel t cs = some x) : ∃ b, cs = [.float k b] := by
  cases fuel with
  | zero => simp [DataW.trod] at h
  | succ n =>
    unfold DataW.trod at h
    rw [ht] at h
    split at h <;> simp_all

set_option maxRecDepth 100000 in
theorem open_point {spare : Nat → Bool} {held : Bool} {r : Reach} {b0 : Nat} {v : Value} {d : DataW H} {p : List MemPlace} (hv : Value.okWide Try.prog W r b0 76 v)
    (h : DataW.Trod enc Try.prog W base spare held 76 v d p) : ∃ x y : Int, v = .agg #[.int .i64 x, .int .i64 y] := by
  obtain ⟨v0, v1, y0, y1, n, rfl, rfl, rfl, h0, h1⟩ := open_agg2 Try.underlying76 (by kernel_rfl) cellsPoint hv h
  obtain ⟨x, e0, _, _⟩ := DataW.trod_int Try.underlying3 h0
  obtain ⟨y, e1, _, _⟩ := DataW.trod_int Try.underlying3 h1
  obtain rfl : v0 = _ := by simpa using e0
  obtain rfl : v1 = _ := by simpa using e1
  exact ⟨x, y, rfl⟩

theorem cell_lt {w : World} {a : Addr} {v : Value} (h : w.cell? a = some v) : a.block < w.heap.size := by
  by_cases hb : a.block < w.heap.size
  · exact hb
  · simp [World.cell?, Array.getElem?_eq_none (Nat.le_of_not_lt hb)] at h

set_option maxRecDepth 100000 in
theorem open_field {r : Reach} {b0 : Nat} {held : Bool} {v : Value} {d : DataW H} {p : List MemPlace} (hv : Value.okWide Try.prog W r b0 26 v)
    (h : DataW.Trod enc Try.prog W base (fun _ => true) held 26 v d p) (hsz : ∀ n ∈ d.weights Try.prog 26, n ≤ reachBytes) :
    ∃ (X Y K J : Int) (A : Option Addr) (n c : Nat) (l : List Nat), v = .agg #[.int .i64 X, .int .i64 Y, .int .i64 K, .int .i64 J, .slice A n c] ∧ l.length = n ∧ Rd W A (flt l) ∧ n ≤ 140737488351232 := by
  obtain ⟨cs, rfl, hcs⟩ := okWide_struct Try.underlying26 hv
  rw [cellsField] at hcs
  obtain ⟨L⟩ := cs
  match L, hcs with
  | [c0, c1, c2, c3, c4], _ =>
    obtain ⟨fuel, hf⟩ := h
    obtain ⟨y0, y1, n, hx, _, h0, h1⟩ := trod_struct2 Try.underlying26 hf
    simp only [Prod.mk.injEq] at hx
    obtain ⟨rfl, rfl⟩ := hx
    simp only [Value.cells, cellsRegion, cellsFloats] at h0 h1
    simp at h0 h1
    obtain ⟨r0, r1, r2, r3, m, hx0, _, g0, g1, g2, g3⟩ := trod_struct4 Try.underlying23 h0
    simp [cellsInt] at g0 g1 g2 g3
    obtain ⟨X, e0, _, _⟩ := DataW.trod_int Try.underlying3 g0
    obtain ⟨Y, e1, _, _⟩ := DataW.trod_int Try.underlying3 g1
    obtain ⟨K, e2, _, _⟩ := DataW.trod_int Try.underlying3 g2
    obtain ⟨J, e3, _, _⟩ := DataW.trod_int Try.underlying3 g3
    obtain rfl : c0 = _ := by simpa using e0
    obtain rfl : c1 = _ := by simpa using e1
    obtain rfl : c2 = _ := by simpa using e2
    obtain rfl : c3 = _ := by simpa using e3
    rcases open_slice1 Try.underlying24 cellsFloat h1 with ⟨hc, hd⟩ | ⟨a, len, cap, m', n', V, D, Pl, hc, _, hl, _, hm, hd, hV⟩
    · obtain rfl : c4 = _ := by simpa using hc
      exact ⟨X, Y, K, J, none, 0, 0, [], rfl, rfl, Rd.nil _ _, by omega⟩
    · obtain rfl : c4 = _ := by simpa using hc
      simp only [if_true] at hm
      subst hm
      obtain ⟨f, hff⟩ := choose_lt (α := Nat) (n := len) (p := fun i b => V i = .float .f32 b) (fun i hi => by
        obtain ⟨b, hb⟩ := trod_flo Try.underlying27 (hV i (by omega)).2
        exact ⟨b, by simpa using hb⟩)
      have hw : (len + (m' - len)) * 4 ≤ reachBytes := by
        refine hsz _ ?_
        rw [hd]
        simp [DataW.weights, DataW.weightsEach, Try.underlying26, Try.underlying24, bytesFloat]
      refine ⟨X, Y, K, J, some a, len, m', (List.range len).map f, rfl, by simp, ?_, by simp only [reachBytes] at hw; omega⟩
      intro hne
      have hpos : 0 < len := by
        rcases Nat.eq_zero_or_pos len with h | h
        · subst h; exact absurd rfl hne
        · exact h
      refine ⟨a, rfl, ?_, ?_⟩
      · have := cell_lt (hV 0 (by omega)).1
        rwa [add_block] at this
      · intro j u hu
        have hj : j < len := by
          have := (List.getElem?_eq_some_iff.1 hu).1
          simpa [flt] using this
        simp [flt, hj] at hu
        rw [(hV j (by omega)).1, hff j hj, hu]
set_option maxRecDepth 100000 in
theorem open_region {spare : Nat → Bool} {held : Bool} {r : Reach} {b0 : Nat} {v : Value} {d : DataW H} {p : List MemPlace} (hv : Value.okWide Try.prog W r b0 23 v)
    (h : DataW.Trod enc Try.prog W base spare held 23 v d p) : ∃ X Y K J : Int, v = .agg #[.int .i64 X, .int .i64 Y, .int .i64 K, .int .i64 J] := by
  obtain ⟨cs, rfl, hcs⟩ := okWide_struct Try.underlying23 hv
  rw [cellsRegion] at hcs
  obtain ⟨L⟩ := cs
  match L, hcs with
  | [c0, c1, c2, c3], _ =>
    obtain ⟨fuel, hf⟩ := h
    obtain ⟨r0, r1, r2, r3, m, hx0, _, g0, g1, g2, g3⟩ := trod_struct4 Try.underlying23 hf
    simp [Value.cells, cellsInt] at g0 g1 g2 g3
    obtain ⟨X, e0, _, _⟩ := DataW.trod_int Try.underlying3 g0
    obtain ⟨Y, e1, _, _⟩ := DataW.trod_int Try.underlying3 g1
    obtain ⟨K, e2, _, _⟩ := DataW.trod_int Try.underlying3 g2
    obtain ⟨J, e3, _, _⟩ := DataW.trod_int Try.underlying3 g3
    obtain rfl : c0 = _ := by simpa using e0
    obtain rfl : c1 = _ := by simpa using e1
    obtain rfl : c2 = _ := by simpa using e2
    obtain rfl : c3 = _ := by simpa using e3
    exact ⟨X, Y, K, J, rfl⟩

theorem one_flo {spare : Nat → Bool} {held : Bool} {n : Nat} {v : Value} {y : Option (DataW H × List MemPlace)} (h : DataW.trod enc Try.prog W base spare held n 27 [v] = y) (hy : y.isSome = true) : ∃ b, v = .float .f32 b := by
  obtain ⟨z, rfl⟩ := Option.isSome_iff_exists.1 hy
  obtain ⟨b, e⟩ := trod_flo Try.underlying27 h
  exact ⟨b, by simpa using e⟩
theorem one_int {spare : Nat → Bool} {held : Bool} {n : Nat} {v : Value} {y : Option (DataW H × List MemPlace)} (h : DataW.trod enc Try.prog W base spare held n 3 [v] = y) (hy : y.isSome = true) : ∃ b, v = .int .i64 b := by
  obtain ⟨z, rfl⟩ := Option.isSome_iff_exists.1 hy
  obtain ⟨x, e, _, _⟩ := DataW.trod_int Try.underlying3 h
  exact ⟨x, by simpa using e⟩

theorem cellsCarving : Try.prog.cellsOf 52 = 4 := by kernel_rfl
set_option maxRecDepth 100000 in
theorem open_carving {spare : Nat → Bool} {held : Bool} {r : Reach} {b0 : Nat} {v : Value} {d : DataW H} {p : List MemPlace} (hv : Value.okWide Try.prog W r b0 52 v)
    (h : DataW.Trod enc Try.prog W base spare held 52 v d p) : ∃ (a b c : Nat) (e : Int), v = .agg #[.float .f32 a, .float .f32 b, .float .f32 c, .int .i64 e] := by
  obtain ⟨v0, v1, v2, v3, y0, y1, y2, y3, n, rfl, rfl, rfl, h0, h1, h2, h3⟩ := open_agg4 Try.underlying52 (by kernel_rfl) cellsCarving hv h
  obtain ⟨a, rfl⟩ := one_flo h0 rfl
  obtain ⟨b, rfl⟩ := one_flo h1 rfl
  obtain ⟨c, rfl⟩ := one_flo h2 rfl
  obtain ⟨e, rfl⟩ := one_int h3 rfl
  exact ⟨a, b, c, e, rfl⟩
theorem cellsSnow : Try.prog.cellsOf 66 = 4 := by kernel_rfl
set_option maxRecDepth 100000 in
theorem open_snow {spare : Nat → Bool} {held : Bool} {r : Reach} {b0 : Nat} {v : Value} {d : DataW H} {p : List MemPlace} (hv : Value.okWide Try.prog W r b0 66 v)
    (h : DataW.Trod enc Try.prog W base spare held 66 v d p) : ∃ (a b c e : Nat), v = .agg #[.float .f32 a, .float .f32 b, .float .f32 c, .float .f32 e] := by
  obtain ⟨v0, v1, v2, v3, y0, y1, y2, y3, n, rfl, rfl, rfl, h0, h1, h2, h3⟩ := open_agg4 Try.underlying66 (by kernel_rfl) cellsSnow hv h
  obtain ⟨a, rfl⟩ := one_flo h0 rfl
  obtain ⟨b, rfl⟩ := one_flo h1 rfl
  obtain ⟨c, rfl⟩ := one_flo h2 rfl
  obtain ⟨e, rfl⟩ := one_flo h3 rfl
  exact ⟨a, b, c, e, rfl⟩
end
end Go.Proofs.Ytinohfgokpbcdaa
namespace Go.Proofs.Ytinohfgokpbcdaa
open Go.ChangeShapes Go.WideShapes Go.ChangeAt Go.RowKit Go.Joins Go.Deep

set_option maxRecDepth 100000 in
set_option maxHeartbeats 1600000 in
theorem drainsAsSaid_lifted (os : Os) (started : os.Started) (H : Type) (enc : TypeId × Value → H) :
    ReturnsInHanded {} Try.checked os 11 .any (Rows.drainsAsSaidSpec.pre6 enc Try.prog Try.f11 Rows.drainsAsSaidRow.domain false) (Rows.drainsAsSaidSpec.post enc Try.prog Try.f11 false true false false) := by
  refine returnsInHanded_of_change_sized (C := Try.checked) own started (by kernel_rfl) Try.func11
    (ChangeSpec.witness6 (enc := enc) (C := Try.checked) false ⟨#[], #[.agg #[.int .i64 0, .int .i64 0, .int .i64 0, .int .i64 0, .slice none 0 0]], []⟩ 8 (by kernel_rfl) (by kernel_rfl) (by kernel_rfl) (by kernel_rfl)) ?_
  intro W base args ds gs before hval0 hW _ hsz0 _
  have hsz : (DataW.weightsEach Try.prog (Try.f11.params.toList ++ Rows.drainsAsSaidSpec.plain.varTypes Try.prog) (ds ++ gs)).all (· ≤ reachBytes) = true := hsz0
  clear hsz0
  have hval : ∀ (j : Nat) t v, Try.f11.params[j]? = some t → args[j]? = some v → Value.okWide Try.prog W .any base t v := hval0
  have hW' := hW
  obtain ⟨p, q, hA0, hV, rfl, _, _⟩ := hW
  have hA : DataW.TrodAll enc Try.prog W 0 (fun _ => true) true Try.f11.params.toList args.toList ds p := hA0
  rw [Try.params11] at hA hval hsz
  obtain ⟨v0, vs0, d0, ds0, p0, q0, e0, rfl, rfl, h0, g0⟩ := trodAll_cons hA
  obtain ⟨rfl, rfl, rfl⟩ := trodAll_nil g0
  obtain ⟨L⟩ := args
  obtain rfl : L = [v0] := by simpa using e0
  obtain ⟨rfl, rfl⟩ := trodVars_none hV
  obtain ⟨x0, y0, w0, u0, A0, n0, c0, l0, rfl, hn0, hr0, hb0⟩ := open_field (hval 0 26 v0 rfl rfl) h0 (fun n hn => by
    have := List.all_eq_true.1 hsz n (by simp [DataW.weightsEach, hn])
    simpa using this)
  clear hA0 hval0
  simp only [List.append_nil] at hW'
  have hlt : ∀ x ∈ p0, x.block < W.heap.size := fun x hx => by simpa using hW'.lt x (by simpa using hx)
  refine (drains_walk x0 y0 w0 u0 A0 n0 c0 l0 W hn0 hr0 hb0).mono fun e W' ⟨he, hx⟩ => ?_
  subst he
  refine ⟨_, rfl, _, _, _, [], p0, [], hW', trodAll_mk1 (shut_bool Try.underlying4 _), ?_, rfl, Below.frame hx _, fun h => by cases h⟩
  refine trodAll_mk1 (Below.trod laidOut (by kernel_rfl) (of_decide_eq_true (by kernel_rfl)) h0 hx ?_)
  · exact fun x hx => hlt x (by simp [hx])

theorem drainsAsSaid_holds : Rows.DrainsAsSaidSaid :=
  OpenClaim.holds_of_wide 11 Try.f11 rfl rfl rfl rfl rfl rfl rfl ⟨rfl, rfl, rfl, rfl, rfl⟩ rfl rfl rfl rfl rfl (by kernel_rfl) Try.func11 (by kernel_rfl)
    (of_decide_eq_true (by kernel_rfl)) (by unfold Func.isWrapper; first | (rw [if_pos (by decide +kernel)]; kernel_rfl) | (rw [if_neg (by decide +kernel)]; exact ⟨rfl, rfl⟩))
    (fun os started H enc _ => drainsAsSaid_lifted os started H enc)

end Go.Proofs.Ytinohfgokpbcdaa
