/- Contract: water.Carve where its arguments are wrong. -/
import Derived.Test.YtepgfplbkmhgbaaTdAG
import Derived.Test.YtepgfplbkmhgbaaFlows
import Derived.Test.YtepgfplbkmhgbaaTdAJ
import Derived.Test.YtepgfplbkmhgbaaTdAC
import Derived.Test.YtepgfplbkmhgbaaFillC
import Derived.RegionTactic
import Derived.ChangeAlike
import Derived.Test.YtepgfplbkmhgbaaWetA
import Derived.Test.YtepgfplbkmhgbaaTdAA
namespace Go.Proofs.Ytepgfplbkmhgbaa
open Go.RowKit
attribute [local go_sem ↓] Go.wp_at_zero Go.wp_at_succ
attribute [local go_sem] run_store_float

set_option maxHeartbeats 1600000 in
theorem eqFlo_same (A B : Option Addr) (n c d : Nat) (a b : List Nat) (w : World) (hn : a.length = n) (hn2 : b.length = n) (ha : Rd w A (flt a)) (hb : Rd w B (flt b)) (hnb : n ≤ 4000000) (he : ∀ k (h1 : k < a.length) (h2 : k < b.length), (FloatKind.f32.format.order a[k] b[k] == some .eq) = true) :
    Calls Try.prog 9 #[.slice A n c, .slice B n d] w fun e w' => e = .returned (.bool true) ∧ Ext w w' := by
  have Hn := hidA hn
  have Hn2 := hidA hn2
  have He := hidA he
  clear hn hn2 he
  go_enter Try.func9, Try.ntmps9
  go_wp2
  go_loopw [13] (fun i wr => ∃ k m : Nat, k ≤ n ∧ i = .int .i64 k ∧ wr = w.drewN m) (fun i _ => n - (intOf i).toNat)
  case atStart => exact ⟨0, 0, Nat.zero_le _, rfl, rfl⟩
  case round =>
    obtain ⟨k, m, hk, rfl, rfl⟩ := hrel
    by_cases hlt : k < n
    · have hkl : k < a.length := by have := Hn.out; omega
      have hkl2 : k < b.length := by have := Hn2.out; omega
      obtain ⟨ad, rfl, hbk, hc⟩ := ha.at (k := k) (by simpa [flt] using hkl)
      obtain ⟨ad2, rfl, hbk2, hc2⟩ := hb.at (k := k) (by simpa [flt] using hkl2)
      have e0 := hc k _ (flt_get hkl)
      have e2 := hc2 k _ (flt_get hkl2)
      have C1 : FloatKind.f32.format.order a[k] b[k] = some .eq := by have := He.out k hkl hkl2; simpa using this
      generalize a[k] = va at *
      generalize b[k] = vb at *
      have k0 : (0 : Int) ≤ k := by omega
      have k1 : (k : Int) < n := by omega
      clear ha hb hc hc2
      go_wp2
      go_quiet (fail)
      go_wp2
      go_roundw
      case rel => exact ⟨k + 1, _, by omega, by go_num, rfl⟩
      case measure => simp [intOf]; omega
    · obtain rfl : k = n := by omega
      go_wp2
      go_ret
      exact ⟨rfl, (by repeat (first | exact Ext.refl _ | assumption | refine Ext.setCell ?_ (by first | (simp; done) | (simp; omega)) _ | refine Ext.drewN ?_ _ | refine Ext.alloc ?_ _ | refine Ext.drew ?_ | refine Ext.trans ?_ (by assumption)))⟩

/-- the third error of Filled -/
def rangeE (s : Nat) : Int := if (lt s 0 || gt s 1149239296) = true then 3 else 0
theorem first3 (a b c : Int) : firstE [a, b, c] = if a ≠ 0 then a else if b ≠ 0 then b else c := by
  by_cases ha : a = 0
  · by_cases hb : b = 0
    · by_cases hc : c = 0 <;> simp [firstE, ha, hb, hc]
    · simp [firstE, ha, hb]
  · simp [firstE, ha]
theorem fillE_first (x y ww hh : Int) (l : List Nat) (s : Nat) : firstE [fieldE x y ww hh l, numE [s], rangeE s] = fillE x y ww hh l s := by
  rw [first3]
  unfold fillE slopeE rangeE
  simp only [Bool.or_eq_true]
theorem field_reg {x y ww hh : Int} {l : List Nat} (h : fieldE x y ww hh l = 0) : regE x y ww hh = 0 ∧ (l.length : Int) = ww * hh ∧ numE l = 0 := by
  have h1 : regE x y ww hh = 0 := by
    unfold fieldE at h
    split at h
    · rename_i h2; exact absurd h h2
    · rename_i h2; simpa using h2
  have h2 : (l.length : Int) = ww * hh := Classical.byContradiction fun h3 => by
    rw [fieldE_len h1 h3] at h
    cases h
  exact ⟨h1, h2, by rw [← h, fieldE_num h1 h2]⟩
/-- what the law has found ahead of its tests -/
def Wants (x y ww hh : Int) (l : List Nat) (s : Nat) : Int := fillE x y ww hh l s

end Go.Proofs.Ytepgfplbkmhgbaa

namespace Go.Proofs.Ytepgfplbkmhgbaa
open Go.RowKit
attribute [local go_sem ↓] Go.wp_at_zero Go.wp_at_succ
attribute [local go_sem] run_store_float

theorem getD_bd {l : List Nat} {N : Nat} (hl : l.length = N) (hh : ∀ x ∈ l, Bd 20 x) : ∀ k, k < N → Bd 20 (l.getD k 0) := fun k hk => by
  have hkl : k < l.length := by omega
  have e : l.getD k 0 = l[k] := by simp [List.getD_eq_getElem?_getD, hkl]
  rw [e]
  exact hh _ (List.getElem_mem hkl)
theorem intB_rd {w : World} {g N : Nat} {f : Nat → Int} (h : Bk w g 3 (intB N f)) : Rd w (some ⟨g, 0, none⟩) (intL ((List.range N).map f)) := by
  have h1 := Rd.new_bk h
  have e : (intB N f).toList = intL ((List.range N).map f) := by
    unfold intB intL
    simp
  rwa [e] at h1
theorem drn_same {Wn Hn N : Nat} {h v v' : Nat → Nat} (hw : 1 ≤ Wn) (hN : N = Wn * Hn) (hN1 : 1 ≤ N) (hh : ∀ k, k < Wn * Hn → Bd 20 (h k)) (hL : LeastG Wn Hn h 0 (fun k => valI (v k))) (hL' : LeastG Wn Hn h 0 (fun k => valI (v' k))) :
    ∀ k, k < N → drnV v (rkV v Wn Hn (N - 1)) Wn Hn k = drnV v' (rkV v' Wn Hn N) Wn Hn k := fun k hk => by
  have hv := fill_bd hh hL
  have hv' := fill_bd hh hL'
  have hk' : k < Wn * Hn := by rw [← hN]; exact hk
  rw [drn_val hv hv' (fun j hj => hL.unique hL' hj) (N - 1) hk']
  have hr := ranked hw hN hN1 (fun k hk => hh k (by rw [← hN]; exact hk)) (fun k hk => hv' k (by rw [← hN]; exact hk)) hL'
  unfold drnV
  rw [bst_congr (v := v') (v' := v') (R' := rkV v' Wn Hn N) (fun _ _ => rfl) (fun j hj => ?_) hk' 8]
  have := rkV_old (hr j (by rw [hN]; exact hj))
  rw [show N - 1 + 1 = N by omega] at this
  exact this.symm

set_option maxRecDepth 100000 in
set_option maxHeartbeats 1600000 in
theorem Drain_ok (X Y : Int) (Wn Hn N : Nat) (A : Option Addr) (c : Nat) (l : List Nat) (w : World) (hr : Reg X Y Wn Hn) (hN : N = Wn * Hn) (hn : l.length = N) (hd : Rd w A (flt l)) (hf : fieldE X Y Wn Hn l = 0) :
    Calls Try.prog 8 #[.agg #[.int .i64 X, .int .i64 Y, .int .i64 (Wn : Int), .int .i64 (Hn : Int), .slice A N c]] w fun e w' => ∃ gd v, e = .returned (.tuple #[.slice (some ⟨gd, 0, none⟩) N N, .int .i64 0]) ∧ LeastG Wn Hn (fun k => l.getD k 0) 0 (fun k => valI (v k)) ∧ Bk w' gd 3 (intB N (drnV v (rkV v Wn Hn (N - 1)) Wn Hn)) ∧ Ext w w' := by
  have hN6 : N ≤ 65536 := by rw [hN]; exact hr.n
  have hh : ∀ x ∈ l, Bd 20 x := fun x hx => hgt_bd ((numE_zero (field_reg hf).2.2).2 x hx)
  have HC := fun (w : World) (h : Rd w A (flt l)) => hidA (check_any X Y Wn Hn A N c l w hn h (by omega))
  rw [hf] at HC
  have HD := fun (w : World) (h : Rd w A (flt l)) => hidA (drain_any X Y Wn Hn N A c l w hr hN hn h hh)
  clear hr hN hn hf hh
  go_enter Try.func8, Try.ntmps8
  go_wp2_with (go_at_call 17; refine ((HC _ (hd.ext (by repeat (first | exact Ext.refl _ | assumption | refine Ext.setCell ?_ (by first | (simp; done) | (simp; omega)) _ | refine Ext.drewN ?_ _ | refine Ext.alloc ?_ _ | refine Ext.drew ?_ | refine Ext.trans ?_ (by assumption))))).out).mono ?_; rintro e w1 ⟨rfl, hx1⟩; have kF : Bk w1 w.heap.size 26 #[.int .i64 X, .int .i64 Y, .int .i64 (Wn : Int), .int .i64 (Hn : Int), .slice A N c] := (Bk.new' rfl).ext hx1; have c0 := kF.cell 0; have c1 := kF.cell 1; have c2 := kF.cell 2; have c3 := kF.cell 3; have c4 := kF.cell 4)
  refine ((HD _ (hd.ext (by repeat (first | exact Ext.refl _ | assumption | refine Ext.setCell ?_ (by first | (simp; done) | (simp; omega)) _ | refine Ext.drewN ?_ _ | refine Ext.alloc ?_ _ | refine Ext.drew ?_ | refine Ext.trans ?_ (by assumption))))).out).mono ?_
  rintro e w2 ⟨gd, v, rfl, hL, _, hB, _, hx2⟩
  go_wp2_with fail
  exact bodyPost_ret (v := .tuple #[.slice (some ⟨gd, 0, none⟩) N N, .int .i64 0]) (by simp [results, Try.results8, go_sem]) rfl ⟨gd, v, rfl, hL, hB, (by repeat (first | exact Ext.refl _ | assumption | refine Ext.setCell ?_ (by first | (simp; done) | (simp; omega)) _ | refine Ext.drewN ?_ _ | refine Ext.alloc ?_ _ | refine Ext.drew ?_ | refine Ext.trans ?_ (by assumption)))⟩

set_option maxRecDepth 100000 in
set_option maxHeartbeats 1600000 in
theorem Drain_bad (x y ww hh : Int) (A : Option Addr) (n c : Nat) (l : List Nat) (w : World) (hn : l.length = n) (hd : Rd w A (flt l)) (hb : n ≤ 140737488351232) (hE : fieldE x y ww hh l ≠ 0) :
    Calls Try.prog 8 #[.agg #[.int .i64 x, .int .i64 y, .int .i64 ww, .int .i64 hh, .slice A n c]] w fun e w' => e = .returned (.tuple #[.slice none 0 0, .int .i64 (fieldE x y ww hh l)]) ∧ Ext w w' := by
  have HC := fun (w : World) (h : Rd w A (flt l)) => hidA (check_any x y ww hh A n c l w hn h hb)
  have hE' : (fieldE x y ww hh l != 0) = true := by simpa using hE
  clear hn hb hE
  generalize fieldE x y ww hh l = E at *
  go_enter Try.func8, Try.ntmps8
  go_wp2_with (go_at_call 17; refine ((HC _ (hd.ext (by repeat (first | exact Ext.refl _ | assumption | refine Ext.setCell ?_ (by first | (simp; done) | (simp; omega)) _ | refine Ext.drewN ?_ _ | refine Ext.alloc ?_ _ | refine Ext.drew ?_ | refine Ext.trans ?_ (by assumption))))).out).mono ?_; rintro e w1 ⟨rfl, hx1⟩)
  exact bodyPost_ret (v := .tuple #[.slice none 0 0, .int .i64 E]) (by simp [results, Try.results8, go_sem]) rfl ⟨rfl, (by repeat (first | exact Ext.refl _ | assumption | refine Ext.setCell ?_ (by first | (simp; done) | (simp; omega)) _ | refine Ext.drewN ?_ _ | refine Ext.alloc ?_ _ | refine Ext.drew ?_ | refine Ext.trans ?_ (by assumption)))⟩
end Go.Proofs.Ytepgfplbkmhgbaa

namespace Go.Proofs.Ytepgfplbkmhgbaa
open Go.RowKit

open Classical in
/-- the directions by which all water leaves, whichever heights of the filled ground are taken -/
noncomputable def drnC (Wn Hn N : Nat) (l : List Nat) (k : Nat) : Int := if h : ∃ v : Nat → Nat, LeastG Wn Hn (fun k => l.getD k 0) 0 (fun k => valI (v k)) then drnV (Classical.choose h) (rkV (Classical.choose h) Wn Hn (N - 1)) Wn Hn k else -1
open Classical in
/-- the way of each cell -/
noncomputable def trC (D : Nat → Int) (Wn Hn k : Nat) : List Nat := if h : ∃ t, IsTr D Wn Hn k t then Classical.choose h else []
/-- the difference to where a cell drains, where that is lower -/
def drpF (u : Nat → Nat) (D : Nat → Int) (Wn Hn k : Nat) : Nat := match nxtD D Wn Hn k with
  | none => 0
  | some n => if gt (u k) (u n) = true then fsub (u k) (u n) else 0
/-- a cell behind a step -/
noncomputable def crvF (r le mo Wn Hn N : Nat) (l : List Nat) (k : Nat) : Nat :=
  fsub (l.getD k 0) (depF r le mo (gatV (trC (drnC Wn Hn N l) Wn Hn) (fun _ => 1) N k) (drpF (fun j => l.getD j 0) (drnC Wn Hn N l) Wn Hn k))
noncomputable def crvL (r le mo Wn Hn N : Nat) (l : List Nat) : List Nat := (List.range N).map (crvF r le mo Wn Hn N l)
noncomputable def crvI (r le mo Wn Hn N : Nat) (l : List Nat) : Nat → List Nat
  | 0 => l
  | i + 1 => crvL r le mo Wn Hn N (crvI r le mo Wn Hn N l i)
section
variable {r le mo Wn Hn N : Nat} {l : List Nat}
theorem crv_get {k : Nat} (hk : k < N) : (crvL r le mo Wn Hn N l).getD k 0 = crvF r le mo Wn Hn N l k := by
  unfold crvL
  simp [List.getD_eq_getElem?_getD, hk]
theorem crv_len : (crvL r le mo Wn Hn N l).length = N := by simp [crvL]
theorem crvI_len (hl : l.length = N) : ∀ i, (crvI r le mo Wn Hn N l i).length = N
  | 0 => hl
  | _ + 1 => crv_len
theorem drnC_eq (hN : N = Wn * Hn) (hh : ∀ k, k < N → Bd 20 (l.getD k 0)) {v : Nat → Nat} (hL : LeastG Wn Hn (fun k => l.getD k 0) 0 (fun k => valI (v k))) : ∀ k, k < N → drnV v (rkV v Wn Hn (N - 1)) Wn Hn k = drnC Wn Hn N l k := fun k hk => by
  have hex : ∃ v : Nat → Nat, LeastG Wn Hn (fun k => l.getD k 0) 0 (fun k => valI (v k)) := ⟨v, hL⟩
  unfold drnC
  rw [dif_pos hex]
  have hL' := Classical.choose_spec hex
  have hh' : ∀ k, k < Wn * Hn → Bd 20 (l.getD k 0) := by rw [← hN]; exact hh
  exact drn_val (fill_bd hh' hL) (fill_bd hh' hL') (fun j hj => hL.unique hL' hj) (N - 1) (by rw [← hN]; exact hk)
theorem nxtD_congr {D D' : Nat → Int} {k : Nat} (e : D k = D' k) : nxtD D Wn Hn k = nxtD D' Wn Hn k := by
  unfold nxtD
  rw [e]
theorem Lead.congr {D D' : Nat → Int} {m : Nat → Nat} (h : Lead Wn Hn N D m) (e : ∀ k, k < N → D k = D' k) : Lead Wn Hn N D' m :=
  ⟨fun k hk => by rw [← e k hk]; exact h.rng k hk, fun k hk h0 => by rw [← e k hk] at h0 ⊢; exact h.step k hk h0, fun k hk h0 => by rw [← e k hk] at h0; exact h.edge k hk h0⟩
/-- the directions lead downward -/
theorem drnC_lead (hw : 1 ≤ Wn) (hN : N = Wn * Hn) (hN1 : 1 ≤ N) (hh : ∀ k, k < N → Bd 20 (l.getD k 0)) {v : Nat → Nat} (hL : LeastG Wn Hn (fun k => l.getD k 0) 0 (fun k => valI (v k))) : ∃ m, Lead Wn Hn N (drnC Wn Hn N l) m ∧ ∀ k, k < N → m k ≤ N := by
  have hv : ∀ k, k < N → Bd 20 (v k) := fun k hk => fill_bd (fun k hk => hh k (by rw [hN]; exact hk)) hL k (by rw [← hN]; exact hk)
  exact ⟨_, (drn_lead hw hN hN1 hh hv hL).1.congr (drnC_eq hN hh hL), fun k _ => cntB_le _ _⟩
theorem trC_ok {D : Nat → Int} {m : Nat → Nat} (h : Lead Wn Hn N D m) (hN : N = Wn * Hn) : ∀ k, k < N → IsTr D Wn Hn k (trC D Wn Hn k) := fun k hk => by
  obtain ⟨t, ht, _⟩ := h.tr hN (m k + 1) k (Nat.lt_succ_self _) hk
  have hex : ∃ t, IsTr D Wn Hn k t := ⟨t, ht⟩
  unfold trC
  rw [dif_pos hex]
  exact Classical.choose_spec hex
/-- each step keeps the heights in range -/
theorem gatV_le {tr : Nat → List Nat} {k : Nat} : 0 ≤ gatV tr (fun _ => 1) N k ∧ gatV tr (fun _ => 1) N k ≤ N := by
  obtain ⟨h1, h2⟩ := sumI_bd (f := fun j => if k ∈ j :: tr j then (1 : Int) else 0) (M := 1) N fun j _ => by split <;> omega
  rw [Int.mul_one] at h2
  exact ⟨h1, h2⟩
theorem drp_ok {u : Nat → Nat} {D : Nat → Int} {k : Nat} (hu : ∀ j, j < Wn * Hn → Bd 20 (u j)) (hk : k < Wn * Hn) : Bd 22 (drpF u D Wn Hn k) ∧ (drpF u D Wn Hn k = 0 ∨ ∃ n, n < Wn * Hn ∧ nxtD D Wn Hn k = some n ∧ valI (u n) < valI (u k) ∧ drpF u D Wn Hn k = fsub (u k) (u n)) := by
  unfold drpF
  cases hn : nxtD D Wn Hn k with
  | none => exact ⟨zero_bd.mono (by omega), .inl rfl⟩
  | some n =>
    have hnl := nxt_lt hn
    dsimp only
    split
    · rename_i hg
      have hb := (fsub_ok (hu k hk) (hu n hnl) (by omega)).2
      rw [gt_val (bd_Fin (hu k hk) (by omega)) (bd_Fin (hu n hnl) (by omega))] at hg
      exact ⟨hb, .inr ⟨n, hnl, rfl, by simpa using hg, rfl⟩⟩
    · exact ⟨zero_bd.mono (by omega), .inl rfl⟩
theorem dep_zero {r le mo : Nat} {a : Int} : depF r le mo a 0 = 0 := by
  unfold depF
  rw [if_pos (.inr (by decide +kernel))]
theorem sub_zeroV {x : Nat} (hx : Bd 20 x) : valI (fsub x 0) = valI x ∧ Bd 20 (fsub x 0) := by
  have h := cut_between (v := x) (d := 0) (L := x) hx (zero_bd.mono (by omega)) hx (by rw [val_zero]; exact Int.le_refl _) (by rw [val_zero]; omega)
  exact ⟨by omega, h.2.2⟩
/-- a cell behind a step: between itself and where it drains -/
theorem crv_cell (hN : N = Wn * Hn) (hN6 : N ≤ 65536) (hr : Bd 20 r) (hl : Bd 20 le) (hm : Bd 20 mo) (hl0 : 0 ≤ valI le) (hlm : valI le ≤ valI mo) (hu : ∀ j, j < N → Bd 20 (l.getD j 0)) {k : Nat} (hk : k < N) :
    Bd 20 (crvF r le mo Wn Hn N l k) ∧ valI (crvF r le mo Wn Hn N l k) ≤ valI (l.getD k 0) ∧ (valI (crvF r le mo Wn Hn N l k) = valI (l.getD k 0) ∨ ∃ n, nxtD (drnC Wn Hn N l) Wn Hn k = some n ∧ valI (l.getD n 0) ≤ valI (crvF r le mo Wn Hn N l k)) := by
  unfold crvF
  have hg := gatV_le (tr := trC (drnC Wn Hn N l) Wn Hn) (N := N) (k := k)
  generalize gatV (trC (drnC Wn Hn N l) Wn Hn) (fun _ => 1) N k = a at *
  obtain ⟨hb, h0 | ⟨n, hnl, hn, hlt, hd⟩⟩ := drp_ok (u := fun j => l.getD j 0) (D := drnC Wn Hn N l) (Wn := Wn) (Hn := Hn) (k := k) (by rw [← hN]; exact hu) (by rw [← hN]; exact hk)
  · rw [h0, dep_zero]
    obtain ⟨h1, h2⟩ := sub_zeroV (hu k hk)
    exact ⟨h2, by omega, .inl h1⟩
  · rw [hd]
    have hnb := hu n (by rw [hN]; exact hnl)
    obtain ⟨h1, h2⟩ := dep_le (k := a) hr hl hm hl0 hlm (hu k hk) hnb (by omega) hlt
    have hdB : Bd 21 (depF r le mo a (fsub (l.getD k 0) (l.getD n 0))) := by
      have b1 := hu k hk
      rw [bd_valI (by omega)] at b1 hnb ⊢
      omega
    obtain ⟨h3, h4, h5⟩ := cut_between (hu k hk) hdB hnb h1 h2
    exact ⟨h5, h4, .inr ⟨n, hn, h3⟩⟩
theorem crvI_bd (hN : N = Wn * Hn) (hN6 : N ≤ 65536) (hr : Bd 20 r) (hl : Bd 20 le) (hm : Bd 20 mo) (hl0 : 0 ≤ valI le) (hlm : valI le ≤ valI mo) (hu : ∀ j, j < N → Bd 20 (l.getD j 0)) : ∀ i j, j < N → Bd 20 ((crvI r le mo Wn Hn N l i).getD j 0)
  | 0, j, hj => hu j hj
  | i + 1, j, hj => by
    show Bd 20 ((crvL r le mo Wn Hn N _).getD j 0)
    rw [crv_get hj]
    exact (crv_cell hN hN6 hr hl hm hl0 hlm (crvI_bd hN hN6 hr hl hm hl0 hlm hu i) hj).1
/-- the reference's drop gives the same depth -/
theorem dep_same {r le mo : Nat} {a : Int} {u : Nat → Nat} {D : Nat → Int} {k n : Nat} (hu : ∀ j, j < Wn * Hn → Bd 20 (u j)) (hk : k < Wn * Hn) (hn : nxtD D Wn Hn k = some n) : depF r le mo a (fsub (u k) (u n)) = depF r le mo a (drpF u D Wn Hn k) := by
  unfold drpF
  rw [hn]
  dsimp only
  split
  · rfl
  · rename_i hg
    have hnl := nxt_lt hn
    rw [gt_val (bd_Fin (hu k hk) (by omega)) (bd_Fin (hu n hnl) (by omega))] at hg
    simp at hg
    rw [dep_zero]
    unfold depF
    rw [if_pos]
    right
    have hb := (fsub_ok (hu k hk) (hu n hnl) (by omega)).2
    rw [gt_val (bd_Fin hb (by omega)) (show Fin 0 by unfold Fin; omega), val_zero]
    have hkey := fsub_key (K := 20) (hu k hk) (hu n hnl) (by omega)
    have hm := rkey_mono (show valI (u k) - valI (u n) ≤ 0 by omega)
    have e1 : rkey 0 = 0 := by decide +kernel
    have e0 : keyI 0 = 0 := by decide +kernel
    rw [← hkey, e1] at hm
    have h3 := (val_key_le (x := fsub (u k) (u n)) (y := 0)).2 (by rw [e0]; omega)
    rw [val_zero] at h3
    simp
    omega
end
end Go.Proofs.Ytepgfplbkmhgbaa

namespace Go.Proofs.Ytepgfplbkmhgbaa
open Go.RowKit
attribute [local go_sem ↓] Go.wp_at_zero Go.wp_at_succ
attribute [local go_sem] run_store_float

theorem CF.rd {w : World} {g cp N : Nat} {v : Nat → Nat} (h : CF w g cp N v) : Rd w (some ⟨g, 0, none⟩) (flt ((List.range N).map v)) := fun _ => by
  refine ⟨_, rfl, h.lt, fun j u hu => ?_⟩
  have hj : j < N := by
    have := (List.getElem?_eq_some_iff.1 hu).1
    simpa [flt] using this
  rw [lit_add, h.cell hj]
  simpa [flt, hj] using hu
theorem Lead.trs {D : Nat → Int} {m : Nat → Nat} {Wn Hn N : Nat} (h : Lead Wn Hn N D m) (hN : N = Wn * Hn) : ∃ tr : Nat → List Nat, ∀ k, k < N → IsTr D Wn Hn k (tr k) := by
  have h1 : ∀ k, ∃ t, k < N → IsTr D Wn Hn k t := fun k => by
    by_cases hk : k < N
    · obtain ⟨t, h2, _⟩ := h.tr hN (m k + 1) k (by omega) hk
      exact ⟨t, fun _ => h2⟩
    · exact ⟨[], fun h => absurd h hk⟩
  exact ⟨fun k => Classical.choose (h1 k), fun k => Classical.choose_spec (h1 k)⟩
/-- what Breach holds between the cells -/
structure BM (W0 w : World) (hf ho hz gv cp : Nat) (X Y : Int) (Wn Hn N : Nat) (A : Option Addr) (c : Nat) (u : Nat → Nat) : Prop where
  fb : Bk w hf 26 #[.int .i64 X, .int .i64 Y, .int .i64 (Wn : Int), .int .i64 (Hn : Int), .slice A N c]
  ob : Bk w ho 26 #[.int .i64 X, .int .i64 Y, .int .i64 (Wn : Int), .int .i64 (Hn : Int), .slice (some ⟨gv, 0, none⟩) N cp]
  zb : Bk w hz 26 #[.int .i64 0, .int .i64 0, .int .i64 0, .int .i64 0, .slice none 0 0]
  vb : CF w gv cp N u
  ext : Ext W0 w
  b1 : W0.heap.size ≤ gv
section
variable {W0 w : World} {hf ho hz gv cp : Nat} {X Y : Int} {Wn Hn N : Nat} {A : Option Addr} {c : Nat} {u : Nat → Nat}
theorem BM.step (h : BM W0 w hf ho hz gv cp X Y Wn Hn N A c u) {w' : World} (hx : Ext w w') : BM W0 w' hf ho hz gv cp X Y Wn Hn N A c u := ⟨h.fb.ext hx, h.ob.ext hx, h.zb.ext hx, h.vb.ext hx, h.ext.trans hx, h.b1⟩
theorem BM.kept (h : BM W0 w hf ho hz gv cp X Y Wn Hn N A c u) {w' : World} {q : Nat} (hk : Kept q w w') (hx : Ext W0 w') (h1 : hf ≠ q) (h2 : ho ≠ q) (h3 : hz ≠ q) (h4 : gv ≠ q) : BM W0 w' hf ho hz gv cp X Y Wn Hn N A c u :=
  ⟨hk.2 _ _ _ h1 h.fb, hk.2 _ _ _ h2 h.ob, hk.2 _ _ _ h3 h.zb, h.vb.kept hk h4, hx, h.b1⟩
theorem BM.cut (h : BM W0 w hf ho hz gv cp X Y Wn Hn N A c u) {w' : World} {u' : Nat → Nat} (hv : CF w' gv cp N u') (hk : Kept gv w w') (hx : Ext W0 w') : BM W0 w' hf ho hz gv cp X Y Wn Hn N A c u' :=
  ⟨hk.2 _ _ _ (h.vb.ne h.fb (by decide)) h.fb, hk.2 _ _ _ (h.vb.ne h.ob (by decide)) h.ob, hk.2 _ _ _ (h.vb.ne h.zb (by decide)) h.zb, hv, hx, h.b1⟩
end
/-- the error of a step of Breach -/
def stepE (s : Nat) : Int := if numE [s] ≠ 0 then numE [s] else if lt s 0 = true ∨ gt s 1065353216 = true then 3 else 0
theorem step_ok {s : Nat} (h : stepE s = 0) : Fin s ∧ numE [s] = 0 ∧ lt s 0 = false ∧ gt s 1065353216 = false := by
  unfold stepE at h
  split at h
  · exact absurd h ‹_›
  · rename_i hn
    split at h
    · cases h
    · rename_i h2
      have hn0 : numE [s] = 0 := by simpa using hn
      have hb := hgt_bd ((numE_zero hn0).2 s (by simp))
      exact ⟨bd_Fin hb (by omega), hn0, by cases h : lt s 0 <;> simp_all, by cases h : gt s 1065353216 <;> simp_all⟩
def BreachPost (X Y : Int) (Wn Hn N s : Nat) (l : List Nat) (w : World) (e : Ending) (w' : World) : Prop :=
  ∃ g cp vf tr, LeastG Wn Hn (fun k => l.getD k 0) 0 (fun k => valI (vf k)) ∧ (∀ k, k < N → IsTr (drnV vf (rkV vf Wn Hn (N - 1)) Wn Hn) Wn Hn k (tr k)) ∧ CF w' g cp N (brcV s tr Wn Hn (fun j => l.getD j 0) N) ∧ w.heap.size ≤ g ∧ Ext w w' ∧
    (((List.range N).map (brcV s tr Wn Hn (fun j => l.getD j 0) N)).all hgtB = true ∧ e = .returned (.tuple #[.agg #[.int .i64 X, .int .i64 Y, .int .i64 (Wn : Int), .int .i64 (Hn : Int), .slice (some ⟨g, 0, none⟩) N cp], .int .i64 0]) ∨
     ((List.range N).map (brcV s tr Wn Hn (fun j => l.getD j 0) N)).all hgtB = false ∧ e = .returned (.tuple #[.agg #[.int .i64 0, .int .i64 0, .int .i64 0, .int .i64 0, .slice none 0 0], .int .i64 3]))

end Go.Proofs.Ytepgfplbkmhgbaa

namespace Go.Proofs.Ytepgfplbkmhgbaa
open Go.RowKit
attribute [local go_sem ↓] Go.wp_at_zero Go.wp_at_succ
attribute [local go_sem] run_store_float

theorem CF.congr {w : World} {g cp N : Nat} {v v' : Nat → Nat} (h : CF w g cp N v) (e : ∀ k, k < N → v k = v' k) : CF w g cp N v' := by
  obtain ⟨cur, h⟩ := h
  exact ⟨cur, h.b, h.n, h.s, fun k hk => by rw [← e k hk]; exact h.c k hk⟩
theorem list_same {N : Nat} {l : List Nat} (hl : l.length = N) : (List.range N).map (fun j => l.getD j 0) = l := by
  apply List.ext_getElem
  · simp [hl]
  · intro i h1 h2
    simp [List.getD_eq_getElem?_getD, h2]
theorem CF.rdl {w : World} {g cp N : Nat} {l : List Nat} (h : CF w g cp N (fun j => l.getD j 0)) (hl : l.length = N) : Rd w (some ⟨g, 0, none⟩) (flt l) := by
  have h1 := h.rd
  rwa [list_same hl] at h1
theorem mem_bd {N : Nat} {l : List Nat} (hl : l.length = N) (h : ∀ j, j < N → Bd 20 (l.getD j 0)) : ∀ x ∈ l, Bd 20 x := fun x hx => by
  obtain ⟨i, hi, rfl⟩ := List.getElem_of_mem hx
  have := h i (by omega)
  rwa [show l.getD i 0 = l[i] by simp [List.getD_eq_getElem?_getD, hi]] at this
/-- what the errors of carving leave -/
theorem carv_ok {r le mo : Nat} {st : Int} (h : carvE r le mo st = 0) : Bd 20 r ∧ Bd 20 le ∧ Bd 20 mo ∧ 0 ≤ valI le ∧ valI le ≤ valI mo ∧ 0 ≤ st ∧ st ≤ 50 := by
  unfold carvE at h
  split at h
  · exact absurd h ‹_›
  · rename_i hn
    have hn0 : numE [r, le, mo] = 0 := by simpa using hn
    have b1 := hgt_bd ((numE_zero hn0).2 r (by simp))
    have b2 := hgt_bd ((numE_zero hn0).2 le (by simp))
    have b3 := hgt_bd ((numE_zero hn0).2 mo (by simp))
    split at h
    · cases h
    · rename_i h2
      split at h
      · cases h
      · rename_i h3
        split at h
        · cases h
        · rename_i h4
          have f0 : Fin 0 := by unfold Fin; omega
          have c1 : ¬ lt le 0 = true := fun e => h2 (.inr (.inr e))
          rw [lt_val (bd_Fin b2 (by omega)) f0, val_zero] at c1
          rw [lt_val (bd_Fin b3 (by omega)) (bd_Fin b2 (by omega))] at h3
          simp at c1 h3
          exact ⟨b1, b2, b3, c1, h3, by omega, by omega⟩
/-- what Carve holds between its steps -/
structure KM (W0 w : World) (hc hz hn gr gv cp : Nat) (X Y : Int) (Wn Hn N r le mo : Nat) (st : Int) (l : List Nat) : Prop where
  cb : Bk w hc 51 #[.float .f32 r, .float .f32 le, .float .f32 mo, .int .i64 st]
  zb : Bk w hz 26 #[.int .i64 0, .int .i64 0, .int .i64 0, .int .i64 0, .slice none 0 0]
  nb : Bk w hn 26 #[.int .i64 X, .int .i64 Y, .int .i64 (Wn : Int), .int .i64 (Hn : Int), .slice (some ⟨gv, 0, none⟩) N cp]
  rb : Bk w gr 3 (intB N fun _ => 1)
  vb : CF w gv cp N (fun j => l.getD j 0)
  ext : Ext W0 w
  b1 : W0.heap.size ≤ hn
  n1 : hz ≠ hn
theorem KM.step {W0 w : World} {hc hz hn gr gv cp : Nat} {X Y : Int} {Wn Hn N r le mo : Nat} {st : Int} {l : List Nat} (h : KM W0 w hc hz hn gr gv cp X Y Wn Hn N r le mo st l) {w' : World} (hx : Ext w w') : KM W0 w' hc hz hn gr gv cp X Y Wn Hn N r le mo st l := ⟨h.cb.ext hx, h.zb.ext hx, h.nb.ext hx, h.rb.ext hx, h.vb.ext hx, h.ext.trans hx, h.b1, h.n1⟩
/-- a world of the inner loop -/
def KQ (wP w5 : World) (gm cm N : Nat) (w' : World) : Prop := Kept gm w5 w' ∧ Ext wP w' ∧ ∃ f, CF w' gm cm N f
theorem KQ.ext {wP w5 w w' : World} {gm cm N : Nat} (h : KQ wP w5 gm cm N w) (hx : Ext w w') : KQ wP w5 gm cm N w' := ⟨h.1.ext hx, h.2.1.trans hx, let ⟨f, hf⟩ := h.2.2; ⟨f, hf.ext hx⟩⟩
theorem KQ.set {wP w5 w : World} {gm cm N : Nat} (h : KQ wP w5 gm cm N w) (hg : wP.heap.size ≤ gm) (k x : Nat) : KQ wP w5 gm cm N (w.setCell ⟨gm, k, none⟩ (.float .f32 x)) := ⟨h.1.set k _, h.2.1.setCell (p := ⟨gm, k, none⟩) hg _, let ⟨_, hf⟩ := h.2.2; ⟨_, hf.put k x⟩⟩
/-- what a cell of a single holds -/
def cellF (w : World) (p : Addr) : Nat := match w.cell? p with
  | some (.float .f32 b) => b
  | _ => 0
theorem cellF_of {w : World} {p : Addr} {b : Nat} (h : w.cell? p = some (.float .f32 b)) : w.cell? p = some (.float .f32 (cellF w p)) := by
  unfold cellF
  rw [h]
/-- the ground when the first k cells of a step are done -/
noncomputable def mixF (r le mo Wn Hn N : Nat) (l : List Nat) (k j : Nat) : Nat := if j < k then crvF r le mo Wn Hn N l j else l.getD j 0
theorem mix_step {r le mo Wn Hn N : Nat} {l : List Nat} {k : Nat} : updF (mixF r le mo Wn Hn N l k) k (crvF r le mo Wn Hn N l k) = mixF r le mo Wn Hn N l (k + 1) := by
  funext j
  unfold mixF
  by_cases e : j = k
  · subst e
    rw [updF_same, if_pos (by omega)]
  · rw [updF_ne _ _ e]
    by_cases h : j < k
    · rw [if_pos h, if_pos (by omega)]
    · rw [if_neg h, if_neg (by omega)]
theorem KM.next {W0 w : World} {hc hz hn gr gm cm : Nat} {X Y : Int} {Wn Hn N r le mo : Nat} {st : Int} {l : List Nat} {cs : Array Value} (hcb : Bk w hc 51 #[.float .f32 r, .float .f32 le, .float .f32 mo, .int .i64 st]) (hzb : Bk w hz 26 #[.int .i64 0, .int .i64 0, .int .i64 0, .int .i64 0, .slice none 0 0]) {u0 u1 u2 u3 u4 : Value} (hnb : Bk w hn 26 #[u0, u1, u2, u3, u4]) (hrb : Bk w gr 3 cs) (hcs : cs = intB N fun _ => 1)
    (hv : CF w gm cm N (mixF r le mo Wn Hn N l N)) (hx : Ext W0 w) (b1 : W0.heap.size ≤ hn) (n1 : hz ≠ hn) :
    KM W0 (((((w.setCell ⟨hn, 0, none⟩ (.int .i64 X)).setCell ⟨hn, 1, none⟩ (.int .i64 Y)).setCell ⟨hn, 2, none⟩ (.int .i64 (Wn : Int))).setCell ⟨hn, 3, none⟩ (.int .i64 (Hn : Int))).setCell ⟨hn, 4, none⟩ (.slice (some ⟨gm, 0, none⟩) N cm)) hc hz hn gr gm cm X Y Wn Hn N r le mo st (crvL r le mo Wn Hn N l) := by
  have a1 : hc ≠ hn := Bk.ne hcb hnb (by decide)
  have a2 : gr ≠ hn := Bk.ne hrb hnb (by decide)
  have a3 : gm ≠ hn := fun e => hv.ne hnb (by decide) e.symm
  subst hcs
  refine ⟨((((hcb.far a1 _).far a1 _).far a1 _).far a1 _).far a1 _, ((((hzb.far n1 _).far n1 _).far n1 _).far n1 _).far n1 _, ?_, ((((hrb.far a2 _).far a2 _).far a2 _).far a2 _).far a2 _, ?_, ((((hx.setCell (p := ⟨hn, 0, none⟩) b1 _).setCell (p := ⟨hn, 1, none⟩) b1 _).setCell (p := ⟨hn, 2, none⟩) b1 _).setCell (p := ⟨hn, 3, none⟩) b1 _).setCell (p := ⟨hn, 4, none⟩) b1 _, b1, n1⟩
  · have h := ((((hnb.set 0 (.int .i64 X)).set 1 (.int .i64 Y)).set 2 (.int .i64 (Wn : Int))).set 3 (.int .i64 (Hn : Int))).set 4 (.slice (some ⟨gm, 0, none⟩) N cm)
    simpa using h
  · refine (((((hv.far a3 _).far a3 _).far a3 _).far a3 _).far a3 _).congr fun k hk => ?_
    unfold mixF
    rw [if_pos hk, crv_get hk]
theorem crv_sub {r le mo Wn Hn N : Nat} {l : List Nat} (hN : N = Wn * Hn) (hN6 : N ≤ 65536) (hr : Bd 20 r) (hl : Bd 20 le) (hm : Bd 20 mo) (hl0 : 0 ≤ valI le) (hlm : valI le ≤ valI mo) (hu : ∀ j, j < N → Bd 20 (l.getD j 0)) {k : Nat} (hk : k < N) :
    floatBits .sub .f32 (l.getD k 0) (depF r le mo (gatV (trC (drnC Wn Hn N l) Wn Hn) (fun _ => 1) N k) (drpF (fun j => l.getD j 0) (drnC Wn Hn N l) Wn Hn k)) = some (crvF r le mo Wn Hn N l k) := by
  unfold crvF
  have hg := gatV_le (tr := trC (drnC Wn Hn N l) Wn Hn) (N := N) (k := k)
  generalize gatV (trC (drnC Wn Hn N l) Wn Hn) (fun _ => 1) N k = a at *
  obtain ⟨hb, h0 | ⟨n, hnl, hn, hlt, hd⟩⟩ := drp_ok (u := fun j => l.getD j 0) (D := drnC Wn Hn N l) (Wn := Wn) (Hn := Hn) (k := k) (by rw [← hN]; exact hu) (by rw [← hN]; exact hk)
  · rw [h0, dep_zero]
    exact (fsub_ok (hu k hk) (zero_bd.mono (by omega)) (by omega)).1
  · rw [hd]
    have hnb := hu n (by rw [hN]; exact hnl)
    obtain ⟨h1, h2⟩ := dep_le (k := a) hr hl hm hl0 hlm (hu k hk) hnb (by omega) hlt
    have hdB : Bd 21 (depF r le mo a (fsub (l.getD k 0) (l.getD n 0))) := by
      have b1 := hu k hk
      rw [bd_valI (by omega)] at b1 hnb ⊢
      omega
    exact (fsub_ok ((hu k hk).mono (by omega)) hdB (by omega)).1
def CarvePost (X Y : Int) (Wn Hn N r le mo : Nat) (st : Int) (l : List Nat) (w : World) (e : Ending) (w' : World) : Prop :=
  ∃ (a b c' d : Int) (vA : Option Addr) (vn vc : Nat) (ec : Int), e = .returned (.tuple #[.agg #[.int .i64 a, .int .i64 b, .int .i64 c', .int .i64 d, .slice vA vn vc], .int .i64 ec]) ∧ Ext w w' ∧
    ∃ (g cp : Nat), CF w' g cp N (fun j => (crvI r le mo Wn Hn N l st.toNat).getD j 0) ∧ ResR X Y Wn Hn (.slice (some ⟨g, 0, none⟩) N cp) (crvI r le mo Wn Hn N l st.toNat) a b c' d (.slice vA vn vc) ec

set_option maxRecDepth 100000 in
set_option maxHeartbeats 12800000 in
theorem Carve_ok (X Y : Int) (Wn Hn N : Nat) (A : Option Addr) (c r le mo : Nat) (st : Int) (l : List Nat) (w : World) (hr : Reg X Y Wn Hn) (hN : N = Wn * Hn) (hl : l.length = N) (hV : Rd w A (flt l)) (hf : fieldE X Y Wn Hn l = 0) (hs : carvE r le mo st = 0) :
    Calls Try.prog 15 #[.agg #[.int .i64 X, .int .i64 Y, .int .i64 (Wn : Int), .int .i64 (Hn : Int), .slice A N c], .agg #[.float .f32 r, .float .f32 le, .float .f32 mo, .int .i64 st]] w fun e w' => CarvePost X Y Wn Hn N r le mo st l w e w' := by
  have hN6 : N ≤ 65536 := by rw [hN]; exact hr.n
  have hN1 : 1 ≤ N := by rw [hN]; exact Nat.mul_pos hr.w1 hr.h1
  have hh : ∀ x ∈ l, Bd 20 x := fun x hx => hgt_bd ((numE_zero (field_reg hf).2.2).2 x hx)
  obtain ⟨r1, r2, r3, r4, r5, st0, st5⟩ := carv_ok hs
  obtain ⟨ad, rfl, _, _⟩ := hV.at (k := 0) (by rw [flt_length]; omega)
  have HC := fun (w : World) (h : Rd w (some ad) (flt l)) => hidA (check_any X Y Wn Hn (some ad) N c l w hl h (by omega))
  rw [hf] at HC
  have HCC := fun (w : World) => hidA (checkCarving_any r le mo st w)
  rw [hs] at HCC
  have HCp := hidA (fun (ad : Addr) (c : Nat) (l : List Nat) (w : World) (hl : l.length = N) (h : Rd w (some ad) (flt l)) => Copy_any X Y Wn Hn N c ad l w hl h hN1 (by omega))
  have HD := hidA (fun (A : Option Addr) (c : Nat) (l : List Nat) (w : World) (hl : l.length = N) (h : Rd w A (flt l)) (hb : ∀ x ∈ l, Bd 20 x) => drain_any X Y Wn Hn N A c l w hr hN hl h hb)
  have HG := hidA (fun (gd gR : Nat) (D : Nat → Int) (m : Nat → Nat) (w : World) (hD : DirsAt w (some ⟨gd, 0, none⟩) N D) (hL : Lead Wn Hn N D m) (hR : DirsAt w (some ⟨gR, 0, none⟩) N (fun _ => 1)) => gather_any X Y Wn Hn N N N (some ⟨gd, 0, none⟩) (some ⟨gR, 0, none⟩) D m (trC D Wn Hn) (fun _ => 1) w hr hN hD hL (trC_ok hL hN) hR (fun _ _ => by omega))
  have HNx := hidA (fun (k gd : Nat) (D : Nat → Int) (m : Nat → Nat) (w : World) (hk : k < N) (hD : DirsAt w (some ⟨gd, 0, none⟩) N D) (hL : Lead Wn Hn N D m) => next_any X Y Wn Hn N k N (some ⟨gd, 0, none⟩) D w hr hN hD hk (hL.rng k hk).1 (hL.rng k hk).2 (hL.valid.into k hk))
  unfold rgv at HG HNx
  have Hbd := hidA (fun (i : Nat) => crvI_bd (Wn := Wn) (Hn := Hn) (l := l) hN hN6 r1 r2 r3 r4 r5 (getD_bd hl hh) i)
  have Hlen := hidA (fun (i : Nat) => crvI_len (r := r) (le := le) (mo := mo) (Wn := Wn) (Hn := Hn) hl i)
  have Hlead := hidA (fun (l : List Nat) (hh : ∀ k, k < N → Bd 20 (l.getD k 0)) (v : Nat → Nat) (hL : LeastG Wn Hn (fun k => l.getD k 0) 0 (fun k => valI (v k))) => drnC_lead hr.w1 hN hN1 hh hL)
  have Heq := hidA (fun (l : List Nat) (hh : ∀ k, k < N → Bd 20 (l.getD k 0)) (v : Nat → Nat) (hL : LeastG Wn Hn (fun k => l.getD k 0) 0 (fun k => valI (v k))) => drnC_eq hN hh hL)
  have HCv := hidA (And.intro r1 (And.intro r2 (And.intro r3 (And.intro r4 r5))))
  have HN := hidA hN
  have mi := mk_int N (by omega)
  clear hr hN hf hs hh r1 r2 r3 r4 r5
  go_enter Try.func15, Try.ntmps15
  go_upto_region 7 with (first | (go_at_call 17; refine ((HC _ (hV.ext (by repeat (first | exact Ext.refl _ | assumption | refine Ext.setCell ?_ (by first | (simp; done) | (simp; omega)) _ | refine Ext.drewN ?_ _ | refine Ext.alloc ?_ _ | refine Ext.drew ?_ | refine Ext.trans ?_ (by assumption))))).out).mono ?_; rintro e w1 ⟨rfl, hx1⟩; have kC0 : Bk w1 (w.heap.size + 1) 51 #[.float .f32 r, .float .f32 le, .float .f32 mo, .int .i64 st] := ((Bk.new' (by simp)).alloc _).ext hx1; have k0 := kC0.cell 0; have k1 := kC0.cell 1; have k2 := kC0.cell 2; have k3 := kC0.cell 3) | (go_at_call 30; refine ((HCC _).out).mono ?_; rintro e w2 ⟨rfl, hx2⟩))
  have kF : Bk w2 w.heap.size 26 #[.int .i64 X, .int .i64 Y, .int .i64 (Wn : Int), .int .i64 (Hn : Int), .slice (some ad) N c] := ((((Bk.new' rfl).alloc _).alloc _).ext hx1).ext hx2
  have kC := kC0.ext hx2
  have kZ : Bk w2 (w.heap.size + 1 + 1) 26 #[.int .i64 0, .int .i64 0, .int .i64 0, .int .i64 0, .slice none 0 0] := ((Bk.new' (by simp)).ext hx1).ext hx2
  have hxA : Ext w w2 := (((((Ext.refl w).alloc _).alloc _).alloc _).trans hx1).trans hx2
  clear k0 k1 k2 k3 kC0 hx1 hx2 HC HCC
  have hl2 := kZ.lt
  have Hz := hidA (show w.heap.size ≤ w.heap.size + 1 + 1 by omega)
  generalize w.heap.size + 1 + 1 = hz at *
  generalize w.heap.size + 1 = hc at *
  generalize w.heap.size = h0 at kF
  have c0 := kF.cell 0
  have c1 := kF.cell 1
  have c2 := kF.cell 2
  have c3 := kF.cell 3
  have c4 := kF.cell 4
  have HC1 := hidA (HCp.out ad c l w2 hl (hV.ext hxA))
  go_upto_region 8 with (go_at_call 31; refine (HC1.out).mono ?_; rintro e w3 ⟨gv, cp, cur, rfl, hgv, hCl, hx3⟩)
  have kF3 := (kF.ext hx3).alloc (.cells #[.int .i64 X, .int .i64 Y, .int .i64 (Wn : Int), .int .i64 (Hn : Int), .slice (some ⟨gv, 0, none⟩) N cp] 26)
  have kN3 : Bk (w3.alloc (.cells #[.int .i64 X, .int .i64 Y, .int .i64 (Wn : Int), .int .i64 (Hn : Int), .slice (some ⟨gv, 0, none⟩) N cp] 26)) w3.heap.size 26 #[.int .i64 X, .int .i64 Y, .int .i64 (Wn : Int), .int .i64 (Hn : Int), .slice (some ⟨gv, 0, none⟩) N cp] := Bk.new' rfl
  have kC3 := (kC.ext hx3).alloc (.cells #[.int .i64 X, .int .i64 Y, .int .i64 (Wn : Int), .int .i64 (Hn : Int), .slice (some ⟨gv, 0, none⟩) N cp] 26)
  have kZ3 := (kZ.ext hx3).alloc (.cells #[.int .i64 X, .int .i64 Y, .int .i64 (Wn : Int), .int .i64 (Hn : Int), .slice (some ⟨gv, 0, none⟩) N cp] 26)
  have hV3 : CF (w3.alloc (.cells #[.int .i64 X, .int .i64 Y, .int .i64 (Wn : Int), .int .i64 (Hn : Int), .slice (some ⟨gv, 0, none⟩) N cp] 26)) gv cp N (fun j => l.getD j 0) := CF.ext ⟨cur, hCl⟩ ((Ext.refl w3).alloc _)
  have hx4 : Ext w (w3.alloc (.cells #[.int .i64 X, .int .i64 Y, .int .i64 (Wn : Int), .int .i64 (Hn : Int), .slice (some ⟨gv, 0, none⟩) N cp] 26)) := (hxA.trans hx3).alloc _
  have hb3 : w.heap.size ≤ w3.heap.size := (hxA.trans hx3).size
  have hz3 : hz ≠ w3.heap.size := by have := hx3.size; omega
  have hl3 := kN3.lt
  clear c0 c1 c2 c3 c4 kF kC kZ hxA hx3 hCl hgv HC1 hl2
  generalize w3.alloc (.cells #[.int .i64 X, .int .i64 Y, .int .i64 (Wn : Int), .int .i64 (Hn : Int), .slice (some ⟨gv, 0, none⟩) N cp] 26) = w4 at *
  generalize w3.heap.size = hn at *
  have c4 : w4.cell? ⟨h0, 4, none⟩ = some (.slice (some ad) N c) := kF3.cell 4
  go_upto_region 9 with fail
  have hx5 : Ext w4 (w4.alloc (.cells (intB N fun _ => 0) 3)) := (Ext.refl w4).alloc _
  have kR : Bk (w4.alloc (.cells (intB N fun _ => 0) 3)) w4.heap.size 3 (intB N fun _ => 0) := Bk.new' (by simp)
  have hgr : w.heap.size ≤ w4.heap.size := hx4.size
  have kC5 := kC3.ext hx5
  have kZ5 := kZ3.ext hx5
  have kN5 := kN3.ext hx5
  have hV5 := hV3.ext hx5
  have hx5' := hx4.trans hx5
  have hhn : hn < w4.heap.size := hl3
  have hrz : hz ≠ w4.heap.size := by have := kZ3.lt; omega
  have hrc : hc ≠ w4.heap.size := by have := kC3.lt; omega
  have hrv : gv ≠ w4.heap.size := by have := hV3.lt; omega
  clear c4 kF3 kC3 kZ3 kN3 hV3 hx4 hx5 mi
  generalize w4.alloc (.cells (intB N fun _ => 0) 3) = w5 at *
  generalize w4.heap.size = gr at *
  go_wp2_with fail
  go_loopw [38] (fun s38 wr => ∃ (k : Nat), k ≤ N ∧ s38 = .int .i64 k ∧ Bk wr gr 3 (intB N fun j => if j < k then 1 else 0) ∧ Kept gr w5 wr ∧ Ext w wr) (fun s38 _ => N - (intOf s38).toNat)
  case atStart => exact ⟨0, Nat.zero_le _, rfl, kR, Kept.refl _ _, hx5'⟩
  case round =>
    clear kR
    obtain ⟨k, hk, rfl, kR, hKp, hxr⟩ := hrel
    by_cases hkN : k < N
    · have i1 : (0 : Int) ≤ k := by omega
      have i2 : (k : Int) < N := by omega
      have q0 := kR.cell k
      rw [intB_get _ hkN] at q0
      have q1 := kR.frozen k
      have e1 := Bk.set kR k (.int .i64 1)
      rw [intB_set] at e1
      have e2 : updF (fun j => if j < k then (1 : Int) else 0) k 1 = fun j => if j < k + 1 then 1 else 0 := by
        funext j
        unfold updF
        dsimp only
        split
        · rw [if_pos (by omega)]
        · split
          · rw [if_pos (by omega)]
          · rw [if_neg (by omega)]
      rw [e2] at e1
      have e3 := hKp.set k (.int .i64 1)
      have e4 := hxr.setCell (p := ⟨gr, k, none⟩) hgr (.int .i64 1)
      have Hall := hidA (And.intro e1 (And.intro e3 e4))
      clear e1 e2 e3 e4 kR hKp hxr
      generalize (if k < k then (1 : Int) else 0) = z at q0
      go_wp2_with fail
      go_roundw
      case rel => exact ⟨k + 1, by omega, by go_num, Hall.out⟩
      case measure => simp [intOf]; omega
    · obtain rfl : N = k := by omega
      have hM : KM w wr hc hz hn gr gv cp X Y Wn Hn N r le mo st (crvI r le mo Wn Hn N l 0) := ⟨hKp.2 _ _ _ hrc kC5, hKp.2 _ _ _ hrz kZ5, hKp.2 _ _ _ (by omega) kN5, by
        have e : (intB N fun j => if j < N then (1 : Int) else 0) = intB N fun _ => 1 := by unfold intB; congr 1; refine List.map_congr_left fun k hk => ?_; dsimp only; rw [if_pos (List.mem_range.1 hk)]
        rw [e] at kR
        exact kR, hV5.kept hKp hrv, hxr, hb3, hz3⟩
      clear kR hKp hxr kC5 kZ5 kN5 hV5 hx5'
      have k3 := hM.cb.cell 3
      go_wp2_with fail
      clear k3
      go_loopw [47] (fun s47 wr => ∃ (i gv cp : Nat), (i : Int) ≤ st ∧ s47 = .int .i64 i ∧ KM w wr hc hz hn gr gv cp X Y Wn Hn N r le mo st (crvI r le mo Wn Hn N l i)) (fun s47 _ => st.toNat - (intOf s47).toNat)
      case atStart => exact ⟨0, _, _, st0, rfl, hM⟩
      case round =>
        clear hM hrv hrz hrc
        obtain ⟨i, gv, cp, hi, rfl, hM⟩ := hrel
        by_cases hist : (i : Int) < st
        · have hlen := Hlen.out i
          have hbd := Hbd.out i
          have Hnx := hidA (show crvL r le mo Wn Hn N (crvI r le mo Wn Hn N l i) = crvI r le mo Wn Hn N l (i + 1) from rfl)
          generalize crvI r le mo Wn Hn N l i = u at *
          have hbu := mem_bd hlen hbd
          have HD1 := hidA (HD.out (some ⟨gv, 0, none⟩) cp u wr hlen (hM.vb.rdl hlen) hbu)
          have c0 := hM.nb.cell 0
          have c1 := hM.nb.cell 1
          have c2 := hM.nb.cell 2
          have c3 := hM.nb.cell 3
          have c4 := hM.nb.cell 4
          go_upto_region 17 with (go_at_call 21; refine (HD1.out).mono ?_; rintro e w6 ⟨gd, vf, rfl, hL, _, hB, _, hx6⟩)
          obtain ⟨m, hLd, hmN⟩ := Hlead.out u hbd vf hL
          have hDs : DirsAt w6 (some ⟨gd, 0, none⟩) N (drnC Wn Hn N u) := by
            have e : intB N (drnV vf (rkV vf Wn Hn (N - 1)) Wn Hn) = intB N (drnC Wn Hn N u) := by unfold intB; congr 1; refine List.map_congr_left fun k hk => ?_; rw [Heq.out u hbd vf hL k (List.mem_range.1 hk)]
            rw [e] at hB
            exact DirsAt.of_bk hB
          have hM6 := hM.step hx6
          have HLd := hidA hLd
          clear c0 c1 c2 c3 c4 hM hL hB hx6 HD1 hLd hmN
          have HG1 := hidA (HG.out gd gr (drnC Wn Hn N u) m w6 hDs HLd.out (DirsAt.of_bk hM6.rb))
          have c0 := hM6.nb.cell 0
          have c1 := hM6.nb.cell 1
          have c2 := hM6.nb.cell 2
          have c3 := hM6.nb.cell 3
          go_upto_region 18 with (go_at_call 28; refine (HG1.out).mono ?_; rintro e w7 ⟨ga, ca, rfl, hG, _, hx7⟩)
          have hM7 := hM6.step hx7
          have hD7 := hDs.ext hx7
          clear c0 c1 c2 c3 hM6 hDs HG1 hx7
          have HC2 := hidA (HCp.out ⟨gv, 0, none⟩ cp u w7 hlen (hM7.vb.rdl hlen))
          have c0 := hM7.nb.cell 0
          have c1 := hM7.nb.cell 1
          have c2 := hM7.nb.cell 2
          have c3 := hM7.nb.cell 3
          have c4 := hM7.nb.cell 4
          go_upto_region 19 with (go_at_call 31; refine (HC2.out).mono ?_; rintro e w8 ⟨gm, cm, cur2, rfl, hgm, hCl, hx8⟩)
          clear c0 c1 c2 c3 c4 HC2
          have hM9 := hM7.step (hx8.trans ((Ext.refl w8).alloc (.cells #[.int .i64 X, .int .i64 Y, .int .i64 (Wn : Int), .int .i64 (Hn : Int), .slice (some ⟨gm, 0, none⟩) N cm] 26)))
          have kM9 : Bk (w8.alloc (.cells #[.int .i64 X, .int .i64 Y, .int .i64 (Wn : Int), .int .i64 (Hn : Int), .slice (some ⟨gm, 0, none⟩) N cm] 26)) w8.heap.size 26 #[.int .i64 X, .int .i64 Y, .int .i64 (Wn : Int), .int .i64 (Hn : Int), .slice (some ⟨gm, 0, none⟩) N cm] := Bk.new' rfl
          have hC9 : CF (w8.alloc (.cells #[.int .i64 X, .int .i64 Y, .int .i64 (Wn : Int), .int .i64 (Hn : Int), .slice (some ⟨gm, 0, none⟩) N cm] 26)) gm cm N (mixF r le mo Wn Hn N u 0) := (CF.ext ⟨cur2, hCl⟩ ((Ext.refl w8).alloc _)).congr fun k _ => by unfold mixF; rw [if_neg (by omega)]
          have hx9 : Ext w7 (w8.alloc (.cells #[.int .i64 X, .int .i64 Y, .int .i64 (Wn : Int), .int .i64 (Hn : Int), .slice (some ⟨gm, 0, none⟩) N cm] 26)) := hx8.alloc _
          have hvm : gv ≠ gm := by have := hM7.vb.lt; omega
          have hx7w := hM7.ext
          clear hM7 hCl hx8
          generalize w8.alloc (.cells #[.int .i64 X, .int .i64 Y, .int .i64 (Wn : Int), .int .i64 (Hn : Int), .slice (some ⟨gm, 0, none⟩) N cm] 26) = w9 at *
          generalize w8.heap.size = hm at *
          have hmg : hm ≠ gm := hC9.ne kM9 (by decide)
          have hng : hn ≠ gm := hC9.ne hM9.nb (by decide)
          have hcg : hc ≠ gm := hC9.ne hM9.cb (by decide)
          have hzg : hz ≠ gm := hC9.ne hM9.zb (by decide)
          have hrg : gr ≠ gm := hC9.ne hM9.rb (by decide)
          have Hsub := hidA (fun k hk => crv_sub (l := u) HN.out hN6 HCv.out.1 HCv.out.2.1 HCv.out.2.2.1 HCv.out.2.2.2.1 HCv.out.2.2.2.2 hbd (k := k) hk)
          have Hdrp := hidA (fun k hk => drp_ok (u := fun j => u.getD j 0) (D := drnC Wn Hn N u) (Wn := Wn) (Hn := Hn) (k := k) (by rw [← HN.out]; exact hbd) hk)
          have Hamt := hidA (fun k => gatV_le (tr := trC (drnC Wn Hn N u) Wn Hn) (N := N) (k := k))
          have HNxt := hidA (fun (k : Nat) (w' : World) (hk : k < N) (h : Ext w7 w') => HNx.out k gd (drnC Wn Hn N u) m w' hk (hD7.ext h) HLd.out)
          have n4 : w9.cell? ⟨hn, 4, none⟩ = some (.slice (some ⟨gv, 0, none⟩) N cp) := hM9.nb.cell 4
          go_wp2_with fail
          clear n4
          obtain ⟨wo, hwo⟩ : ∃ wo, wo = wr := ⟨_, rfl⟩
          clear hwo
          go_loopw [61] (fun s61 wy => ∃ (k : Nat), k ≤ N ∧ s61 = .int .i64 k ∧ CF wy gm cm N (mixF r le mo Wn Hn N u k) ∧ Kept gm w9 wy ∧ Ext w7 wy) (fun s61 _ => N - (intOf s61).toNat)
          case atStart => exact ⟨0, Nat.zero_le _, rfl, hC9, Kept.refl _ _, hx9⟩
          case round =>
            clear hC9 hx9
            obtain ⟨k, hk, rfl, hC, hKp, hx⟩ := hrel
            by_cases hkN : k < N
            · have i1 : (0 : Int) ≤ k := by omega
              have i2 : (k : Int) < N := by omega
              have HNk := fun w' h => HNxt.out k w' hkN h
              have Hs := Hsub.out k hkN
              have hkW : k < Wn * Hn := by rw [← HN.out]; exact hkN
              obtain ⟨hb22, hcase⟩ := Hdrp.out k hkW
              obtain ⟨a0, a1⟩ := Hamt.out k
              have hS : KQ w7 w9 gm cm N wr := ⟨hKp, hx, _, hC⟩
              have hgN : ∀ w', KQ w7 w9 gm cm N w' → w'.cell? ⟨ga, k, none⟩ = some (.int .i64 (gatV (trC (drnC Wn Hn N u) Wn Hn) (fun _ => 1) N k)) := fun w' h => (hG.ext h.2.1).cell hkN
              have m4 : ∀ w', KQ w7 w9 gm cm N w' → w'.cell? ⟨hm, 4, none⟩ = some (.slice (some ⟨gm, 0, none⟩) N cm) := fun w' h => (h.1.2 _ _ _ hmg kM9).cell 4
              have k0 : ∀ w', KQ w7 w9 gm cm N w' → w'.cell? ⟨hc, 0, none⟩ = some (.float .f32 r) := fun w' h => (h.1.2 _ _ _ hcg hM9.cb).cell 0
              have k1 : ∀ w', KQ w7 w9 gm cm N w' → w'.cell? ⟨hc, 1, none⟩ = some (.float .f32 le) := fun w' h => (h.1.2 _ _ _ hcg hM9.cb).cell 1
              have k2 : ∀ w', KQ w7 w9 gm cm N w' → w'.cell? ⟨hc, 2, none⟩ = some (.float .f32 mo) := fun w' h => (h.1.2 _ _ _ hcg hM9.cb).cell 2
              have k3 : ∀ w', KQ w7 w9 gm cm N w' → w'.cell? ⟨hc, 3, none⟩ = some (.int .i64 st) := fun w' h => (h.1.2 _ _ _ hcg hM9.cb).cell 3
              have fe : ∀ w', KQ w7 w9 gm cm N w' → w'.cell? ⟨gm, k, none⟩ = some (.float .f32 (cellF w' ⟨gm, k, none⟩)) := fun w' h => let ⟨_, hf⟩ := h.2.2; cellF_of (hf.cell hkN)
              have fz : ∀ w', KQ w7 w9 gm cm N w' → w'.frozen? ⟨gm, k, none⟩ = false := fun w' h => let ⟨_, hf⟩ := h.2.2; hf.frozen k
              have fc := hidA (fun w' h j hj => (hM9.vb.kept h.1 hvm).cell hj : ∀ w', KQ w7 w9 gm cm N w' → ∀ j, j < N → w'.cell? ⟨gv, j, none⟩ = some (.float .f32 (u.getD j 0)))
              have fn : ∀ w', KQ w7 w9 gm cm N w' → Bk w' hn 26 #[.int .i64 X, .int .i64 Y, .int .i64 (Wn : Int), .int .i64 (Hn : Int), .slice (some ⟨gv, 0, none⟩) N cp] := fun w' h => h.1.2 _ _ _ hng hM9.nb
              have v0 := fc.out wr hS k hkN
              have n0 := (fn wr hS).cell 0
              have n1 := (fn wr hS).cell 1
              have n2 := (fn wr hS).cell 2
              have n3 := (fn wr hS).cell 3
              have n4 : wr.cell? ⟨hn, 4, none⟩ = some (.slice (some ⟨gv, 0, none⟩) N cp) := (fn wr hS).cell 4
              generalize gatV (trC (drnC Wn Hn N u) Wn Hn) (fun _ => 1) N k = a at *
              have hmix := hidA (mix_step (r := r) (le := le) (mo := mo) (Wn := Wn) (Hn := Hn) (N := N) (l := u) (k := k))
              generalize crvF r le mo Wn Hn N u k = x at *
              have hdp : drpF (fun j => u.getD j 0) (drnC Wn Hn N u) Wn Hn k = match nxtD (drnC Wn Hn N u) Wn Hn k with
                | none => 0
                | some n => if gt (u.getD k 0) (u.getD n 0) = true then fsub (u.getD k 0) (u.getD n 0) else 0 := rfl
              have hnl : ∀ n, nxtD (drnC Wn Hn N u) Wn Hn k = some n → n < N := fun n h => by rw [HN.out]; exact nxt_lt h
              generalize nxtD (drnC Wn Hn N u) Wn Hn k = o at *
              cases o with
              | none =>
                dsimp only at hdp
                rw [hdp] at hb22 Hs
                rw [show nbI none = -1 from rfl] at HNk
                clear hdp hcase hnl
                generalize u.getD k 0 = uk at *
                go_upto_region 26 with (go_at_call 24; refine (HNk _ (hx.trans (by repeat (first | exact Ext.refl _ | assumption | refine Ext.setCell ?_ (by first | (simp; done) | (simp; omega)) _ | refine Ext.drewN ?_ _ | refine Ext.alloc ?_ _ | refine Ext.drew ?_ | refine Ext.trans ?_ (by assumption))))).mono ?_; rintro e w10 ⟨rfl, hx10⟩)
                have hS10 := hS.ext hx10
                have hC10 := hC.ext hx10
                clear n0 n1 n2 n3 n4 v0 HNk hC hS hKp hx hx10 fn fc
                have Hdv := hidA hb22
                have q1 := fun (w : World) => run_float_arith (P := Try.prog) w .sub 31 .f32 _ _ _ Hs
                have HDp := fun (w' : World) => hidA (depthW_any r le mo st a 0 w' HCv.out.1 hb22 (by omega))
                generalize depF r le mo a 0 = dp at *
                clear Hs hb22 Hdv
                refine wp_region_noPanic ?_
                refine wp_region_held_drew (S := fun w' => KQ w7 w9 gm cm N w') (by kernel_rfl) ?_ (fun hHeld => ?_)
                · repeat (first | assumption | refine KQ.set ?_ (by assumption) _ _ | refine KQ.ext ?_ (by assumption) | refine KQ.ext ?_ (Ext.drew (Ext.refl _)))
                refine wpAnyH_take (i := 0) (oi := ?o1x0) (v := ?v1x0) ?hi1x0 (by kernel_rfl) ?hf1x0 ?hr1x0 (fun _ _ _ h => h) ?hy1x0 (by assumption) ?rest1x0
                case hi1x0 => (simp only [List.getElem?_toArray, List.getElem?_cons_zero]; exact rfl)
                case hf1x0 => kernel_rfl
                case hr1x0 => kernel_rfl
                case hy1x0 => (refine Or.inl ⟨by rfl, ?_⟩; intro w hSw; (try dsimp only at hSw); go_simp; try with_reducible rfl)
                simp only [put_mk, List.set_cons_succ, List.set_cons_zero]
                refine wpAnyH_take (i := 1) (oi := ?o1x1) (v := ?v1x1) ?hi1x1 (by kernel_rfl) ?hf1x1 ?hr1x1 (fun _ _ _ h => h) ?hy1x1 (by assumption) ?rest1x1
                case hi1x1 => (simp only [List.getElem?_toArray, List.getElem?_cons_succ, List.getElem?_cons_zero]; exact rfl)
                case hf1x1 => kernel_rfl
                case hr1x1 => kernel_rfl
                case hy1x1 => (refine Or.inl ⟨by rfl, ?_⟩; intro w hSw; (try dsimp only at hSw); go_simp; try with_reducible rfl)
                simp only [put_mk, List.set_cons_succ, List.set_cons_zero]
                refine wpAnyH_take (i := 2) (oi := ?o1x2) (v := ?v1x2) ?hi1x2 (by kernel_rfl) ?hf1x2 ?hr1x2 (fun _ _ _ h => h) ?hy1x2 (by assumption) ?rest1x2
                case hi1x2 => (simp only [List.getElem?_toArray, List.getElem?_cons_succ, List.getElem?_cons_zero]; exact rfl)
                case hf1x2 => kernel_rfl
                case hr1x2 => kernel_rfl
                case hy1x2 => (refine Or.inl ⟨by rfl, ?_⟩; intro w hSw; (try dsimp only at hSw); go_simp; try with_reducible rfl)
                simp only [put_mk, List.set_cons_succ, List.set_cons_zero]
                refine wpAnyH_take (i := 3) (oi := ?o1x3) (v := ?v1x3) ?hi1x3 (by kernel_rfl) ?hf1x3 ?hr1x3 (fun _ _ _ h => h) ?hy1x3 (by assumption) ?rest1x3
                case hi1x3 => (simp only [List.getElem?_toArray, List.getElem?_cons_succ, List.getElem?_cons_zero]; exact rfl)
                case hf1x3 => kernel_rfl
                case hr1x3 => kernel_rfl
                case hy1x3 => (refine Or.inl ⟨by rfl, ?_⟩; intro w hSw; (try dsimp only at hSw); go_simp; try with_reducible rfl)
                simp only [put_mk, List.set_cons_succ, List.set_cons_zero]
                refine wpAnyH_take (i := 4) (oi := ?o1x4) (v := ?v1x4) ?hi1x4 (by kernel_rfl) ?hf1x4 ?hr1x4 (fun _ _ _ h => h) ?hy1x4 (by assumption) ?rest1x4
                case hi1x4 => (simp only [List.getElem?_toArray, List.getElem?_cons_succ, List.getElem?_cons_zero]; exact rfl)
                case hf1x4 => kernel_rfl
                case hr1x4 => kernel_rfl
                case hy1x4 => (refine Or.inl ⟨by rfl, ?_⟩; intro w hSw; (try dsimp only at hSw); go_simp; try with_reducible rfl)
                simp only [put_mk, List.set_cons_succ, List.set_cons_zero]
                refine wpAnyH_take (i := 5) (oi := ?o1x5) (v := ?v1x5) ?hi1x5 (by kernel_rfl) ?hf1x5 ?hr1x5 (fun _ _ _ h => h) ?hy1x5 (by assumption) ?rest1x5
                case hi1x5 => (simp only [List.getElem?_toArray, List.getElem?_cons_succ, List.getElem?_cons_zero]; exact rfl)
                case hf1x5 => kernel_rfl
                case hr1x5 => kernel_rfl
                case hy1x5 => (refine Or.inl ⟨by rfl, ?_⟩; intro w hSw; (try dsimp only at hSw); go_simp; try with_reducible rfl)
                simp only [put_mk, List.set_cons_succ, List.set_cons_zero]
                refine wpAnyH_take (i := 6) (oi := ?o1x6) (v := ?v1x6) ?hi1x6 (by kernel_rfl) ?hf1x6 ?hr1x6 (fun _ _ _ h => h) ?hy1x6 (by assumption) ?rest1x6
                case hi1x6 => (simp only [List.getElem?_toArray, List.getElem?_cons_succ, List.getElem?_cons_zero]; exact rfl)
                case hf1x6 => kernel_rfl
                case hr1x6 => kernel_rfl
                case hy1x6 => (refine Or.inl ⟨by rfl, ?_⟩; intro w hSw; (try dsimp only at hSw); go_simp; try with_reducible rfl)
                simp only [put_mk, List.set_cons_succ, List.set_cons_zero]
                refine wpAnyH_take (i := 7) (oi := ?o1x7) (v := ?v1x7) ?hi1x7 (by kernel_rfl) ?hf1x7 ?hr1x7 (fun _ _ _ h => h) ?hy1x7 (by assumption) ?rest1x7
                case hi1x7 => (simp only [List.getElem?_toArray, List.getElem?_cons_succ, List.getElem?_cons_zero]; exact rfl)
                case hf1x7 => kernel_rfl
                case hr1x7 => kernel_rfl
                case hy1x7 => (refine Or.inl ⟨by rfl, ?_⟩; intro w hSw; (try dsimp only at hSw); go_simp; try with_reducible rfl)
                simp only [put_mk, List.set_cons_succ, List.set_cons_zero]
                refine wpAnyH_take (i := 8) (oi := ?o1x8) (v := ?v1x8) ?hi1x8 (by kernel_rfl) ?hf1x8 ?hr1x8 (fun _ _ _ h => h) ?hy1x8 (by assumption) ?rest1x8
                case hi1x8 => (simp only [List.getElem?_toArray, List.getElem?_cons_succ, List.getElem?_cons_zero]; exact rfl)
                case hf1x8 => kernel_rfl
                case hr1x8 => kernel_rfl
                case hy1x8 => (refine Or.inl ⟨by rfl, ?_⟩; intro w hSw; (try dsimp only at hSw); go_simp; try with_reducible rfl)
                simp only [put_mk, List.set_cons_succ, List.set_cons_zero]
                refine wpAnyH_take (i := 9) (oi := ?o1x9) (v := ?v1x9) ?hi1x9 (by kernel_rfl) ?hf1x9 ?hr1x9 (fun _ _ _ h => h) ?hy1x9 (by assumption) ?rest1x9
                case hi1x9 => (simp only [List.getElem?_toArray, List.getElem?_cons_succ, List.getElem?_cons_zero]; exact rfl)
                case hf1x9 => kernel_rfl
                case hr1x9 => kernel_rfl
                case hy1x9 => (refine Or.inl ⟨by rfl, ?_⟩; intro w hSw; (try dsimp only at hSw); go_simp; try with_reducible rfl)
                simp only [put_mk, List.set_cons_succ, List.set_cons_zero]
                refine wpAnyH_ready (rs := [10]) (by kernel_rfl) (by simp) ?_
                refine AllReadyH.cons (o := ?o1x10) ?hi1x10 (fun K hK => ?_) AllReadyH.nil
                case hi1x10 => (simp only [List.getElem?_toArray, List.getElem?_cons_succ, List.getElem?_cons_zero]; exact rfl)
                go_simp
                refine ((HDp _).out).mono ?_
                rintro e w17 ⟨rfl, hx17⟩
                refine hK.out _ _ ?_ (fun hHeld => ?_)
                · repeat (first | assumption | refine KQ.set ?_ (by assumption) _ _ | refine KQ.ext ?_ (by assumption) | refine KQ.ext ?_ (Ext.drew (Ext.refl _)))
                clear hK K
                refine wpAnyH_take (i := 11) (oi := ?o1x11) (v := ?v1x11) ?hi1x11 (by kernel_rfl) ?hf1x11 ?hr1x11 (fun _ _ _ h => h) ?hy1x11 (by assumption) ?rest1x11
                case hi1x11 => (simp only [List.getElem?_toArray, List.getElem?_cons_succ, List.getElem?_cons_zero]; exact rfl)
                case hf1x11 => kernel_rfl
                case hr1x11 => kernel_rfl
                case hy1x11 => (refine Or.inl ⟨by rfl, ?_⟩; intro w hSw; (try dsimp only at hSw); go_simp; try with_reducible rfl)
                simp only [put_mk, List.set_cons_succ, List.set_cons_zero]
                refine wpAnyH_take (i := 12) (oi := ?o1x12) (v := ?v1x12) ?hi1x12 (by kernel_rfl) ?hf1x12 ?hr1x12 (fun _ _ _ h => h) ?hy1x12 (by assumption) ?rest1x12
                case hi1x12 => (simp only [List.getElem?_toArray, List.getElem?_cons_succ, List.getElem?_cons_zero]; exact rfl)
                case hf1x12 => kernel_rfl
                case hr1x12 => kernel_rfl
                case hy1x12 => (refine Or.inl ⟨by rfl, ?_⟩; intro w hSw; (try dsimp only at hSw); go_simp; try with_reducible rfl)
                simp only [put_mk, List.set_cons_succ, List.set_cons_zero]
                refine wpAnyH_ready (rs := [13]) (by kernel_rfl) (by simp) ?_
                refine AllReadyH.cons (o := ?o1x13) ?hi1x13 (fun K hK => ?_) AllReadyH.nil
                case hi1x13 => (simp only [List.getElem?_toArray, List.getElem?_cons_succ, List.getElem?_cons_zero]; exact rfl)
                go_simp
                refine hK.out _ _ ?_ (fun hHeld => ?_)
                · repeat (first | assumption | refine KQ.set ?_ (by assumption) _ _ | refine KQ.ext ?_ (by assumption) | refine KQ.ext ?_ (Ext.drew (Ext.refl _)))
                clear hK K
                refine wpAnyH_done (by kernel_rfl) ?_ _
                refine NoPanic.normal ?_
                go_wp2_with fail
                go_roundw
                case rel =>
                  have h := (hC10.ext (Ext.trans (Ext.drew (Ext.refl _)) hx17)).put k x
                  rw [hmix.out] at h
                  exact ⟨k + 1, by omega, by go_num, h, hHeld.1, hHeld.2.1⟩
                case measure => simp [intOf]; omega
              | some n =>
                have hnN := hnl n rfl
                dsimp only at hdp
                rw [show nbI (some n) = (n : Int) from rfl] at HNk
                have j1 : (0 : Int) ≤ n := by omega
                have j2 : (n : Int) < N := by omega
                clear hnl
                have hs0 := (fsub_ok (hbd k hkN) (hbd n hnN) (by omega)).1
                have v1f := fun w' h => fc.out w' h n hnN
                have hgt : (FloatKind.f32.format.order (u.getD k 0) (u.getD n 0) == some .gt) = gt (u.getD k 0) (u.getD n 0) := rfl
                clear fc hcase
                generalize fsub (u.getD k 0) (u.getD n 0) = dv at *
                generalize u.getD n 0 = un at *
                generalize u.getD k 0 = uk at *
                have V1f := hidA v1f
                clear v1f
                go_upto_region 24 with (go_at_call 24; refine (HNk _ (hx.trans (by repeat (first | exact Ext.refl _ | assumption | refine Ext.setCell ?_ (by first | (simp; done) | (simp; omega)) _ | refine Ext.drewN ?_ _ | refine Ext.alloc ?_ _ | refine Ext.drew ?_ | refine Ext.trans ?_ (by assumption))))).mono ?_; rintro e w10 ⟨rfl, hx10⟩)
                have hS10 := hS.ext hx10
                have hC10 := hC.ext hx10
                have v1 := V1f.out w10 hS10
                clear n0 n1 n2 n3 n4 v0 HNk hC hS hKp hx hx10 V1f
                have n4 : w10.cell? ⟨hn, 4, none⟩ = some (.slice (some ⟨gv, 0, none⟩) N cp) := (fn w10 hS10).cell 4
                cases hg : gt uk un with
                | true =>
                  rw [hg] at hgt
                  rw [hg, if_pos rfl] at hdp
                  rw [hdp] at hb22 Hs
                  have q5 := fun (w : World) => run_float_arith (P := Try.prog) w .sub 31 .f32 _ _ _ hs0
                  clear hdp hg hs0
                  go_upto_region 26 with fail
                  clear n4 v1 q5 hgt fn
                  have Hdv := hidA hb22
                  have q1 := fun (w : World) => run_float_arith (P := Try.prog) w .sub 31 .f32 _ _ _ Hs
                  have HDp := fun (w' : World) => hidA (depthW_any r le mo st a dv w' HCv.out.1 hb22 (by omega))
                  generalize depF r le mo a dv = dp at *
                  clear Hs hb22 Hdv
                  refine wp_region_noPanic ?_
                  refine wp_region_held_drew (S := fun w' => KQ w7 w9 gm cm N w') (by kernel_rfl) ?_ (fun hHeld => ?_)
                  · repeat (first | assumption | refine KQ.set ?_ (by assumption) _ _ | refine KQ.ext ?_ (by assumption) | refine KQ.ext ?_ (Ext.drew (Ext.refl _)))
                  refine wpAnyH_take (i := 0) (oi := ?o2x0) (v := ?v2x0) ?hi2x0 (by kernel_rfl) ?hf2x0 ?hr2x0 (fun _ _ _ h => h) ?hy2x0 (by assumption) ?rest2x0
                  case hi2x0 => (simp only [List.getElem?_toArray, List.getElem?_cons_zero]; exact rfl)
                  case hf2x0 => kernel_rfl
                  case hr2x0 => kernel_rfl
                  case hy2x0 => (refine Or.inl ⟨by rfl, ?_⟩; intro w hSw; (try dsimp only at hSw); go_simp; try with_reducible rfl)
                  simp only [put_mk, List.set_cons_succ, List.set_cons_zero]
                  refine wpAnyH_take (i := 1) (oi := ?o2x1) (v := ?v2x1) ?hi2x1 (by kernel_rfl) ?hf2x1 ?hr2x1 (fun _ _ _ h => h) ?hy2x1 (by assumption) ?rest2x1
                  case hi2x1 => (simp only [List.getElem?_toArray, List.getElem?_cons_succ, List.getElem?_cons_zero]; exact rfl)
                  case hf2x1 => kernel_rfl
                  case hr2x1 => kernel_rfl
                  case hy2x1 => (refine Or.inl ⟨by rfl, ?_⟩; intro w hSw; (try dsimp only at hSw); go_simp; try with_reducible rfl)
                  simp only [put_mk, List.set_cons_succ, List.set_cons_zero]
                  refine wpAnyH_take (i := 2) (oi := ?o2x2) (v := ?v2x2) ?hi2x2 (by kernel_rfl) ?hf2x2 ?hr2x2 (fun _ _ _ h => h) ?hy2x2 (by assumption) ?rest2x2
                  case hi2x2 => (simp only [List.getElem?_toArray, List.getElem?_cons_succ, List.getElem?_cons_zero]; exact rfl)
                  case hf2x2 => kernel_rfl
                  case hr2x2 => kernel_rfl
                  case hy2x2 => (refine Or.inl ⟨by rfl, ?_⟩; intro w hSw; (try dsimp only at hSw); go_simp; try with_reducible rfl)
                  simp only [put_mk, List.set_cons_succ, List.set_cons_zero]
                  refine wpAnyH_take (i := 3) (oi := ?o2x3) (v := ?v2x3) ?hi2x3 (by kernel_rfl) ?hf2x3 ?hr2x3 (fun _ _ _ h => h) ?hy2x3 (by assumption) ?rest2x3
                  case hi2x3 => (simp only [List.getElem?_toArray, List.getElem?_cons_succ, List.getElem?_cons_zero]; exact rfl)
                  case hf2x3 => kernel_rfl
                  case hr2x3 => kernel_rfl
                  case hy2x3 => (refine Or.inl ⟨by rfl, ?_⟩; intro w hSw; (try dsimp only at hSw); go_simp; try with_reducible rfl)
                  simp only [put_mk, List.set_cons_succ, List.set_cons_zero]
                  refine wpAnyH_take (i := 4) (oi := ?o2x4) (v := ?v2x4) ?hi2x4 (by kernel_rfl) ?hf2x4 ?hr2x4 (fun _ _ _ h => h) ?hy2x4 (by assumption) ?rest2x4
                  case hi2x4 => (simp only [List.getElem?_toArray, List.getElem?_cons_succ, List.getElem?_cons_zero]; exact rfl)
                  case hf2x4 => kernel_rfl
                  case hr2x4 => kernel_rfl
                  case hy2x4 => (refine Or.inl ⟨by rfl, ?_⟩; intro w hSw; (try dsimp only at hSw); go_simp; try with_reducible rfl)
                  simp only [put_mk, List.set_cons_succ, List.set_cons_zero]
                  refine wpAnyH_take (i := 5) (oi := ?o2x5) (v := ?v2x5) ?hi2x5 (by kernel_rfl) ?hf2x5 ?hr2x5 (fun _ _ _ h => h) ?hy2x5 (by assumption) ?rest2x5
                  case hi2x5 => (simp only [List.getElem?_toArray, List.getElem?_cons_succ, List.getElem?_cons_zero]; exact rfl)
                  case hf2x5 => kernel_rfl
                  case hr2x5 => kernel_rfl
                  case hy2x5 => (refine Or.inl ⟨by rfl, ?_⟩; intro w hSw; (try dsimp only at hSw); go_simp; try with_reducible rfl)
                  simp only [put_mk, List.set_cons_succ, List.set_cons_zero]
                  refine wpAnyH_take (i := 6) (oi := ?o2x6) (v := ?v2x6) ?hi2x6 (by kernel_rfl) ?hf2x6 ?hr2x6 (fun _ _ _ h => h) ?hy2x6 (by assumption) ?rest2x6
                  case hi2x6 => (simp only [List.getElem?_toArray, List.getElem?_cons_succ, List.getElem?_cons_zero]; exact rfl)
                  case hf2x6 => kernel_rfl
                  case hr2x6 => kernel_rfl
                  case hy2x6 => (refine Or.inl ⟨by rfl, ?_⟩; intro w hSw; (try dsimp only at hSw); go_simp; try with_reducible rfl)
                  simp only [put_mk, List.set_cons_succ, List.set_cons_zero]
                  refine wpAnyH_take (i := 7) (oi := ?o2x7) (v := ?v2x7) ?hi2x7 (by kernel_rfl) ?hf2x7 ?hr2x7 (fun _ _ _ h => h) ?hy2x7 (by assumption) ?rest2x7
                  case hi2x7 => (simp only [List.getElem?_toArray, List.getElem?_cons_succ, List.getElem?_cons_zero]; exact rfl)
                  case hf2x7 => kernel_rfl
                  case hr2x7 => kernel_rfl
                  case hy2x7 => (refine Or.inl ⟨by rfl, ?_⟩; intro w hSw; (try dsimp only at hSw); go_simp; try with_reducible rfl)
                  simp only [put_mk, List.set_cons_succ, List.set_cons_zero]
                  refine wpAnyH_take (i := 8) (oi := ?o2x8) (v := ?v2x8) ?hi2x8 (by kernel_rfl) ?hf2x8 ?hr2x8 (fun _ _ _ h => h) ?hy2x8 (by assumption) ?rest2x8
                  case hi2x8 => (simp only [List.getElem?_toArray, List.getElem?_cons_succ, List.getElem?_cons_zero]; exact rfl)
                  case hf2x8 => kernel_rfl
                  case hr2x8 => kernel_rfl
                  case hy2x8 => (refine Or.inl ⟨by rfl, ?_⟩; intro w hSw; (try dsimp only at hSw); go_simp; try with_reducible rfl)
                  simp only [put_mk, List.set_cons_succ, List.set_cons_zero]
                  refine wpAnyH_take (i := 9) (oi := ?o2x9) (v := ?v2x9) ?hi2x9 (by kernel_rfl) ?hf2x9 ?hr2x9 (fun _ _ _ h => h) ?hy2x9 (by assumption) ?rest2x9
                  case hi2x9 => (simp only [List.getElem?_toArray, List.getElem?_cons_succ, List.getElem?_cons_zero]; exact rfl)
                  case hf2x9 => kernel_rfl
                  case hr2x9 => kernel_rfl
                  case hy2x9 => (refine Or.inl ⟨by rfl, ?_⟩; intro w hSw; (try dsimp only at hSw); go_simp; try with_reducible rfl)
                  simp only [put_mk, List.set_cons_succ, List.set_cons_zero]
                  refine wpAnyH_ready (rs := [10]) (by kernel_rfl) (by simp) ?_
                  refine AllReadyH.cons (o := ?o2x10) ?hi2x10 (fun K hK => ?_) AllReadyH.nil
                  case hi2x10 => (simp only [List.getElem?_toArray, List.getElem?_cons_succ, List.getElem?_cons_zero]; exact rfl)
                  go_simp
                  refine ((HDp _).out).mono ?_
                  rintro e w17 ⟨rfl, hx17⟩
                  refine hK.out _ _ ?_ (fun hHeld => ?_)
                  · repeat (first | assumption | refine KQ.set ?_ (by assumption) _ _ | refine KQ.ext ?_ (by assumption) | refine KQ.ext ?_ (Ext.drew (Ext.refl _)))
                  clear hK K
                  refine wpAnyH_take (i := 11) (oi := ?o2x11) (v := ?v2x11) ?hi2x11 (by kernel_rfl) ?hf2x11 ?hr2x11 (fun _ _ _ h => h) ?hy2x11 (by assumption) ?rest2x11
                  case hi2x11 => (simp only [List.getElem?_toArray, List.getElem?_cons_succ, List.getElem?_cons_zero]; exact rfl)
                  case hf2x11 => kernel_rfl
                  case hr2x11 => kernel_rfl
                  case hy2x11 => (refine Or.inl ⟨by rfl, ?_⟩; intro w hSw; (try dsimp only at hSw); go_simp; try with_reducible rfl)
                  simp only [put_mk, List.set_cons_succ, List.set_cons_zero]
                  refine wpAnyH_take (i := 12) (oi := ?o2x12) (v := ?v2x12) ?hi2x12 (by kernel_rfl) ?hf2x12 ?hr2x12 (fun _ _ _ h => h) ?hy2x12 (by assumption) ?rest2x12
                  case hi2x12 => (simp only [List.getElem?_toArray, List.getElem?_cons_succ, List.getElem?_cons_zero]; exact rfl)
                  case hf2x12 => kernel_rfl
                  case hr2x12 => kernel_rfl
                  case hy2x12 => (refine Or.inl ⟨by rfl, ?_⟩; intro w hSw; (try dsimp only at hSw); go_simp; try with_reducible rfl)
                  simp only [put_mk, List.set_cons_succ, List.set_cons_zero]
                  refine wpAnyH_ready (rs := [13]) (by kernel_rfl) (by simp) ?_
                  refine AllReadyH.cons (o := ?o2x13) ?hi2x13 (fun K hK => ?_) AllReadyH.nil
                  case hi2x13 => (simp only [List.getElem?_toArray, List.getElem?_cons_succ, List.getElem?_cons_zero]; exact rfl)
                  go_simp
                  refine hK.out _ _ ?_ (fun hHeld => ?_)
                  · repeat (first | assumption | refine KQ.set ?_ (by assumption) _ _ | refine KQ.ext ?_ (by assumption) | refine KQ.ext ?_ (Ext.drew (Ext.refl _)))
                  clear hK K
                  refine wpAnyH_done (by kernel_rfl) ?_ _
                  refine NoPanic.normal ?_
                  go_wp2_with fail
                  go_roundw
                  case rel =>
                    have h := (hC10.ext (Ext.trans (Ext.drew (Ext.refl _)) hx17)).put k x
                    rw [hmix.out] at h
                    exact ⟨k + 1, by omega, by go_num, h, hHeld.1, hHeld.2.1⟩
                  case measure => simp [intOf]; omega
                | false =>
                  rw [hg] at hgt
                  rw [hg, if_neg (by decide)] at hdp
                  rw [hdp] at hb22 Hs
                  clear hdp hg hs0
                  go_upto_region 26 with fail
                  clear n4 v1 hgt fn
                  have Hdv := hidA hb22
                  have q1 := fun (w : World) => run_float_arith (P := Try.prog) w .sub 31 .f32 _ _ _ Hs
                  have HDp := fun (w' : World) => hidA (depthW_any r le mo st a 0 w' HCv.out.1 hb22 (by omega))
                  generalize depF r le mo a 0 = dp at *
                  clear Hs hb22 Hdv
                  refine wp_region_noPanic ?_
                  refine wp_region_held_drew (S := fun w' => KQ w7 w9 gm cm N w') (by kernel_rfl) ?_ (fun hHeld => ?_)
                  · repeat (first | assumption | refine KQ.set ?_ (by assumption) _ _ | refine KQ.ext ?_ (by assumption) | refine KQ.ext ?_ (Ext.drew (Ext.refl _)))
                  refine wpAnyH_take (i := 0) (oi := ?o3x0) (v := ?v3x0) ?hi3x0 (by kernel_rfl) ?hf3x0 ?hr3x0 (fun _ _ _ h => h) ?hy3x0 (by assumption) ?rest3x0
                  case hi3x0 => (simp only [List.getElem?_toArray, List.getElem?_cons_zero]; exact rfl)
                  case hf3x0 => kernel_rfl
                  case hr3x0 => kernel_rfl
                  case hy3x0 => (refine Or.inl ⟨by rfl, ?_⟩; intro w hSw; (try dsimp only at hSw); go_simp; try with_reducible rfl)
                  simp only [put_mk, List.set_cons_succ, List.set_cons_zero]
                  refine wpAnyH_take (i := 1) (oi := ?o3x1) (v := ?v3x1) ?hi3x1 (by kernel_rfl) ?hf3x1 ?hr3x1 (fun _ _ _ h => h) ?hy3x1 (by assumption) ?rest3x1
                  case hi3x1 => (simp only [List.getElem?_toArray, List.getElem?_cons_succ, List.getElem?_cons_zero]; exact rfl)
                  case hf3x1 => kernel_rfl
                  case hr3x1 => kernel_rfl
                  case hy3x1 => (refine Or.inl ⟨by rfl, ?_⟩; intro w hSw; (try dsimp only at hSw); go_simp; try with_reducible rfl)
                  simp only [put_mk, List.set_cons_succ, List.set_cons_zero]
                  refine wpAnyH_take (i := 2) (oi := ?o3x2) (v := ?v3x2) ?hi3x2 (by kernel_rfl) ?hf3x2 ?hr3x2 (fun _ _ _ h => h) ?hy3x2 (by assumption) ?rest3x2
                  case hi3x2 => (simp only [List.getElem?_toArray, List.getElem?_cons_succ, List.getElem?_cons_zero]; exact rfl)
                  case hf3x2 => kernel_rfl
                  case hr3x2 => kernel_rfl
                  case hy3x2 => (refine Or.inl ⟨by rfl, ?_⟩; intro w hSw; (try dsimp only at hSw); go_simp; try with_reducible rfl)
                  simp only [put_mk, List.set_cons_succ, List.set_cons_zero]
                  refine wpAnyH_take (i := 3) (oi := ?o3x3) (v := ?v3x3) ?hi3x3 (by kernel_rfl) ?hf3x3 ?hr3x3 (fun _ _ _ h => h) ?hy3x3 (by assumption) ?rest3x3
                  case hi3x3 => (simp only [List.getElem?_toArray, List.getElem?_cons_succ, List.getElem?_cons_zero]; exact rfl)
                  case hf3x3 => kernel_rfl
                  case hr3x3 => kernel_rfl
                  case hy3x3 => (refine Or.inl ⟨by rfl, ?_⟩; intro w hSw; (try dsimp only at hSw); go_simp; try with_reducible rfl)
                  simp only [put_mk, List.set_cons_succ, List.set_cons_zero]
                  refine wpAnyH_take (i := 4) (oi := ?o3x4) (v := ?v3x4) ?hi3x4 (by kernel_rfl) ?hf3x4 ?hr3x4 (fun _ _ _ h => h) ?hy3x4 (by assumption) ?rest3x4
                  case hi3x4 => (simp only [List.getElem?_toArray, List.getElem?_cons_succ, List.getElem?_cons_zero]; exact rfl)
                  case hf3x4 => kernel_rfl
                  case hr3x4 => kernel_rfl
                  case hy3x4 => (refine Or.inl ⟨by rfl, ?_⟩; intro w hSw; (try dsimp only at hSw); go_simp; try with_reducible rfl)
                  simp only [put_mk, List.set_cons_succ, List.set_cons_zero]
                  refine wpAnyH_take (i := 5) (oi := ?o3x5) (v := ?v3x5) ?hi3x5 (by kernel_rfl) ?hf3x5 ?hr3x5 (fun _ _ _ h => h) ?hy3x5 (by assumption) ?rest3x5
                  case hi3x5 => (simp only [List.getElem?_toArray, List.getElem?_cons_succ, List.getElem?_cons_zero]; exact rfl)
                  case hf3x5 => kernel_rfl
                  case hr3x5 => kernel_rfl
                  case hy3x5 => (refine Or.inl ⟨by rfl, ?_⟩; intro w hSw; (try dsimp only at hSw); go_simp; try with_reducible rfl)
                  simp only [put_mk, List.set_cons_succ, List.set_cons_zero]
                  refine wpAnyH_take (i := 6) (oi := ?o3x6) (v := ?v3x6) ?hi3x6 (by kernel_rfl) ?hf3x6 ?hr3x6 (fun _ _ _ h => h) ?hy3x6 (by assumption) ?rest3x6
                  case hi3x6 => (simp only [List.getElem?_toArray, List.getElem?_cons_succ, List.getElem?_cons_zero]; exact rfl)
                  case hf3x6 => kernel_rfl
                  case hr3x6 => kernel_rfl
                  case hy3x6 => (refine Or.inl ⟨by rfl, ?_⟩; intro w hSw; (try dsimp only at hSw); go_simp; try with_reducible rfl)
                  simp only [put_mk, List.set_cons_succ, List.set_cons_zero]
                  refine wpAnyH_take (i := 7) (oi := ?o3x7) (v := ?v3x7) ?hi3x7 (by kernel_rfl) ?hf3x7 ?hr3x7 (fun _ _ _ h => h) ?hy3x7 (by assumption) ?rest3x7
                  case hi3x7 => (simp only [List.getElem?_toArray, List.getElem?_cons_succ, List.getElem?_cons_zero]; exact rfl)
                  case hf3x7 => kernel_rfl
                  case hr3x7 => kernel_rfl
                  case hy3x7 => (refine Or.inl ⟨by rfl, ?_⟩; intro w hSw; (try dsimp only at hSw); go_simp; try with_reducible rfl)
                  simp only [put_mk, List.set_cons_succ, List.set_cons_zero]
                  refine wpAnyH_take (i := 8) (oi := ?o3x8) (v := ?v3x8) ?hi3x8 (by kernel_rfl) ?hf3x8 ?hr3x8 (fun _ _ _ h => h) ?hy3x8 (by assumption) ?rest3x8
                  case hi3x8 => (simp only [List.getElem?_toArray, List.getElem?_cons_succ, List.getElem?_cons_zero]; exact rfl)
                  case hf3x8 => kernel_rfl
                  case hr3x8 => kernel_rfl
                  case hy3x8 => (refine Or.inl ⟨by rfl, ?_⟩; intro w hSw; (try dsimp only at hSw); go_simp; try with_reducible rfl)
                  simp only [put_mk, List.set_cons_succ, List.set_cons_zero]
                  refine wpAnyH_take (i := 9) (oi := ?o3x9) (v := ?v3x9) ?hi3x9 (by kernel_rfl) ?hf3x9 ?hr3x9 (fun _ _ _ h => h) ?hy3x9 (by assumption) ?rest3x9
                  case hi3x9 => (simp only [List.getElem?_toArray, List.getElem?_cons_succ, List.getElem?_cons_zero]; exact rfl)
                  case hf3x9 => kernel_rfl
                  case hr3x9 => kernel_rfl
                  case hy3x9 => (refine Or.inl ⟨by rfl, ?_⟩; intro w hSw; (try dsimp only at hSw); go_simp; try with_reducible rfl)
                  simp only [put_mk, List.set_cons_succ, List.set_cons_zero]
                  refine wpAnyH_ready (rs := [10]) (by kernel_rfl) (by simp) ?_
                  refine AllReadyH.cons (o := ?o3x10) ?hi3x10 (fun K hK => ?_) AllReadyH.nil
                  case hi3x10 => (simp only [List.getElem?_toArray, List.getElem?_cons_succ, List.getElem?_cons_zero]; exact rfl)
                  go_simp
                  refine ((HDp _).out).mono ?_
                  rintro e w17 ⟨rfl, hx17⟩
                  refine hK.out _ _ ?_ (fun hHeld => ?_)
                  · repeat (first | assumption | refine KQ.set ?_ (by assumption) _ _ | refine KQ.ext ?_ (by assumption) | refine KQ.ext ?_ (Ext.drew (Ext.refl _)))
                  clear hK K
                  refine wpAnyH_take (i := 11) (oi := ?o3x11) (v := ?v3x11) ?hi3x11 (by kernel_rfl) ?hf3x11 ?hr3x11 (fun _ _ _ h => h) ?hy3x11 (by assumption) ?rest3x11
                  case hi3x11 => (simp only [List.getElem?_toArray, List.getElem?_cons_succ, List.getElem?_cons_zero]; exact rfl)
                  case hf3x11 => kernel_rfl
                  case hr3x11 => kernel_rfl
                  case hy3x11 => (refine Or.inl ⟨by rfl, ?_⟩; intro w hSw; (try dsimp only at hSw); go_simp; try with_reducible rfl)
                  simp only [put_mk, List.set_cons_succ, List.set_cons_zero]
                  refine wpAnyH_take (i := 12) (oi := ?o3x12) (v := ?v3x12) ?hi3x12 (by kernel_rfl) ?hf3x12 ?hr3x12 (fun _ _ _ h => h) ?hy3x12 (by assumption) ?rest3x12
                  case hi3x12 => (simp only [List.getElem?_toArray, List.getElem?_cons_succ, List.getElem?_cons_zero]; exact rfl)
                  case hf3x12 => kernel_rfl
                  case hr3x12 => kernel_rfl
                  case hy3x12 => (refine Or.inl ⟨by rfl, ?_⟩; intro w hSw; (try dsimp only at hSw); go_simp; try with_reducible rfl)
                  simp only [put_mk, List.set_cons_succ, List.set_cons_zero]
                  refine wpAnyH_ready (rs := [13]) (by kernel_rfl) (by simp) ?_
                  refine AllReadyH.cons (o := ?o3x13) ?hi3x13 (fun K hK => ?_) AllReadyH.nil
                  case hi3x13 => (simp only [List.getElem?_toArray, List.getElem?_cons_succ, List.getElem?_cons_zero]; exact rfl)
                  go_simp
                  refine hK.out _ _ ?_ (fun hHeld => ?_)
                  · repeat (first | assumption | refine KQ.set ?_ (by assumption) _ _ | refine KQ.ext ?_ (by assumption) | refine KQ.ext ?_ (Ext.drew (Ext.refl _)))
                  clear hK K
                  refine wpAnyH_done (by kernel_rfl) ?_ _
                  refine NoPanic.normal ?_
                  go_wp2_with fail
                  go_roundw
                  case rel =>
                    have h := (hC10.ext (Ext.trans (Ext.drew (Ext.refl _)) hx17)).put k x
                    rw [hmix.out] at h
                    exact ⟨k + 1, by omega, by go_num, h, hHeld.1, hHeld.2.1⟩
                  case measure => simp [intOf]; omega
            · obtain rfl : N = k := by omega
              have hcb := hKp.2 _ _ _ hcg hM9.cb
              have hzb := hKp.2 _ _ _ hzg hM9.zb
              have hnb := hKp.2 _ _ _ hng hM9.nb
              have hrb := hKp.2 _ _ _ hrg hM9.rb
              have hmb := hKp.2 _ _ _ hmg kM9
              have hM10 := hidA (KM.next (X := X) (Y := Y) (st := st) hcb hzb hnb hrb rfl hC (hx7w.trans hx) hM9.b1 hM9.n1)
              rw [Hnx.out] at hM10
              have m0 := hmb.cell 0
              have m1 := hmb.cell 1
              have m2 := hmb.cell 2
              have m3 := hmb.cell 3
              have m4 : wr.cell? ⟨hm, 4, none⟩ = some (.slice (some ⟨gm, 0, none⟩) N cm) := hmb.cell 4
              have z0 := hnb.cell 0
              have y0 := hnb.frozen 0
              have z1 := hnb.cell 1
              have y1 := hnb.frozen 1
              have z2 := hnb.cell 2
              have y2 := hnb.frozen 2
              have z3 := hnb.cell 3
              have y3 := hnb.frozen 3
              have z4 := hnb.cell 4
              have y4 := hnb.frozen 4
              clear hcb hzb hrb hmb hnb hC hKp hx hM9 kM9 Hsub Hdrp Hamt HNxt hG hD7
              go_wp2_with fail
              go_roundw
              case rel => exact ⟨i + 1, gm, cm, by omega, by go_num, hM10.out⟩
              case measure => simp [intOf]; omega
        · obtain rfl : st = i := by omega
          have hlen := Hlen.out i
          have hR := hM.vb.rdl hlen
          have Hgo := hidA hM
          have c0 := hM.nb.cell 0
          have c1 := hM.nb.cell 1
          have c2 := hM.nb.cell 2
          have c3 := hM.nb.cell 3
          have c4 := hM.nb.cell 4
          have HRs := hidA (result_one X Y Wn Hn (some ⟨gv, 0, none⟩) N cp _ wr hlen hR (by omega))
          clear hM
          go_wp2_with (go_at_call 19; refine (HRs.out).mono ?_; rintro e w11 ⟨a, b, c', d, vA, vn, vc, ec, rfl, hrel, hx11⟩; have kZ4 := Hgo.out.zb.ext hx11; have z0 := kZ4.cell 0; have z1 := kZ4.cell 1; have z2 := kZ4.cell 2; have z3 := kZ4.cell 3; have z4 := kZ4.cell 4; have y0 := kZ4.frozen 0; have y1 := kZ4.frozen 1; have y2 := kZ4.frozen 2; have y3 := kZ4.frozen 3; have y4 := kZ4.frozen 4)
          have hgz : gv ≠ hz := fun e => Hgo.out.vb.ne Hgo.out.zb (by decide) e.symm
          refine bodyPost_ret (v := .tuple #[.agg #[.int .i64 a, .int .i64 b, .int .i64 c', .int .i64 d, .slice vA vn vc], .int .i64 ec]) (by simp [results, Try.results15, go_sem, z0, z1, z2, z3, z4]) rfl ?_
          refine ⟨a, b, c', d, vA, vn, vc, ec, rfl, ?_, gv, cp, ?_, by simpa using hrel⟩
          · have hx5 : Ext w w11 := Hgo.out.ext.trans hx11
            clear hx11
            repeat (first | (with_reducible exact hx5) | (with_reducible refine Ext.setCell ?_ Hz.out _))
          · have hB4 := Hgo.out.vb.ext hx11
            rw [Int.toNat_natCast]
            repeat (first | (with_reducible exact hB4) | (with_reducible refine CF.far ?_ hgz _))
end Go.Proofs.Ytepgfplbkmhgbaa

namespace Go.Proofs.Ytepgfplbkmhgbaa
open Go.RowKit
attribute [local go_sem ↓] Go.wp_at_zero Go.wp_at_succ
attribute [local go_sem] run_store_float

/-- the error of Carve -/
def crvE (x y ww hh : Int) (l : List Nat) (r le mo : Nat) (st : Int) : Int := if fieldE x y ww hh l ≠ 0 then fieldE x y ww hh l else carvE r le mo st
set_option maxRecDepth 100000 in
set_option maxHeartbeats 3200000 in
theorem Carve_bad (x y ww hh : Int) (A : Option Addr) (n c r le mo : Nat) (st : Int) (l : List Nat) (w : World) (hl : l.length = n) (hV : Rd w A (flt l)) (hb : n ≤ 140737488351232) (hE : crvE x y ww hh l r le mo st ≠ 0) :
    Calls Try.prog 15 #[.agg #[.int .i64 x, .int .i64 y, .int .i64 ww, .int .i64 hh, .slice A n c], .agg #[.float .f32 r, .float .f32 le, .float .f32 mo, .int .i64 st]] w fun e w' => e = .returned (.tuple #[.agg #[.int .i64 0, .int .i64 0, .int .i64 0, .int .i64 0, .slice none 0 0], .int .i64 (crvE x y ww hh l r le mo st)]) ∧ Ext w w' := by
  have HC := fun (w : World) (h : Rd w A (flt l)) => hidA (check_any x y ww hh A n c l w hl h hb)
  have HK := fun (w : World) => hidA (checkCarving_any r le mo st w)
  unfold crvE at hE ⊢
  clear hl hb
  generalize fieldE x y ww hh l = f1 at *
  generalize carvE r le mo st = f2 at *
  by_cases h1 : f1 = 0
  · subst h1
    rw [if_neg (by decide)] at hE ⊢
    have h2' : (f2 != 0) = true := by simpa using hE
    clear hE
    go_enter Try.func15, Try.ntmps15
    go_wp2_with (first | (go_at_call 17; refine ((HC _ (hV.ext (by repeat (first | exact Ext.refl _ | assumption | refine Ext.setCell ?_ (by first | (simp; done) | (simp; omega)) _ | refine Ext.drewN ?_ _ | refine Ext.alloc ?_ _ | refine Ext.drew ?_ | refine Ext.trans ?_ (by assumption))))).out).mono ?_; rintro e w1 ⟨rfl, hx1⟩; have kZ1 : Bk w1 (w.heap.size + 1 + 1) 26 #[.int .i64 0, .int .i64 0, .int .i64 0, .int .i64 0, .slice none 0 0] := (Bk.new' (by simp)).ext hx1; have kC1 : Bk w1 (w.heap.size + 1) 51 #[.float .f32 r, .float .f32 le, .float .f32 mo, .int .i64 st] := ((Bk.new' (by simp)).alloc _).ext hx1; have k0 := kC1.cell 0; have k1 := kC1.cell 1; have k2 := kC1.cell 2; have k3 := kC1.cell 3) | (go_at_call 30; refine ((HK _).out).mono ?_; rintro e w2 ⟨rfl, hx2⟩; have kZ1 := kZ1.ext hx2; have z0 := kZ1.cell 0; have y0 := kZ1.frozen 0; have z1 := kZ1.cell 1; have y1 := kZ1.frozen 1; have z2 := kZ1.cell 2; have y2 := kZ1.frozen 2; have z3 := kZ1.cell 3; have y3 := kZ1.frozen 3; have z4 := kZ1.cell 4; have y4 := kZ1.frozen 4))
    refine bodyPost_ret (v := .tuple #[.agg #[.int .i64 0, .int .i64 0, .int .i64 0, .int .i64 0, .slice none 0 0], .int .i64 f2]) (by simp [results, Try.results15, go_sem, z0, z1, z2, z3, z4]) rfl ⟨rfl, ?_⟩
    (repeat (first | (with_reducible exact Ext.refl _) | (with_reducible assumption) | (with_reducible refine Ext.setCell ?_ (by first | (simp; done) | (simp; omega)) _) | (with_reducible refine Ext.drewN ?_ _) | (with_reducible refine Ext.alloc ?_ _) | (with_reducible refine Ext.drew ?_) | (with_reducible refine Ext.trans ?_ (by assumption))))
  · have h1' : (f1 != 0) = true := by simpa using h1
    rw [if_pos h1]
    clear hE h1
    go_enter Try.func15, Try.ntmps15
    go_wp2_with (go_at_call 17; refine ((HC _ (hV.ext (by repeat (first | exact Ext.refl _ | assumption | refine Ext.setCell ?_ (by first | (simp; done) | (simp; omega)) _ | refine Ext.drewN ?_ _ | refine Ext.alloc ?_ _ | refine Ext.drew ?_ | refine Ext.trans ?_ (by assumption))))).out).mono ?_; rintro e w1 ⟨rfl, hx1⟩; have kZ1 : Bk w1 (w.heap.size + 1 + 1) 26 #[.int .i64 0, .int .i64 0, .int .i64 0, .int .i64 0, .slice none 0 0] := (Bk.new' (by simp)).ext hx1; have kC1 : Bk w1 (w.heap.size + 1) 51 #[.float .f32 r, .float .f32 le, .float .f32 mo, .int .i64 st] := ((Bk.new' (by simp)).alloc _).ext hx1; have z0 := kZ1.cell 0; have y0 := kZ1.frozen 0; have z1 := kZ1.cell 1; have y1 := kZ1.frozen 1; have z2 := kZ1.cell 2; have y2 := kZ1.frozen 2; have z3 := kZ1.cell 3; have y3 := kZ1.frozen 3; have z4 := kZ1.cell 4; have y4 := kZ1.frozen 4)
    refine bodyPost_ret (v := .tuple #[.agg #[.int .i64 0, .int .i64 0, .int .i64 0, .int .i64 0, .slice none 0 0], .int .i64 f1]) (by simp [results, Try.results15, go_sem, z0, z1, z2, z3, z4]) rfl ⟨rfl, ?_⟩
    (repeat (first | (with_reducible exact Ext.refl _) | (with_reducible assumption) | (with_reducible refine Ext.setCell ?_ (by first | (simp; done) | (simp; omega)) _) | (with_reducible refine Ext.drewN ?_ _) | (with_reducible refine Ext.alloc ?_ _) | (with_reducible refine Ext.drew ?_) | (with_reducible refine Ext.trans ?_ (by assumption))))
end Go.Proofs.Ytepgfplbkmhgbaa
