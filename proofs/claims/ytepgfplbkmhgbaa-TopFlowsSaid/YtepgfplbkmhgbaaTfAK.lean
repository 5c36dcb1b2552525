/- Pure: one step of carving, as a function of the heights. -/
import Derived.Test.YtepgfplbkmhgbaaTfAG
import Derived.Test.YtepgfplbkmhgbaaFlows
import Derived.Test.YtepgfplbkmhgbaaTfAJ
import Derived.Test.YtepgfplbkmhgbaaTfAC
namespace Go.Proofs.Ytepgfplbkmhgbaa
open Go.RowKit
attribute [local go_sem ↓] Go.wp_at_zero Go.wp_at_succ
attribute [local go_sem] run_store_float

set_option maxHeartbeats 1600000 in
theorem eqFlo_same (A B : Option Addr) (n c d : Nat) (a b : List Nat) (w : World) (hn : a.length = n) (hn2 : b.length = n) (ha : Rd w A (flt a)) (hb : Rd w B (flt b)) (hnb : n ≤ 4000000) (he : ∀ k (h1 : k < a.length) (h2 : k < b.length), (FloatKind.f32.format.order a[k] b[k] == some .eq) = true) :
    Calls Try.prog 9 #[.slice A n c, .slice B n d] w fun e w' => e = .returned (.bool true) ∧ Ext w w' := by
  have Hn := hidA hn
  have Hn2 := hidA hn2
  have He := hidA he
  clear hn hn2 he
  go_enter Try.func9, Try.ntmps9
  go_wp2
  go_loopw [13] (fun i wr => ∃ k m : Nat, k ≤ n ∧ i = .int .i64 k ∧ wr = w.drewN m) (fun i _ => n - (intOf i).toNat)
  case atStart => exact ⟨0, 0, Nat.zero_le _, rfl, rfl⟩
  case round =>
    obtain ⟨k, m, hk, rfl, rfl⟩ := hrel
    by_cases hlt : k < n
    · have hkl : k < a.length := by have := Hn.out; omega
      have hkl2 : k < b.length := by have := Hn2.out; omega
      obtain ⟨ad, rfl, hbk, hc⟩ := ha.at (k := k) (by simpa [flt] using hkl)
      obtain ⟨ad2, rfl, hbk2, hc2⟩ := hb.at (k := k) (by simpa [flt] using hkl2)
      have e0 := hc k _ (flt_get hkl)
      have e2 := hc2 k _ (flt_get hkl2)
      have C1 : FloatKind.f32.format.order a[k] b[k] = some .eq := by have := He.out k hkl hkl2; simpa using this
      generalize a[k] = va at *
      generalize b[k] = vb at *
      have k0 : (0 : Int) ≤ k := by omega
      have k1 : (k : Int) < n := by omega
      clear ha hb hc hc2
      go_wp2
      go_quiet (fail)
      go_wp2
      go_roundw
      case rel => exact ⟨k + 1, _, by omega, by go_num, rfl⟩
      case measure => simp [intOf]; omega
    · obtain rfl : k = n := by omega
      go_wp2
      go_ret
      exact ⟨rfl, (by repeat (first | exact Ext.refl _ | assumption | refine Ext.setCell ?_ (by first | (simp; done) | (simp; omega)) _ | refine Ext.drewN ?_ _ | refine Ext.alloc ?_ _ | refine Ext.drew ?_ | refine Ext.trans ?_ (by assumption)))⟩

/-- the third error of Filled -/
def rangeE (s : Nat) : Int := if (lt s 0 || gt s 1149239296) = true then 3 else 0
theorem first3 (a b c : Int) : firstE [a, b, c] = if a ≠ 0 then a else if b ≠ 0 then b else c := by
  by_cases ha : a = 0
  · by_cases hb : b = 0
    · by_cases hc : c = 0 <;> simp [firstE, ha, hb, hc]
    · simp [firstE, ha, hb]
  · simp [firstE, ha]
theorem fillE_first (x y ww hh : Int) (l : List Nat) (s : Nat) : firstE [fieldE x y ww hh l, numE [s], rangeE s] = fillE x y ww hh l s := by
  rw [first3]
  unfold fillE slopeE rangeE
  simp only [Bool.or_eq_true]
theorem field_reg {x y ww hh : Int} {l : List Nat} (h : fieldE x y ww hh l = 0) : regE x y ww hh = 0 ∧ (l.length : Int) = ww * hh ∧ numE l = 0 := by
  have h1 : regE x y ww hh = 0 := by
    unfold fieldE at h
    split at h
    · rename_i h2; exact absurd h h2
    · rename_i h2; simpa using h2
  have h2 : (l.length : Int) = ww * hh := Classical.byContradiction fun h3 => by
    rw [fieldE_len h1 h3] at h
    cases h
  exact ⟨h1, h2, by rw [← h, fieldE_num h1 h2]⟩
/-- what the law has found ahead of its tests -/
def Wants (x y ww hh : Int) (l : List Nat) (s : Nat) : Int := fillE x y ww hh l s

end Go.Proofs.Ytepgfplbkmhgbaa

namespace Go.Proofs.Ytepgfplbkmhgbaa
open Go.RowKit
attribute [local go_sem ↓] Go.wp_at_zero Go.wp_at_succ
attribute [local go_sem] run_store_float

theorem getD_bd {l : List Nat} {N : Nat} (hl : l.length = N) (hh : ∀ x ∈ l, Bd 20 x) : ∀ k, k < N → Bd 20 (l.getD k 0) := fun k hk => by
  have hkl : k < l.length := by omega
  have e : l.getD k 0 = l[k] := by simp [List.getD_eq_getElem?_getD, hkl]
  rw [e]
  exact hh _ (List.getElem_mem hkl)
theorem intB_rd {w : World} {g N : Nat} {f : Nat → Int} (h : Bk w g 3 (intB N f)) : Rd w (some ⟨g, 0, none⟩) (intL ((List.range N).map f)) := by
  have h1 := Rd.new_bk h
  have e : (intB N f).toList = intL ((List.range N).map f) := by
    unfold intB intL
    simp
  rwa [e] at h1
theorem drn_same {Wn Hn N : Nat} {h v v' : Nat → Nat} (hw : 1 ≤ Wn) (hN : N = Wn * Hn) (hN1 : 1 ≤ N) (hh : ∀ k, k < Wn * Hn → Bd 20 (h k)) (hL : LeastG Wn Hn h 0 (fun k => valI (v k))) (hL' : LeastG Wn Hn h 0 (fun k => valI (v' k))) :
    ∀ k, k < N → drnV v (rkV v Wn Hn (N - 1)) Wn Hn k = drnV v' (rkV v' Wn Hn N) Wn Hn k := fun k hk => by
  have hv := fill_bd hh hL
  have hv' := fill_bd hh hL'
  have hk' : k < Wn * Hn := by rw [← hN]; exact hk
  rw [drn_val hv hv' (fun j hj => hL.unique hL' hj) (N - 1) hk']
  have hr := ranked hw hN hN1 (fun k hk => hh k (by rw [← hN]; exact hk)) (fun k hk => hv' k (by rw [← hN]; exact hk)) hL'
  unfold drnV
  rw [bst_congr (v := v') (v' := v') (R' := rkV v' Wn Hn N) (fun _ _ => rfl) (fun j hj => ?_) hk' 8]
  have := rkV_old (hr j (by rw [hN]; exact hj))
  rw [show N - 1 + 1 = N by omega] at this
  exact this.symm

set_option maxRecDepth 100000 in
set_option maxHeartbeats 1600000 in
theorem Drain_ok (X Y : Int) (Wn Hn N : Nat) (A : Option Addr) (c : Nat) (l : List Nat) (w : World) (hr : Reg X Y Wn Hn) (hN : N = Wn * Hn) (hn : l.length = N) (hd : Rd w A (flt l)) (hf : fieldE X Y Wn Hn l = 0) :
    Calls Try.prog 8 #[.agg #[.int .i64 X, .int .i64 Y, .int .i64 (Wn : Int), .int .i64 (Hn : Int), .slice A N c]] w fun e w' => ∃ gd v, e = .returned (.tuple #[.slice (some ⟨gd, 0, none⟩) N N, .int .i64 0]) ∧ LeastG Wn Hn (fun k => l.getD k 0) 0 (fun k => valI (v k)) ∧ Bk w' gd 3 (intB N (drnV v (rkV v Wn Hn (N - 1)) Wn Hn)) ∧ Ext w w' := by
  have hN6 : N ≤ 65536 := by rw [hN]; exact hr.n
  have hh : ∀ x ∈ l, Bd 20 x := fun x hx => hgt_bd ((numE_zero (field_reg hf).2.2).2 x hx)
  have HC := fun (w : World) (h : Rd w A (flt l)) => hidA (check_any X Y Wn Hn A N c l w hn h (by omega))
  rw [hf] at HC
  have HD := fun (w : World) (h : Rd w A (flt l)) => hidA (drain_any X Y Wn Hn N A c l w hr hN hn h hh)
  clear hr hN hn hf hh
  go_enter Try.func8, Try.ntmps8
  go_wp2_with (go_at_call 17; refine ((HC _ (hd.ext (by repeat (first | exact Ext.refl _ | assumption | refine Ext.setCell ?_ (by first | (simp; done) | (simp; omega)) _ | refine Ext.drewN ?_ _ | refine Ext.alloc ?_ _ | refine Ext.drew ?_ | refine Ext.trans ?_ (by assumption))))).out).mono ?_; rintro e w1 ⟨rfl, hx1⟩; have kF : Bk w1 w.heap.size 26 #[.int .i64 X, .int .i64 Y, .int .i64 (Wn : Int), .int .i64 (Hn : Int), .slice A N c] := (Bk.new' rfl).ext hx1; have c0 := kF.cell 0; have c1 := kF.cell 1; have c2 := kF.cell 2; have c3 := kF.cell 3; have c4 := kF.cell 4)
  refine ((HD _ (hd.ext (by repeat (first | exact Ext.refl _ | assumption | refine Ext.setCell ?_ (by first | (simp; done) | (simp; omega)) _ | refine Ext.drewN ?_ _ | refine Ext.alloc ?_ _ | refine Ext.drew ?_ | refine Ext.trans ?_ (by assumption))))).out).mono ?_
  rintro e w2 ⟨gd, v, rfl, hL, _, hB, _, hx2⟩
  go_wp2_with fail
  exact bodyPost_ret (v := .tuple #[.slice (some ⟨gd, 0, none⟩) N N, .int .i64 0]) (by simp [results, Try.results8, go_sem]) rfl ⟨gd, v, rfl, hL, hB, (by repeat (first | exact Ext.refl _ | assumption | refine Ext.setCell ?_ (by first | (simp; done) | (simp; omega)) _ | refine Ext.drewN ?_ _ | refine Ext.alloc ?_ _ | refine Ext.drew ?_ | refine Ext.trans ?_ (by assumption)))⟩

set_option maxRecDepth 100000 in
set_option maxHeartbeats 1600000 in
theorem Drain_bad (x y ww hh : Int) (A : Option Addr) (n c : Nat) (l : List Nat) (w : World) (hn : l.length = n) (hd : Rd w A (flt l)) (hb : n ≤ 140737488351232) (hE : fieldE x y ww hh l ≠ 0) :
    Calls Try.prog 8 #[.agg #[.int .i64 x, .int .i64 y, .int .i64 ww, .int .i64 hh, .slice A n c]] w fun e w' => e = .returned (.tuple #[.slice none 0 0, .int .i64 (fieldE x y ww hh l)]) ∧ Ext w w' := by
  have HC := fun (w : World) (h : Rd w A (flt l)) => hidA (check_any x y ww hh A n c l w hn h hb)
  have hE' : (fieldE x y ww hh l != 0) = true := by simpa using hE
  clear hn hb hE
  generalize fieldE x y ww hh l = E at *
  go_enter Try.func8, Try.ntmps8
  go_wp2_with (go_at_call 17; refine ((HC _ (hd.ext (by repeat (first | exact Ext.refl _ | assumption | refine Ext.setCell ?_ (by first | (simp; done) | (simp; omega)) _ | refine Ext.drewN ?_ _ | refine Ext.alloc ?_ _ | refine Ext.drew ?_ | refine Ext.trans ?_ (by assumption))))).out).mono ?_; rintro e w1 ⟨rfl, hx1⟩)
  exact bodyPost_ret (v := .tuple #[.slice none 0 0, .int .i64 E]) (by simp [results, Try.results8, go_sem]) rfl ⟨rfl, (by repeat (first | exact Ext.refl _ | assumption | refine Ext.setCell ?_ (by first | (simp; done) | (simp; omega)) _ | refine Ext.drewN ?_ _ | refine Ext.alloc ?_ _ | refine Ext.drew ?_ | refine Ext.trans ?_ (by assumption)))⟩
end Go.Proofs.Ytepgfplbkmhgbaa

namespace Go.Proofs.Ytepgfplbkmhgbaa
open Go.RowKit

open Classical in
/-- the directions by which all water leaves, whichever heights of the filled ground are taken -/
noncomputable def drnC (Wn Hn N : Nat) (l : List Nat) (k : Nat) : Int := if h : ∃ v : Nat → Nat, LeastG Wn Hn (fun k => l.getD k 0) 0 (fun k => valI (v k)) then drnV (Classical.choose h) (rkV (Classical.choose h) Wn Hn (N - 1)) Wn Hn k else -1
open Classical in
/-- the way of each cell -/
noncomputable def trC (D : Nat → Int) (Wn Hn k : Nat) : List Nat := if h : ∃ t, IsTr D Wn Hn k t then Classical.choose h else []
/-- the difference to where a cell drains, where that is lower -/
def drpF (u : Nat → Nat) (D : Nat → Int) (Wn Hn k : Nat) : Nat := match nxtD D Wn Hn k with
  | none => 0
  | some n => if gt (u k) (u n) = true then fsub (u k) (u n) else 0
/-- a cell behind a step -/
noncomputable def crvF (r le mo Wn Hn N : Nat) (l : List Nat) (k : Nat) : Nat :=
  fsub (l.getD k 0) (depF r le mo (gatV (trC (drnC Wn Hn N l) Wn Hn) (fun _ => 1) N k) (drpF (fun j => l.getD j 0) (drnC Wn Hn N l) Wn Hn k))
noncomputable def crvL (r le mo Wn Hn N : Nat) (l : List Nat) : List Nat := (List.range N).map (crvF r le mo Wn Hn N l)
noncomputable def crvI (r le mo Wn Hn N : Nat) (l : List Nat) : Nat → List Nat
  | 0 => l
  | i + 1 => crvL r le mo Wn Hn N (crvI r le mo Wn Hn N l i)
section
variable {r le mo Wn Hn N : Nat} {l : List Nat}
theorem crv_get {k : Nat} (hk : k < N) : (crvL r le mo Wn Hn N l).getD k 0 = crvF r le mo Wn Hn N l k := by
  unfold crvL
  simp [List.getD_eq_getElem?_getD, hk]
theorem crv_len : (crvL r le mo Wn Hn N l).length = N := by simp [crvL]
theorem crvI_len (hl : l.length = N) : ∀ i, (crvI r le mo Wn Hn N l i).length = N
  | 0 => hl
  | _ + 1 => crv_len
theorem drnC_eq (hN : N = Wn * Hn) (hh : ∀ k, k < N → Bd 20 (l.getD k 0)) {v : Nat → Nat} (hL : LeastG Wn Hn (fun k => l.getD k 0) 0 (fun k => valI (v k))) : ∀ k, k < N → drnV v (rkV v Wn Hn (N - 1)) Wn Hn k = drnC Wn Hn N l k := fun k hk => by
  have hex : ∃ v : Nat → Nat, LeastG Wn Hn (fun k => l.getD k 0) 0 (fun k => valI (v k)) := ⟨v, hL⟩
  unfold drnC
  rw [dif_pos hex]
  have hL' := Classical.choose_spec hex
  have hh' : ∀ k, k < Wn * Hn → Bd 20 (l.getD k 0) := by rw [← hN]; exact hh
  exact drn_val (fill_bd hh' hL) (fill_bd hh' hL') (fun j hj => hL.unique hL' hj) (N - 1) (by rw [← hN]; exact hk)
theorem nxtD_congr {D D' : Nat → Int} {k : Nat} (e : D k = D' k) : nxtD D Wn Hn k = nxtD D' Wn Hn k := by
  unfold nxtD
  rw [e]
theorem Lead.congr {D D' : Nat → Int} {m : Nat → Nat} (h : Lead Wn Hn N D m) (e : ∀ k, k < N → D k = D' k) : Lead Wn Hn N D' m :=
  ⟨fun k hk => by rw [← e k hk]; exact h.rng k hk, fun k hk h0 => by rw [← e k hk] at h0 ⊢; exact h.step k hk h0, fun k hk h0 => by rw [← e k hk] at h0; exact h.edge k hk h0⟩
/-- the directions lead downward -/
theorem drnC_lead (hw : 1 ≤ Wn) (hN : N = Wn * Hn) (hN1 : 1 ≤ N) (hh : ∀ k, k < N → Bd 20 (l.getD k 0)) {v : Nat → Nat} (hL : LeastG Wn Hn (fun k => l.getD k 0) 0 (fun k => valI (v k))) : ∃ m, Lead Wn Hn N (drnC Wn Hn N l) m ∧ ∀ k, k < N → m k ≤ N := by
  have hv : ∀ k, k < N → Bd 20 (v k) := fun k hk => fill_bd (fun k hk => hh k (by rw [hN]; exact hk)) hL k (by rw [← hN]; exact hk)
  exact ⟨_, (drn_lead hw hN hN1 hh hv hL).1.congr (drnC_eq hN hh hL), fun k _ => cntB_le _ _⟩
theorem trC_ok {D : Nat → Int} {m : Nat → Nat} (h : Lead Wn Hn N D m) (hN : N = Wn * Hn) : ∀ k, k < N → IsTr D Wn Hn k (trC D Wn Hn k) := fun k hk => by
  obtain ⟨t, ht, _⟩ := h.tr hN (m k + 1) k (Nat.lt_succ_self _) hk
  have hex : ∃ t, IsTr D Wn Hn k t := ⟨t, ht⟩
  unfold trC
  rw [dif_pos hex]
  exact Classical.choose_spec hex
/-- each step keeps the heights in range -/
theorem gatV_le {tr : Nat → List Nat} {k : Nat} : 0 ≤ gatV tr (fun _ => 1) N k ∧ gatV tr (fun _ => 1) N k ≤ N := by
  obtain ⟨h1, h2⟩ := sumI_bd (f := fun j => if k ∈ j :: tr j then (1 : Int) else 0) (M := 1) N fun j _ => by split <;> omega
  rw [Int.mul_one] at h2
  exact ⟨h1, h2⟩
theorem drp_ok {u : Nat → Nat} {D : Nat → Int} {k : Nat} (hu : ∀ j, j < Wn * Hn → Bd 20 (u j)) (hk : k < Wn * Hn) : Bd 22 (drpF u D Wn Hn k) ∧ (drpF u D Wn Hn k = 0 ∨ ∃ n, n < Wn * Hn ∧ nxtD D Wn Hn k = some n ∧ valI (u n) < valI (u k) ∧ drpF u D Wn Hn k = fsub (u k) (u n)) := by
  unfold drpF
  cases hn : nxtD D Wn Hn k with
  | none => exact ⟨zero_bd.mono (by omega), .inl rfl⟩
  | some n =>
    have hnl := nxt_lt hn
    dsimp only
    split
    · rename_i hg
      have hb := (fsub_ok (hu k hk) (hu n hnl) (by omega)).2
      rw [gt_val (bd_Fin (hu k hk) (by omega)) (bd_Fin (hu n hnl) (by omega))] at hg
      exact ⟨hb, .inr ⟨n, hnl, rfl, by simpa using hg, rfl⟩⟩
    · exact ⟨zero_bd.mono (by omega), .inl rfl⟩
theorem dep_zero {r le mo : Nat} {a : Int} : depF r le mo a 0 = 0 := by
  unfold depF
  rw [if_pos (.inr (by decide +kernel))]
theorem sub_zeroV {x : Nat} (hx : Bd 20 x) : valI (fsub x 0) = valI x ∧ Bd 20 (fsub x 0) := by
  have h := cut_between (v := x) (d := 0) (L := x) hx (zero_bd.mono (by omega)) hx (by rw [val_zero]; exact Int.le_refl _) (by rw [val_zero]; omega)
  exact ⟨by omega, h.2.2⟩
/-- a cell behind a step: between itself and where it drains -/
theorem crv_cell (hN : N = Wn * Hn) (hN6 : N ≤ 65536) (hr : Bd 20 r) (hl : Bd 20 le) (hm : Bd 20 mo) (hl0 : 0 ≤ valI le) (hlm : valI le ≤ valI mo) (hu : ∀ j, j < N → Bd 20 (l.getD j 0)) {k : Nat} (hk : k < N) :
    Bd 20 (crvF r le mo Wn Hn N l k) ∧ valI (crvF r le mo Wn Hn N l k) ≤ valI (l.getD k 0) ∧ (valI (crvF r le mo Wn Hn N l k) = valI (l.getD k 0) ∨ ∃ n, nxtD (drnC Wn Hn N l) Wn Hn k = some n ∧ valI (l.getD n 0) ≤ valI (crvF r le mo Wn Hn N l k)) := by
  unfold crvF
  have hg := gatV_le (tr := trC (drnC Wn Hn N l) Wn Hn) (N := N) (k := k)
  generalize gatV (trC (drnC Wn Hn N l) Wn Hn) (fun _ => 1) N k = a at *
  obtain ⟨hb, h0 | ⟨n, hnl, hn, hlt, hd⟩⟩ := drp_ok (u := fun j => l.getD j 0) (D := drnC Wn Hn N l) (Wn := Wn) (Hn := Hn) (k := k) (by rw [← hN]; exact hu) (by rw [← hN]; exact hk)
  · rw [h0, dep_zero]
    obtain ⟨h1, h2⟩ := sub_zeroV (hu k hk)
    exact ⟨h2, by omega, .inl h1⟩
  · rw [hd]
    have hnb := hu n (by rw [hN]; exact hnl)
    obtain ⟨h1, h2⟩ := dep_le (k := a) hr hl hm hl0 hlm (hu k hk) hnb (by omega) hlt
    have hdB : Bd 21 (depF r le mo a (fsub (l.getD k 0) (l.getD n 0))) := by
      have b1 := hu k hk
      rw [bd_valI (by omega)] at b1 hnb ⊢
      omega
    obtain ⟨h3, h4, h5⟩ := cut_between (hu k hk) hdB hnb h1 h2
    exact ⟨h5, h4, .inr ⟨n, hn, h3⟩⟩
theorem crvI_bd (hN : N = Wn * Hn) (hN6 : N ≤ 65536) (hr : Bd 20 r) (hl : Bd 20 le) (hm : Bd 20 mo) (hl0 : 0 ≤ valI le) (hlm : valI le ≤ valI mo) (hu : ∀ j, j < N → Bd 20 (l.getD j 0)) : ∀ i j, j < N → Bd 20 ((crvI r le mo Wn Hn N l i).getD j 0)
  | 0, j, hj => hu j hj
  | i + 1, j, hj => by
    show Bd 20 ((crvL r le mo Wn Hn N _).getD j 0)
    rw [crv_get hj]
    exact (crv_cell hN hN6 hr hl hm hl0 hlm (crvI_bd hN hN6 hr hl hm hl0 hlm hu i) hj).1
/-- the reference's drop gives the same depth -/
theorem dep_same {r le mo : Nat} {a : Int} {u : Nat → Nat} {D : Nat → Int} {k n : Nat} (hu : ∀ j, j < Wn * Hn → Bd 20 (u j)) (hk : k < Wn * Hn) (hn : nxtD D Wn Hn k = some n) : depF r le mo a (fsub (u k) (u n)) = depF r le mo a (drpF u D Wn Hn k) := by
  unfold drpF
  rw [hn]
  dsimp only
  split
  · rfl
  · rename_i hg
    have hnl := nxt_lt hn
    rw [gt_val (bd_Fin (hu k hk) (by omega)) (bd_Fin (hu n hnl) (by omega))] at hg
    simp at hg
    rw [dep_zero]
    unfold depF
    rw [if_pos]
    right
    have hb := (fsub_ok (hu k hk) (hu n hnl) (by omega)).2
    rw [gt_val (bd_Fin hb (by omega)) (show Fin 0 by unfold Fin; omega), val_zero]
    have hkey := fsub_key (K := 20) (hu k hk) (hu n hnl) (by omega)
    have hm := rkey_mono (show valI (u k) - valI (u n) ≤ 0 by omega)
    have e1 : rkey 0 = 0 := by decide +kernel
    have e0 : keyI 0 = 0 := by decide +kernel
    rw [← hkey, e1] at hm
    have h3 := (val_key_le (x := fsub (u k) (u n)) (y := 0)).2 (by rw [e0]; omega)
    rw [val_zero] at h3
    simp
    omega
end
end Go.Proofs.Ytepgfplbkmhgbaa
