/- Contracts: level.View; slices.Equal of slices of truths that are the same. -/
import Derived.Test.YtjfipkccbapajaaViewA
import Derived.Deep.DeepCutAuto
import Derived.BigRegion
import Derived.BigQuiet
namespace Go.Proofs.Ytjfipkccbapajaa
open Go.RowKit
attribute [local go_sem ↓] Go.wp_at_zero Go.wp_at_succ

theorem Try.infoBool : (Try.prog.info? 4).map (fun i => (i.zero, i.size, i.bytes)) = some (some (.bool false), 1, 1) := by kernel_rfl
theorem mk_bool (n : Nat) (hn : n ≤ 262144) (w : World) : (Instr.makeSlice 114 (.int .i64 (n : Int)) (.int .i64 (n : Int))).run Try.prog w =
    .ok (.slice (some ⟨w.heap.size, 0, none⟩) n n) (w.alloc (.cells (madeCells (Value.bool false).cells (n * 1)) 4)) := by
  obtain ⟨i0, hi0, hz0, hz1, hz2⟩ := info_parts Try.infoBool
  have h := run_make (P := Try.prog) w 114 4 i0 (.bool false) Try.underlying114 hi0 hz0 .i64 .i64 n n (by omega) (by omega) (by rw [hz2]; omega) (by omega)
  rw [hz1] at h
  simpa using h
theorem made_view (v : Nat → Bool) (n : Nat) : madeCells (Value.bool false).cells (n * 1) = viewC v n 0 := by
  rw [viewC_zero]
  unfold madeCells
  apply Array.ext
  · simp
  · intro i h1 h2
    simp [Value.cells, Nat.mod_one]

theorem seesV_any (X Y W H ax ay bx by' : Int) (A : Option Addr) (m c eye : Nat) (l : List Nat) (w : World) (hl : l.length = m) (hn : (m : Int) = W * H) (hd : Rd w A (flt l)) (hr : RegOk X Y W H) (hia : InR X Y W H ax ay) (hib : InR X Y W H bx by')
    (hh : ∀ b ∈ l, hgtB b = true) (he : hgtB eye = true) :
    Calls Try.prog 129 #[.agg #[.int .i64 X, .int .i64 Y, .int .i64 W, .int .i64 H, .slice A m c], .agg #[.int .i64 ax, .int .i64 ay], .agg #[.int .i64 bx, .int .i64 by'], .float .f32 eye] w fun e w' =>
      e = .returned (.bool (seesV X Y W l ax ay bx by' eye)) ∧ Ext w w' := by
  have hst := steps_in hr hia hib
  exact sees_any X Y W H ax ay bx by' A m c _ eye l w hl hn hd hr hia hib hst.1 (by omega) hh he
theorem seesOfV_any (X Y W H ax ay bx by' : Int) (A : Option Addr) (m c eye : Nat) (l : List Nat) (w : World) (hl : l.length = m) (hn : (m : Int) = W * H) (hd : Rd w A (flt l)) (hr : RegOk X Y W H) (hia : InR X Y W H ax ay) (hib : InR X Y W H bx by')
    (hh : ∀ b ∈ l, hgtB b = true) (he : hgtB eye = true) :
    Calls Try.prog 65 #[.agg #[.int .i64 X, .int .i64 Y, .int .i64 W, .int .i64 H, .slice A m c], .agg #[.int .i64 ax, .int .i64 ay], .agg #[.int .i64 bx, .int .i64 by'], .float .f32 eye] w fun e w' =>
      e = .returned (.bool (seesV X Y W l ax ay bx by' eye)) ∧ Ext w w' := by
  have hst := steps_in hr hia hib
  exact seesOf_any X Y W H ax ay bx by' A m c _ eye l w hl hn hd hr hia hib hst.1 (by omega) hh he

theorem boo_get {l : List Bool} {k : Nat} (h : k < l.length) : (boo l)[k]? = some (.bool l[k]) := by simp [boo, h]
set_option maxHeartbeats 800000 in
theorem eqBools_same (A B : Option Addr) (n c d : Nat) (l : List Bool) (w : World) (hn : l.length = n) (ha : Rd w A (boo l)) (hb : Rd w B (boo l)) (hnb : n ≤ 4000000000) :
    Calls Try.prog 67 #[.slice A n c, .slice B n d] w fun e w' => e = .returned (.bool true) ∧ Ext w w' := by
  have Hn := hidA hn
  clear hn
  go_enter Try.func67, Try.ntmps67
  go_wp2
  go_loopw [13] (fun i wr => ∃ k m : Nat, k ≤ n ∧ i = .int .i64 k ∧ wr = w.drewN m) (fun i _ => n - (intOf i).toNat)
  case atStart => exact ⟨0, 0, Nat.zero_le _, rfl, rfl⟩
  case round =>
    obtain ⟨k, m, hk, rfl, rfl⟩ := hrel
    by_cases hlt : k < n
    · have hkl : k < l.length := by have := Hn.out; omega
      obtain ⟨ad, rfl, hbk, hc⟩ := ha.at (k := k) (by simpa [boo] using hkl)
      obtain ⟨ad2, rfl, hbk2, hc2⟩ := hb.at (k := k) (by simpa [boo] using hkl)
      have e0 := hc k _ (boo_get hkl)
      have e1 := hc2 k _ (boo_get hkl)
      have k0 : (0 : Int) ≤ k := by omega
      have k1 : (k : Int) < n := by omega
      clear hc hc2 ha hb
      go_wp2
      go_quiet (fail)
      go_wp2
      go_roundw
      case rel => exact ⟨k + 1, _, by omega, by go_num, rfl⟩
      case measure => simp [intOf]; omega
    · obtain rfl : k = n := by omega
      go_wp2
      go_ret
      exact ⟨rfl, (by repeat (first | exact Ext.refl _ | assumption | refine Ext.setCell ?_ (by first | (simp; done) | (simp; omega)) _ | refine Ext.drewN ?_ _ | refine Ext.alloc ?_ _ | refine Ext.drew ?_ | refine Ext.trans ?_ (by assumption)))⟩

set_option maxRecDepth 100000 in
set_option maxHeartbeats 1600000 in
theorem View_bad (X Y W H ax ay far : Int) (A : Option Addr) (n c eye : Nat) (l : List Nat) (w : World) (hn : l.length = n) (hd : Rd w A (flt l)) (hb : n ≤ 140737488351232) (hs : sightE X Y W H l eye [(ax, ay)] ≠ 0) :
    Calls Try.prog 63 #[.agg #[.int .i64 X, .int .i64 Y, .int .i64 W, .int .i64 H, .slice A n c], .agg #[.int .i64 ax, .int .i64 ay], .float .f32 eye, .int .i64 far] w fun e w' =>
      e = .returned (.tuple #[.slice none 0 0, .int .i64 (sightE X Y W H l eye [(ax, ay)])]) ∧ Ext w w' := by
  have b0 : (sightE X Y W H l eye [(ax, ay)] != 0) = true := by simpa using hs
  clear hs
  go_enter Try.func63, Try.ntmps63
  go_wp2_with fail
  refine (checkSight_any X Y W H A _ n c 1 1 eye l [(ax, ay)] _ hn (((hd.alloc _).alloc _).alloc _) hb rfl (Rd.new (by simp) rfl) (by omega)).mono ?_
  rintro e w1 ⟨rfl, hb1⟩
  clear hn hd
  go_wp2
  go_ret2
  exact ⟨rfl, (by repeat (first | exact Ext.refl _ | assumption | refine Ext.setCell ?_ (by first | (simp; done) | (simp; omega)) _ | refine Ext.drewN ?_ _ | refine Ext.alloc ?_ _ | refine Ext.drew ?_ | refine Ext.trans ?_ (by assumption)))⟩

set_option maxRecDepth 100000 in
set_option maxHeartbeats 1600000 in
theorem View_far (X Y W H ax ay far : Int) (A : Option Addr) (n c eye : Nat) (l : List Nat) (w : World) (hn : l.length = n) (hd : Rd w A (flt l)) (hb : n ≤ 140737488351232) (hs : sightE X Y W H l eye [(ax, ay)] = 0) (hf : ¬ (0 ≤ far ∧ far ≤ 512)) :
    Calls Try.prog 63 #[.agg #[.int .i64 X, .int .i64 Y, .int .i64 W, .int .i64 H, .slice A n c], .agg #[.int .i64 ax, .int .i64 ay], .float .f32 eye, .int .i64 far] w fun e w' =>
      e = .returned (.tuple #[.slice none 0 0, .int .i64 3]) ∧ Ext w w' := by
  have b0 := hidA hs
  clear hs
  rcases (by omega : far < 0 ∨ (0 ≤ far ∧ 512 < far)) with h | h
  all_goals
    clear hf
    go_enter Try.func63, Try.ntmps63
    go_wp2_with fail
    refine (checkSight_any X Y W H A _ n c 1 1 eye l [(ax, ay)] _ hn (((hd.alloc _).alloc _).alloc _) hb rfl (Rd.new (by simp) rfl) (by omega)).mono ?_
    rw [b0.out]
    rintro e w1 ⟨rfl, hb1⟩
    clear hn hd
    go_wp2
    go_ret2
    exact ⟨rfl, (by repeat (first | exact Ext.refl _ | assumption | refine Ext.setCell ?_ (by first | (simp; done) | (simp; omega)) _ | refine Ext.drewN ?_ _ | refine Ext.alloc ?_ _ | refine Ext.drew ?_ | refine Ext.trans ?_ (by assumption)))⟩
end Go.Proofs.Ytjfipkccbapajaa
