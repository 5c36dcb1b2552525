/- Contracts: level.checkSight and level.Sees. -/
import Derived.Test.YtjfipkccbapajaaSeesB
namespace Go.Proofs.Ytjfipkccbapajaa
open Go.RowKit
attribute [local go_sem ↓] Go.wp_at_zero Go.wp_at_succ

def negB (eye : Nat) : Bool := FloatKind.f32.format.order eye 0 == some .lt
def sightE (X Y W H : Int) (l : List Nat) (eye : Nat) (pts : List (Int × Int)) : Int :=
  if fieldE X Y W H l ≠ 0 then fieldE X Y W H l else if numE [eye] ≠ 0 then numE [eye] else if negB eye = true then 3 else insE X Y W H pts

set_option maxRecDepth 100000 in
set_option maxHeartbeats 1600000 in
theorem checkSight_any (X Y W H : Int) (A B : Option Addr) (n c m d eye : Nat) (l : List Nat) (pts : List (Int × Int)) (w : World) (hn : l.length = n) (hd : Rd w A (flt l)) (hb : n ≤ 140737488351232)
    (hm : pts.length = m) (hp : Rd w B (ptv pts)) (hmb : m ≤ 4000000000) :
    Calls Try.prog 128 #[.agg #[.int .i64 X, .int .i64 Y, .int .i64 W, .int .i64 H, .slice A n c], .float .f32 eye, .slice B m d] w fun e w' => e = .returned (.int .i64 (sightE X Y W H l eye pts)) ∧ Ext w w' := by
  have hd1 := hd.alloc (.cells #[.int .i64 X, .int .i64 Y, .int .i64 W, .int .i64 H, .slice A n c] 48)
  have hp1 := hp.alloc (.cells #[.int .i64 X, .int .i64 Y, .int .i64 W, .int .i64 H, .slice A n c] 48)
  have Hm := hidA hm
  have Hp := hidA hp1
  clear hm hp hd hp1
  go_enter Try.func128, Try.ntmps128
  go_wp2_with fail
  refine (check_any X Y W H A n c l _ hn hd1 hb).mono ?_
  rintro e w1 ⟨rfl, hb1⟩
  have hF : Bk w1 w.heap.size 48 #[.int .i64 X, .int .i64 Y, .int .i64 W, .int .i64 H, .slice A n c] := (Bk.new _ _ _).ext hb1
  clear hn hd1
  by_cases he : fieldE X Y W H l = 0
  · have E0 : Hid (sightE X Y W H l eye pts = if numE [eye] ≠ 0 then numE [eye] else if negB eye = true then 3 else insE X Y W H pts) := by show _ = _; unfold sightE; rw [if_neg (by simpa using he)]
    have Hreg := hidA (RegOk.of_zero (fieldE_parts he).1)
    have b0 : (fieldE X Y W H l != 0) = false := by simpa using he
    clear he
    go_wp2_with fail
    refine (heights_any _ 1 1 [eye] _ rfl (Rd.new rfl rfl) (by omega)).mono ?_
    rintro e w2 ⟨rfl, rfl⟩
    by_cases he2 : numE [eye] = 0
    · have b1 : (numE [eye] != 0) = false := by simpa using he2
      have E1 : Hid (sightE X Y W H l eye pts = if negB eye = true then 3 else insE X Y W H pts) := by show _ = _; rw [E0.out, if_neg (by simpa using he2)]
      clear he2 E0
      by_cases hneg : negB eye = true
      · have C0 : (FloatKind.f32.format.order eye 0 == some .lt) = true := hneg
        have E2 : Hid (sightE X Y W H l eye pts = 3) := by show _ = _; rw [E1.out, if_pos hneg]
        clear hneg E1
        go_wp2
        go_ret
        exact ⟨ret_i E2.out.symm, (by repeat (first | exact Ext.refl _ | assumption | refine Ext.setCell ?_ (by first | (simp; done) | (simp; omega)) _ | refine Ext.drewN ?_ _ | refine Ext.alloc ?_ _ | refine Ext.drew ?_ | refine Ext.trans ?_ (by assumption)))⟩
      · have C0 : (FloatKind.f32.format.order eye 0 == some .lt) = false := (Bool.not_eq_true _).mp hneg
        have E2 : Hid (sightE X Y W H l eye pts = insE X Y W H pts) := by show _ = _; rw [E1.out, if_neg hneg]
        clear hneg E1
        have hF2 := hF.alloc (.cells #[.float .f32 eye] 71)
        have d0 := hF2.cell 0
        have d1 := hF2.cell 1
        have d2 := hF2.cell 2
        have d3 := hF2.cell 3
        have d4 := hF2.cell 4
        go_wp2_with fail
        refine (inside_any X Y W H _ B m d pts _ Hreg.out Hm.out ?_ hmb).mono ?_
        · exact (Hp.out.ext hb1).alloc _
        rw [← E2.out]
        rintro e w3 ⟨rfl, hb3⟩
        go_wp2
        go_ret
        exact ⟨rfl, (by repeat (first | exact Ext.refl _ | assumption | refine Ext.setCell ?_ (by first | (simp; done) | (simp; omega)) _ | refine Ext.drewN ?_ _ | refine Ext.alloc ?_ _ | refine Ext.drew ?_ | refine Ext.trans ?_ (by assumption)))⟩
    · have b1 : (numE [eye] != 0) = true := by simpa using he2
      have E1 : Hid (sightE X Y W H l eye pts = numE [eye]) := by show _ = _; rw [E0.out, if_pos he2]
      clear he2 E0
      go_wp2
      go_ret
      exact ⟨ret_i E1.out.symm, (by repeat (first | exact Ext.refl _ | assumption | refine Ext.setCell ?_ (by first | (simp; done) | (simp; omega)) _ | refine Ext.drewN ?_ _ | refine Ext.alloc ?_ _ | refine Ext.drew ?_ | refine Ext.trans ?_ (by assumption)))⟩
  · have E0 : Hid (sightE X Y W H l eye pts = fieldE X Y W H l) := by show _ = _; unfold sightE; rw [if_pos he]
    have b0 : (fieldE X Y W H l != 0) = true := by simpa using he
    clear he
    go_wp2
    go_ret
    exact ⟨ret_i E0.out.symm, (by repeat (first | exact Ext.refl _ | assumption | refine Ext.setCell ?_ (by first | (simp; done) | (simp; omega)) _ | refine Ext.drewN ?_ _ | refine Ext.alloc ?_ _ | refine Ext.drew ?_ | refine Ext.trans ?_ (by assumption)))⟩
end Go.Proofs.Ytjfipkccbapajaa
