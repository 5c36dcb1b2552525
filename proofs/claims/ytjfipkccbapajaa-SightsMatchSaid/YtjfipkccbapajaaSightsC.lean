/- Contracts for the law SightsMatch: what Sees, View and Horizon answer at any input. -/
import Derived.Test.YtjfipkccbapajaaHorD
import Derived.Test.YtjfipkccbapajaaViewC
import Derived.Test.YtjfipkccbapajaaLinesA
namespace Go.Proofs.Ytjfipkccbapajaa
open Go.RowKit

/-- the error of a question from a place -/
def askE (X Y W H : Int) (l : List Nat) (eye : Nat) (ax ay : Int) : Int := sightE X Y W H l eye [(ax, ay)]
theorem ask_two {X Y W H : Int} {l : List Nat} {eye : Nat} {ax ay bx by' : Int} (h : askE X Y W H l eye ax ay ≠ 0) : sightE X Y W H l eye [(ax, ay), (bx, by')] = askE X Y W H l eye ax ay := by
  unfold askE sightE at *
  by_cases h1 : fieldE X Y W H l ≠ 0
  · rw [if_pos h1, if_pos h1]
  · rw [if_neg h1] at h
    rw [if_neg h1, if_neg h1]
    by_cases h2 : numE [eye] ≠ 0
    · rw [if_pos h2, if_pos h2]
    · rw [if_neg h2] at h
      rw [if_neg h2, if_neg h2]
      by_cases h3 : negB eye = true
      · rw [if_pos h3, if_pos h3]
      · rw [if_neg h3] at h
        rw [if_neg h3, if_neg h3]
        unfold insE at h ⊢
        by_cases h4 : InR X Y W H ax ay
        · rw [if_pos h4] at h
          exact absurd rfl h
        · rw [if_neg h4, if_neg h4]
theorem ask_zero {X Y W H : Int} {l : List Nat} {eye : Nat} {ax ay bx by' : Int} (h : askE X Y W H l eye ax ay = 0) : sightE X Y W H l eye [(ax, ay), (bx, by')] = if InR X Y W H bx by' then 0 else 5 := by
  obtain ⟨f1, f2, f3, f4⟩ := sight_zero h
  have hi : InR X Y W H ax ay := ins_zero f4 (ax, ay) (by simp)
  unfold sightE
  rw [if_neg (by omega), if_neg (by omega), if_neg (by simp [f3])]
  simp only [insE]
  rw [if_pos hi]
def negE (eye : Nat) : Int := if negB eye = true then 3 else 0
def noE (X Y W H x y : Int) : Int := if (!hasB X Y W H x y) = true then 5 else 0
theorem when_neg (eye : Nat) (w : World) : Calls Try.prog 14 #[.bool (FloatKind.f32.format.order eye 0 == some .lt), .int .i64 3] w fun e w' => e = .returned (.int .i64 (negE eye)) ∧ w = w' := when_any (negB eye) 3 w
theorem when_has (X Y W H x y : Int) (w : World) : Calls Try.prog 14 #[.bool (!hasB X Y W H x y), .int .i64 5] w fun e w' => e = .returned (.int .i64 (noE X Y W H x y)) ∧ w = w' := when_any (!hasB X Y W H x y) 5 w
theorem ask_first {X Y W H : Int} {l : List Nat} {eye : Nat} {ax ay : Int} : firstE [fieldE X Y W H l, numE [eye], negE eye, noE X Y W H ax ay] = askE X Y W H l eye ax ay := by
  unfold askE sightE negE noE
  by_cases h1 : fieldE X Y W H l = 0
  · have hr := RegOk.of_zero (fieldE_parts h1).1
    have h5 := hasB_ok (x := ax) (y := ay) hr
    by_cases h2 : numE [eye] = 0
    · by_cases h3 : negB eye = true
      · simp [firstE, h1, h2, h3]
      · by_cases h4 : InR X Y W H ax ay
        · simp [firstE, h1, h2, h3, h4, h5, insE]
        · simp [firstE, h1, h2, h3, h4, h5, insE]
    · simp [firstE, h1, h2]
  · simp [firstE, h1]

theorem Sees_E (X Y W H ax ay bx by' : Int) (A : Option Addr) (n c eye : Nat) (l : List Nat) (w : World) (hn : l.length = n) (hd : Rd w A (flt l)) (hb : n ≤ 140737488351232) (hs : askE X Y W H l eye ax ay ≠ 0) :
    Calls Try.prog 62 #[.agg #[.int .i64 X, .int .i64 Y, .int .i64 W, .int .i64 H, .slice A n c], .agg #[.int .i64 ax, .int .i64 ay], .agg #[.int .i64 bx, .int .i64 by'], .float .f32 eye] w fun e w' =>
      e = .returned (.tuple #[.bool false, .int .i64 (askE X Y W H l eye ax ay)]) ∧ Ext w w' := by
  have h := Sees_bad X Y W H ax ay bx by' A n c eye l w hn hd hb (by rw [ask_two hs]; exact hs)
  rw [ask_two hs] at h
  exact h
theorem Sees_0 (X Y W H ax ay bx by' : Int) (A : Option Addr) (n c eye : Nat) (l : List Nat) (w : World) (hn : l.length = n) (hd : Rd w A (flt l)) (hb : n ≤ 140737488351232) (hs : askE X Y W H l eye ax ay = 0) :
    Calls Try.prog 62 #[.agg #[.int .i64 X, .int .i64 Y, .int .i64 W, .int .i64 H, .slice A n c], .agg #[.int .i64 ax, .int .i64 ay], .agg #[.int .i64 bx, .int .i64 by'], .float .f32 eye] w fun e w' =>
      ∃ (i : Bool) (v : Int), e = .returned (.tuple #[.bool i, .int .i64 v]) ∧ Ext w w' ∧ (InR X Y W H bx by' → i = seesV X Y W l ax ay bx by' eye ∧ v = 0) ∧ (¬ InR X Y W H bx by' → i = false ∧ v = 5) := by
  by_cases hi : InR X Y W H bx by'
  · refine (Sees_ok X Y W H ax ay bx by' A n c eye l w hn hd (by rw [ask_zero hs, if_pos hi])).mono ?_
    rintro e w' ⟨rfl, h⟩
    exact ⟨_, _, rfl, h, fun _ => ⟨rfl, rfl⟩, fun h' => absurd hi h'⟩
  · have he : sightE X Y W H l eye [(ax, ay), (bx, by')] = 5 := by rw [ask_zero hs, if_neg hi]
    refine (Sees_bad X Y W H ax ay bx by' A n c eye l w hn hd hb (by rw [he]; decide)).mono ?_
    rw [he]
    rintro e w' ⟨rfl, h⟩
    exact ⟨_, _, rfl, h, fun h' => absurd h' hi, fun _ => ⟨rfl, rfl⟩⟩
theorem View_0 (X Y W H ax ay far : Int) (A : Option Addr) (n c eye : Nat) (l : List Nat) (w : World) (hn : l.length = n) (hd : Rd w A (flt l)) (hb : n ≤ 140737488351232) (hs : askE X Y W H l eye ax ay = 0) :
    Calls Try.prog 63 #[.agg #[.int .i64 X, .int .i64 Y, .int .i64 W, .int .i64 H, .slice A n c], .agg #[.int .i64 ax, .int .i64 ay], .float .f32 eye, .int .i64 far] w fun e w' =>
      ∃ (u : Value) (v : Int), e = .returned (.tuple #[u, .int .i64 v]) ∧ Ext w w' ∧ (0 ≤ far ∧ far ≤ 512 → ∃ C, u = .slice C n n ∧ v = 0 ∧ Rd w' C (boo (viewL X Y W l ax ay far eye n))) ∧ (¬ (0 ≤ far ∧ far ≤ 512) → u = .slice none 0 0 ∧ v = 3) := by
  by_cases hf : 0 ≤ far ∧ far ≤ 512
  · refine (View_ok X Y W H ax ay far A n c eye l w hn hd hs hf.1 hf.2).mono ?_
    rintro e w' ⟨C, rfl, hr, h⟩
    exact ⟨_, _, rfl, h, fun _ => ⟨C, rfl, rfl, hr⟩, fun h' => absurd hf h'⟩
  · refine (View_far X Y W H ax ay far A n c eye l w hn hd hb hs hf).mono ?_
    rintro e w' ⟨rfl, h⟩
    exact ⟨_, _, rfl, h, fun h' => absurd h' hf, fun _ => ⟨rfl, rfl⟩⟩
/-- so many cells follow in a direction -/
def LastK (X Y W H ax ay dir : Int) (K : Nat) : Prop := K < 512 ∧ (∀ j, 0 < j → j ≤ K → InR X Y W H (cellAt ax ay dir j).1 (cellAt ax ay dir j).2) ∧ ¬ InR X Y W H (cellAt ax ay dir (K + 1)).1 (cellAt ax ay dir (K + 1)).2
theorem Horizon_0 (X Y W H ax ay dir : Int) (A : Option Addr) (n c eye : Nat) (l : List Nat) (w : World) (hn : l.length = n) (hd : Rd w A (flt l)) (hb : n ≤ 140737488351232) (hs : askE X Y W H l eye ax ay = 0) :
    Calls Try.prog 64 #[.agg #[.int .i64 X, .int .i64 Y, .int .i64 W, .int .i64 H, .slice A n c], .agg #[.int .i64 ax, .int .i64 ay], .float .f32 eye, .int .i64 dir] w fun e w' =>
      ∃ (r : Nat) (i : Bool) (v : Int), e = .returned (.tuple #[.float .f32 r, .bool i, .int .i64 v]) ∧ Ext w w' ∧
        (0 ≤ dir ∧ dir ≤ 7 → ∃ K, LastK X Y W H ax ay dir K ∧ r = horF X Y W l ax ay dir (fadd (valAt X Y W l (ax, ay)) eye) K ∧ i = decide (0 < K) ∧ v = 0) ∧ (¬ (0 ≤ dir ∧ dir ≤ 7) → r = 0 ∧ i = false ∧ v = 3) := by
  by_cases hf : 0 ≤ dir ∧ dir ≤ 7
  · obtain ⟨f1, f2, f3, f4⟩ := sight_zero hs
    have hr := RegOk.of_zero (fieldE_parts f1).1
    have hi : InR X Y W H ax ay := ins_zero f4 (ax, ay) (by simp)
    obtain ⟨K, h1, h2, h3⟩ := last_cell hr hi hf.1 (by omega)
    refine (Horizon_ok X Y W H ax ay dir A n c eye K l w hn hd hs hf.1 hf.2 h1 h2 h3).mono ?_
    rintro e w' ⟨rfl, h⟩
    exact ⟨_, _, _, rfl, h, fun _ => ⟨K, ⟨h1, h2, h3⟩, rfl, rfl, rfl⟩, fun h' => absurd hf h'⟩
  · refine (Horizon_dir X Y W H ax ay dir A n c eye l w hn hd hb hs hf).mono ?_
    rintro e w' ⟨rfl, h⟩
    exact ⟨_, _, _, rfl, h, fun h' => absurd h' hf, fun _ => ⟨rfl, rfl, rfl⟩⟩
def withinB (n lo hi : Int) : Bool := decide (lo ≤ n) && decide (n ≤ hi)
theorem withinB_any (n lo hi : Int) (w : World) :
    Calls Try.prog 19 #[.int .i64 n, .int .i64 lo, .int .i64 hi] w fun e w' => e = .returned (.bool (withinB n lo hi)) ∧ w = w' := within_any n lo hi w
theorem withinB_yes {n lo hi : Int} (h : lo ≤ n ∧ n ≤ hi) : (!withinB n lo hi) = false := by simp [withinB, h]
theorem withinB_no {n lo hi : Int} (h : ¬ (lo ≤ n ∧ n ≤ hi)) : (!withinB n lo hi) = true := by
  unfold withinB
  simp
  omega
theorem boo_snoc (l : List Bool) (b : Bool) : boo (l ++ [b]) = boo l ++ [.bool b] := by simp [boo]
theorem mul_facts {v a : Int} (h : -600 ≤ v ∧ v ≤ 600) (ha : -4194304 ≤ a ∧ a ≤ 4194304) : wrap64 v = v ∧ wrap64 (a + v) = a + v ∧ IntKind.i64.wrap v = v ∧ IntKind.i64.wrap (a + v) = a + v :=
  ⟨by unfold wrap64; omega, by unfold wrap64; omega, IntWalk.i64_in _ (by omega), IntWalk.i64_in _ (by omega)⟩
theorem ord_same {b : Nat} (h : nanB b = false) : (FloatKind.f32.format.order b b == some .eq) = true := by
  have h1 : ord b b = some .eq := order_self h
  rw [ord_def, h1]
  rfl
end Go.Proofs.Ytjfipkccbapajaa
