/- Contracts for the law LinesMatch: what Profile answers at any input; small answers with literal results. -/
import Derived.Test.YtjfipkccbapajaaEqual
import Derived.Test.YtjfipkccbapajaaProfileB
import Derived.Test.YtjfipkccbapajaaLevels
namespace Go.Proofs.Ytjfipkccbapajaa
open Go.RowKit

theorem has_eq (X Y W H x y : Int) (b : Bool) (w : World) (h : hasB X Y W H x y = b) :
    Calls Try.prog 27 #[.agg #[.int .i64 X, .int .i64 Y, .int .i64 W, .int .i64 H], .int .i64 x, .int .i64 y] w fun e w' => e = .returned (.bool b) ∧ Ext w w' :=
  h ▸ has_any X Y W H x y w
theorem when_yes (n : Int) (w : World) : Calls Try.prog 14 #[.bool true, .int .i64 n] w fun e w' => e = .returned (.int .i64 n) ∧ w = w' := when_any true n w
theorem when_no (n : Int) (w : World) : Calls Try.prog 14 #[.bool false, .int .i64 n] w fun e w' => e = .returned (.int .i64 0) ∧ w = w' := when_any false n w
theorem within_yes (n lo hi : Int) (w : World) (h : lo ≤ n ∧ n ≤ hi) : Calls Try.prog 19 #[.int .i64 n, .int .i64 lo, .int .i64 hi] w fun e w' => e = .returned (.bool true) ∧ w = w' :=
  (within_any n lo hi w).mono fun e w' ⟨he, hw⟩ => ⟨by rw [he]; exact ret_b (by simp [h.1, h.2]), hw⟩
theorem within_no (n lo hi : Int) (w : World) (h : ¬ (lo ≤ n ∧ n ≤ hi)) : Calls Try.prog 19 #[.int .i64 n, .int .i64 lo, .int .i64 hi] w fun e w' => e = .returned (.bool false) ∧ w = w' :=
  (within_any n lo hi w).mono fun e w' ⟨he, hw⟩ => ⟨by rw [he]; exact ret_b (by simp; omega), hw⟩

def hasW (X Y W H ax ay bx by' : Int) : Int := if hasB X Y W H ax ay = true ∧ hasB X Y W H bx by' = true then 0 else 5
def profE (X Y W H ax ay bx by' : Int) (l : List Nat) : Int := firstE [fieldE X Y W H l, hasW X Y W H ax ay bx by']

theorem inr_steps {X Y W H ax ay bx by' : Int} (hr : RegOk X Y W H) (ha : InR X Y W H ax ay) (hb : InR X Y W H bx by') : ∃ s : Nat, stepsZ ax ay bx by' = s ∧ s ≤ 65535 := by
  unfold RegOk at hr
  unfold InR at ha hb
  have h0 : 0 ≤ stepsZ ax ay bx by' ∧ stepsZ ax ay bx by' ≤ 65535 := by unfold stepsZ max4; omega
  obtain ⟨s, hs⟩ := Int.eq_ofNat_of_zero_le h0.1
  exact ⟨s, hs, by omega⟩

theorem profile_any (X Y W H ax ay bx by' : Int) (A : Option Addr) (n c : Nat) (l : List Nat) (w : World) (hn : l.length = n) (hd : Rd w A (flt l)) (hb : n ≤ 140737488351232) :
    Calls Try.prog 23 #[.agg #[.int .i64 X, .int .i64 Y, .int .i64 W, .int .i64 H, .slice A n c], .agg #[.int .i64 ax, .int .i64 ay], .agg #[.int .i64 bx, .int .i64 by']] w fun e w' =>
      ∃ v, e = .returned (.tuple #[v, .int .i64 (profE X Y W H ax ay bx by' l)]) ∧ Ext w w' ∧ (profE X Y W H ax ay bx by' l ≠ 0 → v = .slice none 0 0) ∧
        (profE X Y W H ax ay bx by' l = 0 → ∃ (s : Nat) (C : Option Addr) (q : Nat), stepsZ ax ay bx by' = s ∧ s ≤ 65535 ∧ v = .slice C (s + 1 : Nat) q ∧ Rdb w.heap.size w' C (flt ((linePts ax ay bx by' s (s + 1)).map (valAt X Y W l))) ∧
          fieldE X Y W H l = 0 ∧ InR X Y W H ax ay ∧ InR X Y W H bx by') := by
  by_cases he : fieldE X Y W H l = 0
  · have hr := RegOk.of_zero (fieldE_parts he).1
    by_cases hi : InR X Y W H ax ay ∧ InR X Y W H bx by'
    · have hp : profE X Y W H ax ay bx by' l = 0 := by simp [profE, firstE, he, hasW, hasB_ok hr, hi.1, hi.2]
      obtain ⟨s, hs, hs2⟩ := inr_steps hr hi.1 hi.2
      rw [hp]
      refine (profile_ok X Y W H ax ay bx by' A n c s l w hn hd he hi.1 hi.2 hs hs2).mono ?_
      rintro e w' ⟨C, q, rfl, h1, h2⟩
      exact ⟨_, rfl, h2, fun h => absurd rfl h, fun _ => ⟨s, C, q, hs, hs2, rfl, h1, he, hi.1, hi.2⟩⟩
    · have hp : profE X Y W H ax ay bx by' l = 5 := by
        have : ¬ (hasB X Y W H ax ay = true ∧ hasB X Y W H bx by' = true) := by rw [hasB_ok hr, hasB_ok hr]; simpa using hi
        simp [profE, firstE, he, hasW, this]
      rw [hp]
      refine (profile_out X Y W H ax ay bx by' A n c l w hn hd hb he hi).mono ?_
      rintro e w' ⟨rfl, h2⟩
      exact ⟨_, rfl, h2, fun _ => rfl, fun h => by cases h⟩
  · have hp : profE X Y W H ax ay bx by' l = fieldE X Y W H l := by simp [profE, firstE, he]
    rw [hp]
    refine (profile_bad X Y W H ax ay bx by' A n c l w hn hd hb he).mono ?_
    rintro e w' ⟨rfl, h2⟩
    exact ⟨_, rfl, h2, fun _ => rfl, fun h => absurd h he⟩

end Go.Proofs.Ytjfipkccbapajaa
