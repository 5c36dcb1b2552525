/- Plain words for the horizon: how far it is to the n-th cell of a direction, how steep the way is, and the greatest of these. No program in sight. -/
import Derived.Test.YtjfipkccbapajaaToward
namespace Go.Proofs.Ytjfipkccbapajaa
open Go.RowKit

def longB (d : Int) : Nat := if d % 2 = 1 then 1068827891 else 1065353216
def reachF (d : Int) (n : Nat) : Nat := fmul (floatOfInt .f32 n) (longB d)
def cellAt (ax ay d : Int) (n : Nat) : Int × Int := (ax + n * stepX d, ay + n * stepY d)
def riseF (X Y W : Int) (l : List Nat) (ax ay d : Int) (p n : Nat) : Nat := fdiv (fsub (valAt X Y W l (cellAt ax ay d n)) p) (reachF d n)
/-- the greatest of the first k rises -/
def horF (X Y W : Int) (l : List Nat) (ax ay d : Int) (p : Nat) : Nat → Nat
  | 0 => 0
  | k + 1 => if k = 0 then riseF X Y W l ax ay d p 1 else if (ord (riseF X Y W l ax ay d p (k + 1)) (horF X Y W l ax ay d p k) == some .gt) = true then riseF X Y W l ax ay d p (k + 1) else horF X Y W l ax ay d p k

theorem reach_ok {d : Int} {n : Nat} (h0 : 0 < n) (hn : n ≤ 600) : floatBits .mul .f32 (floatOfInt .f32 n) (longB d) = some (reachF d n) ∧ Ge1 (reachF d n) := by
  have e10 : (2 : Nat) ^ 10 = 1024 := by decide
  have e127 : (65536 : Nat) < 2 ^ 127 := by decide
  have h1 : Bd 10 (floatOfInt .f32 (n : Int)) := int_bd (by omega) (by omega)
  have h2 : Ge1 (floatOfInt .f32 (n : Int)) := int_ge (by omega) (by omega)
  have h3 : Bd 1 (longB d) ∧ Ge1 (longB d) := by unfold longB; split <;> exact ⟨by unfold Bd; decide, by unfold Ge1; decide⟩
  obtain ⟨r, e, _, hg⟩ := fmul_ge h1 h3.1 h2 h3.2 (by omega)
  have e' : floatBits .mul .f32 (floatOfInt .f32 (n : Int)) (longB d) = some r := e
  simp [reachF, fmul, e', hg]
theorem reach_even {d : Int} {n : Nat} (hd : d % 2 ≠ 1) (hn : n < 600) : reachF d n = floatOfInt .f32 n := by
  unfold reachF longB fmul
  rw [if_neg hd, mul_one_small n hn]
  rfl
theorem one_mul_odd : floatBits .mul .f32 (floatOfInt .f32 1) 1068827891 = some 1068827891 := by decide +kernel
theorem one_bits : floatOfInt .f32 1 = 1065353216 := by decide +kernel
theorem reach_one (d : Int) : reachF d 1 = longB d := by
  by_cases hd : d % 2 = 1
  · unfold reachF longB fmul
    rw [if_pos hd]
    show (floatBits .mul .f32 (floatOfInt .f32 1) 1068827891).getD 0 = _
    rw [one_mul_odd]
    rfl
  · rw [reach_even hd (by omega)]
    unfold longB
    rw [if_neg hd]
    exact one_bits

theorem rise_ok {X Y W : Int} {l : List Nat} {ax ay d : Int} {p n : Nat} (h0 : 0 < n) (hn : n ≤ 600) (hv : Bd 20 (valAt X Y W l (cellAt ax ay d n))) (hp : Bd 22 p) :
    floatBits .sub .f32 (valAt X Y W l (cellAt ax ay d n)) p = some (fsub (valAt X Y W l (cellAt ax ay d n)) p) ∧
    floatBits .quo .f32 (fsub (valAt X Y W l (cellAt ax ay d n)) p) (reachF d n) = some (riseF X Y W l ax ay d p n) ∧ Bd 26 (riseF X Y W l ax ay d p n) := by
  have h1 := fsub_ok (hv.mono (show 20 ≤ 22 by omega)) hp (by omega)
  have h2 := fdiv_ok h1.2 (reach_ok (d := d) h0 hn).2 (by omega)
  exact ⟨h1.1, h2.1, h2.2⟩

theorem hor_bd {X Y W : Int} {l : List Nat} {ax ay d : Int} {p : Nat} : ∀ {k : Nat}, (∀ j, 0 < j → j ≤ k → Bd 26 (riseF X Y W l ax ay d p j)) → Bd 26 (horF X Y W l ax ay d p k)
  | 0, _ => by unfold horF Bd; decide
  | k + 1, h => by
    unfold horF
    split
    · exact h 1 (by omega) (by omega)
    · split
      · exact h _ (by omega) (by omega)
      · exact hor_bd fun j h0 hj => h j h0 (by omega)

theorem step_ne (d : Int) (h0 : 0 ≤ d) (h : d < 8) : stepX d ≠ 0 ∨ stepY d ≠ 0 := by
  have hd : d = 0 ∨ d = 1 ∨ d = 2 ∨ d = 3 ∨ d = 4 ∨ d = 5 ∨ d = 6 ∨ d = 7 := by omega
  rcases hd with rfl | rfl | rfl | rfl | rfl | rfl | rfl | rfl <;> decide
theorem step_bd (d : Int) : -1 ≤ stepX d ∧ stepX d ≤ 1 ∧ -1 ≤ stepY d ∧ stepY d ≤ 1 := by
  unfold stepX stepY
  refine ⟨?_, ?_, ?_, ?_⟩ <;> (repeat' split) <;> omega

theorem one_of {s : Int} (h : -1 ≤ s ∧ s ≤ 1) : s = -1 ∨ s = 0 ∨ s = 1 := by omega
theorem far_out {X Y W H ax ay d : Int} {n : Nat} (hr : RegOk X Y W H) (ha : InR X Y W H ax ay) (h0 : 0 ≤ d) (h : d < 8) (hn : 512 ≤ n) : ¬ InR X Y W H (cellAt ax ay d n).1 (cellAt ax ay d n).2 := by
  have hs := step_bd d
  have hne := step_ne d h0 h
  unfold RegOk at hr
  unfold InR at ha
  unfold InR cellAt
  rcases one_of ⟨hs.1, hs.2.1⟩ with e | e | e <;> rcases one_of ⟨hs.2.2.1, hs.2.2.2⟩ with f | f | f <;> simp only [e, f] at hne ⊢ <;> omega

theorem last_is {q : Nat → Prop} [∀ n, Decidable (q n)] : ∀ (m : Nat), (∀ j, 0 < j → j ≤ m → q j) ∨ ∃ K, K < m ∧ (∀ j, 0 < j → j ≤ K → q j) ∧ ¬ q (K + 1)
  | 0 => Or.inl fun j h0 h => by omega
  | m + 1 => by
    rcases last_is (q := q) m with h | ⟨K, h1, h2, h3⟩
    · by_cases hq : q (m + 1)
      · left
        intro j h0 hj
        rcases Nat.lt_or_eq_of_le hj with h' | rfl
        · exact h j h0 (by omega)
        · exact hq
      · exact Or.inr ⟨m, by omega, h, hq⟩
    · exact Or.inr ⟨K, by omega, h2, h3⟩
/-- the last cell of a direction -/
theorem last_cell {X Y W H ax ay d : Int} (hr : RegOk X Y W H) (ha : InR X Y W H ax ay) (h0 : 0 ≤ d) (h : d < 8) :
    ∃ K : Nat, K < 512 ∧ (∀ j, 0 < j → j ≤ K → InR X Y W H (cellAt ax ay d j).1 (cellAt ax ay d j).2) ∧ ¬ InR X Y W H (cellAt ax ay d (K + 1)).1 (cellAt ax ay d (K + 1)).2 := by
  rcases last_is (q := fun n => InR X Y W H (cellAt ax ay d n).1 (cellAt ax ay d n).2) 512 with h' | ⟨K, h1, h2, h3⟩
  · exact absurd (h' 512 (by omega) (by omega)) (far_out hr ha h0 h (by omega))
  · exact ⟨K, h1, h2, h3⟩
end Go.Proofs.Ytjfipkccbapajaa
