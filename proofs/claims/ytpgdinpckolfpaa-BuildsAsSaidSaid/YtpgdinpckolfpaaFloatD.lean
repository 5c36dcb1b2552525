/- The operations on singles as plain functions, for heights; how single tests stand to orders. -/
import Derived.Test.YtpgdinpckolfpaaFloatC
namespace Go.Proofs.Ytpgdinpckolfpaa
open Go.RowKit

def fadd (x y : Nat) : Nat := (floatBits .add .f32 x y).getD 0
def fsub (x y : Nat) : Nat := (floatBits .sub .f32 x y).getD 0
def fmul (x y : Nat) : Nat := (floatBits .mul .f32 x y).getD 0
def fdiv (x y : Nat) : Nat := (floatBits .quo .f32 x y).getD 0
theorem fadd_ok {K x y : Nat} (hx : Bd K x) (hy : Bd K y) (hK : K ≤ 120) : floatBits .add .f32 x y = some (fadd x y) ∧ Bd (K + 2) (fadd x y) := by
  obtain ⟨r, e, hb⟩ := fadd_bd hx hy (by omega)
  have e' : floatBits .add .f32 x y = some r := e
  simp [fadd, e', hb]
theorem fsub_ok {K x y : Nat} (hx : Bd K x) (hy : Bd K y) (hK : K ≤ 120) : floatBits .sub .f32 x y = some (fsub x y) ∧ Bd (K + 2) (fsub x y) := by
  obtain ⟨r, e, hb⟩ := fsub_bd hx hy (by omega)
  have e' : floatBits .sub .f32 x y = some r := e
  simp [fsub, e', hb]
theorem fmul_ok {K J x y : Nat} (hx : Bd K x) (hy : Bd J y) (hK : K + J ≤ 120) : floatBits .mul .f32 x y = some (fmul x y) ∧ Bd (K + J + 1) (fmul x y) := by
  obtain ⟨r, e, hb⟩ := fmul_bd hx hy (by omega)
  have e' : floatBits .mul .f32 x y = some r := e
  simp [fmul, e', hb]
theorem fquot_ok {K J x y : Nat} (hx : Bd K x) (hy : Bd J y) (hK : K ≤ 127) (hJ : J ≤ 127) (h0 : ord x 0 ≠ some .lt) (hy0 : ord 0 y = some .lt) (hle : ord x y ≠ some .gt) : floatBits .quo .f32 x y = some (fdiv x y) ∧ Bd 2 (fdiv x y) := by
  obtain ⟨r, e, hb⟩ := quot_le hx hy hK hJ h0 hy0 hle
  have e' : floatBits .quo .f32 x y = some r := e
  simp [fdiv, e', hb]

def lt (a b : Nat) : Bool := FloatKind.f32.format.order a b == some .lt
def gt (a b : Nat) : Bool := FloatKind.f32.format.order a b == some .gt
theorem lt_ord {a b : Nat} : lt a b = true ↔ ord a b = some .lt := by unfold lt; rw [ord_def]; simp
theorem gt_ord {a b : Nat} : gt a b = true ↔ ord a b = some .gt := by unfold gt; rw [ord_def]; simp
theorem ord_swap {K J x y : Nat} (hx : Bd K x) (hy : Bd J y) (hK : K ≤ 127) (hJ : J ≤ 127) : ord x y = some .gt ↔ ord y x = some .lt := by
  obtain ⟨s, m, k, e1, _⟩ := read_bd hx hK
  obtain ⟨t, n, j, e2, _⟩ := read_bd hy hJ
  rw [ord_val e1 e2, ord_val e2 e1]
  simp only [Option.some.injEq]
  rw [Int.compare_eq_gt, Int.compare_eq_lt]

/-! ### how well a value lies between two others -/
def tailF (d soft : Nat) : Nat := if lt d soft = true then fsub 1065353216 (fdiv d soft) else 0
def slackF (v low high soft : Nat) : Nat := if lt v low = true then tailF (fsub low v) soft else if gt v high = true then tailF (fsub v high) soft else 1065353216
theorem one_bd : Bd 0 1065353216 := by unfold Bd; decide
theorem half_bd : Bd 0 1056964608 := by unfold Bd; decide
theorem zero_bd : Bd 0 0 := by unfold Bd; decide
theorem tail_ok {d soft : Nat} (hd : Bd 22 d) (hs : Bd 22 soft) (h0 : ord d 0 ≠ some .lt) (h : lt d soft = true) :
    floatBits .quo .f32 d soft = some (fdiv d soft) ∧ floatBits .sub .f32 1065353216 (fdiv d soft) = some (fsub 1065353216 (fdiv d soft)) ∧ Bd 4 (fsub 1065353216 (fdiv d soft)) := by
  have hl := lt_ord.1 h
  obtain ⟨q1, b1⟩ := fquot_ok hd hs (by omega) (by omega) h0 (pos_of_lt hd hs (by omega) (by omega) h0 hl) (by rw [hl]; decide)
  obtain ⟨q2, b2⟩ := fsub_ok (one_bd.mono (show 0 ≤ 2 by omega)) b1 (by omega)
  exact ⟨q1, q2, b2⟩
theorem tail_bd {d soft : Nat} (hd : Bd 22 d) (hs : Bd 22 soft) (h0 : ord d 0 ≠ some .lt) : Bd 4 (tailF d soft) := by
  unfold tailF
  split
  · exact (tail_ok hd hs h0 (by assumption)).2.2
  · exact zero_bd.mono (by omega)
/-- the difference of a greater height and a lesser one -/
theorem diff_ok {x y : Nat} (hx : Bd 20 x) (hy : Bd 20 y) (h : ord x y = some .lt) : floatBits .sub .f32 y x = some (fsub y x) ∧ Bd 22 (fsub y x) ∧ ord (fsub y x) 0 ≠ some .lt := by
  obtain ⟨q, b⟩ := fsub_ok hy hx (by omega)
  exact ⟨q, b, sub_nonneg hx hy h q b⟩
theorem slack_bd {v low high soft : Nat} (hv : Bd 20 v) (hl : Bd 20 low) (hh : Bd 20 high) (hs : Bd 22 soft) : Bd 4 (slackF v low high soft) := by
  unfold slackF
  split
  · obtain ⟨_, b, n⟩ := diff_ok hv hl (lt_ord.1 (by assumption))
    exact tail_bd b hs n
  · split
    · obtain ⟨_, b, n⟩ := diff_ok hh hv ((ord_swap hv hh (by omega) (by omega)).1 (gt_ord.1 (by assumption)))
      exact tail_bd b hs n
    · exact one_bd.mono (by omega)
theorem ret_f {k : FloatKind} {a b : Nat} (h : a = b) : Ending.returned (.float k a) = .returned (.float k b) := by rw [h]
end Go.Proofs.Ytpgdinpckolfpaa
