/- Plain words for crowds: the two sums are the same but for the sign of a zero; what a round of the sums meets. No program in sight. -/
import Derived.Test.YtgaonoklbihkjaaDoorCrowdP
import Derived.Test.YtgaonoklbihkjaaDoorPlantsE
namespace Go.Proofs.YtgaonoklbihkjaaDoor
open Ieee Go.RowKit

theorem add_first {w : Nat} (hb : Bd 60 w) : Same (fadd 0 w) w := by
  have hw : Num w := num_of_bd hb (by omega)
  rcases canon hw with ⟨t, e⟩ | ⟨t, m, k, e, hm, hl, hc⟩
  · obtain ⟨g, f1, _⟩ := add_val read_zero e
    right
    refine ⟨?_, t, e⟩
    have : (signed false 0 (0 - min 0 0) + signed t 0 (0 - min 0 0)).natAbs = 0 := by cases t <;> rfl
    rw [f1, this]
    exact near_nil _ _
  · obtain ⟨g, f1, f2⟩ := add_val read_zero e
    have hpos : 0 < m * 2 ^ k := Nat.mul_pos (by omega) (Nat.two_pow_pos _)
    have hlog : m.log2 < 24 := (Nat.log2_lt hm).2 (by omega)
    obtain ⟨t', m', k', e', hb'⟩ := read_bd hb (by omega)
    rw [e] at e'
    injection e' with a1 a2 a3
    have hk : k = k' := by omega
    subst a2
    subst hk
    have hlk : m.log2 + k ≤ 209 := by
      have h1 : 2 ^ (m.log2 + k) ≤ 2 ^ 209 := by
        rw [Nat.pow_add]
        exact Nat.le_trans (Nat.mul_le_mul_right _ (Nat.log2_self_le hm)) hb'
      exact (Nat.pow_le_pow_iff_right (by omega)).1 h1
    have hm0 : min 0 k = 0 := by omega
    rw [hm0] at f1 f2
    have z : signed false 0 (0 - 0) = 0 := by rfl
    rw [z, Int.zero_add, Nat.sub_zero] at f1 f2
    have hne : signed t m k ≠ 0 := by
      intro h
      have := signed_abs t m k
      rw [h] at this
      simp at this
      omega
    have hg : g = t := by
      rw [f2 hne]
      cases t
      · rw [signed_nat]
        rw [decide_eq_false (by omega)]
      · rw [signed_neg]
        rw [decide_eq_true (by omega)]
    rw [signed_abs, hg] at f1
    obtain ⟨M, j, h1, h2⟩ := single_exact t (mag := m * 2 ^ k) (m := m) (P := ((0 : Nat) : Int) - 149) (i := (k : Int) - 149) hm (by omega) (by omega) (by omega) (by omega) (by
      rw [show (((0 : Nat) : Int) - 149 + 1200).toNat = 1051 by rfl, show ((k : Int) - 149 + 1200).toNat = k + 1051 by omega, Nat.pow_add]
      exact Nat.mul_assoc _ _ _)
    rw [show ((k : Int) - 149 + 149).toNat = k by omega] at h2
    rw [← f1] at h1
    refine ord_eq_same ⟨_, _, _, h1⟩ hw ?_
    rw [ord_val h1 e]
    have e2 : signed t M j = signed t m k := by
      cases t
      · rw [signed_nat, signed_nat, h2]
      · rw [signed_neg, signed_neg, h2]
    rw [e2]
    simp [Std.ReflCmp.compare_self]

theorem nan_same {a b : Nat} (h : Same a b) (ha : nanB a = false) : nanB b = false := by
  rcases h with h | ⟨_, ⟨t, e⟩⟩
  · have : nanB b = nanB a := by
      show (single.read b).isNaN = (single.read a).isNaN
      rw [h]
    rw [this, ha]
  · show (single.read b).isNaN = false
    rw [e]
    rfl

theorem sqD_comm (a b : PlantR) : sqD a b = sqD b a := by
  unfold sqD
  have e1 : (a.x - b.x) * (a.x - b.x) = (b.x - a.x) * (b.x - a.x) := by rw [← Int.neg_sub b.x a.x, Int.neg_mul_neg]
  have e2 : (a.y - b.y) * (a.y - b.y) = (b.y - a.y) * (b.y - a.y) := by rw [← Int.neg_sub b.y a.y, Int.neg_mul_neg]
  rw [e1, e2]

structure Round (l : List KindR) (x y : PlantR) (a b r d : Nat) : Prop where
  ha : a < l.length
  hb : b < l.length
  xk : x.kind = a
  yk : y.kind = b
  sum : l[a].p + l[b].p = (r : Int)
  a0 : 0 ≤ l[a].p
  b0 : 0 ≤ l[b].p
  a1 : l[a].p ≤ 32
  b1 : l[b].p ≤ 32
  r64 : r ≤ 64
  dxy : sqD x y = d
  dyx : sqD y x = d
  d60 : d < 2 ^ 60
  size : Bd 20 x.size
  farx : x.farB = false
  fary : y.farB = false

section
variable {l : List KindR} {p : List PlantR} {i : Nat}
theorem round_facts {k : Nat} (hk : k < p.length) (hi : i < p.length) (he : ∀ x ∈ p, plantE l x = 0) (hl : ∀ x ∈ l, x.err = 0) :
    ∃ a b, Round l p[k] p[i] a b (spR l p i k) (sqK p i k) ∧ szK p k = p[k].size := by
  obtain ⟨u1, u2, u3, u4, _⟩ := plantE_zero (he _ (List.getElem_mem hk))
  obtain ⟨v1, v2, v3, v4, _⟩ := plantE_zero (he _ (List.getElem_mem hi))
  have e1 : p[k].kind = ((p[k].kind.toNat : Nat) : Int) := by omega
  have e2 : p[i].kind = ((p[i].kind.toNat : Nat) : Int) := by omega
  have ha : p[k].kind.toNat < l.length := by omega
  have hb : p[i].kind.toNat < l.length := by omega
  have sa := kind_space (hl _ (List.getElem_mem ha))
  have sb := kind_space (hl _ (List.getElem_mem hb))
  have q1 : spR l p i k = (l[p[k].kind.toNat].p + l[p[i].kind.toNat].p).toNat := by
    unfold spR
    rw [List.getElem?_eq_getElem hk, List.getElem?_eq_getElem hi]
    show (spaceOf l p[k].kind + spaceOf l p[i].kind).toNat = _
    rw [show spaceOf l p[k].kind = l[p[k].kind.toNat].p by unfold spaceOf; simp [ha], show spaceOf l p[i].kind = l[p[i].kind.toNat].p by unfold spaceOf; simp [hb]]
  have q2 : sqK p i k = sqD p[k] p[i] := by
    unfold sqK
    rw [List.getElem?_eq_getElem hk, List.getElem?_eq_getElem hi]
  have q3 : szK p k = p[k].size := by
    unfold szK
    rw [List.getElem?_eq_getElem hk]
    rfl
  refine ⟨p[k].kind.toNat, p[i].kind.toNat, ⟨ha, hb, e1, e2, ?_, sa.1, sb.1, sa.2, sb.2, ?_, q2.symm, (sqD_comm _ _).trans q2.symm, ?_, ?_, u3, v3⟩, q3⟩
  · rw [q1]; omega
  · rw [q1]; omega
  · rw [q2]; exact (sq_int u3 v3).2.1
  · exact num_bd' u4 _ (by simp)
theorem crowd_step (k : Nat) : crowdF l p i (k + 1) = if nearB l p i k = true then fadd (crowdF l p i k) (wgt (szK p k) (sqK p i k) (spR l p i k)) else crowdF l p i k := rfl
theorem near_w (hi : i < p.length) (he : ∀ x ∈ p, plantE l x = 0) (hl : ∀ x ∈ l, x.err = 0) {k : Nat} (hk : k < p.length) (h : nearB l p i k = true) : Num (wgt (szK p k) (sqK p i k) (spR l p i k)) ∧ Bd 60 (wgt (szK p k) (sqK p i k) (spR l p i k)) := by
  obtain ⟨a, b, hr, hs⟩ := round_facts hk hi he hl
  have h2 : k ≠ i ∧ sqK p i k < spR l p i k * spR l p i k := by simpa [nearB] using h
  obtain ⟨_, _, _, h3, h4⟩ := wgt_ok (size := szK p k) (by rw [hs]; exact hr.size) h2.2 hr.r64
  exact ⟨h3, h4⟩
theorem crowd_nan (hi : i < p.length) (he : ∀ x ∈ p, plantE l x = 0) (hl : ∀ x ∈ l, x.err = 0) : ∀ k, k ≤ p.length → nanB (crowdF l p i k) = false
  | 0, _ => by show nanB 0 = false; decide +kernel
  | k + 1, hk => by
    have ih := crowd_nan hi he hl k (by omega)
    rw [crowd_step]
    split
    · rename_i h
      obtain ⟨_, _, _, e⟩ := (near_w hi he hl (show k < p.length by omega) h).1
      exact (add_any ih e).2
    · exact ih
theorem crowd_same (hi : i < p.length) (he : ∀ x ∈ p, plantE l x = 0) (hl : ∀ x ∈ l, x.err = 0) : ∀ k, k ≤ p.length → Same (crowdF l p i k) (crowdG l p i k).1 ∧ ((crowdG l p i k).2 = true → crowdF l p i k = 0)
  | 0, _ => ⟨Same.refl _, fun _ => rfl⟩
  | k + 1, hk => by
    obtain ⟨ih, ih2⟩ := crowd_same hi he hl k (by omega)
    rw [crowd_step, crowdG]
    by_cases h : nearB l p i k = true
    · obtain ⟨hw, hw2⟩ := near_w hi he hl (show k < p.length by omega) h
      rw [if_pos h, if_pos h]
      by_cases h2 : (crowdG l p i k).2 = true
      · rw [if_pos h2, ih2 h2]
        exact ⟨add_first hw2, fun h => by cases h⟩
      · rw [if_neg h2]
        exact ⟨fadd_same ih hw, fun h => by cases h⟩
    · rw [if_neg h, if_neg h]
      exact ⟨ih, ih2⟩
theorem crowdG_nan (hi : i < p.length) (he : ∀ x ∈ p, plantE l x = 0) (hl : ∀ x ∈ l, x.err = 0) {k : Nat} (hk : k ≤ p.length) : nanB (crowdG l p i k).1 = false := nan_same (crowd_same hi he hl k hk).1 (crowd_nan hi he hl k hk)
end
end Go.Proofs.YtgaonoklbihkjaaDoor
