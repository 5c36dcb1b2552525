/- The way between corners, plainly. No program in sight. -/
import Derived.Test.YtpgdinpckolfpaaRdY
namespace Go.Proofs.Ytpgdinpckolfpaa
open Go.RowKit

/-- whether no step leads from one place to another -/
def leapN (a b : Int × Int) : Bool := (leapO (b.1 - a.1) (b.2 - a.2)).isNone
/-- the error of corners, from corner k on -/
def stI (l : List (Int × Int)) : Nat → Nat → Int
  | _, 0 => 0
  | k, m + 1 => if farP (l.getD k (0, 0)) = true then 5 else if 0 < k ∧ leapN (l.getD (k - 1) (0, 0)) (l.getD k (0, 0)) = true then 2 else stI l (k + 1) m
theorem stI_step {l : List (Int × Int)} {k n : Nat} (h : k < n) : stI l k (n - k) = if farP (l.getD k (0, 0)) = true then 5 else if 0 < k ∧ leapN (l.getD (k - 1) (0, 0)) (l.getD k (0, 0)) = true then 2 else stI l (k + 1) (n - (k + 1)) := by
  rw [show n - k = (n - (k + 1)) + 1 by omega]
  rfl
theorem stI_val {l : List (Int × Int)} : ∀ m k, stI l k m = 0 ∨ stI l k m = 5 ∨ stI l k m = 2
  | 0, k => .inl rfl
  | m + 1, k => by
    unfold stI
    split
    · exact .inr (.inl rfl)
    · split
      · exact .inr (.inr rfl)
      · exact stI_val m (k + 1)
theorem stI_ok {l : List (Int × Int)} : ∀ m k, stI l k m = 0 → ∀ i, k ≤ i → i < k + m → farP (l.getD i (0, 0)) = false ∧ (0 < i → leapN (l.getD (i - 1) (0, 0)) (l.getD i (0, 0)) = false)
  | 0, k, _, i, h1, h2 => by omega
  | m + 1, k, h, i, h1, h2 => by
    unfold stI at h
    split at h
    · cases h
    · rename_i hb
      split at h
      · cases h
      · rename_i hs
        by_cases e : i = k
        · subst e
          refine ⟨by simpa using hb, fun h0 => ?_⟩
          cases hq : leapN (l.getD (i - 1) (0, 0)) (l.getD i (0, 0))
          · rfl
          · exact absurd ⟨h0, hq⟩ hs
        · exact stI_ok m (k + 1) h i (by omega) (by omega)
/-- the places behind a, n of them -/
def segL (a : Int × Int) (d : Nat) : Nat → List (Int × Int)
  | 0 => []
  | n + 1 => segL a d n ++ [(a.1 + ((n + 1 : Nat) : Int) * stepX d, a.2 + ((n + 1 : Nat) : Int) * stepY d)]
theorem segL_length (a : Int × Int) (d : Nat) : ∀ n, (segL a d n).length = n
  | 0 => rfl
  | n + 1 => by rw [segL, List.length_append, segL_length a d n]; rfl
/-- the way to corner i -/
def outL (l : List (Int × Int)) : Nat → List (Int × Int)
  | 0 => [l.getD 0 (0, 0)]
  | i + 1 => outL l i ++ segL (l.getD i (0, 0)) (lpo l (i + 1)).1 (lpo l (i + 1)).2
theorem outL_length (l : List (Int × Int)) (i : Nat) : (outL l (i + 1)).length = (outL l i).length + (lpo l (i + 1)).2 := by
  rw [outL, List.length_append, segL_length]
theorem outL_mono (l : List (Int × Int)) {i : Nat} : ∀ {j}, i ≤ j → (outL l i).length ≤ (outL l j).length
  | 0, h => by
    obtain rfl : i = 0 := by omega
    exact Nat.le_refl _
  | j + 1, h => by
    by_cases e : i = j + 1
    · subst e; exact Nat.le_refl _
    · have := outL_mono l (i := i) (j := j) (by omega)
      rw [outL_length]
      omega
theorem outL_pos (l : List (Int × Int)) (i : Nat) : 1 ≤ (outL l i).length := outL_mono l (Nat.zero_le i)
def amtS (q : Nat) : Int := if q = 0 then 10 else if 65536 < q then 4 else 0
/-- the error of corners -/
def strE (l : List (Int × Int)) : Int := if amtS l.length ≠ 0 then amtS l.length else if stI l 0 l.length ≠ 0 then stI l 0 l.length else if 65536 < (outL l (l.length - 1)).length then 4 else 0
/-- corners between which steps lead -/
structure StrOk (l : List (Int × Int)) : Prop where
  pos : 1 ≤ l.length
  le : l.length ≤ 65536
  ok : ∀ i, i < l.length → farP (l.getD i (0, 0)) = false
  st : ∀ i, 0 < i → i < l.length → leapO ((l.getD i (0, 0)).1 - (l.getD (i - 1) (0, 0)).1) ((l.getD i (0, 0)).2 - (l.getD (i - 1) (0, 0)).2) = some (lpo l i) ∧ (lpo l i).1 < 8 ∧ 1 ≤ (lpo l i).2 ∧ (lpo l i).2 ≤ 8388608
theorem leapO_le {x y : Int} {d n : Nat} (h : leapO x y = some (d, n)) (h1 : -8388608 ≤ x ∧ x ≤ 8388608) (h2 : -8388608 ≤ y ∧ y ≤ 8388608) : n ≤ 8388608 := by
  obtain ⟨hd, hn, hx, hy⟩ := leapO_spec h
  have h8 : d = 0 ∨ d = 1 ∨ d = 2 ∨ d = 3 ∨ d = 4 ∨ d = 5 ∨ d = 6 ∨ d = 7 := by omega
  rcases h8 with rfl | rfl | rfl | rfl | rfl | rfl | rfl | rfl <;> simp [stepX, stepY] at hx hy <;> omega
theorem strOk {l : List (Int × Int)} (h0 : amtS l.length = 0) (h : stI l 0 l.length = 0) : StrOk l := by
  unfold amtS at h0
  split at h0
  · cases h0
  · split at h0
    · cases h0
    · have hk := stI_ok _ _ h
      refine ⟨by omega, by omega, fun i hi => (hk i (by omega) (by omega)).1, fun i hp hi => ?_⟩
      have hs := (hk i (by omega) (by omega)).2 hp
      have f1 := farP_false (hk i (by omega) (by omega)).1
      have f2 := farP_false (hk (i - 1) (by omega) (by omega)).1
      unfold leapN at hs
      cases hl : leapO ((l.getD i (0, 0)).1 - (l.getD (i - 1) (0, 0)).1) ((l.getD i (0, 0)).2 - (l.getD (i - 1) (0, 0)).2) with
      | none => rw [hl] at hs; cases hs
      | some p =>
        obtain ⟨d, n⟩ := p
        have e : lpo l i = (d, n) := by unfold lpo; rw [hl]; rfl
        have hsp := leapO_spec hl
        have hle := leapO_le hl (by omega) (by omega)
        rw [e]
        exact ⟨rfl, hsp.1, hsp.2.1, hle⟩
end Go.Proofs.Ytpgdinpckolfpaa
