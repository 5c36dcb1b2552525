/- Pure: integers as groups of seven bits: pack, unpack, and that unpack gives back what is packed. -/
import Derived.Test.YtdfegkpdnofdoaaWords
namespace Go.Proofs.Ytdfegkpdnofdoaa
open Go.RowKit

/-- an integer as a number: 2 n, or - 2 n - 1 -/
def zig (n : Int) : Nat := if n < 0 then (-2 * n - 1).toNat else (2 * n).toNat
/-- .. and back -/
def unz (m : Nat) : Int := if m % 2 = 1 then -(((m + 1) / 2 : Nat) : Int) else ((m / 2 : Nat) : Int)
theorem unz_zig (n : Int) : unz (zig n) = n := by
  unfold unz zig
  split <;> split <;> omega
/-- a number as bytes -/
def pk (m : Nat) : List UInt8 := if 128 ≤ m then UInt8.ofNat (m % 128 + 128) :: pk (m / 128) else [UInt8.ofNat m]
termination_by m
decreasing_by omega
theorem pk_small {m : Nat} (h : ¬ 128 ≤ m) : pk m = [UInt8.ofNat m] := by rw [pk, if_neg h]
theorem pk_large {m : Nat} (h : 128 ≤ m) : pk m = UInt8.ofNat (m % 128 + 128) :: pk (m / 128) := by rw [pk, if_pos h]
theorem pk_len : ∀ (k m : Nat), m < 128 ^ (k + 1) → (pk m).length ≤ k + 1
  | 0, m, h => by
    rw [pk_small (by omega)]
    simp
  | k + 1, m, h => by
    by_cases h1 : 128 ≤ m
    · rw [pk_large h1, List.length_cons]
      have h2 : m / 128 < 128 ^ (k + 1) := Nat.div_lt_of_lt_mul (by rw [← Nat.pow_succ']; exact h)
      have := pk_len k (m / 128) h2
      omega
    · rw [pk_small h1]
      simp
/-- integers as bytes -/
def packL (l : List Int) : List UInt8 := l.flatMap fun n => pk (zig n)
theorem packL_snoc (l : List Int) (n : Int) : packL (l ++ [n]) = packL l ++ pk (zig n) := by simp [packL]
theorem zig_bd {n : Int} (h1 : -1099511627776 ≤ n) (h2 : n ≤ 1099511627776) : zig n ≤ 2199023255552 := by
  unfold zig
  split <;> omega
theorem packL_len {l : List Int} (h : ∀ n ∈ l, -1099511627776 ≤ n ∧ n ≤ 1099511627776) : (packL l).length ≤ 6 * l.length := by
  induction l with
  | nil => simp [packL]
  | cons a l ih =>
    have h1 := ih (fun n hn => h n (by simp [hn]))
    have h2 := pk_len 5 (zig a) (Nat.lt_of_le_of_lt (zig_bd (h a (by simp)).1 (h a (by simp)).2) (by decide))
    unfold packL at h1 ⊢
    rw [List.flatMap_cons, List.length_append, List.length_cons]
    omega
/-- bytes as integers; m: what the groups of the number so far make, k: how many they are -/
def unp : List UInt8 → Nat → Nat → List Int → Option (List Int)
  | [], _, k, out => if k = 0 then some out else none
  | b :: t, m, k, out => if k = 9 then none
    else if 128 ≤ b.toNat then unp t (m + b.toNat % 128 * 128 ^ k) (k + 1) out
    else if b.toNat = 0 ∧ k ≠ 0 then none
    else unp t 0 0 (out ++ [unz (m + b.toNat * 128 ^ k)])
theorem pk_unp : ∀ (j x : Nat) (t : List UInt8) (m k : Nat) (out : List Int), x < 128 ^ (j + 1) → k + j < 9 → (k = 0 ∨ x ≠ 0) → unp (pk x ++ t) m k out = unp t 0 0 (out ++ [unz (m + x * 128 ^ k)])
  | 0, x, t, m, k, out, h1, h2, h3 => by
    have hb : (UInt8.ofNat x).toNat = x := by rw [UInt8.toNat_ofNat']; omega
    rw [pk_small (by omega), List.singleton_append, unp, if_neg (by omega), hb, if_neg (by omega), if_neg (by omega)]
  | j + 1, x, t, m, k, out, h1, h2, h3 => by
    by_cases hx : 128 ≤ x
    · have hb : (UInt8.ofNat (x % 128 + 128)).toNat = x % 128 + 128 := by rw [UInt8.toNat_ofNat']; omega
      have h4 : x / 128 < 128 ^ (j + 1) := Nat.div_lt_of_lt_mul (by rw [← Nat.pow_succ']; exact h1)
      rw [pk_large hx, List.cons_append, unp, if_neg (by omega), hb, if_pos (by omega), pk_unp j (x / 128) t _ (k + 1) out h4 (by omega) (.inr (by omega))]
      have e1 : (x % 128 + 128) % 128 = x % 128 := by omega
      have e2 : m + x % 128 * 128 ^ k + x / 128 * 128 ^ (k + 1) = m + x * 128 ^ k := by
        rw [Nat.pow_succ, Nat.mul_comm (128 ^ k) 128, ← Nat.mul_assoc, Nat.add_assoc, ← Nat.add_mul]
        congr 2
        omega
      rw [e1, e2]
    · have hb : (UInt8.ofNat x).toNat = x := by rw [UInt8.toNat_ofNat']; omega
      rw [pk_small hx, List.singleton_append, unp, if_neg (by omega), hb, if_neg (by omega), if_neg (by omega)]
/-- unpack gives back what is packed -/
theorem unp_pack : ∀ (l : List Int) (out : List Int), (∀ n ∈ l, -1099511627776 ≤ n ∧ n ≤ 1099511627776) → unp (packL l) 0 0 out = some (out ++ l)
  | [], out, _ => by simp [packL, unp]
  | a :: l, out, h => by
    have e : packL (a :: l) = pk (zig a) ++ packL l := by simp [packL]
    rw [e, pk_unp 5 (zig a) _ 0 0 out (Nat.lt_of_le_of_lt (zig_bd (h a (by simp)).1 (h a (by simp)).2) (by decide)) (by omega) (.inl rfl), unp_pack l _ (fun n hn => h n (by simp [hn]))]
    simp [unz_zig]
/-- the reference's inner loop: one number; its groups, how many they are, the last byte -/
def num1 : List UInt8 → Nat → Nat → Option (Nat × Nat × UInt8)
  | [], _, _ => none
  | b :: t, m, k => if k = 9 then none
    else if 128 ≤ b.toNat then num1 t (m + b.toNat % 128 * 128 ^ k) (k + 1)
    else some (m + b.toNat * 128 ^ k, k + 1, b)
theorem num1_unp : ∀ (t : List UInt8) (m k : Nat) (out : List Int), (t ≠ [] ∨ k ≠ 0) → unp t m k out = match num1 t m k with
    | none => none
    | some (x, j, b) => if b.toNat = 0 ∧ 1 < j then none else unp (t.drop (j - k)) 0 0 (out ++ [unz x])
  | [], m, k, out, h => by
    have hk : k ≠ 0 := by rcases h with h | h; exact absurd rfl h; exact h
    simp [unp, num1, hk]
  | b :: t, m, k, out, _ => by
    rw [unp, num1]
    by_cases h9 : k = 9
    · rw [if_pos h9, if_pos h9]
    · rw [if_neg h9, if_neg h9]
      by_cases hb : 128 ≤ b.toNat
      · rw [if_pos hb, if_pos hb, num1_unp t _ (k + 1) out (.inr (by omega))]
        cases hn : num1 t (m + b.toNat % 128 * 128 ^ k) (k + 1) with
        | none => rfl
        | some p =>
          obtain ⟨x, j, c⟩ := p
          have hj := num1_more t _ _ hn
          have e : (b :: t).drop (j - k) = t.drop (j - (k + 1)) := by
            rw [show j - k = (j - (k + 1)) + 1 by omega, List.drop_succ_cons]
          dsimp only
          rw [e]
      · rw [if_neg hb, if_neg hb]
        dsimp only
        rw [show k + 1 - k = 1 by omega, List.drop_succ_cons, List.drop_zero]
        by_cases h0 : b.toNat = 0 ∧ k ≠ 0
        · rw [if_pos h0, if_pos (by omega)]
        · rw [if_neg h0, if_neg (by omega)]
where
  num1_more : ∀ (t : List UInt8) (m k : Nat) {x j : Nat} {c : UInt8}, num1 t m k = some (x, j, c) → k < j
  | [], _, _, x, j, c, h => by cases h
  | b :: t, m, k, x, j, c, h => by
    rw [num1] at h
    split at h
    · cases h
    · split at h
      · have := num1_more t _ _ h
        omega
      · injection h with h
        injection h with _ h
        injection h with h _
        omega
/-- two sums of bytes -/
def sums : List UInt8 → Nat → Nat → Nat × Nat
  | [], a, b => (a, b)
  | c :: t, a, b => sums t ((a + c.toNat) % 65521) ((b + (a + c.toNat) % 65521) % 65521)
end Go.Proofs.Ytdfegkpdnofdoaa
