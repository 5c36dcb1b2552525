/- Steps and ways, plainly: the steps from a cell are those that cost something; the way to a cell. No program in sight. -/
import Derived.Test.YtpgdinpckolfpaaRdL
namespace Go.Proofs.Ytpgdinpckolfpaa
open Go.RowKit

theorem bes_leap {Wn Hn k t d n : Nat} (hW : 1 ≤ Wn) (h1 : 1 ≤ n) (hd : d < 8) (h : besK Wn Hn k d n = some t) : leapO (dX Wn k t) (dY Wn k t) = some (d, n) := by
  have key : ∀ a b (e f : Nat), t % Wn = e → t / Wn = f → (e : Int) = a + n * stepX d → (f : Int) = b + n * stepY d → (e : Int) - a = n * stepX d ∧ (f : Int) - b = n * stepY d := fun a b e f _ _ h3 h4 => by
    generalize (n : Int) * stepX d = x at *
    generalize (n : Int) * stepY d = y at *
    omega
  unfold besK at h
  split at h
  · rename_i hc
    obtain ⟨c1, c2, c3, c4⟩ := hc
    injection h with h
    obtain ⟨px, hpx⟩ : ∃ px, ((k % Wn : Nat) : Int) + n * stepX d = px := ⟨_, rfl⟩
    obtain ⟨py, hpy⟩ : ∃ py, ((k / Wn : Nat) : Int) + n * stepY d = py := ⟨_, rfl⟩
    rw [hpx] at h c1 c2
    rw [hpy] at h c3 c4
    have l1 : px.toNat < Wn := by omega
    have m1 : t % Wn = px.toNat := by rw [← h, Nat.mul_comm, Nat.mul_add_mod, Nat.mod_eq_of_lt l1]
    have m2 : t / Wn = py.toNat := by rw [← h, Nat.mul_comm, Nat.mul_add_div (by omega), Nat.div_eq_of_lt l1, Nat.add_zero]
    have e := key _ _ _ _ m1 m2 (by rw [hpx]; omega) (by rw [hpy]; omega)
    unfold dX dY
    rw [m1, m2, e.1, e.2]
    exact leapO_of hd h1
  · cases h
section
variable {R : RlR} {V : Nat → Nat} {Wn Hn N k d : Nat}
theorem topN_next {n t : Nat} (h1 : 1 ≤ n) (h : besK Wn Hn k d n = some t) : topN V Wn Hn k d n = maxF (topN V Wn Hn k d (n - 1)) (V t) := by
  obtain ⟨m, rfl⟩ : ∃ m, n = m + 1 := ⟨n - 1, by omega⟩
  rw [topN, h]
  rfl
theorem edD_mem : ∀ m n t c, 1 ≤ n → (t, c) ∈ edD R V Wn Hn k d m n (topN V Wn Hn k d (n - 1)) → ∃ i, n ≤ i ∧ i < n + m ∧ besK Wn Hn k d i = some t ∧ costF R V k t d i (topN V Wn Hn k d (i - 1)) = some c
  | 0, _, _, _, _, h => by cases h
  | m + 1, n, t, c, h1, h => by
    unfold edD at h
    split at h
    · cases h
    · rename_i t' hb
      rcases List.mem_append.1 h with h3 | h3
      · split at h3
        · rename_i c' hc
          simp at h3
          obtain ⟨rfl, rfl⟩ := h3
          exact ⟨n, Nat.le_refl _, by omega, hb, hc⟩
        · cases h3
      · rw [← topN_next h1 hb] at h3
        have e : n + 1 - 1 = n := by omega
        obtain ⟨i, a1, a2, a3, a4⟩ := edD_mem m (n + 1) t c (by omega) (by rw [e]; exact h3)
        exact ⟨i, by omega, by omega, a3, a4⟩
theorem mem_edD (hW : 1 ≤ Wn) (hk : k < Wn * Hn) : ∀ m n t c i, 1 ≤ n → n ≤ i → i < n + m → besK Wn Hn k d i = some t → costF R V k t d i (topN V Wn Hn k d (i - 1)) = some c → (t, c) ∈ edD R V Wn Hn k d m n (topN V Wn Hn k d (n - 1))
  | 0, n, t, c, i, _, h2, h3, _, _ => by omega
  | m + 1, n, t, c, i, h1, h2, h3, hb, hc => by
    obtain ⟨t', ht'⟩ := besK_mono hW hk hb h2
    unfold edD
    rw [ht']
    simp only
    refine List.mem_append.2 ?_
    by_cases e : n = i
    · subst e
      left
      rw [hb] at ht'
      injection ht' with ht'
      subst ht'
      rw [hc]
      simp
    · right
      rw [← topN_next h1 ht']
      have h := mem_edD hW hk m (n + 1) t c i (by omega) (by omega) (by omega) hb hc
      have e : n + 1 - 1 = n := by omega
      rw [e] at h
      exact h
theorem edM_mem : ∀ m t c, m ≤ 8 → (t, c) ∈ edM R V Wn Hn k m → ∃ d i, d < 8 ∧ 1 ≤ i ∧ i ≤ spanN R ∧ besK Wn Hn k d i = some t ∧ costF R V k t d i (topN V Wn Hn k d (i - 1)) = some c
  | 0, _, _, _, h => by cases h
  | m + 1, t, c, hm, h => by
    rcases List.mem_append.1 h with h3 | h3
    · obtain ⟨i, a1, a2, a3, a4⟩ := edD_mem (spanN R) 1 t c (Nat.le_refl _) h3
      exact ⟨7 - m, i, by omega, a1, by omega, a3, a4⟩
    · exact edM_mem m t c (by omega) h3
theorem mem_edM (hW : 1 ≤ Wn) (hk : k < Wn * Hn) {t c i : Nat} (hi : 1 ≤ i) (hs : i ≤ spanN R) (hb : besK Wn Hn k d i = some t) (hc : costF R V k t d i (topN V Wn Hn k d (i - 1)) = some c) : ∀ m, m ≤ 8 → d < 8 → 8 - m ≤ d → (t, c) ∈ edM R V Wn Hn k m
  | 0, _, h2, h3 => by omega
  | m + 1, hm, h2, h3 => by
    refine List.mem_append.2 ?_
    by_cases e : 7 - m = d
    · left
      rw [e]
      exact mem_edD hW hk (spanN R) 1 t c i (Nat.le_refl _) hi (by omega) hb hc
    · right
      exact mem_edM hW hk hi hs hb hc m (by omega) h2 (by omega)
/-- the steps from a cell are those that cost something -/
theorem edK_iff (hW : 1 ≤ Wn) (hk : k < Wn * Hn) {t c : Nat} (ht : t < Wn * Hn) : (t, c) ∈ edK R V Wn Hn k ↔ stepF R V Wn Hn k t = some c := by
  constructor
  · intro h
    obtain ⟨d, i, h1, h2, h3, h4, h5⟩ := edM_mem 8 t c (Nat.le_refl _) h
    unfold stepF
    rw [bes_leap hW h2 h1 h4]
    simp only
    rw [if_pos h3]
    exact h5
  · intro h
    unfold stepF at h
    split at h
    · cases h
    · rename_i d n hlp
      split at h
      · rename_i hn
        obtain ⟨h1, h2, _, h4⟩ := leap_grid hW hk ht hlp
        exact mem_edM hW hk h2 hn h4 h 8 (Nat.le_refl _) h1 (by omega)
      · cases h
end
/-- p is the first cell ahead of k -/
def IsB (R : RlR) (V : Nat → Nat) (Wn Hn N : Nat) (H : Nat → Int) (P : Nat → Nat) (k p : Nat) : Prop := p < N ∧ good R V Wn Hn H P k p ∧ ∀ q, q < N → good R V Wn Hn H P k q → p ≤ q
/-- the way back from a cell -/
inductive Chain (R : RlR) (V : Nat → Nat) (Wn Hn N : Nat) (H : Nat → Int) (P : Nat → Nat) : Nat → List Nat → Prop
  | last {k : Nat} : H k ≤ 0 → Chain R V Wn Hn N H P k [k]
  | next {k p : Nat} {ys : List Nat} : 0 < H k → IsB R V Wn Hn N H P k p → Chain R V Wn Hn N H P p ys → Chain R V Wn Hn N H P k (k :: ys)
theorem Chain.unique {R : RlR} {V : Nat → Nat} {Wn Hn N : Nat} {H : Nat → Int} {P : Nat → Nat} {k : Nat} {xs : List Nat} (h : Chain R V Wn Hn N H P k xs) : ∀ {ys}, Chain R V Wn Hn N H P k ys → xs = ys := by
  induction h with
  | last h0 =>
    intro ys h2
    cases h2 with
    | last _ => rfl
    | next h3 _ _ => omega
  | next h0 hb _ ih =>
    intro ys h2
    cases h2 with
    | last h3 => omega
    | next _ hb2 hc2 =>
      obtain ⟨a1, a2, a3⟩ := hb
      obtain ⟨b1, b2, b3⟩ := hb2
      have e := Nat.le_antisymm (a3 _ b1 b2) (b3 _ a1 a2)
      subst e
      rw [ih hc2]
/-- where steps lead to a cell, there is one ahead of it -/
theorem VB.isB {R : RlR} {V : Nat → Nat} {Wn Hn N src : Nat} {H : Nat → Int} {P : Nat → Nat} {k best : Nat} (h : VB R V Wn Hn N H P k 8 1 best) (hW : 1 ≤ Wn) (hN : N = Wn * Hn) (hk : k < N) (hH : HopOk N (edA R V Wn Hn N) src (tgt P) H) (h0 : 0 < H k) : IsB R V Wn Hn N H P k best := by
  obtain ⟨h1, h2⟩ := h.fin hW hN hk
  rcases h1 with h1 | h1
  · exfalso
    obtain ⟨n, b, hn, hm, ht, he⟩ := hH.h3 k hk h0
    rw [edA_at hn] at hm
    have hs := (edK_iff hW (by rw [← hN]; exact hn) (by rw [← hN]; exact hk)).1 hm
    have := h2 n hn ⟨he, b, hs, ht⟩
    omega
  · exact ⟨h1.1, h1.2, h2⟩
end Go.Proofs.Ytpgdinpckolfpaa
