/- By how many tight steps cells are reached, plainly: a queue that grows while it is gone through. No program in sight. -/
import Derived.Test.YtpgdinpckolfpaaRdP
namespace Go.Proofs.Ytpgdinpckolfpaa
open Go.RowKit

theorem getD_nat {l : List Nat} {i : Nat} (h : i < l.length) : l.getD i 0 = l[i] := by simp [List.getD_eq_getElem?_getD, h]
theorem nodup_le : ∀ {N : Nat} {L : List Nat}, L.Nodup → (∀ k ∈ L, k < N) → L.length ≤ N
  | 0, [], _, _ => Nat.le_refl _
  | 0, a :: L, _, h => absurd (h a (by simp)) (by omega)
  | N + 1, L, hn, hl => by
    by_cases hm : N ∈ L
    · have h1 := nodup_le (N := N) (hn.erase N) (fun k hk => by
        have h2 := (hn.mem_erase_iff).1 hk
        have h3 := hl k h2.2
        have := h2.1
        omega)
      rw [List.length_erase_of_mem hm] at h1
      omega
    · have h1 := nodup_le (N := N) hn (fun k hk => by
        have h3 := hl k hk
        have : k ≠ N := fun e => hm (e ▸ hk)
        omega)
      omega

/-- what the numbers of steps are -/
structure HopOk (N : Nat) (E : Nat → List (Nat × Nat)) (src : Nat) (T : Nat → Nat → Nat → Bool) (H : Nat → Int) : Prop where
  h0 : H src = 0
  h1 : ∀ k, k < N → H k = -1 ∨ 0 ≤ H k
  h2 : ∀ n m b, n < N → 0 ≤ H n → (m, b) ∈ E n → T n m b = true → 0 ≤ H m ∧ H m ≤ H n + 1
  h3 : ∀ m, m < N → 0 < H m → ∃ n b, n < N ∧ (m, b) ∈ E n ∧ T n m b = true ∧ H n = H m - 1
  h4 : ∀ k, k < N → H k = 0 → k = src
/-- what holds while the queue l is gone through: i cells are done; c: the edges of cell i that are left -/
structure HJ (N : Nat) (E : Nat → List (Nat × Nat)) (src : Nat) (T : Nat → Nat → Nat → Bool) (i : Nat) (c : Option (List (Nat × Nat))) (H : Nat → Int) (l : List Nat) : Prop where
  q0 : ∀ x ∈ l, x < N ∧ 0 ≤ H x
  q1 : ∀ k, k < N → 0 ≤ H k → k ∈ l
  q2 : l.Nodup
  q3 : H src = 0
  q4 : ∀ k, k < N → H k = -1 ∨ 0 ≤ H k
  q5 : ∀ a b, a ≤ b → b < l.length → H (l.getD a 0) ≤ H (l.getD b 0)
  q6 : i < l.length → ∀ x ∈ l, H x ≤ H (l.getD i 0) + 1
  q7 : ∀ a, a < i → a < l.length → ∀ m b, (m, b) ∈ E (l.getD a 0) → T (l.getD a 0) m b = true → 0 ≤ H m ∧ H m ≤ H (l.getD a 0) + 1
  q8 : ∀ m, m < N → 0 < H m → ∃ n b, n < N ∧ (m, b) ∈ E n ∧ T n m b = true ∧ H n = H m - 1
  q10 : ∀ k, k < N → H k = 0 → k = src
  q9 : ∀ L, c = some L → i < l.length ∧ ∀ m b, (m, b) ∈ E (l.getD i 0) → (m, b) ∈ L ∨ (T (l.getD i 0) m b = true → 0 ≤ H m ∧ H m ≤ H (l.getD i 0) + 1)
section
variable {N : Nat} {E : Nat → List (Nat × Nat)} {src : Nat} {T : Nat → Nat → Nat → Bool} {i : Nat} {H : Nat → Int} {l : List Nat}
theorem HJ.len {c : Option (List (Nat × Nat))} (h : HJ N E src T i c H l) : l.length ≤ N := nodup_le h.q2 fun k hk => (h.q0 k hk).1
theorem HJ.zero (hs : src < N) : HJ N E src T 0 none (updF (fun _ => -1) src 0) [src] := by
  have e1 : ∀ k, 0 ≤ updF (fun _ => (-1 : Int)) src 0 k → k = src := fun k hk => by
    unfold updF at hk
    split at hk
    · assumption
    · have h1 : (0 : Int) ≤ -1 := hk
      omega
  refine ⟨fun x hx => ?_, fun k _ hk => by rw [e1 k hk]; simp, by simp, updF_same _ _ _, fun k _ => ?_, fun a b hab hb => ?_, fun _ x hx => ?_, fun a ha => by omega, fun m _ hm => ?_, fun k _ hk => e1 k (by omega), fun L e => by cases e⟩
  · simp at hx
    subst hx
    exact ⟨hs, by rw [updF_same]; omega⟩
  · unfold updF
    split
    · right; omega
    · left; rfl
  · simp at hb
    obtain rfl : a = 0 := by omega
    obtain rfl : b = 0 := by omega
    exact Int.le_refl _
  · simp at hx
    subst hx
    simp
    omega
  · have := e1 m (by omega)
    subst this
    rw [updF_same] at hm
    omega
theorem HJ.begin (h : HJ N E src T i none H l) (hi : i < l.length) : HJ N E src T i (some (E (l.getD i 0))) H l :=
  ⟨h.q0, h.q1, h.q2, h.q3, h.q4, h.q5, h.q6, h.q7, h.q8, h.q10, fun L e => by injection e with e; subst e; exact ⟨hi, fun m b hm => .inl hm⟩⟩
theorem HJ.stay {m b : Nat} {L : List (Nat × Nat)} (h : HJ N E src T i (some ((m, b) :: L)) H l) (hm : m < N) (hn : H m ≠ -1 ∨ T (l.getD i 0) m b = false) : HJ N E src T i (some L) H l := by
  obtain ⟨hi, h9⟩ := h.q9 _ rfl
  refine ⟨h.q0, h.q1, h.q2, h.q3, h.q4, h.q5, h.q6, h.q7, h.q8, h.q10, fun L' e => ?_⟩
  injection e with e
  subst e
  refine ⟨hi, fun m' b' hm' => ?_⟩
  rcases h9 m' b' hm' with h1 | h1
  · rcases List.mem_cons.1 h1 with h2 | h2
    · injection h2 with h3 h4
      subst h3
      subst h4
      refine .inr fun ht => ?_
      rcases hn with hn | hn
      · have h0 : 0 ≤ H m' := by rcases h.q4 m' hm with e | e; exact absurd e hn; exact e
        exact ⟨h0, h.q6 hi _ (h.q1 _ hm h0)⟩
      · rw [hn] at ht; cases ht
    · exact .inl h2
  · exact .inr h1
theorem HJ.push {m b : Nat} {L : List (Nat × Nat)} (h : HJ N E src T i (some ((m, b) :: L)) H l) (hmE : (m, b) ∈ E (l.getD i 0)) (hm : m < N) (hn : H m = -1) (ht : T (l.getD i 0) m b = true) : HJ N E src T i (some L) (updF H m (H (l.getD i 0) + 1)) (l ++ [m]) := by
  obtain ⟨hi, h9⟩ := h.q9 _ rfl
  have hml : m ∉ l := fun hh => by have := (h.q0 m hh).2; omega
  have hne : ∀ x ∈ l, x ≠ m := fun x hx e => hml (e ▸ hx)
  have ea : ∀ a, a < l.length → (l ++ [m]).getD a 0 = l.getD a 0 := fun a ha => by simp [List.getD_eq_getElem?_getD, List.getElem?_append_left ha]
  have el : (l ++ [m]).getD l.length 0 = m := by simp [List.getD_eq_getElem?_getD]
  have em : ∀ a, a < l.length → l.getD a 0 ∈ l := fun a ha => by rw [getD_nat ha]; exact List.getElem_mem ha
  have eu : ∀ a, a < l.length → updF H m (H (l.getD i 0) + 1) (l.getD a 0) = H (l.getD a 0) := fun a ha => updF_ne _ _ (hne _ (em a ha))
  have h0 := (h.q0 _ (em i hi)).2
  have hsm : src ≠ m := fun e => by have := h.q3; rw [e, hn] at this; omega
  have key : ∀ m' (v : Int), 0 ≤ H m' ∧ H m' ≤ v → 0 ≤ updF H m (H (l.getD i 0) + 1) m' ∧ updF H m (H (l.getD i 0) + 1) m' ≤ v := fun m' v ⟨a, b⟩ => by
    have : m' ≠ m := fun e => by subst e; omega
    rw [updF_ne _ _ this]
    exact ⟨a, b⟩
  refine ⟨fun x hx => ?_, fun k hk h1 => ?_, ?_, by rw [updF_ne _ _ hsm]; exact h.q3, fun k hk => ?_, fun a c hac hc => ?_, fun _ x hx => ?_, fun a ha hal m' b' hm' ht' => ?_, fun m' hm' h1 => ?_, fun k hk h1 => ?_, fun L' e => ?_⟩
  · rcases List.mem_append.1 hx with h1 | h1
    · rw [updF_ne _ _ (hne x h1)]
      exact h.q0 x h1
    · simp at h1
      subst h1
      rw [updF_same]
      exact ⟨hm, by omega⟩
  · by_cases e : k = m
    · subst e; simp
    · rw [updF_ne _ _ e] at h1
      exact List.mem_append_left _ (h.q1 k hk h1)
  · rw [List.nodup_append]
    refine ⟨h.q2, by simp, fun x hx y hy => ?_⟩
    simp at hy
    subst hy
    exact hne x hx
  · by_cases e : k = m
    · subst e
      rw [updF_same]
      right
      omega
    · rw [updF_ne _ _ e]
      exact h.q4 k hk
  · simp at hc
    by_cases e : c = l.length
    · subst e
      rw [el, updF_same]
      by_cases e2 : a = l.length
      · subst e2
        rw [el, updF_same]
        exact Int.le_refl _
      · rw [ea a (by omega), eu a (by omega)]
        exact h.q6 hi _ (em a (by omega))
    · rw [ea c (by omega), ea a (by omega), eu c (by omega), eu a (by omega)]
      exact h.q5 a c hac (by omega)
  · rw [ea i hi, eu i hi]
    rcases List.mem_append.1 hx with h1 | h1
    · rw [updF_ne _ _ (hne x h1)]
      exact h.q6 hi x h1
    · simp at h1
      subst h1
      rw [updF_same]
      exact Int.le_refl _
  · have hl : a < l.length := by omega
    rw [ea a hl] at hm' ht' ⊢
    rw [eu a hl]
    exact key _ _ (h.q7 a ha hl m' b' hm' ht')
  · by_cases e : m' = m
    · subst e
      refine ⟨l.getD i 0, b, (h.q0 _ (em i hi)).1, hmE, ht, ?_⟩
      rw [updF_same, eu i hi]
      omega
    · rw [updF_ne _ _ e] at h1 ⊢
      obtain ⟨n, c, h2, h3, h4, h5⟩ := h.q8 m' hm' h1
      have : n ≠ m := fun e => by subst e; omega
      exact ⟨n, c, h2, h3, h4, by rw [updF_ne _ _ this]; exact h5⟩
  · by_cases e : k = m
    · subst e
      rw [updF_same] at h1
      omega
    · rw [updF_ne _ _ e] at h1
      exact h.q10 k hk h1
  · injection e with e
    subst e
    refine ⟨by simp; omega, fun m' b' hm' => ?_⟩
    rw [ea i hi] at hm' ⊢
    rw [eu i hi]
    rcases h9 m' b' hm' with h1 | h1
    · rcases List.mem_cons.1 h1 with h2 | h2
      · injection h2 with h3 h4
        subst h3
        subst h4
        refine .inr fun _ => ?_
        rw [updF_same]
        exact ⟨by omega, Int.le_refl _⟩
      · exact .inl h2
    · exact .inr fun ht' => key _ _ (h1 ht')
theorem HJ.next (h : HJ N E src T i (some []) H l) : HJ N E src T (i + 1) none H l := by
  obtain ⟨hi, h9⟩ := h.q9 _ rfl
  refine ⟨h.q0, h.q1, h.q2, h.q3, h.q4, h.q5, fun h1 x hx => ?_, fun a ha hal m b hm ht => ?_, h.q8, h.q10, fun L e => by cases e⟩
  · have := h.q6 hi x hx
    have := h.q5 i (i + 1) (by omega) h1
    omega
  · by_cases e : a = i
    · subst e
      rcases h9 m b hm with h1 | h1
      · cases h1
      · exact h1 ht
    · exact h.q7 a (by omega) hal m b hm ht
theorem HJ.fin (h : HJ N E src T i none H l) (hi : l.length ≤ i) : HopOk N E src T H := by
  refine ⟨h.q3, h.q4, fun n m b hn h0 hm ht => ?_, h.q8, h.q10⟩
  obtain ⟨a, ha, rfl⟩ := List.mem_iff_getElem.1 (h.q1 n hn h0)
  have e := getD_nat ha
  rw [← e] at hm ht ⊢
  exact h.q7 a (by omega) ha m b hm ht
/-- the numbers of steps are one -/
theorem HopOk.le {H' : Nat → Int} (h : HopOk N E src T H) (h' : HopOk N E src T H') : ∀ (n : Nat) (k : Nat), k < N → H k = n → 0 ≤ H' k ∧ H' k ≤ H k := by
  intro n
  induction n with
  | zero =>
    intro k hk e
    obtain rfl := h.h4 k hk e
    rw [h'.h0, h.h0]
    omega
  | succ n ih =>
    intro k hk e
    obtain ⟨p, b, h1, h2, h3, h4⟩ := h.h3 k hk (by omega)
    obtain ⟨h5, h6⟩ := ih p h1 (by omega)
    obtain ⟨h7, h8⟩ := h'.h2 p k b h1 h5 h2 h3
    exact ⟨h7, by omega⟩
theorem HopOk.unique {H' : Nat → Int} (h : HopOk N E src T H) (h' : HopOk N E src T H') {k : Nat} (hk : k < N) : H k = H' k := by
  rcases h.h1 k hk with e | e
  · rcases h'.h1 k hk with e' | e'
    · rw [e, e']
    · have := h'.le h (H' k).toNat k hk (by omega)
      omega
  · have h1 := h.le h' (H k).toNat k hk (by omega)
    have h2 := h'.le h (H' k).toNat k hk (by omega)
    omega
end
end Go.Proofs.Ytpgdinpckolfpaa
