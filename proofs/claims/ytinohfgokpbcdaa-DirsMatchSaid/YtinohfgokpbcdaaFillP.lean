/- The least spills, plainly: what they are, that they are one, and how a heap finds them. No program in sight. -/
import Derived.Test.YtinohfgokpbcdaaGridB
import Derived.Test.YtinohfgokpbcdaaKeyB
namespace Go.Proofs.Ytinohfgokpbcdaa
open Go.RowKit

section
variable (N : Nat) (nb : Nat → Nat → Option Nat) (edge : Nat → Bool) (H : Nat → Int) (up : Int → Int)

/-- z is the spill of a way to k -/
inductive Way : Nat → Int → Prop
  | start {k : Nat} : k < N → edge k = true → Way k (H k)
  | step {n d k : Nat} {z : Int} : Way n z → n < N → d < 8 → nb n d = some k → k < N → Way k (max (H k) (up z))
def Least (r : Nat → Int) : Prop := (∀ k, k < N → Way N nb edge H up k (r k)) ∧ ∀ k z, Way N nb edge H up k z → r k ≤ z
variable {N nb edge H up}
theorem Least.unique {r r' : Nat → Int} (h : Least N nb edge H up r) (h' : Least N nb edge H up r') {k : Nat} (hk : k < N) : r k = r' k :=
  Int.le_antisymm (h.2 k _ (h'.1 k hk)) (h'.2 k _ (h.1 k hk))
theorem Least.mk' (mono : ∀ x y, x ≤ y → up x ≤ up y) {r : Nat → Int} (ha : ∀ k, k < N → Way N nb edge H up k (r k)) (hb : ∀ k, k < N → edge k = true → r k ≤ H k)
    (hc : ∀ n d k, n < N → d < 8 → nb n d = some k → k < N → r k ≤ max (H k) (up (r n))) : Least N nb edge H up r := ⟨ha, fun k z hw => by
  induction hw with
  | start hk he => exact hb _ hk he
  | @step n d k z hw hn hd hnb hk ih =>
    have h1 := hc n d k hn hd hnb hk
    have h2 := mono _ _ ih
    omega⟩

/-- what holds while the heap is looked at; c: the cell whose neighbours are looked at, up to which direction, and its spill -/
structure DI (N : Nat) (nb : Nat → Nat → Option Nat) (edge : Nat → Bool) (H : Nat → Int) (up : Int → Int) (c : Option (Nat × Nat × Int)) (done seen : Nat → Bool) (o : Nat → Int) (xs : List (Int × Nat)) : Prop where
  h1 : ∀ z k, (z, k) ∈ xs → k < N ∧ seen k = true ∧ o k ≤ z
  h2 : ∀ k, k < N → seen k = true → done k = false → (o k, k) ∈ xs
  h3 : ∀ k, k < N → done k = true → seen k = true
  h4 : ∀ k, k < N → done k = true → ∀ z j, (z, j) ∈ xs → o k ≤ z
  h5 : ∀ k, k < N → seen k = true → Way N nb edge H up k (o k)
  h6 : ∀ k, k < N → edge k = true → seen k = true ∧ o k = H k
  h7 : ∀ n d m, n < N → done n = true → d < 8 → nb n d = some m → (∀ k0 d0 z0, c = some (k0, d0, z0) → n = k0 → d < d0) → seen m = true ∧ o m ≤ max (H m) (up (o n))
  h8 : ∀ k0 d0 z0, c = some (k0, d0, z0) → k0 < N ∧ done k0 = true ∧ o k0 = z0 ∧ (∀ k, k < N → done k = true → o k ≤ z0) ∧ ∀ z j, (z, j) ∈ xs → z0 ≤ z

def updF {α : Type} (f : Nat → α) (i : Nat) (x : α) : Nat → α := fun k => if k = i then x else f k
theorem updF_same {α : Type} (f : Nat → α) (i : Nat) (x : α) : updF f i x i = x := if_pos rfl
theorem updF_ne {α : Type} (f : Nat → α) {i k : Nat} (x : α) (h : k ≠ i) : updF f i x k = f k := if_neg h

theorem DI.perm {c : Option (Nat × Nat × Int)} {done seen : Nat → Bool} {o : Nat → Int} {xs ys : List (Int × Nat)} (h : DI N nb edge H up c done seen o xs) (hp : ys.Perm xs) : DI N nb edge H up c done seen o ys :=
  ⟨fun z k hm => h.h1 z k (hp.mem_iff.1 hm), fun k a b c => hp.mem_iff.2 (h.h2 k a b c), h.h3, fun k a b z j hm => h.h4 k a b z j (hp.mem_iff.1 hm), h.h5, h.h6, h.h7,
    fun k0 d0 z0 e => ⟨(h.h8 k0 d0 z0 e).1, (h.h8 k0 d0 z0 e).2.1, (h.h8 k0 d0 z0 e).2.2.1, (h.h8 k0 d0 z0 e).2.2.2.1, fun z j hm => (h.h8 k0 d0 z0 e).2.2.2.2 z j (hp.mem_iff.1 hm)⟩⟩
/-- the first one was looked at already -/
theorem DI.skip {done seen : Nat → Bool} {o : Nat → Int} {z : Int} {k0 : Nat} {xs : List (Int × Nat)} (h : DI N nb edge H up none done seen o ((z, k0) :: xs)) (hd : done k0 = true) : DI N nb edge H up none done seen o xs :=
  ⟨fun z k hm => h.h1 z k (List.mem_cons_of_mem _ hm), fun k a b c => by
    rcases List.mem_cons.1 (h.h2 k a b c) with e | e
    · injection e with _ e
      subst e
      rw [hd] at c
      cases c
    · exact e, h.h3, fun k a b z j hm => h.h4 k a b z j (List.mem_cons_of_mem _ hm), h.h5, h.h6, h.h7, fun _ _ _ e => by cases e⟩
theorem DI.value {done seen : Nat → Bool} {o : Nat → Int} {z : Int} {k0 : Nat} {xs : List (Int × Nat)} (h : DI N nb edge H up none done seen o ((z, k0) :: xs)) (hl : ∀ y j, (y, j) ∈ xs → z ≤ y) (hd : done k0 = false) : k0 < N ∧ o k0 = z := by
  obtain ⟨a, b, c⟩ := h.h1 z k0 (List.mem_cons_self ..)
  refine ⟨a, ?_⟩
  rcases List.mem_cons.1 (h.h2 k0 a b hd) with e | e
  · injection e with e _
  · have := hl _ _ e
    omega
/-- the first one is looked at now -/
theorem DI.take {done seen : Nat → Bool} {o : Nat → Int} {z : Int} {k0 : Nat} {xs : List (Int × Nat)} (h : DI N nb edge H up none done seen o ((z, k0) :: xs)) (hl : ∀ y j, (y, j) ∈ xs → z ≤ y) (hd : done k0 = false) : DI N nb edge H up (some (k0, 0, z)) (updF done k0 true) seen o xs := by
  obtain ⟨hk0, hz⟩ := h.value hl hd
  obtain ⟨_, hs0, _⟩ := h.h1 z k0 (List.mem_cons_self ..)
  have hdn : ∀ k, updF done k0 true k = true → k = k0 ∨ done k = true := fun k hk => by
    by_cases e : k = k0
    · exact .inl e
    · rw [updF_ne _ _ e] at hk; exact .inr hk
  refine ⟨fun z k hm => h.h1 z k (List.mem_cons_of_mem _ hm), fun k a b c => ?_, fun k a b => ?_, fun k a b z' j hm => ?_, h.h5, h.h6, fun n d m hn hdo hd8 hnb hc => ?_, fun k1 d1 z1 e => ?_⟩
  · by_cases e : k = k0
    · subst e; rw [updF_same] at c; cases c
    · rw [updF_ne _ _ e] at c
      rcases List.mem_cons.1 (h.h2 k a b c) with e2 | e2
      · injection e2 with _ e2
        exact absurd e2 e
      · exact e2
  · rcases hdn k b with rfl | h2
    · exact hs0
    · exact h.h3 k a h2
  · rcases hdn k b with rfl | h2
    · have := hl _ _ hm; omega
    · exact h.h4 k a h2 _ _ (List.mem_cons_of_mem _ hm)
  · rcases hdn n hdo with rfl | h2
    · have := hc _ _ _ rfl rfl; omega
    · exact h.h7 n d m hn h2 hd8 hnb (fun _ _ _ e => by cases e)
  · injection e with e
    injection e with e1 e2
    injection e2 with e2 e3
    subst e1
    subst e2
    subst e3
    refine ⟨hk0, updF_same _ _ _, hz, fun k a b => ?_, hl⟩
    rcases hdn k b with rfl | h2
    · omega
    · exact h.h4 k a h2 _ _ (List.mem_cons_self ..)
/-- all directions are looked at -/
theorem DI.all {done seen : Nat → Bool} {o : Nat → Int} {z : Int} {k0 : Nat} {xs : List (Int × Nat)} (h : DI N nb edge H up (some (k0, 8, z)) done seen o xs) : DI N nb edge H up none done seen o xs :=
  ⟨h.h1, h.h2, h.h3, h.h4, h.h5, h.h6, fun n d m hn hd h8 hnb _ => h.h7 n d m hn hd h8 hnb (fun _ _ _ e _ => by injection e with e; injection e with _ e; injection e with e _; omega), fun _ _ _ e => by cases e⟩
/-- there is no neighbour -/
theorem DI.miss {done seen : Nat → Bool} {o : Nat → Int} {z : Int} {k0 d0 : Nat} {xs : List (Int × Nat)} (h : DI N nb edge H up (some (k0, d0, z)) done seen o xs) (hn : nb k0 d0 = none) : DI N nb edge H up (some (k0, d0 + 1, z)) done seen o xs :=
  ⟨h.h1, h.h2, h.h3, h.h4, h.h5, h.h6, fun n d m hn' hd h8 hnb hc => h.h7 n d m hn' hd h8 hnb (fun k1 d1 z1 e e2 => by
      injection e with e
      injection e with e1 e3
      injection e3 with e3 e4
      subst e1
      subst e3
      subst e4
      have := hc _ _ _ rfl e2
      rcases Nat.lt_or_eq_of_le (Nat.le_of_lt_succ this) with hlt | heq
      · exact hlt
      · subst heq
        subst e2
        rw [hn] at hnb
        cases hnb), fun k1 d1 z1 e => by
      injection e with e
      injection e with e1 e3
      injection e3 with e3 e4
      subst e1
      subst e4
      exact h.h8 _ _ _ rfl⟩
/-- a neighbour that stays as it is -/
theorem DI.stay {done seen : Nat → Bool} {o : Nat → Int} {z : Int} {k0 d0 m : Nat} {xs : List (Int × Nat)} (h : DI N nb edge H up (some (k0, d0, z)) done seen o xs) (hnb : nb k0 d0 = some m) (hm : m < N) (infl : z ≤ up z)
    (hs : done m = true ∨ seen m = true ∧ ¬ max (H m) (up z) < o m) : DI N nb edge H up (some (k0, d0 + 1, z)) done seen o xs := by
  obtain ⟨a1, a2, a3, a4, a5⟩ := h.h8 _ _ _ rfl
  refine ⟨h.h1, h.h2, h.h3, h.h4, h.h5, h.h6, fun n d m' hn' hd h8 hnb' hc => ?_, fun k1 d1 z1 e => by
      injection e with e
      injection e with e1 e3
      injection e3 with e3 e4
      subst e1
      subst e4
      exact h.h8 _ _ _ rfl⟩
  by_cases hh : n = k0 ∧ d = d0
  · obtain ⟨rfl, rfl⟩ := hh
    rw [hnb] at hnb'
    injection hnb' with hnb'
    subst hnb'
    rcases hs with hs | ⟨hs1, hs2⟩
    · refine ⟨h.h3 m hm hs, ?_⟩
      have := a4 m hm hs
      rw [a3]
      omega
    · refine ⟨hs1, ?_⟩
      rw [a3]
      omega
  · refine h.h7 n d m' hn' hd h8 hnb' (fun k1 d1 z1 e e2 => ?_)
    injection e with e
    injection e with e1 e3
    injection e3 with e3 e4
    subst e1
    subst e3
    subst e4
    have := hc _ _ _ rfl e2
    omega
/-- a neighbour that is reached anew, or by a lesser spill -/
theorem DI.push {done seen : Nat → Bool} {o : Nat → Int} {z : Int} {k0 d0 m : Nat} {xs : List (Int × Nat)} (h : DI N nb edge H up (some (k0, d0, z)) done seen o xs) (hd0 : d0 < 8) (hnb : nb k0 d0 = some m) (hm : m < N) (infl : z ≤ up z)
    (hd : done m = false) (hs : seen m = false ∨ max (H m) (up z) < o m) : DI N nb edge H up (some (k0, d0 + 1, z)) done (updF seen m true) (updF o m (max (H m) (up z))) (xs ++ [(max (H m) (up z), m)]) := by
  obtain ⟨a1, a2, a3, a4, a5⟩ := h.h8 _ _ _ rfl
  have hne : ∀ k, done k = true → k ≠ m := fun k hk e => by subst e; rw [hd] at hk; cases hk
  have hlow : seen m = true → max (H m) (up z) < o m := fun hh => by
    rcases hs with hs | hs
    · rw [hs] at hh; cases hh
    · exact hs
  refine ⟨fun z' k hmem => ?_, fun k a b c => ?_, fun k a b => ?_, fun k a b z' j hmem => ?_, fun k a b => ?_, fun k a b => ?_, fun n d m' hn' hdo h8 hnb' hc => ?_, fun k1 d1 z1 e => ?_⟩
  · rcases List.mem_append.1 hmem with hh | hh
    · obtain ⟨b1, b2, b3⟩ := h.h1 z' k hh
      by_cases e : k = m
      · subst e
        refine ⟨b1, updF_same _ _ _, ?_⟩
        rw [updF_same]
        have := hlow b2
        omega
      · exact ⟨b1, by rw [updF_ne _ _ e]; exact b2, by rw [updF_ne _ _ e]; exact b3⟩
    · simp at hh
      obtain ⟨rfl, rfl⟩ := hh
      exact ⟨hm, updF_same _ _ _, by rw [updF_same]; exact Int.le_refl _⟩
  · by_cases e : k = m
    · subst e
      rw [updF_same]
      exact List.mem_append_right _ (by simp)
    · rw [updF_ne _ _ e] at b ⊢
      exact List.mem_append_left _ (h.h2 k a b c)
  · rw [updF_ne _ _ (hne k b)]
    exact h.h3 k a b
  · rw [updF_ne _ _ (hne k b)]
    rcases List.mem_append.1 hmem with hh | hh
    · exact h.h4 k a b z' j hh
    · simp at hh
      obtain ⟨rfl, rfl⟩ := hh
      have := a4 k a b
      omega
  · by_cases e : k = m
    · subst e
      rw [updF_same]
      have hw := h.h5 k0 a1 (h.h3 k0 a1 a2)
      rw [a3] at hw
      exact .step hw a1 hd0 hnb hm
    · rw [updF_ne _ _ e] at b ⊢
      exact h.h5 k a b
  · obtain ⟨b1, b2⟩ := h.h6 k a b
    have e : k ≠ m := fun e => by
      subst e
      have := hlow b1
      omega
    exact ⟨by rw [updF_ne _ _ e]; exact b1, by rw [updF_ne _ _ e]; exact b2⟩
  · have en := hne n hdo
    rw [updF_ne o _ en]
    by_cases hh : n = k0 ∧ d = d0
    · obtain ⟨rfl, rfl⟩ := hh
      rw [hnb] at hnb'
      injection hnb' with hnb'
      subst hnb'
      rw [updF_same, updF_same, a3]
      exact ⟨rfl, Int.le_refl _⟩
    · obtain ⟨b1, b2⟩ := h.h7 n d m' hn' hdo h8 hnb' (fun k1 d1 z1 e e2 => by
        injection e with e
        injection e with e1 e3
        injection e3 with e3 e4
        subst e1
        subst e3
        subst e4
        have := hc _ _ _ rfl e2
        omega)
      by_cases e : m' = m
      · subst e
        rw [updF_same, updF_same]
        have := hlow b1
        exact ⟨rfl, by omega⟩
      · rw [updF_ne _ _ e, updF_ne _ _ e]
        exact ⟨b1, b2⟩
  · injection e with e
    injection e with e1 e3
    injection e3 with e3 e4
    subst e1
    subst e4
    refine ⟨a1, a2, by rw [updF_ne _ _ (hne k0 a2)]; exact a3, fun k a b => by rw [updF_ne _ _ (hne k b)]; exact a4 k a b, fun z' j hmem => ?_⟩
    rcases List.mem_append.1 hmem with hh | hh
    · exact a5 z' j hh
    · simp at hh
      obtain ⟨rfl, rfl⟩ := hh
      omega
/-- nothing is left: the spills are the least -/
theorem DI.least (mono : ∀ x y, x ≤ y → up x ≤ up y) {done seen : Nat → Bool} {o : Nat → Int} (h : DI N nb edge H up none done seen o []) (conn : ∀ P : Nat → Prop, (∀ k, k < N → edge k = true → P k) → (∀ n d m, n < N → P n → d < 8 → nb n d = some m → P m) → ∀ k, k < N → P k) :
    Least N nb edge H up o := by
  have hdone : ∀ k, k < N → seen k = true → done k = true := fun k hk hs => by
    cases hd : done k
    · have := h.h2 k hk hs hd
      cases this
    · rfl
  have hall : ∀ k, k < N → seen k = true := conn (fun k => seen k = true) (fun k hk he => (h.h6 k hk he).1) (fun n d m hn hs hd hnb => (h.h7 n d m hn (hdone n hn hs) hd hnb (fun _ _ _ e => by cases e)).1)
  refine Least.mk' mono (fun k hk => h.h5 k hk (hall k hk)) (fun k hk he => Int.le_of_eq (h.h6 k hk he).2) (fun n d k hn hd hnb hk => (h.h7 n d k hn (hdone n hn (hall n hn)) hd hnb (fun _ _ _ e => by cases e)).2)
end
end Go.Proofs.Ytinohfgokpbcdaa
