/- The least prices, plainly: sums by values, ways of edges that cost, and how a heap finds the least. No program in sight. -/
import Derived.Test.YtpgdinpckolfpaaKeyB
namespace Go.Proofs.Ytpgdinpckolfpaa
open Go.RowKit

def updF {α : Type} (f : Nat → α) (i : Nat) (x : α) : Nat → α := fun k => if k = i then x else f k
theorem updF_same {α : Type} (f : Nat → α) (i : Nat) (x : α) : updF f i x i = x := if_pos rfl
theorem updF_ne {α : Type} (f : Nat → α) {i k : Nat} (x : α) (h : k ≠ i) : updF f i x k = f k := if_neg h

/-- the value of a key -/
def valK (q : Int) : Int := if q < 0 then -((valN q.natAbs : Nat) : Int) else ((valN q.natAbs : Nat) : Int)
theorem valI_key (b : Nat) : valI b = valK (keyI b) := by
  unfold valI valK keyI
  by_cases h : b / 2147483648 % 2 = 1
  · rw [if_pos h, if_pos h]
    by_cases h0 : b % 2147483648 = 0
    · rw [h0]
      simp [valN_zero]
    · rw [if_pos (by omega), Int.natAbs_neg, Int.natAbs_natCast]
  · rw [if_neg h, if_neg h, if_neg (by omega), Int.natAbs_natCast]
theorem valK_mono {p q : Int} (h : p ≤ q) : valK p ≤ valK q := by
  unfold valK
  by_cases hp : p < 0
  · by_cases hq : q < 0
    · rw [if_pos hp, if_pos hq]
      have := valN_le (show q.natAbs ≤ p.natAbs by omega)
      omega
    · rw [if_pos hp, if_neg hq]
      omega
  · rw [if_neg hp, if_neg (by omega)]
    have := valN_le (show p.natAbs ≤ q.natAbs by omega)
    omega
/-- what a sum with s makes of a value -/
def upV (s : Nat) (z : Int) : Int := valK (rkey (z + valI s))
theorem upV_mono (s : Nat) (x y : Int) (h : x ≤ y) : upV s x ≤ upV s y := valK_mono (rkey_mono (by omega))
theorem fadd_up {x c : Nat} (hx : Bd 84 x) (hc : Bd 56 c) : valI (fadd x c) = upV c (valI x) := by
  rw [valI_key, fadd_key hx (hc.mono (by omega)) (by omega)]
  rfl
theorem cap_near : nearN (2 ^ 233 + 2 ^ 205) = 211 * 8388608 := by decide +kernel
theorem cap_val : valN (211 * 8388608) = 2 ^ 233 := by decide +kernel
theorem fadd_cap {x c : Nat} (hx : Bd 84 x) (hc : Bd 56 c) (h0 : 0 ≤ valI c) : Bd 84 (fadd x c) := by
  have h1 := fadd_ge hx (hc.mono (by omega)) (by omega) h0
  have hxv := (bd_valI (K := 84) (by omega)).1 hx
  have hsv := (bd_valI (K := 56) (by omega)).1 hc
  rw [bd_valI (by omega)]
  have h2 : valI (fadd x c) ≤ 2 ^ 233 := by
    rw [fadd_up hx hc]
    unfold upV
    have h3 : rkey (valI x + valI c) ≤ rkey (2 ^ 233 + 2 ^ 205) := rkey_mono (by omega)
    have h4 : rkey (2 ^ 233 + 2 ^ 205) = 211 * 8388608 := by
      unfold rkey
      have e : Int.natAbs ((2 : Int) ^ 233 + 2 ^ 205) = 2 ^ 233 + 2 ^ 205 := by rfl
      rw [if_neg (by decide), e, cap_near]
      decide
    have h5 := valK_mono h3
    rw [h4] at h5
    have h6 : valK (211 * 8388608) = 2 ^ 233 := by
      unfold valK
      have e : Int.natAbs ((211 : Int) * 8388608) = 211 * 8388608 := by rfl
      rw [if_neg (by decide), e, cap_val]
      rfl
    omega
  omega
theorem infl_val {x c : Nat} (hx : Bd 84 x) (hc : Bd 56 c) (h0 : 0 ≤ valI c) : valI x ≤ upV c (valI x) := by
  rw [← fadd_up hx hc]
  exact fadd_ge hx (hc.mono (by omega)) (by omega) h0

/-- edges that may be: to a cell, at a cost that is no less than zero -/
structure EdOk (N : Nat) (E : Nat → List (Nat × Nat)) : Prop where
  to : ∀ k m c, (m, c) ∈ E k → m < N
  bd : ∀ k m c, (m, c) ∈ E k → Bd 56 c
  nn : ∀ k m c, (m, c) ∈ E k → 0 < valI c
/-- z is the price of a way to k -/
inductive RWay (N : Nat) (E : Nat → List (Nat × Nat)) (src : Nat) : Nat → Int → Prop
  | start : RWay N E src src 0
  | step {n m c : Nat} {z : Int} : RWay N E src n z → n < N → (m, c) ∈ E n → RWay N E src m (upV c z)
/-- which cells are reached, and their least prices -/
structure RLeast (N : Nat) (E : Nat → List (Nat × Nat)) (src : Nat) (ok : Nat → Bool) (r : Nat → Int) : Prop where
  way : ∀ k, k < N → ok k = true → RWay N E src k (r k)
  low : ∀ k z, RWay N E src k z → ok k = true ∧ r k ≤ z
theorem RWay.lt {N : Nat} {E : Nat → List (Nat × Nat)} {src : Nat} (hE : EdOk N E) (hs : src < N) {k : Nat} {z : Int} (h : RWay N E src k z) : k < N := by
  cases h with
  | start => exact hs
  | step _ _ hm => exact hE.to _ _ _ hm
theorem RLeast.unique {N : Nat} {E : Nat → List (Nat × Nat)} {src : Nat} {ok ok' : Nat → Bool} {r r' : Nat → Int} (h : RLeast N E src ok r) (h' : RLeast N E src ok' r') {k : Nat} (hk : k < N) : ok k = ok' k ∧ (ok k = true → r k = r' k) := by
  cases h1 : ok k
  · cases h2 : ok' k
    · exact ⟨rfl, fun e => by cases e⟩
    · have := (h.low k _ (h'.way k hk h2)).1
      rw [h1] at this
      cases this
  · have a := h.way k hk h1
    obtain ⟨b1, b2⟩ := h'.low k _ a
    exact ⟨b1.symm, fun _ => Int.le_antisymm (h.low k _ (h'.way k hk b1)).2 b2⟩

/-- what holds while the heap is looked at; c: the cell whose edges are looked at, which of them are left, and its price -/
structure DJ (N : Nat) (E : Nat → List (Nat × Nat)) (src : Nat) (c : Option (Nat × List (Nat × Nat) × Int)) (done seen : Nat → Bool) (o : Nat → Int) (xs : List (Int × Nat)) : Prop where
  h1 : ∀ z k, (z, k) ∈ xs → k < N ∧ seen k = true ∧ o k ≤ z
  h2 : ∀ k, k < N → seen k = true → done k = false → (o k, k) ∈ xs
  h3 : ∀ k, k < N → done k = true → seen k = true
  h4 : ∀ k, k < N → done k = true → ∀ z j, (z, j) ∈ xs → o k ≤ z
  h5 : ∀ k, k < N → seen k = true → RWay N E src k (o k)
  h6 : seen src = true ∧ o src ≤ 0
  h7 : ∀ n m b, n < N → done n = true → (m, b) ∈ E n → (∃ L z0, c = some (n, L, z0) ∧ (m, b) ∈ L) ∨ seen m = true ∧ o m ≤ upV b (o n)
  h8 : ∀ k0 L z0, c = some (k0, L, z0) → k0 < N ∧ done k0 = true ∧ o k0 = z0 ∧ (∀ k, k < N → done k = true → o k ≤ z0) ∧ ∀ z j, (z, j) ∈ xs → z0 ≤ z
section
variable {N : Nat} {E : Nat → List (Nat × Nat)} {src : Nat} {done seen : Nat → Bool} {o : Nat → Int}
theorem DJ.perm {c : Option (Nat × List (Nat × Nat) × Int)} {xs ys : List (Int × Nat)} (h : DJ N E src c done seen o xs) (hp : ys.Perm xs) : DJ N E src c done seen o ys :=
  ⟨fun z k hm => h.h1 z k (hp.mem_iff.1 hm), fun k a b c => hp.mem_iff.2 (h.h2 k a b c), h.h3, fun k a b z j hm => h.h4 k a b z j (hp.mem_iff.1 hm), h.h5, h.h6, h.h7,
    fun k0 d0 z0 e => ⟨(h.h8 k0 d0 z0 e).1, (h.h8 k0 d0 z0 e).2.1, (h.h8 k0 d0 z0 e).2.2.1, (h.h8 k0 d0 z0 e).2.2.2.1, fun z j hm => (h.h8 k0 d0 z0 e).2.2.2.2 z j (hp.mem_iff.1 hm)⟩⟩
/-- the first one was looked at already -/
theorem DJ.skip {z : Int} {k0 : Nat} {xs : List (Int × Nat)} (h : DJ N E src none done seen o ((z, k0) :: xs)) (hd : done k0 = true) : DJ N E src none done seen o xs :=
  ⟨fun z k hm => h.h1 z k (List.mem_cons_of_mem _ hm), fun k a b c => by
    rcases List.mem_cons.1 (h.h2 k a b c) with e | e
    · injection e with _ e
      subst e
      rw [hd] at c
      cases c
    · exact e, h.h3, fun k a b z j hm => h.h4 k a b z j (List.mem_cons_of_mem _ hm), h.h5, h.h6, h.h7, fun _ _ _ e => by cases e⟩
theorem DJ.value {z : Int} {k0 : Nat} {xs : List (Int × Nat)} (h : DJ N E src none done seen o ((z, k0) :: xs)) (hl : ∀ y j, (y, j) ∈ xs → z ≤ y) (hd : done k0 = false) : k0 < N ∧ o k0 = z := by
  obtain ⟨a, b, c⟩ := h.h1 z k0 (List.mem_cons_self ..)
  refine ⟨a, ?_⟩
  rcases List.mem_cons.1 (h.h2 k0 a b hd) with e | e
  · injection e with e _
  · have := hl _ _ e
    omega
/-- the first one is looked at now -/
theorem DJ.take {z : Int} {k0 : Nat} {xs : List (Int × Nat)} (h : DJ N E src none done seen o ((z, k0) :: xs)) (hl : ∀ y j, (y, j) ∈ xs → z ≤ y) (hd : done k0 = false) : DJ N E src (some (k0, E k0, z)) (updF done k0 true) seen o xs := by
  obtain ⟨hk0, hz⟩ := h.value hl hd
  obtain ⟨_, hs0, _⟩ := h.h1 z k0 (List.mem_cons_self ..)
  have hdn : ∀ k, updF done k0 true k = true → k = k0 ∨ done k = true := fun k hk => by
    by_cases e : k = k0
    · exact .inl e
    · rw [updF_ne _ _ e] at hk; exact .inr hk
  refine ⟨fun z k hm => h.h1 z k (List.mem_cons_of_mem _ hm), fun k a b c => ?_, fun k a b => ?_, fun k a b z' j hm => ?_, h.h5, h.h6, fun n m b hn hdo hm => ?_, fun k1 d1 z1 e => ?_⟩
  · by_cases e : k = k0
    · subst e; rw [updF_same] at c; cases c
    · rw [updF_ne _ _ e] at c
      rcases List.mem_cons.1 (h.h2 k a b c) with e2 | e2
      · injection e2 with _ e2
        exact absurd e2 e
      · exact e2
  · rcases hdn k b with rfl | h2
    · exact hs0
    · exact h.h3 k a h2
  · rcases hdn k b with rfl | h2
    · have := hl _ _ hm; omega
    · exact h.h4 k a h2 _ _ (List.mem_cons_of_mem _ hm)
  · rcases hdn n hdo with rfl | h2
    · exact .inl ⟨_, _, rfl, hm⟩
    · rcases h.h7 n m b hn h2 hm with ⟨L, z0, e, _⟩ | h3
      · cases e
      · exact .inr h3
  · injection e with e
    injection e with e1 e2
    injection e2 with e2 e3
    subst e1
    subst e2
    subst e3
    refine ⟨hk0, updF_same _ _ _, hz, fun k a b => ?_, hl⟩
    rcases hdn k b with rfl | h2
    · omega
    · exact h.h4 k a h2 _ _ (List.mem_cons_self ..)
/-- all edges are looked at -/
theorem DJ.all {z : Int} {k0 : Nat} {xs : List (Int × Nat)} (h : DJ N E src (some (k0, [], z)) done seen o xs) : DJ N E src none done seen o xs :=
  ⟨h.h1, h.h2, h.h3, h.h4, h.h5, h.h6, fun n m b hn hd hm => .inr (by
    rcases h.h7 n m b hn hd hm with ⟨L, z0, e, h2⟩ | h2
    · injection e with e
      injection e with _ e
      injection e with e _
      subst e
      cases h2
    · exact h2), fun _ _ _ e => by cases e⟩
/-- an edge that leads to nothing new -/
theorem DJ.stay {z : Int} {k0 m c : Nat} {L : List (Nat × Nat)} {xs : List (Int × Nat)} (h : DJ N E src (some (k0, (m, c) :: L, z)) done seen o xs) (hs : seen m = true ∧ ¬ upV c z < o m) : DJ N E src (some (k0, L, z)) done seen o xs := by
  obtain ⟨a1, a2, a3, a4, a5⟩ := h.h8 _ _ _ rfl
  refine ⟨h.h1, h.h2, h.h3, h.h4, h.h5, h.h6, fun n m' b hn hd hm => ?_, fun k1 d1 z1 e => by
      injection e with e
      injection e with e1 e3
      injection e3 with e3 e4
      subst e1
      subst e4
      exact h.h8 _ _ _ rfl⟩
  rcases h.h7 n m' b hn hd hm with ⟨L', z0, e, h2⟩ | h2
  · injection e with e
    injection e with e1 e3
    injection e3 with e3 e4
    subst e1
    subst e3
    subst e4
    rcases List.mem_cons.1 h2 with e5 | e5
    · injection e5 with e5 e6
      subst e5
      subst e6
      refine .inr ⟨hs.1, ?_⟩
      rw [a3]
      have := hs.2
      omega
    · exact .inl ⟨_, _, rfl, e5⟩
  · exact .inr h2
/-- a cell that is reached anew, or for less -/
theorem DJ.push {z : Int} {k0 m c : Nat} {L : List (Nat × Nat)} {xs : List (Int × Nat)} (h : DJ N E src (some (k0, (m, c) :: L, z)) done seen o xs) (hmE : (m, c) ∈ E k0) (hm : m < N) (infl : z ≤ upV c z) (hz : 0 ≤ z)
    (hs : seen m = false ∨ upV c z < o m) : DJ N E src (some (k0, L, z)) done (updF seen m true) (updF o m (upV c z)) (xs ++ [(upV c z, m)]) := by
  obtain ⟨a1, a2, a3, a4, a5⟩ := h.h8 _ _ _ rfl
  have hd : done m = false := by
    cases hd : done m
    · rfl
    · rcases hs with h1 | h1
      · rw [h.h3 m hm hd] at h1; cases h1
      · have := a4 m hm hd; omega
  have hne : ∀ k, done k = true → k ≠ m := fun k hk e => by subst e; rw [hd] at hk; cases hk
  have hlow : seen m = true → upV c z < o m := fun hh => by
    rcases hs with hs | hs
    · rw [hs] at hh; cases hh
    · exact hs
  refine ⟨fun z' k hmem => ?_, fun k a b c => ?_, fun k a b => ?_, fun k a b z' j hmem => ?_, fun k a b => ?_, ?_, fun n m' b hn hdo hm' => ?_, fun k1 d1 z1 e => ?_⟩
  · rcases List.mem_append.1 hmem with hh | hh
    · obtain ⟨b1, b2, b3⟩ := h.h1 z' k hh
      by_cases e : k = m
      · subst e
        refine ⟨b1, updF_same _ _ _, ?_⟩
        rw [updF_same]
        have := hlow b2
        omega
      · exact ⟨b1, by rw [updF_ne _ _ e]; exact b2, by rw [updF_ne _ _ e]; exact b3⟩
    · simp at hh
      obtain ⟨rfl, rfl⟩ := hh
      exact ⟨hm, updF_same _ _ _, by rw [updF_same]; exact Int.le_refl _⟩
  · by_cases e : k = m
    · subst e
      rw [updF_same]
      exact List.mem_append_right _ (by simp)
    · rw [updF_ne _ _ e] at b ⊢
      exact List.mem_append_left _ (h.h2 k a b c)
  · rw [updF_ne _ _ (hne k b)]
    exact h.h3 k a b
  · rw [updF_ne _ _ (hne k b)]
    rcases List.mem_append.1 hmem with hh | hh
    · exact h.h4 k a b z' j hh
    · simp at hh
      obtain ⟨rfl, rfl⟩ := hh
      have := a4 k a b
      omega
  · by_cases e : k = m
    · subst e
      rw [updF_same]
      have hw := h.h5 k0 a1 (h.h3 k0 a1 a2)
      rw [a3] at hw
      exact .step hw a1 hmE
    · rw [updF_ne _ _ e] at b ⊢
      exact h.h5 k a b
  · by_cases e : src = m
    · have h0 := hlow (by rw [← e]; exact h.h6.1)
      have h6 := h.h6.2
      rw [e] at h6
      omega
    · rw [updF_ne _ _ e, updF_ne _ _ e]
      exact h.h6
  · have en := hne n hdo
    rw [updF_ne o _ en]
    have key : seen m' = true ∧ o m' ≤ upV b (o n) → updF seen m true m' = true ∧ updF o m (upV c z) m' ≤ upV b (o n) := fun ⟨b1, b2⟩ => by
      by_cases e : m' = m
      · subst e
        rw [updF_same, updF_same]
        have := hlow b1
        exact ⟨rfl, by omega⟩
      · rw [updF_ne _ _ e, updF_ne _ _ e]
        exact ⟨b1, b2⟩
    rcases h.h7 n m' b hn hdo hm' with ⟨L', z0, e, h2⟩ | h2
    · injection e with e
      injection e with e1 e3
      injection e3 with e3 e4
      subst e1
      subst e3
      subst e4
      rcases List.mem_cons.1 h2 with e5 | e5
      · injection e5 with e5 e6
        subst e5
        subst e6
        right
        rw [updF_same, updF_same, a3]
        exact ⟨rfl, Int.le_refl _⟩
      · exact .inl ⟨_, _, rfl, e5⟩
    · exact .inr (key h2)
  · injection e with e
    injection e with e1 e3
    injection e3 with e3 e4
    subst e1
    subst e4
    refine ⟨a1, a2, by rw [updF_ne _ _ (hne k0 a2)]; exact a3, fun k a b => by rw [updF_ne _ _ (hne k b)]; exact a4 k a b, fun z' j hmem => ?_⟩
    rcases List.mem_append.1 hmem with hh | hh
    · exact a5 z' j hh
    · simp at hh
      obtain ⟨rfl, rfl⟩ := hh
      omega
/-- nothing is left: the prices are the least -/
theorem DJ.least (h : DJ N E src none done seen o []) : RLeast N E src seen o := by
  have hdone : ∀ k, k < N → seen k = true → done k = true := fun k hk hs => by
    cases hd : done k
    · have := h.h2 k hk hs hd
      cases this
    · rfl
  refine ⟨h.h5, fun k z hw => ?_⟩
  induction hw with
  | start => exact h.h6
  | @step n m c z hw hn hm ih =>
    rcases h.h7 n m c hn (hdone n hn ih.1) hm with ⟨L, z0, e, _⟩ | h2
    · cases e
    · exact ⟨h2.1, Int.le_trans h2.2 (upV_mono c _ _ ih.2)⟩
end
/-- how many cells are not done -/
def left (N : Nat) (done : Nat → Bool) : Nat := ((List.range N).filter fun k => !done k).length
theorem left_le (N : Nat) (done : Nat → Bool) : left N done ≤ N := by
  unfold left
  have := List.length_filter_le (fun k => !done k) (List.range N)
  simpa using this
theorem filter_one : ∀ (ks : List Nat) (f : Nat → Bool) (n : Nat), ks.Nodup → n ∈ ks → f n = false → (ks.filter fun k => !updF f n true k).length + 1 = (ks.filter fun k => !f k).length
  | [], _, _, _, h, _ => by cases h
  | k :: ks, f, n, hnd, hm, hf => by
    rw [List.nodup_cons] at hnd
    by_cases e : k = n
    · subst e
      have h1 : (ks.filter fun j => !updF f k true j) = ks.filter fun j => !f j := by
        apply List.filter_congr
        intro j hj
        rw [updF_ne]
        rintro rfl
        exact hnd.1 hj
      rw [List.filter_cons, List.filter_cons, updF_same, hf, h1]
      simp
    · have hm' : n ∈ ks := by
        rcases List.mem_cons.1 hm with h | h
        · exact absurd h.symm e
        · exact h
      have ih := filter_one ks f n hnd.2 hm' hf
      rw [List.filter_cons, List.filter_cons, updF_ne _ _ e]
      cases f k <;> simp <;> omega
theorem left_upd {N n : Nat} {done : Nat → Bool} (hn : n < N) (hd : done n = false) : left N (updF done n true) + 1 = left N done := filter_one _ done n List.nodup_range (List.mem_range.2 hn) hd
end Go.Proofs.Ytpgdinpckolfpaa
