/- The least prices by sweeps over steps, and tight steps by rounds, plainly. No program in sight. -/
import Derived.Test.YtbjomkidjccdoaaRdR
import Derived.Test.YtbjomkidjccdoaaRdG
namespace Go.Proofs.Ytbjomkidjccdoaa
open Go.RowKit

/-- what holds while prices are lowered -/
structure SW (N : Nat) (E : Nat → List (Nat × Nat)) (src : Nat) (seen : Nat → Bool) (out : Nat → Nat) : Prop where
  way : ∀ k, k < N → seen k = true → RWay N E src k (valI (out k))
  ob : ∀ k, k < N → Bd 84 (out k) ∧ 0 ≤ valI (out k) ∧ out k < 4294967296
  oz : ∀ k, k < N → seen k = false → out k = 0
  os : out src = 0
  sk : seen src = true
section
variable {N : Nat} {E : Nat → List (Nat × Nat)} {src : Nat} {seen : Nat → Bool} {out : Nat → Nat}
theorem SW.start (N : Nat) (E : Nat → List (Nat × Nat)) (src : Nat) : SW N E src (updF (fun _ => false) src true) (fun _ => 0) := by
  refine ⟨fun k _ hs => ?_, fun k _ => ⟨bd_0 84, by simp [valI_0], by omega⟩, fun _ _ _ => rfl, rfl, updF_same _ _ _⟩
  have e : k = src := by
    unfold updF at hs
    split at hs
    · assumption
    · cases hs
  subst e
  show RWay N E k k (valI 0)
  rw [valI_0]
  exact .start
theorem SW.put (h : SW N E src seen out) {a b c : Nat} (ha : a < N) (hm : (b, c) ∈ E a) (hb : b < N) (hc : Bd 56 c) (c0 : 0 < valI c) (hs : seen a = true) (hg : goesR seen out b (fadd (out a) c) = true) : SW N E src (updF seen b true) (updF out b (fadd (out a) c)) := by
  obtain ⟨h1, h2, h3⟩ := h.ob a ha
  obtain ⟨_, s1, s2, s3⟩ := sum_ok h1 h2 hc c0
  have hns : src ≠ b := fun e => by
    subst e
    unfold goesR at hg
    rw [h.sk] at hg
    have h4 : lt (fadd (out a) c) (out src) = true := by simpa using hg
    rw [lt_val (bd_Fin s1 (by omega)) (bd_Fin (h.ob src hb).1 (by omega)), h.os, valI_0] at h4
    simp at h4
    omega
  refine ⟨fun k hk hsk => ?_, fun k hk => ?_, fun k hk hsk => ?_, by rw [updF_ne _ _ hns]; exact h.os, by rw [updF_ne _ _ hns]; exact h.sk⟩
  · by_cases e : k = b
    · subst e
      rw [updF_same, fadd_up h1 hc]
      exact .step (h.way a ha hs) ha hm
    · rw [updF_ne _ _ e] at hsk ⊢
      exact h.way k hk hsk
  · by_cases e : k = b
    · subst e
      rw [updF_same]
      exact ⟨s1, s2, s3⟩
    · rw [updF_ne _ _ e]
      exact h.ob k hk
  · by_cases e : k = b
    · subst e
      rw [updF_same] at hsk
      cases hsk
    · rw [updF_ne _ _ e] at hsk ⊢
      exact h.oz k hk hsk
/-- nothing can be lowered: the prices are the least -/
theorem SW.fin (hE : EdOk N E) (h : SW N E src seen out) (hcl : ∀ a b c, a < N → (b, c) ∈ E a → seen a = true → goesR seen out b (fadd (out a) c) = false) : PrOk N E src seen out := by
  refine ⟨⟨h.way, fun k z hw => ?_⟩, h.ob, h.oz, h.os, h.sk⟩
  induction hw with
  | start => exact ⟨h.sk, by simp [h.os, valI_0]⟩
  | @step n m c z hw hn hm ih =>
    have h1 := hcl n m c hn hm ih.1
    have hm2 := hE.to n m c hm
    have hc := hE.bd n m c hm
    have c0 := hE.nn n m c hm
    obtain ⟨o1, o2, o3⟩ := h.ob n hn
    obtain ⟨_, s1, s2, s3⟩ := sum_ok o1 o2 hc c0
    unfold goesR at h1
    cases hsm : seen m
    · rw [hsm] at h1; cases h1
    · rw [hsm] at h1
      have h3 : lt (fadd (out n) c) (out m) = false := by simpa using h1
      rw [lt_val (bd_Fin s1 (by omega)) (bd_Fin (h.ob m hm2).1 (by omega)), fadd_up o1 hc] at h3
      have h4 : valI (out m) ≤ upV c (valI (out n)) := by simpa using h3
      exact ⟨rfl, Int.le_trans h4 (upV_mono c _ _ ih.2)⟩
/-- a bound for prices -/
def bigN : Nat := 2 ^ 240
theorem big_lt {b : Nat} (h : Bd 84 b) : (valI b).toNat < bigN := by
  have h1 := (bd_valI (K := 84) (by omega)).1 h
  unfold bigN
  have e : (2 : Nat) ^ (84 + 149) < 2 ^ 240 := by decide
  omega
/-- what each round lowers -/
def swM (seen : Nat → Bool) (out : Nat → Nat) : Nat → Nat
  | 0 => 0
  | n + 1 => swM seen out n + (if seen n = true then (valI (out n)).toNat else bigN)
theorem swM_far (b x : Nat) : ∀ n, n ≤ b → swM (updF seen b true) (updF out b x) n = swM seen out n
  | 0, _ => rfl
  | n + 1, h => by
    unfold swM
    rw [swM_far b x n (by omega), updF_ne _ _ (by omega : n ≠ b), updF_ne _ _ (by omega : n ≠ b)]
theorem swM_put {b x : Nat} (hx : (valI x).toNat < (if seen b = true then (valI (out b)).toNat else bigN)) : ∀ n, b < n → swM (updF seen b true) (updF out b x) n < swM seen out n
  | 0, h => by omega
  | n + 1, h => by
    unfold swM
    by_cases e : n = b
    · subst e
      rw [swM_far n x n (Nat.le_refl _), updF_same, updF_same, if_pos rfl]
      omega
    · have ih := swM_put hx n (by omega)
      rw [updF_ne _ _ e, updF_ne _ _ e]
      omega
theorem SW.less (h : SW N E src seen out) {a b c : Nat} (ha : a < N) (hb : b < N) (hc : Bd 56 c) (c0 : 0 < valI c) (hg : goesR seen out b (fadd (out a) c) = true) : swM (updF seen b true) (updF out b (fadd (out a) c)) N < swM seen out N := by
  obtain ⟨h1, h2, h3⟩ := h.ob a ha
  obtain ⟨_, s1, s2, s3⟩ := sum_ok h1 h2 hc c0
  refine swM_put ?_ N hb
  unfold goesR at hg
  cases hsb : seen b
  · rw [if_neg (by decide)]
    exact big_lt s1
  · rw [if_pos rfl]
    rw [hsb] at hg
    have h4 : lt (fadd (out a) c) (out b) = true := by simpa using hg
    rw [lt_val (bd_Fin s1 (by omega)) (bd_Fin (h.ob b hb).1 (by omega))] at h4
    have h5 := (h.ob b hb).2.1
    simp at h4
    omega
end
/-- where a way leads, no price is zero, but that of where it begins -/
theorem RWay.pos {N : Nat} {E : Nat → List (Nat × Nat)} {src : Nat} (hE : EdOk N E) {k : Nat} {z : Int} (h : RWay N E src k z) : 0 ≤ z ∧ (k = src ∨ 0 < z) := by
  induction h with
  | start => exact ⟨Int.le_refl _, .inl rfl⟩
  | @step n m c z _ hn hm ih =>
    have h1 := upV_mono c 0 z ih.1
    have h2 := hE.nn n m c hm
    have h3 := infl_val (x := 0) (c := c) (bd_0 84) (hE.bd n m c hm) (by omega)
    have h4 := fadd_up (x := 0) (c := c) (bd_0 84) (hE.bd n m c hm)
    rw [valI_0] at h3 h4
    have h5 : valI c ≤ upV c 0 := by
      have e : (0 : Int) + valI c = valI c := by omega
      unfold upV
      rw [e]
      have hk : rkey (valI c) = keyI c := rkey_val (bd_Fin (hE.bd n m c hm) (by omega))
      rw [hk, ← valI_key]
      exact Int.le_refl _
    exact ⟨by omega, .inr (by omega)⟩
theorem bits_pos {x y : Nat} (hx : x < 4294967296) (hy : y < 4294967296) (h : valI x = valI y) (h0 : 0 < valI x) : x = y := by
  have hk := val_key_eq.1 h
  have h1 : 0 < keyI x := by
    have := val_key (x := 0) (y := x)
    rw [valI_0] at this
    have h2 := this.1 h0
    have h3 : keyI 0 = 0 := by decide
    omega
  unfold keyI at hk h1
  split at hk <;> split at hk <;> split at h1 <;> omega
/-- the least prices are one -/
theorem PrOk.unique {N : Nat} {E : Nat → List (Nat × Nat)} {src : Nat} {seen seen' : Nat → Bool} {out out' : Nat → Nat} (hE : EdOk N E) (h : PrOk N E src seen out) (h' : PrOk N E src seen' out') {k : Nat} (hk : k < N) : seen k = seen' k ∧ out k = out' k := by
  obtain ⟨h1, h2⟩ := h.least.unique h'.least hk
  refine ⟨h1, ?_⟩
  cases hs : seen k
  · rw [h.oz k hk hs, h'.oz k hk (by rw [← h1]; exact hs)]
  · have h3 := h2 hs
    by_cases e : k = src
    · subst e
      rw [h.os, h'.os]
    · have h4 := (h.least.way k hk hs).pos hE
      rcases h4.2 with h5 | h5
      · exact absurd h5 e
      · exact bits_pos (h.ob k hk).2.2 (h'.ob k hk).2.2 h3 h5

/-- tight steps: what holds when all cells that are fewer than n steps away are done -/
structure SP (N : Nat) (E : Nat → List (Nat × Nat)) (src : Nat) (T : Nat → Nat → Nat → Bool) (n : Nat) (H : Nat → Int) : Prop where
  h0 : H src = 0
  h1 : ∀ k, k < N → H k = -1 ∨ 0 ≤ H k
  h3 : ∀ m, m < N → 0 < H m → ∃ a b, a < N ∧ (m, b) ∈ E a ∧ T a m b = true ∧ H a = H m - 1
  h4 : ∀ k, k < N → H k = 0 → k = src
  rg : ∀ k, k < N → H k ≤ n
  cl : ∀ a m b, a < N → 0 ≤ H a → H a < n → (m, b) ∈ E a → T a m b = true → 0 ≤ H m ∧ H m ≤ H a + 1
/-- and within a round: L = the steps that are done -/
structure SPr (N : Nat) (E : Nat → List (Nat × Nat)) (src : Nat) (T : Nat → Nat → Nat → Bool) (n : Nat) (L : List (Nat × Nat × Nat)) (H : Nat → Int) : Prop where
  h0 : H src = 0
  h1 : ∀ k, k < N → H k = -1 ∨ 0 ≤ H k
  h3 : ∀ m, m < N → 0 < H m → ∃ a b, a < N ∧ (m, b) ∈ E a ∧ T a m b = true ∧ H a = H m - 1
  h4 : ∀ k, k < N → H k = 0 → k = src
  rg : ∀ k, k < N → H k ≤ n + 1
  cl : ∀ a m b, a < N → 0 ≤ H a → H a < n → (m, b) ∈ E a → T a m b = true → 0 ≤ H m ∧ H m ≤ H a + 1
  cr : ∀ a m b, (a, m, b) ∈ L → H a = n → T a m b = true → 0 ≤ H m ∧ H m ≤ H a + 1
section
variable {N : Nat} {E : Nat → List (Nat × Nat)} {src : Nat} {T : Nat → Nat → Nat → Bool} {n : Nat} {H : Nat → Int}
theorem SP.start (N : Nat) (E : Nat → List (Nat × Nat)) (src : Nat) (T : Nat → Nat → Nat → Bool) : SP N E src T 0 (updF (fun _ => -1) src 0) := by
  have e : ∀ k, updF (fun _ => (-1 : Int)) src 0 k = 0 ∧ k = src ∨ updF (fun _ => (-1 : Int)) src 0 k = -1 := fun k => by
    by_cases h : k = src
    · subst h; exact .inl ⟨updF_same _ _ _, rfl⟩
    · exact .inr (updF_ne _ _ h)
  refine ⟨updF_same _ _ _, fun k _ => ?_, fun m _ h => ?_, fun k _ h => ?_, fun k _ => ?_, fun a m b _ h1 h2 => ?_⟩
  · rcases e k with h | h <;> omega
  · rcases e m with h' | h' <;> omega
  · rcases e k with h' | h'
    · exact h'.2
    · omega
  · rcases e k with h' | h' <;> omega
  · omega
theorem SP.open (h : SP N E src T n H) : SPr N E src T n [] H := ⟨h.h0, h.h1, h.h3, h.h4, fun k hk => by have := h.rg k hk; omega, h.cl, fun _ _ _ hm => by cases hm⟩
theorem SPr.stay {L : List (Nat × Nat × Nat)} {a m b : Nat} (h : SPr N E src T n L H) (hn : (0 ≤ H m ∧ m < N) ∨ H a ≠ n ∨ T a m b = false) : SPr N E src T n (L ++ [(a, m, b)]) H := by
  refine ⟨h.h0, h.h1, h.h3, h.h4, h.rg, h.cl, fun a' m' b' hm ha ht => ?_⟩
  rcases List.mem_append.1 hm with h1 | h1
  · exact h.cr a' m' b' h1 ha ht
  · simp at h1
    obtain ⟨rfl, rfl, rfl⟩ := h1
    rcases hn with ⟨h2, h3⟩ | h2 | h2
    · exact ⟨h2, by have := h.rg _ h3; omega⟩
    · exact absurd ha h2
    · rw [h2] at ht; cases ht
theorem SPr.put {L : List (Nat × Nat × Nat)} {a m b : Nat} (h : SPr N E src T n L H) (ha : a < N) (hm : m < N) (hE : (m, b) ∈ E a) (hH : H a = n) (hn : H m < 0) (ht : T a m b = true) : SPr N E src T n (L ++ [(a, m, b)]) (updF H m ((n : Int) + 1)) := by
  have hms : src ≠ m := fun e => by have := h.h0; rw [e] at this; omega
  have ham : a ≠ m := fun e => by rw [e] at hH; omega
  have key : ∀ k v, 0 ≤ H k ∧ H k ≤ v → 0 ≤ updF H m ((n : Int) + 1) k ∧ updF H m ((n : Int) + 1) k ≤ v := fun k v hk => by
    have : k ≠ m := fun e => by subst e; omega
    rw [updF_ne _ _ this]
    exact hk
  refine ⟨by rw [updF_ne _ _ hms]; exact h.h0, fun k hk => ?_, fun k hk h1 => ?_, fun k hk h1 => ?_, fun k hk => ?_, fun a' m' b' ha' h1 h2 h3 h4 => ?_, fun a' m' b' h1 h2 h3 => ?_⟩
  · by_cases e : k = m
    · subst e; rw [updF_same]; right; omega
    · rw [updF_ne _ _ e]; exact h.h1 k hk
  · by_cases e : k = m
    · subst e
      refine ⟨a, b, ha, hE, ht, ?_⟩
      rw [updF_ne _ _ ham, updF_same]
      omega
    · rw [updF_ne _ _ e] at h1 ⊢
      obtain ⟨p, q, h2, h3, h4, h5⟩ := h.h3 k hk h1
      have : p ≠ m := fun e => by subst e; omega
      exact ⟨p, q, h2, h3, h4, by rw [updF_ne _ _ this]; exact h5⟩
  · by_cases e : k = m
    · subst e; rw [updF_same] at h1; omega
    · rw [updF_ne _ _ e] at h1; exact h.h4 k hk h1
  · by_cases e : k = m
    · subst e; rw [updF_same]; omega
    · rw [updF_ne _ _ e]; exact h.rg k hk
  · have e : a' ≠ m := fun e => by subst e; rw [updF_same] at h2; omega
    rw [updF_ne _ _ e] at h1 h2 ⊢
    exact key _ _ (h.cl a' m' b' ha' h1 h2 h3 h4)
  · by_cases e : a' = m
    · subst e; rw [updF_same] at h2; omega
    · rw [updF_ne _ _ e] at h2 ⊢
      rcases List.mem_append.1 h1 with h4 | h4
      · exact key _ _ (h.cr a' m' b' h4 h2 h3)
      · simp at h4
        obtain ⟨rfl, rfl, rfl⟩ := h4
        rw [updF_same]
        omega
theorem SPr.close {L : List (Nat × Nat × Nat)} (h : SPr N E src T n L H) (hL : ∀ a m b, a < N → (m, b) ∈ E a → (a, m, b) ∈ L) : SP N E src T (n + 1) H := by
  refine ⟨h.h0, h.h1, h.h3, h.h4, fun k hk => by have := h.rg k hk; omega, fun a m b ha h1 h2 h3 h4 => ?_⟩
  by_cases e : H a = n
  · exact h.cr a m b (hL a m b ha h3) e h4
  · exact h.cl a m b ha h1 (by omega) h3 h4
/-- cells at all numbers of steps below -/
theorem SP.at (h : SP N E src T n H) : ∀ (v : Nat) (m : Nat), m < N → H m = v → ∀ u, u ≤ v → ∃ k, k < N ∧ H k = u
  | 0, m, hm, hv, u, hu => ⟨m, hm, by rw [hv]; omega⟩
  | v + 1, m, hm, hv, u, hu => by
    by_cases e : u = v + 1
    · exact ⟨m, hm, by rw [hv, e]⟩
    · obtain ⟨a, b, ha, _, _, h5⟩ := h.h3 m hm (by omega)
      exact h.at v a ha (by omega) u (by omega)
theorem SP.lt (h : SP N E src T n H) {m : Nat} (hm : m < N) : H m < N := by
  rcases h.h1 m hm with h1 | h1
  · omega
  · obtain ⟨v, hv⟩ : ∃ v : Nat, H m = v := ⟨(H m).toNat, by omega⟩
    rcases Nat.lt_or_ge v N with h2 | h2
    · omega
    · exfalso
      have hc : ∀ u, ∃ k, u ≤ v → k < N ∧ H k = u := fun u => by
        by_cases hu : u ≤ v
        · obtain ⟨k, hk⟩ := h.at v m hm hv u hu
          exact ⟨k, fun _ => hk⟩
        · exact ⟨0, fun h => absurd h hu⟩
      obtain ⟨f, hf⟩ := Classical.axiomOfChoice hc
      have hnd : ((List.range (v + 1)).map f).Nodup := by
        refine List.Pairwise.map f (fun i j (hij : i ≠ j ∧ i ≤ v ∧ j ≤ v) e => ?_) ((List.nodup_range (n := v + 1)).imp_of_mem fun {i j} hi hj h => ⟨h, by simp at hi; omega, by simp at hj; omega⟩)
        have h1 := (hf i hij.2.1).2
        have h2 := (hf j hij.2.2).2
        rw [e] at h1
        have := hij.1
        omega
      have := nodup_le hnd (fun k hk => by
        simp at hk
        obtain ⟨u, hu, rfl⟩ := hk
        exact (hf u (by omega)).1)
      simp at this
      omega
theorem SP.fin (h : SP N E src T N H) : HopOk N E src T H :=
  ⟨h.h0, h.h1, fun a m b ha h0 hm ht => h.cl a m b ha h0 (h.lt ha) hm ht, h.h3, h.h4⟩
end
end Go.Proofs.Ytbjomkidjccdoaa
