/- Steps of a field in memory; contract: the reference's point. -/
import Derived.Test.YtpgdinpckolfpaaRdR
import Derived.Test.YtpgdinpckolfpaaRdG
import Derived.Test.YtpgdinpckolfpaaRwAA
import Derived.Test.YtpgdinpckolfpaaRdN
namespace Go.Proofs.Ytpgdinpckolfpaa
open Go.RowKit

/-- what holds while prices are lowered -/
structure SW (N : Nat) (E : Nat → List (Nat × Nat)) (src : Nat) (seen : Nat → Bool) (out : Nat → Nat) : Prop where
  way : ∀ k, k < N → seen k = true → RWay N E src k (valI (out k))
  ob : ∀ k, k < N → Bd 84 (out k) ∧ 0 ≤ valI (out k) ∧ out k < 4294967296
  oz : ∀ k, k < N → seen k = false → out k = 0
  os : out src = 0
  sk : seen src = true
section
variable {N : Nat} {E : Nat → List (Nat × Nat)} {src : Nat} {seen : Nat → Bool} {out : Nat → Nat}
theorem SW.start (N : Nat) (E : Nat → List (Nat × Nat)) (src : Nat) : SW N E src (updF (fun _ => false) src true) (fun _ => 0) := by
  refine ⟨fun k _ hs => ?_, fun k _ => ⟨bd_0 84, by simp [valI_0], by omega⟩, fun _ _ _ => rfl, rfl, updF_same _ _ _⟩
  have e : k = src := by
    unfold updF at hs
    split at hs
    · assumption
    · cases hs
  subst e
  show RWay N E k k (valI 0)
  rw [valI_0]
  exact .start
theorem SW.put (h : SW N E src seen out) {a b c : Nat} (ha : a < N) (hm : (b, c) ∈ E a) (hb : b < N) (hc : Bd 56 c) (c0 : 0 < valI c) (hs : seen a = true) (hg : goesR seen out b (fadd (out a) c) = true) : SW N E src (updF seen b true) (updF out b (fadd (out a) c)) := by
  obtain ⟨h1, h2, h3⟩ := h.ob a ha
  obtain ⟨_, s1, s2, s3⟩ := sum_ok h1 h2 hc c0
  have hns : src ≠ b := fun e => by
    subst e
    unfold goesR at hg
    rw [h.sk] at hg
    have h4 : lt (fadd (out a) c) (out src) = true := by simpa using hg
    rw [lt_val (bd_Fin s1 (by omega)) (bd_Fin (h.ob src hb).1 (by omega)), h.os, valI_0] at h4
    simp at h4
    omega
  refine ⟨fun k hk hsk => ?_, fun k hk => ?_, fun k hk hsk => ?_, by rw [updF_ne _ _ hns]; exact h.os, by rw [updF_ne _ _ hns]; exact h.sk⟩
  · by_cases e : k = b
    · subst e
      rw [updF_same, fadd_up h1 hc]
      exact .step (h.way a ha hs) ha hm
    · rw [updF_ne _ _ e] at hsk ⊢
      exact h.way k hk hsk
  · by_cases e : k = b
    · subst e
      rw [updF_same]
      exact ⟨s1, s2, s3⟩
    · rw [updF_ne _ _ e]
      exact h.ob k hk
  · by_cases e : k = b
    · subst e
      rw [updF_same] at hsk
      cases hsk
    · rw [updF_ne _ _ e] at hsk ⊢
      exact h.oz k hk hsk
/-- nothing can be lowered: the prices are the least -/
theorem SW.fin (hE : EdOk N E) (h : SW N E src seen out) (hcl : ∀ a b c, a < N → (b, c) ∈ E a → seen a = true → goesR seen out b (fadd (out a) c) = false) : PrOk N E src seen out := by
  refine ⟨⟨h.way, fun k z hw => ?_⟩, h.ob, h.oz, h.os, h.sk⟩
  induction hw with
  | start => exact ⟨h.sk, by simp [h.os, valI_0]⟩
  | @step n m c z hw hn hm ih =>
    have h1 := hcl n m c hn hm ih.1
    have hm2 := hE.to n m c hm
    have hc := hE.bd n m c hm
    have c0 := hE.nn n m c hm
    obtain ⟨o1, o2, o3⟩ := h.ob n hn
    obtain ⟨_, s1, s2, s3⟩ := sum_ok o1 o2 hc c0
    unfold goesR at h1
    cases hsm : seen m
    · rw [hsm] at h1; cases h1
    · rw [hsm] at h1
      have h3 : lt (fadd (out n) c) (out m) = false := by simpa using h1
      rw [lt_val (bd_Fin s1 (by omega)) (bd_Fin (h.ob m hm2).1 (by omega)), fadd_up o1 hc] at h3
      have h4 : valI (out m) ≤ upV c (valI (out n)) := by simpa using h3
      exact ⟨rfl, Int.le_trans h4 (upV_mono c _ _ ih.2)⟩
/-- a bound for prices -/
def bigN : Nat := 2 ^ 240
theorem big_lt {b : Nat} (h : Bd 84 b) : (valI b).toNat < bigN := by
  have h1 := (bd_valI (K := 84) (by omega)).1 h
  unfold bigN
  have e : (2 : Nat) ^ (84 + 149) < 2 ^ 240 := by decide
  omega
/-- what each round lowers -/
def swM (seen : Nat → Bool) (out : Nat → Nat) : Nat → Nat
  | 0 => 0
  | n + 1 => swM seen out n + (if seen n = true then (valI (out n)).toNat else bigN)
theorem swM_far (b x : Nat) : ∀ n, n ≤ b → swM (updF seen b true) (updF out b x) n = swM seen out n
  | 0, _ => rfl
  | n + 1, h => by
    unfold swM
    rw [swM_far b x n (by omega), updF_ne _ _ (by omega : n ≠ b), updF_ne _ _ (by omega : n ≠ b)]
theorem swM_put {b x : Nat} (hx : (valI x).toNat < (if seen b = true then (valI (out b)).toNat else bigN)) : ∀ n, b < n → swM (updF seen b true) (updF out b x) n < swM seen out n
  | 0, h => by omega
  | n + 1, h => by
    unfold swM
    by_cases e : n = b
    · subst e
      rw [swM_far n x n (Nat.le_refl _), updF_same, updF_same, if_pos rfl]
      omega
    · have ih := swM_put hx n (by omega)
      rw [updF_ne _ _ e, updF_ne _ _ e]
      omega
theorem SW.less (h : SW N E src seen out) {a b c : Nat} (ha : a < N) (hb : b < N) (hc : Bd 56 c) (c0 : 0 < valI c) (hg : goesR seen out b (fadd (out a) c) = true) : swM (updF seen b true) (updF out b (fadd (out a) c)) N < swM seen out N := by
  obtain ⟨h1, h2, h3⟩ := h.ob a ha
  obtain ⟨_, s1, s2, s3⟩ := sum_ok h1 h2 hc c0
  refine swM_put ?_ N hb
  unfold goesR at hg
  cases hsb : seen b
  · rw [if_neg (by decide)]
    exact big_lt s1
  · rw [if_pos rfl]
    rw [hsb] at hg
    have h4 : lt (fadd (out a) c) (out b) = true := by simpa using hg
    rw [lt_val (bd_Fin s1 (by omega)) (bd_Fin (h.ob b hb).1 (by omega))] at h4
    have h5 := (h.ob b hb).2.1
    simp at h4
    omega
end
/-- where a way leads, no price is zero, but that of where it begins -/
theorem RWay.pos {N : Nat} {E : Nat → List (Nat × Nat)} {src : Nat} (hE : EdOk N E) {k : Nat} {z : Int} (h : RWay N E src k z) : 0 ≤ z ∧ (k = src ∨ 0 < z) := by
  induction h with
  | start => exact ⟨Int.le_refl _, .inl rfl⟩
  | @step n m c z _ hn hm ih =>
    have h1 := upV_mono c 0 z ih.1
    have h2 := hE.nn n m c hm
    have h3 := infl_val (x := 0) (c := c) (bd_0 84) (hE.bd n m c hm) (by omega)
    have h4 := fadd_up (x := 0) (c := c) (bd_0 84) (hE.bd n m c hm)
    rw [valI_0] at h3 h4
    have h5 : valI c ≤ upV c 0 := by
      have e : (0 : Int) + valI c = valI c := by omega
      unfold upV
      rw [e]
      have hk : rkey (valI c) = keyI c := rkey_val (bd_Fin (hE.bd n m c hm) (by omega))
      rw [hk, ← valI_key]
      exact Int.le_refl _
    exact ⟨by omega, .inr (by omega)⟩
theorem bits_pos {x y : Nat} (hx : x < 4294967296) (hy : y < 4294967296) (h : valI x = valI y) (h0 : 0 < valI x) : x = y := by
  have hk := val_key_eq.1 h
  have h1 : 0 < keyI x := by
    have := val_key (x := 0) (y := x)
    rw [valI_0] at this
    have h2 := this.1 h0
    have h3 : keyI 0 = 0 := by decide
    omega
  unfold keyI at hk h1
  split at hk <;> split at hk <;> split at h1 <;> omega
/-- the least prices are one -/
theorem PrOk.unique {N : Nat} {E : Nat → List (Nat × Nat)} {src : Nat} {seen seen' : Nat → Bool} {out out' : Nat → Nat} (hE : EdOk N E) (h : PrOk N E src seen out) (h' : PrOk N E src seen' out') {k : Nat} (hk : k < N) : seen k = seen' k ∧ out k = out' k := by
  obtain ⟨h1, h2⟩ := h.least.unique h'.least hk
  refine ⟨h1, ?_⟩
  cases hs : seen k
  · rw [h.oz k hk hs, h'.oz k hk (by rw [← h1]; exact hs)]
  · have h3 := h2 hs
    by_cases e : k = src
    · subst e
      rw [h.os, h'.os]
    · have h4 := (h.least.way k hk hs).pos hE
      rcases h4.2 with h5 | h5
      · exact absurd h5 e
      · exact bits_pos (h.ob k hk).2.2 (h'.ob k hk).2.2 h3 h5

/-- tight steps: what holds when all cells that are fewer than n steps away are done -/
structure SP (N : Nat) (E : Nat → List (Nat × Nat)) (src : Nat) (T : Nat → Nat → Nat → Bool) (n : Nat) (H : Nat → Int) : Prop where
  h0 : H src = 0
  h1 : ∀ k, k < N → H k = -1 ∨ 0 ≤ H k
  h3 : ∀ m, m < N → 0 < H m → ∃ a b, a < N ∧ (m, b) ∈ E a ∧ T a m b = true ∧ H a = H m - 1
  h4 : ∀ k, k < N → H k = 0 → k = src
  rg : ∀ k, k < N → H k ≤ n
  cl : ∀ a m b, a < N → 0 ≤ H a → H a < n → (m, b) ∈ E a → T a m b = true → 0 ≤ H m ∧ H m ≤ H a + 1
/-- and within a round: L = the steps that are done -/
structure SPr (N : Nat) (E : Nat → List (Nat × Nat)) (src : Nat) (T : Nat → Nat → Nat → Bool) (n : Nat) (L : List (Nat × Nat × Nat)) (H : Nat → Int) : Prop where
  h0 : H src = 0
  h1 : ∀ k, k < N → H k = -1 ∨ 0 ≤ H k
  h3 : ∀ m, m < N → 0 < H m → ∃ a b, a < N ∧ (m, b) ∈ E a ∧ T a m b = true ∧ H a = H m - 1
  h4 : ∀ k, k < N → H k = 0 → k = src
  rg : ∀ k, k < N → H k ≤ n + 1
  cl : ∀ a m b, a < N → 0 ≤ H a → H a < n → (m, b) ∈ E a → T a m b = true → 0 ≤ H m ∧ H m ≤ H a + 1
  cr : ∀ a m b, (a, m, b) ∈ L → H a = n → T a m b = true → 0 ≤ H m ∧ H m ≤ H a + 1
section
variable {N : Nat} {E : Nat → List (Nat × Nat)} {src : Nat} {T : Nat → Nat → Nat → Bool} {n : Nat} {H : Nat → Int}
theorem SP.start (N : Nat) (E : Nat → List (Nat × Nat)) (src : Nat) (T : Nat → Nat → Nat → Bool) : SP N E src T 0 (updF (fun _ => -1) src 0) := by
  have e : ∀ k, updF (fun _ => (-1 : Int)) src 0 k = 0 ∧ k = src ∨ updF (fun _ => (-1 : Int)) src 0 k = -1 := fun k => by
    by_cases h : k = src
    · subst h; exact .inl ⟨updF_same _ _ _, rfl⟩
    · exact .inr (updF_ne _ _ h)
  refine ⟨updF_same _ _ _, fun k _ => ?_, fun m _ h => ?_, fun k _ h => ?_, fun k _ => ?_, fun a m b _ h1 h2 => ?_⟩
  · rcases e k with h | h <;> omega
  · rcases e m with h' | h' <;> omega
  · rcases e k with h' | h'
    · exact h'.2
    · omega
  · rcases e k with h' | h' <;> omega
  · omega
theorem SP.open (h : SP N E src T n H) : SPr N E src T n [] H := ⟨h.h0, h.h1, h.h3, h.h4, fun k hk => by have := h.rg k hk; omega, h.cl, fun _ _ _ hm => by cases hm⟩
theorem SPr.stay {L : List (Nat × Nat × Nat)} {a m b : Nat} (h : SPr N E src T n L H) (hn : (0 ≤ H m ∧ m < N) ∨ H a ≠ n ∨ T a m b = false) : SPr N E src T n (L ++ [(a, m, b)]) H := by
  refine ⟨h.h0, h.h1, h.h3, h.h4, h.rg, h.cl, fun a' m' b' hm ha ht => ?_⟩
  rcases List.mem_append.1 hm with h1 | h1
  · exact h.cr a' m' b' h1 ha ht
  · simp at h1
    obtain ⟨rfl, rfl, rfl⟩ := h1
    rcases hn with ⟨h2, h3⟩ | h2 | h2
    · exact ⟨h2, by have := h.rg _ h3; omega⟩
    · exact absurd ha h2
    · rw [h2] at ht; cases ht
theorem SPr.put {L : List (Nat × Nat × Nat)} {a m b : Nat} (h : SPr N E src T n L H) (ha : a < N) (hm : m < N) (hE : (m, b) ∈ E a) (hH : H a = n) (hn : H m < 0) (ht : T a m b = true) : SPr N E src T n (L ++ [(a, m, b)]) (updF H m ((n : Int) + 1)) := by
  have hms : src ≠ m := fun e => by have := h.h0; rw [e] at this; omega
  have ham : a ≠ m := fun e => by rw [e] at hH; omega
  have key : ∀ k v, 0 ≤ H k ∧ H k ≤ v → 0 ≤ updF H m ((n : Int) + 1) k ∧ updF H m ((n : Int) + 1) k ≤ v := fun k v hk => by
    have : k ≠ m := fun e => by subst e; omega
    rw [updF_ne _ _ this]
    exact hk
  refine ⟨by rw [updF_ne _ _ hms]; exact h.h0, fun k hk => ?_, fun k hk h1 => ?_, fun k hk h1 => ?_, fun k hk => ?_, fun a' m' b' ha' h1 h2 h3 h4 => ?_, fun a' m' b' h1 h2 h3 => ?_⟩
  · by_cases e : k = m
    · subst e; rw [updF_same]; right; omega
    · rw [updF_ne _ _ e]; exact h.h1 k hk
  · by_cases e : k = m
    · subst e
      refine ⟨a, b, ha, hE, ht, ?_⟩
      rw [updF_ne _ _ ham, updF_same]
      omega
    · rw [updF_ne _ _ e] at h1 ⊢
      obtain ⟨p, q, h2, h3, h4, h5⟩ := h.h3 k hk h1
      have : p ≠ m := fun e => by subst e; omega
      exact ⟨p, q, h2, h3, h4, by rw [updF_ne _ _ this]; exact h5⟩
  · by_cases e : k = m
    · subst e; rw [updF_same] at h1; omega
    · rw [updF_ne _ _ e] at h1; exact h.h4 k hk h1
  · by_cases e : k = m
    · subst e; rw [updF_same]; omega
    · rw [updF_ne _ _ e]; exact h.rg k hk
  · have e : a' ≠ m := fun e => by subst e; rw [updF_same] at h2; omega
    rw [updF_ne _ _ e] at h1 h2 ⊢
    exact key _ _ (h.cl a' m' b' ha' h1 h2 h3 h4)
  · by_cases e : a' = m
    · subst e; rw [updF_same] at h2; omega
    · rw [updF_ne _ _ e] at h2 ⊢
      rcases List.mem_append.1 h1 with h4 | h4
      · exact key _ _ (h.cr a' m' b' h4 h2 h3)
      · simp at h4
        obtain ⟨rfl, rfl, rfl⟩ := h4
        rw [updF_same]
        omega
theorem SPr.close {L : List (Nat × Nat × Nat)} (h : SPr N E src T n L H) (hL : ∀ a m b, a < N → (m, b) ∈ E a → (a, m, b) ∈ L) : SP N E src T (n + 1) H := by
  refine ⟨h.h0, h.h1, h.h3, h.h4, fun k hk => by have := h.rg k hk; omega, fun a m b ha h1 h2 h3 h4 => ?_⟩
  by_cases e : H a = n
  · exact h.cr a m b (hL a m b ha h3) e h4
  · exact h.cl a m b ha h1 (by omega) h3 h4
/-- cells at all numbers of steps below -/
theorem SP.at (h : SP N E src T n H) : ∀ (v : Nat) (m : Nat), m < N → H m = v → ∀ u, u ≤ v → ∃ k, k < N ∧ H k = u
  | 0, m, hm, hv, u, hu => ⟨m, hm, by rw [hv]; omega⟩
  | v + 1, m, hm, hv, u, hu => by
    by_cases e : u = v + 1
    · exact ⟨m, hm, by rw [hv, e]⟩
    · obtain ⟨a, b, ha, _, _, h5⟩ := h.h3 m hm (by omega)
      exact h.at v a ha (by omega) u (by omega)
theorem SP.lt (h : SP N E src T n H) {m : Nat} (hm : m < N) : H m < N := by
  rcases h.h1 m hm with h1 | h1
  · omega
  · obtain ⟨v, hv⟩ : ∃ v : Nat, H m = v := ⟨(H m).toNat, by omega⟩
    rcases Nat.lt_or_ge v N with h2 | h2
    · omega
    · exfalso
      have hc : ∀ u, ∃ k, u ≤ v → k < N ∧ H k = u := fun u => by
        by_cases hu : u ≤ v
        · obtain ⟨k, hk⟩ := h.at v m hm hv u hu
          exact ⟨k, fun _ => hk⟩
        · exact ⟨0, fun h => absurd h hu⟩
      obtain ⟨f, hf⟩ := Classical.axiomOfChoice hc
      have hnd : ((List.range (v + 1)).map f).Nodup := by
        refine List.Pairwise.map f (fun i j (hij : i ≠ j ∧ i ≤ v ∧ j ≤ v) e => ?_) ((List.nodup_range (n := v + 1)).imp_of_mem fun {i j} hi hj h => ⟨h, by simp at hi; omega, by simp at hj; omega⟩)
        have h1 := (hf i hij.2.1).2
        have h2 := (hf j hij.2.2).2
        rw [e] at h1
        have := hij.1
        omega
      have := nodup_le hnd (fun k hk => by
        simp at hk
        obtain ⟨u, hu, rfl⟩ := hk
        exact (hf u (by omega)).1)
      simp at this
      omega
theorem SP.fin (h : SP N E src T N H) : HopOk N E src T H :=
  ⟨h.h0, h.h1, fun a m b ha h0 hm ht => h.cl a m b ha h0 (h.lt ha) hm ht, h.h3, h.h4⟩
end
end Go.Proofs.Ytpgdinpckolfpaa

namespace Go.Proofs.Ytpgdinpckolfpaa
open Go.RowKit
attribute [local go_sem ↓] Go.wp_at_zero Go.wp_at_succ
attribute [local go_sem] run_store_float

/-- steps as cells -/
def edv (L : List (Nat × Nat × Nat)) : List Value := L.flatMap fun e => [.int .i64 (e.1 : Nat), .int .i64 (e.2.1 : Nat), .float .f32 e.2.2]
theorem edv_append (l m : List (Nat × Nat × Nat)) : edv (l ++ m) = edv l ++ edv m := by simp [edv]
theorem edv_cons (a : Nat × Nat × Nat) (l : List (Nat × Nat × Nat)) : edv (a :: l) = .int .i64 (a.1 : Nat) :: .int .i64 (a.2.1 : Nat) :: .float .f32 a.2.2 :: edv l := rfl
theorem edv_length : ∀ l : List (Nat × Nat × Nat), (edv l).length = l.length * 3
  | [] => rfl
  | a :: l => by rw [edv_cons]; simp [edv_length l]; omega
theorem edv_get : ∀ {l : List (Nat × Nat × Nat)} {i : Nat} (h : i < l.length), (edv l)[i * 3]? = some (.int .i64 (l[i].1 : Nat)) ∧ (edv l)[i * 3 + 1]? = some (.int .i64 (l[i].2.1 : Nat)) ∧ (edv l)[i * 3 + 2]? = some (.float .f32 l[i].2.2)
  | a :: l, 0, _ => ⟨rfl, rfl, rfl⟩
  | a :: l, i + 1, h => by
    have ih := @edv_get l i (by simpa using h)
    rw [edv_cons]
    rw [show (i + 1) * 3 = i * 3 + 1 + 1 + 1 by omega, show i * 3 + 1 + 1 + 1 + 1 = (i * 3 + 1) + 1 + 1 + 1 by omega, show i * 3 + 1 + 1 + 1 + 2 = (i * 3 + 2) + 1 + 1 + 1 by omega]
    simpa using ih
/-- steps of the call's own -/
def OwnE (w : World) (base : Nat) (v : Value) (xs : List (Nat × Nat × Nat)) : Prop := w.ownsRow base 134 3 v xs.length (edv xs)
theorem OwnE.ext {w w' : World} {base : Nat} {v : Value} {xs : List (Nat × Nat × Nat)} (h : OwnE w base v xs) (hx : Ext w w') : OwnE w' base v xs := World.ownsRow.kept h (grown_ext hx none) (by cases h : v.ownBlock <;> simp)
theorem OwnE.set {w : World} {base : Nat} {v : Value} {xs : List (Nat × Nat × Nat)} {g i : Nat} {t : TypeId} {cs : Array Value} (h : OwnE w base v xs) (hg : Bk w g t cs) (hne : 134 ≠ t) (u : Value) : OwnE (w.setCell ⟨g, i, none⟩ u) base v xs :=
  ownsRow_setCell_other h (fun e => own_ne h hg hne e.symm) u
theorem OwnE.push {w : World} {base : Nat} {v : Value} {xs : List (Nat × Nat × Nat)} {a b c : Nat} (h : w.ownsRow base 134 3 v (xs.length + 1) (edv xs ++ [.int .i64 (a : Nat), .int .i64 (b : Nat), .float .f32 c])) : OwnE w base v (xs ++ [(a, b, c)]) := by
  unfold OwnE
  rw [edv_append, List.length_append]
  exact h
theorem OwnE.any {w : World} {base : Nat} {v : Value} {xs : List (Nat × Nat × Nat)} (h : OwnE w base v xs) : ∃ A cap, v = .slice A xs.length cap ∧ Rd w A (edv xs) := by
  rcases h.2 with ⟨h1, h2⟩ | ⟨g, cap, cur, hv, _⟩
  · have hx : xs = [] := List.eq_nil_of_length_eq_zero h2
    subst hx
    exact ⟨none, 0, h1, Rd.nil _ _⟩
  · subst hv
    exact ⟨_, cap, rfl, Rd.of_own h⟩
theorem infoEdge : (Try.prog.info? 134).map (fun i => (i.zero, i.size, i.bytes)) = some (some (.agg #[.int .i64 0, .int .i64 0, .float .f32 0]), 3, 24) := by kernel_rfl
theorem ed_at {w : World} {A : Option Addr} {l : List (Nat × Nat × Nat)} (h : Rd w A (edv l)) {k : Nat} (hk : k < l.length) : ∃ ad, A = some ad ∧ ad.block < w.heap.size ∧ w.cell? (ad.add (k * 3)) = some (.int .i64 ((l.getD k (0, 0, 0)).1 : Nat)) ∧ w.cell? ⟨(ad.add (k * 3)).block, (ad.add (k * 3)).off + 1, none⟩ = some (.int .i64 ((l.getD k (0, 0, 0)).2.1 : Nat)) ∧ w.cell? ⟨(ad.add (k * 3)).block, (ad.add (k * 3)).off + 2, none⟩ = some (.float .f32 (l.getD k (0, 0, 0)).2.2) := by
  obtain ⟨ad, rfl, hb, hc⟩ := h (by rintro e; have := edv_length l; rw [e] at this; simp at this; omega)
  have ek : l.getD k (0, 0, 0) = l[k] := by simp [List.getD_eq_getElem?_getD, hk]
  rw [ek]
  have h3 := edv_get hk
  refine ⟨ad, rfl, hb, hc _ _ h3.1, ?_, ?_⟩
  · have := hc _ _ h3.2.1
    rw [show ad.add (k * 3 + 1) = ⟨(ad.add (k * 3)).block, (ad.add (k * 3)).off + 1, none⟩ from (add_off ad (k * 3) (by omega)).symm] at this
    exact this
  · have := hc _ _ h3.2.2
    rw [show ad.add (k * 3 + 2) = ⟨(ad.add (k * 3)).block, (ad.add (k * 3)).off + 2, none⟩ from (add_off ad (k * 3) (by omega)).symm] at this
    exact this

/-- all steps of a field, by where they begin and where they end -/
def edO (R : RlR) (V : Nat → Nat) (Wn Hn a b : Nat) : List (Nat × Nat × Nat) := match stepF R V Wn Hn a b with
  | some c => [(a, b, c)]
  | none => []
def edB (R : RlR) (V : Nat → Nat) (Wn Hn a : Nat) : Nat → List (Nat × Nat × Nat)
  | 0 => []
  | b + 1 => edB R V Wn Hn a b ++ edO R V Wn Hn a b
def edG (R : RlR) (V : Nat → Nat) (Wn Hn N : Nat) : Nat → List (Nat × Nat × Nat)
  | 0 => []
  | a + 1 => edG R V Wn Hn N a ++ edB R V Wn Hn a N
section
variable {R : RlR} {V : Nat → Nat} {Wn Hn N : Nat}
theorem edO_mem {a b : Nat} {e : Nat × Nat × Nat} : e ∈ edO R V Wn Hn a b ↔ e.1 = a ∧ e.2.1 = b ∧ stepF R V Wn Hn a b = some e.2.2 := by
  obtain ⟨x, y, z⟩ := e
  unfold edO
  split
  · rename_i c h
    rw [h]
    simp
    intro _ _
    exact ⟨fun h => h.symm, fun h => h.symm⟩
  · rename_i h
    rw [h]
    simp
theorem edB_mem {a : Nat} {e : Nat × Nat × Nat} : ∀ m, e ∈ edB R V Wn Hn a m ↔ e.1 = a ∧ e.2.1 < m ∧ stepF R V Wn Hn a e.2.1 = some e.2.2
  | 0 => by simp [edB]
  | m + 1 => by
    rw [edB, List.mem_append, edB_mem m, edO_mem]
    constructor
    · rintro (⟨h1, h2, h3⟩ | ⟨h1, h2, h3⟩)
      · exact ⟨h1, by omega, h3⟩
      · exact ⟨h1, by omega, by rw [h2]; exact h3⟩
    · rintro ⟨h1, h2, h3⟩
      by_cases e : e.2.1 = m
      · exact .inr ⟨h1, e, by rw [← e]; exact h3⟩
      · exact .inl ⟨h1, by omega, h3⟩
theorem edG_mem {e : Nat × Nat × Nat} : ∀ m, e ∈ edG R V Wn Hn N m ↔ e.1 < m ∧ e.2.1 < N ∧ stepF R V Wn Hn e.1 e.2.1 = some e.2.2
  | 0 => by simp [edG]
  | m + 1 => by
    rw [edG, List.mem_append, edG_mem m, edB_mem]
    constructor
    · rintro (⟨h1, h2, h3⟩ | ⟨h1, h2, h3⟩)
      · exact ⟨by omega, h2, h3⟩
      · exact ⟨by omega, h2, by rw [h1]; exact h3⟩
    · rintro ⟨h1, h2, h3⟩
      by_cases e : e.1 = m
      · exact .inr ⟨e, h2, by rw [← e]; exact h3⟩
      · exact .inl ⟨by omega, h2, h3⟩
theorem edO_len (a b : Nat) : (edO R V Wn Hn a b).length ≤ 1 := by
  unfold edO
  split <;> simp
theorem edB_len (a : Nat) : ∀ m, (edB R V Wn Hn a m).length ≤ m
  | 0 => by simp [edB]
  | m + 1 => by
    rw [edB, List.length_append]
    have := edB_len a m
    have := edO_len (R := R) (V := V) (Wn := Wn) (Hn := Hn) a m
    omega
theorem edG_len : ∀ m, (edG R V Wn Hn N m).length ≤ m * N
  | 0 => by simp [edG]
  | m + 1 => by
    rw [edG, List.length_append, Nat.succ_mul]
    have := edG_len m
    have := edB_len (R := R) (V := V) (Wn := Wn) (Hn := Hn) m N
    omega
/-- the steps of the list are those that lead from cells -/
theorem edG_ed (hW : 1 ≤ Wn) (hN : N = Wn * Hn) (hE : EdOk N (edA R V Wn Hn N)) {a b c : Nat} : (a, b, c) ∈ edG R V Wn Hn N N ↔ a < N ∧ (b, c) ∈ edA R V Wn Hn N a := by
  rw [edG_mem]
  dsimp only
  constructor
  · rintro ⟨h1, h2, h3⟩
    refine ⟨h1, ?_⟩
    rw [edA_at h1]
    exact (edK_iff hW (by rw [← hN]; exact h1) (by rw [← hN]; exact h2)).2 h3
  · rintro ⟨h1, h2⟩
    have h3 := hE.to a b c h2
    rw [edA_at h1] at h2
    exact ⟨h1, h3, (edK_iff hW (by rw [← hN]; exact h1) (by rw [← hN]; exact h3)).1 h2⟩
end
set_option maxHeartbeats 1600000 in
theorem pointR_any (X Y W H : Int) (k : Nat) (w : World) (hr : RegOk X Y W H) (hk : k ≤ 65536) :
    Calls Try.prog 73 #[.agg #[.int .i64 X, .int .i64 Y, .int .i64 W, .int .i64 H], .int .i64 k] w fun e w' => e = .returned (.agg #[.int .i64 (placeK X Y W k).1, .int .i64 (placeK X Y W k).2]) ∧ Ext w w' := by
  have HPl := fun (w : World) => hidA (Place_any X Y W H k w hr hk)
  clear hr hk
  generalize (placeK X Y W k).1 = a at *
  generalize (placeK X Y W k).2 = b at *
  go_enter Try.func73, Try.ntmps73
  go_upto_region 1 with fail
  obtain ⟨w0, hw0⟩ : ∃ w0, w0 = (w.alloc (.cells #[.int .i64 X, .int .i64 Y, .int .i64 W, .int .i64 H] 23)).alloc (.cells #[.int .i64 0, .int .i64 0] 32) := ⟨_, rfl⟩
  have kR : Bk w0 w.heap.size 23 #[.int .i64 X, .int .i64 Y, .int .i64 W, .int .i64 H] := by rw [hw0]; exact (Bk.new' rfl).alloc _
  have kP : Bk w0 (w.heap.size + 1) 32 #[.int .i64 0, .int .i64 0] := by rw [hw0]; exact Bk.new' (by simp)
  have hx0 : Ext w w0 := by rw [hw0]; exact ((Ext.refl w).alloc _).alloc _
  rw [← hw0]
  clear hw0
  have hp1 : w.heap.size ≤ w.heap.size + 1 := by omega
  generalize hge : w.heap.size + 1 = hp at *
  have hpw : w.heap.size ≤ hp := hp1
  have c0 := kR.cell 0
  have c1 := kR.cell 1
  have c2 := kR.cell 2
  have c3 := kR.cell 3
  go_upto_region 2 with (go_at_call 33; refine ((HPl _).out).mono ?_; rintro e w1 ⟨rfl, hx1⟩)
  have kP1 := kP.ext hx1
  clear c0 c1 c2 c3 kR kP
  have p0 := kP1.cell 0
  have p1 := kP1.cell 1
  have f0 := kP1.frozen 0
  have f1 := kP1.frozen 1
  have kP2 := (kP1.set 0 (.int .i64 a)).set 1 (.int .i64 b)
  have q0 := kP2.cell 0
  have q1 := kP2.cell 1
  have hx2 := ((hx0.trans hx1).setCell (p := ⟨hp, 0, none⟩) hpw (.int .i64 a)).setCell (p := ⟨hp, 1, none⟩) hpw (.int .i64 b)
  have Hx2 := hidA hx2
  clear hx2 kP1 kP2
  go_wp2
  refine bodyPost_ret (v := .agg #[.int .i64 a, .int .i64 b]) (by simp [results, Try.results73, go_sem, q0, q1]) rfl ⟨rfl, Hx2.out⟩
end Go.Proofs.Ytpgdinpckolfpaa
