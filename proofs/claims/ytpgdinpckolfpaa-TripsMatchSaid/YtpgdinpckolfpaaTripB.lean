/- Pure: least sums of prices from a site: by the site that is nearest, and by sweeps over roads. No program in sight. -/
import Derived.Test.YtpgdinpckolfpaaTripA
namespace Go.Proofs.Ytpgdinpckolfpaa
open Go.RowKit

/-- a road leads from a to b -/
def TrE (l : List (Nat × Nat × Nat)) (a b p : Nat) : Prop := (a, b, p) ∈ l ∨ (b, a, p) ∈ l
/-- right roads -/
def TrOk (N : Nat) (l : List (Nat × Nat × Nat)) : Prop := ∀ a b p, (a, b, p) ∈ l → a < N ∧ b < N ∧ a ≠ b ∧ PriB p
theorem TrOk.e {N : Nat} {l : List (Nat × Nat × Nat)} (h : TrOk N l) {a b p : Nat} (e : TrE l a b p) : a < N ∧ b < N ∧ a ≠ b ∧ PriB p := by
  rcases e with e | e
  · exact h _ _ _ e
  · obtain ⟨h1, h2, h3, h4⟩ := h _ _ _ e
    exact ⟨h2, h1, fun e => h3 e.symm, h4⟩
inductive TWay (l : List (Nat × Nat × Nat)) (src : Nat) : Nat → Nat → Prop
  | start : TWay l src src 0
  | step {a b p z : Nat} : TWay l src a z → TrE l a b p → TWay l src b (fadd z p)
def goesT (is : Nat → Bool) (v : Nat → Nat) (b x : Nat) : Bool := !is b || lt x (v b)
/-- what holds while sums are lowered -/
structure TS (N : Nat) (l : List (Nat × Nat × Nat)) (src : Nat) (is : Nat → Bool) (v : Nat → Nat) : Prop where
  way : ∀ k, k < N → is k = true → TWay l src k (v k)
  ob : ∀ k, k < N → SumB (v k)
  oz : ∀ k, k < N → is k = false → v k = 0
  os : v src = 0
  sk : is src = true
/-- sums that are the least -/
structure TLe (N : Nat) (l : List (Nat × Nat × Nat)) (src : Nat) (is : Nat → Bool) (v : Nat → Nat) : Prop where
  s : TS N l src is v
  least : ∀ k z, TWay l src k z → is k = true ∧ v k ≤ z
theorem upT_same {α : Type} (f : Nat → α) (k : Nat) (x : α) : updF f k x k = x := by unfold updF; rw [if_pos rfl]
theorem upT_ne {α : Type} (f : Nat → α) {k j : Nat} (x : α) (h : j ≠ k) : updF f k x j = f j := by unfold updF; rw [if_neg h]
section
variable {N : Nat} {l : List (Nat × Nat × Nat)} {src : Nat} {is : Nat → Bool} {v : Nat → Nat}
theorem TS.start (N : Nat) (l : List (Nat × Nat × Nat)) (src : Nat) : TS N l src (updF (fun _ => false) src true) (fun _ => 0) := by
  refine ⟨fun k _ hs => ?_, fun k _ => sumB_zero, fun _ _ _ => rfl, rfl, upT_same _ _ _⟩
  have e : k = src := by
    unfold updF at hs
    split at hs
    · assumption
    · cases hs
  subst e
  exact .start
theorem TS.put (h : TS N l src is v) (hl : TrOk N l) {a b p : Nat} (hs : is a = true) (hE : TrE l a b p) (hg : goesT is v b (fadd (v a) p) = true) : TS N l src (updF is b true) (updF v b (fadd (v a) p)) := by
  obtain ⟨ha, hb, _, hp⟩ := hl.e hE
  obtain ⟨_, s1, s2⟩ := sumT (h.ob a ha) hp
  have hns : src ≠ b := fun e => by
    subst e
    unfold goesT at hg
    rw [h.sk, sum_lt s1 (h.ob _ hb), h.os] at hg
    simp at hg
  refine ⟨fun k hk hsk => ?_, fun k hk => ?_, fun k hk hsk => ?_, by rw [upT_ne _ _ hns]; exact h.os, by rw [upT_ne _ _ hns]; exact h.sk⟩
  · by_cases e : k = b
    · subst e
      rw [upT_same]
      exact .step (h.way a ha hs) hE
    · rw [upT_ne _ _ e] at hsk ⊢
      exact h.way k hk hsk
  · by_cases e : k = b
    · subst e
      rw [upT_same]
      exact s1
    · rw [upT_ne _ _ e]
      exact h.ob k hk
  · by_cases e : k = b
    · subst e
      rw [upT_same] at hsk
      cases hsk
    · rw [upT_ne _ _ e] at hsk ⊢
      exact h.oz k hk hsk
theorem goesT_false (h : TS N l src is v) {b x : Nat} (hb : b < N) (hx : SumB x) (hg : goesT is v b x = false) : is b = true ∧ v b ≤ x := by
  unfold goesT at hg
  rw [sum_lt hx (h.ob b hb)] at hg
  simp at hg
  exact hg
theorem goesT_true (h : TS N l src is v) {b x : Nat} (hb : b < N) (hx : SumB x) (hg : goesT is v b x = true) : is b = false ∨ x < v b := by
  unfold goesT at hg
  rw [sum_lt hx (h.ob b hb)] at hg
  simpa using hg
theorem TS.least (h : TS N l src is v) (hl : TrOk N l) (hcl : ∀ a b p, is a = true → TrE l a b p → is b = true ∧ v b ≤ fadd (v a) p) : TLe N l src is v := by
  refine ⟨h, fun k z hw => ?_⟩
  have hz : ∀ k z, TWay l src k z → SumB z := fun k z hw => by
    induction hw with
    | start => exact sumB_zero
    | step _ hE ih => exact (sumT ih (hl.e hE).2.2.2).2.1
  induction hw with
  | start => exact ⟨h.sk, by rw [h.os]; omega⟩
  | @step a b p z hw hE ih =>
    have h1 := hcl a b p ih.1 hE
    exact ⟨h1.1, Nat.le_trans h1.2 (sumT_mono (hz _ _ hw) (hl.e hE).2.2.2 ih.2)⟩
theorem TLe.unique {is' : Nat → Bool} {v' : Nat → Nat} (h : TLe N l src is v) (h' : TLe N l src is' v') {k : Nat} (hk : k < N) : is k = is' k ∧ v k = v' k := by
  have key : ∀ {is is' : Nat → Bool} {v v' : Nat → Nat}, TLe N l src is v → TLe N l src is' v' → is k = true → is' k = true ∧ v' k ≤ v k := fun h h' hs => h'.least k _ (h.s.way k hk hs)
  cases hs : is k
  · have h1 : is' k = false := by
      cases hs' : is' k
      · rfl
      · rw [(key h' h hs').1] at hs; cases hs
    exact ⟨h1.symm, by rw [h.s.oz k hk hs, h'.s.oz k hk h1]⟩
  · have h1 := key h h' hs
    have h2 := key h' h h1.1
    exact ⟨h1.1.symm, by omega⟩
/-- what each sweep lowers -/
def tM (is : Nat → Bool) (v : Nat → Nat) : Nat → Nat
  | 0 => 0
  | n + 1 => tM is v n + (if is n = true then v n else 2139095041)
theorem tM_far (b x : Nat) : ∀ n, n ≤ b → tM (updF is b true) (updF v b x) n = tM is v n
  | 0, _ => rfl
  | n + 1, h => by
    unfold tM
    rw [tM_far b x n (by omega), upT_ne _ _ (by omega : n ≠ b), upT_ne _ _ (by omega : n ≠ b)]
theorem tM_put {b x : Nat} (hx : x < (if is b = true then v b else 2139095041)) : ∀ n, b < n → tM (updF is b true) (updF v b x) n < tM is v n
  | 0, h => by omega
  | n + 1, h => by
    unfold tM
    by_cases e : n = b
    · subst e
      rw [tM_far n x n (Nat.le_refl _), upT_same, upT_same, if_pos rfl]
      omega
    · have ih := tM_put hx n (by omega)
      rw [upT_ne _ _ e, upT_ne _ _ e]
      omega
theorem TS.less (h : TS N l src is v) {b x : Nat} (hb : b < N) (hx : SumB x) (hg : goesT is v b x = true) : tM (updF is b true) (updF v b x) N < tM is v N := by
  refine tM_put ?_ N hb
  rcases goesT_true h hb hx hg with h1 | h1
  · rw [h1, if_neg (by decide)]
    unfold SumB at hx
    omega
  · have := h.ob b hb
    unfold SumB at hx this
    split <;> omega
/-- a sweep: what holds when the roads L are done -/
def TSw (N : Nat) (L : List (Nat × Nat × Nat)) (m : Nat) (again : Bool) (is : Nat → Bool) (v : Nat → Nat) : Prop :=
  (again = true ∧ tM is v N < m) ∨ (again = false ∧ tM is v N = m ∧ ∀ a b p, TrE L a b p → is a = true → is b = true ∧ v b ≤ fadd (v a) p)
/-- the site that is nearest: what holds between two rounds -/
structure TD (N : Nat) (l : List (Nat × Nat × Nat)) (src : Nat) (done is : Nat → Bool) (v : Nat → Nat) : Prop where
  s : TS N l src is v
  dk : ∀ a, done a = true → is a = true
  cl : ∀ a b p, done a = true → TrE l a b p → is b = true ∧ v b ≤ fadd (v a) p
  lo : ∀ a b, a < N → b < N → done a = true → is b = true → done b = false → v a ≤ v b
/-- and within a round -/
structure TR (N : Nat) (l : List (Nat × Nat × Nat)) (src : Nat) (L : List (Nat × Nat × Nat)) (k : Nat) (done is : Nat → Bool) (v : Nat → Nat) : Prop where
  s : TS N l src is v
  kN : k < N
  kd : done k = true
  dk : ∀ a, done a = true → is a = true
  cl : ∀ a b p, done a = true → a ≠ k → TrE l a b p → is b = true ∧ v b ≤ fadd (v a) p
  ck : ∀ b p, TrE L k b p → is b = true ∧ v b ≤ fadd (v k) p
  lo : ∀ a b, a < N → b < N → done a = true → is b = true → done b = false → v a ≤ v b
  hi : ∀ a, a < N → done a = true → v a ≤ v k
variable {done : Nat → Bool}
theorem TD.start (N : Nat) (l : List (Nat × Nat × Nat)) (src : Nat) : TD N l src (fun _ => false) (updF (fun _ => false) src true) (fun _ => 0) :=
  ⟨TS.start N l src, (fun _ h => by cases h), (fun _ _ _ h => by cases h), (fun _ _ _ _ h => by cases h)⟩
theorem TD.take (h : TD N l src done is v) {k : Nat} (hk : k < N) (hi : is k = true) (hd : done k = false) (hm : ∀ j, j < N → is j = true → done j = false → v k ≤ v j) : TR N l src [] k (updF done k true) is v := by
  have e : ∀ a, updF done k true a = true → a = k ∨ (a ≠ k ∧ done a = true) := fun a ha => by
    by_cases e : a = k
    · exact .inl e
    · rw [upT_ne _ _ e] at ha; exact .inr ⟨e, ha⟩
  refine ⟨h.s, hk, upT_same _ _ _, fun a ha => ?_, fun a b p ha hak hE => ?_, fun b p hE => ?_, fun a b ha hb hda hib hdb => ?_, fun a ha hda => ?_⟩
  · rcases e a ha with rfl | ⟨_, h1⟩
    · exact hi
    · exact h.dk a h1
  · rcases e a ha with h1 | ⟨_, h1⟩
    · exact absurd h1 hak
    · exact h.cl a b p h1 hE
  · rcases hE with h1 | h1 <;> cases h1
  · have hbk : b ≠ k := fun e => by subst e; rw [upT_same] at hdb; cases hdb
    rw [upT_ne _ _ hbk] at hdb
    rcases e a hda with rfl | ⟨_, h1⟩
    · exact hm b hb hib hdb
    · exact h.lo a b ha hb h1 hib hdb
  · rcases e a hda with rfl | ⟨_, h1⟩
    · exact Nat.le_refl _
    · exact h.lo a k ha hk h1 hi hd
theorem TrE.snoc {L : List (Nat × Nat × Nat)} {a b p c d q : Nat} (h : TrE (L ++ [(c, d, q)]) a b p) : TrE L a b p ∨ (a = c ∧ b = d ∧ p = q) ∨ (a = d ∧ b = c ∧ p = q) := by
  rcases h with h | h
  · rcases List.mem_append.1 h with h1 | h1
    · exact .inl (.inl h1)
    · simp at h1; exact .inr (.inl h1)
  · rcases List.mem_append.1 h with h1 | h1
    · exact .inl (.inr h1)
    · simp at h1; exact .inr (.inr ⟨h1.2.1, h1.1, h1.2.2⟩)
theorem TR.skip {L : List (Nat × Nat × Nat)} {k a b p : Nat} (h : TR N l src L k done is v) (ha : a ≠ k) (hb : b ≠ k) : TR N l src (L ++ [(a, b, p)]) k done is v :=
  ⟨h.s, h.kN, h.kd, h.dk, h.cl, fun c q hE => by
    rcases hE.snoc with h1 | ⟨h1, _⟩ | ⟨h1, _⟩
    · exact h.ck c q h1
    · exact absurd h1.symm ha
    · exact absurd h1.symm hb, h.lo, h.hi⟩
theorem TR.stay {L : List (Nat × Nat × Nat)} {k t a b p : Nat} (h : TR N l src L k done is v) (hl : TrOk N l) (hab : (a = k ∧ b = t) ∨ (a = t ∧ b = k)) (hE : TrE l k t p) (hg : goesT is v t (fadd (v k) p) = false) : TR N l src (L ++ [(a, b, p)]) k done is v := by
  obtain ⟨_, ht, hkt, hp⟩ := hl.e hE
  have h1 := goesT_false h.s ht (sumT (h.s.ob k h.kN) hp).2.1 hg
  refine ⟨h.s, h.kN, h.kd, h.dk, h.cl, fun c q hE2 => ?_, h.lo, h.hi⟩
  rcases hE2.snoc with h2 | ⟨e1, e2, e3⟩ | ⟨e1, e2, e3⟩
  · exact h.ck c q h2
  · rcases hab with ⟨rfl, rfl⟩ | ⟨rfl, rfl⟩
    · rw [e2, e3]; exact h1
    · exact absurd e1 hkt
  · rcases hab with ⟨rfl, rfl⟩ | ⟨rfl, rfl⟩
    · exact absurd e1 hkt
    · rw [e2, e3]; exact h1
theorem TR.put {L : List (Nat × Nat × Nat)} {k t a b p : Nat} (h : TR N l src L k done is v) (hl : TrOk N l) (hab : (a = k ∧ b = t) ∨ (a = t ∧ b = k)) (hE : TrE l k t p) (hg : goesT is v t (fadd (v k) p) = true) : TR N l src (L ++ [(a, b, p)]) k done (updF is t true) (updF v t (fadd (v k) p)) := by
  obtain ⟨_, ht, hkt, hp⟩ := hl.e hE
  obtain ⟨_, s1, s2⟩ := sumT (h.s.ob k h.kN) hp
  have hkk : t ≠ k := fun e => hkt e.symm
  have hv := goesT_true h.s ht s1 hg
  have hdt : done t = false := by
    cases hd : done t
    · rfl
    · rcases hv with h1 | h1
      · rw [h.dk t hd] at h1; cases h1
      · have := h.hi t ht hd
        omega
  have hne : ∀ a, done a = true → a ≠ t := fun a ha e => by subst e; rw [hdt] at ha; cases ha
  have hS := h.s.put hl (h.dk k h.kd) hE hg
  obtain ⟨x, hx⟩ : ∃ x, x = fadd (v k) p := ⟨_, rfl⟩
  rw [← hx] at hS s1 s2 hv ⊢
  have key : ∀ c y, is c = true ∧ v c ≤ y → updF is t true c = true ∧ updF v t x c ≤ y := fun c y hc => by
    by_cases e : c = t
    · subst e
      rw [upT_same, upT_same]
      refine ⟨rfl, ?_⟩
      rcases hv with h1 | h1
      · rw [hc.1] at h1; cases h1
      · omega
    · rw [upT_ne _ _ e, upT_ne _ _ e]
      exact hc
  refine ⟨hS, h.kN, h.kd, fun c hc => ?_, fun c d q hc hck hE2 => ?_, fun c q hE2 => ?_, fun c d hc hd hdc hid hdd => ?_, fun c hc hdc => ?_⟩
  · rw [upT_ne _ _ (hne c hc)]; exact h.dk c hc
  · rw [upT_ne v _ (hne c hc)]
    exact key _ _ (h.cl c d q hc hck hE2)
  · rw [upT_ne v _ (fun e => hkk e.symm)]
    rcases hE2.snoc with h2 | ⟨e1, e2, e3⟩ | ⟨e1, e2, e3⟩
    · exact key _ _ (h.ck c q h2)
    · rcases hab with ⟨rfl, rfl⟩ | ⟨rfl, rfl⟩
      · rw [e2, e3, ← hx, upT_same, upT_same]
        exact ⟨rfl, Nat.le_refl _⟩
      · exact absurd e1 hkt
    · rcases hab with ⟨rfl, rfl⟩ | ⟨rfl, rfl⟩
      · exact absurd e1 hkt
      · rw [e2, e3, ← hx, upT_same, upT_same]
        exact ⟨rfl, Nat.le_refl _⟩
  · rw [upT_ne v _ (hne c hdc)]
    by_cases e : d = t
    · subst e
      rw [upT_same]
      have := h.hi c hc hdc
      omega
    · rw [upT_ne _ _ e] at hid ⊢
      exact h.lo c d hc hd hdc hid hdd
  · rw [upT_ne v _ (hne c hdc), upT_ne v _ (fun e => hkk e.symm)]
    exact h.hi c hc hdc
theorem TR.close {k : Nat} (h : TR N l src l k done is v) : TD N l src done is v :=
  ⟨h.s, h.dk, fun a b p hd hE => by
    by_cases e : a = k
    · subst e; exact h.ck b p hE
    · exact h.cl a b p hd e hE, h.lo⟩
theorem TD.fin (h : TD N l src done is v) (hl : TrOk N l) (hn : ∀ j, j < N → is j = true → done j = true) : TLe N l src is v :=
  h.s.least hl (fun a b p hi hE => h.cl a b p (hn a (hl.e hE).1 hi) hE)
end
end Go.Proofs.Ytpgdinpckolfpaa
