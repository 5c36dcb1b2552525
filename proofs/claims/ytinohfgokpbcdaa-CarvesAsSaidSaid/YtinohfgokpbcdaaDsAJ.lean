/- What water.ranks holds in memory. -/
import Derived.Test.YtinohfgokpbcdaaDsAI
import Derived.ArgAppend
namespace Go.Proofs.Ytinohfgokpbcdaa
open Go.RowKit

section
variable (Wn Hn : Nat) (V : Nat → Int) (S : Nat → Bool)
/-- whether a neighbour of the same height has rank n -/
def nearR (r : Nat → Int) (n k : Nat) : Bool := (List.range 8).any fun d => match nbr Wn Hn k d with
  | some m => decide (V m = V k) && decide (r m = (n : Int))
  | none => false
/-- the ranks that are known after n rounds -/
def rk : Nat → Nat → Int
  | 0, k => if S k = true then 0 else -1
  | n + 1, k => if 0 ≤ rk n k then rk n k else if nearR Wn Hn V (rk n) n k = true then ((n + 1 : Nat) : Int) else -1
variable {Wn Hn V S}
theorem nearR_iff {r : Nat → Int} {n k : Nat} : nearR Wn Hn V r n k = true ↔ ∃ d m, d < 8 ∧ nbr Wn Hn k d = some m ∧ V m = V k ∧ r m = (n : Int) := by
  unfold nearR
  rw [List.any_eq_true]
  constructor
  · rintro ⟨d, hd, h⟩
    rw [List.mem_range] at hd
    cases hn : nbr Wn Hn k d with
    | none => rw [hn] at h; cases h
    | some m =>
      rw [hn] at h
      simp only [Bool.and_eq_true, decide_eq_true_eq] at h
      exact ⟨d, m, hd, hn, h.1, h.2⟩
  · rintro ⟨d, m, hd, hn, h1, h2⟩
    refine ⟨d, List.mem_range.2 hd, ?_⟩
    rw [hn]
    simp [h1, h2]
theorem rk_range (k : Nat) : ∀ n, rk Wn Hn V S n k = -1 ∨ 0 ≤ rk Wn Hn V S n k ∧ rk Wn Hn V S n k ≤ n
  | 0 => by unfold rk; split <;> simp
  | n + 1 => by
    have h := rk_range k n
    unfold rk
    split
    · right
      omega
    · split
      · right
        omega
      · exact .inl rfl
theorem rk_keep {n k : Nat} (h : 0 ≤ rk Wn Hn V S n k) : rk Wn Hn V S (n + 1) k = rk Wn Hn V S n k := by
  rw [rk, if_pos h]
theorem rk_keepN {n k : Nat} (h : 0 ≤ rk Wn Hn V S n k) : ∀ e, rk Wn Hn V S (n + e) k = rk Wn Hn V S n k
  | 0 => rfl
  | e + 1 => by
    have := rk_keepN h e
    rw [show n + (e + 1) = n + e + 1 by omega, rk_keep (by rw [this]; exact h), this]
theorem rk_back {k i : Nat} : ∀ {n}, rk Wn Hn V S n k = (i : Int) → rk Wn Hn V S i k = (i : Int)
  | 0, h => by
    have := rk_range (Wn := Wn) (Hn := Hn) (V := V) (S := S) k 0
    have : i = 0 := by omega
    subst this
    exact h
  | n + 1, h => by
    by_cases h0 : 0 ≤ rk Wn Hn V S n k
    · rw [rk_keep h0] at h
      exact rk_back h
    · have h2 := h
      rw [rk, if_neg h0] at h2
      split at h2
      · have : i = n + 1 := by omega
        subst this
        exact h
      · omega
theorem rk_near {n k m d i : Nat} (hd : d < 8) (hn : nbr Wn Hn k d = some m) (hv : V m = V k) (hr : rk Wn Hn V S n m = (i : Int)) : 0 ≤ rk Wn Hn V S (i + 1) k ∧ rk Wn Hn V S (i + 1) k ≤ i + 1 := by
  have hb := rk_back hr
  by_cases h0 : 0 ≤ rk Wn Hn V S i k
  · rw [rk_keep h0]
    have := rk_range (Wn := Wn) (Hn := Hn) (V := V) (S := S) k i
    omega
  · rw [rk, if_neg h0, if_pos (nearR_iff.2 ⟨d, m, hd, hn, hv, hb⟩)]
    omega
theorem rk_pred {n k i : Nat} (h : rk Wn Hn V S n k = ((i + 1 : Nat) : Int)) : ∃ d m, d < 8 ∧ nbr Wn Hn k d = some m ∧ V m = V k ∧ rk Wn Hn V S i m = (i : Int) := by
  have hb := rk_back h
  rw [rk] at hb
  by_cases h0 : 0 ≤ rk Wn Hn V S i k
  · rw [if_pos h0] at hb
    have := rk_range (Wn := Wn) (Hn := Hn) (V := V) (S := S) k i
    omega
  · rw [if_neg h0] at hb
    split at hb
    · rename_i hn
      exact nearR_iff.1 hn
    · omega
theorem rk_zero {n k : Nat} : rk Wn Hn V S n k = 0 ↔ S k = true := by
  constructor
  · intro h
    have hb := rk_back (i := 0) h
    unfold rk at hb
    split at hb
    · assumption
    · cases hb
  · intro h
    have h0 : rk Wn Hn V S 0 k = 0 := by unfold rk; rw [if_pos h]
    have := rk_keepN (n := 0) (k := k) (by rw [h0]; exact Int.le_refl _) n
    rw [Nat.zero_add] at this
    rw [this, h0]

/-- how many of the first N are so -/
def cntB (f : Nat → Bool) : Nat → Nat
  | 0 => 0
  | N + 1 => cntB f N + (if f N = true then 1 else 0)
theorem cntB_le (f : Nat → Bool) : ∀ N, cntB f N ≤ N
  | 0 => Nat.le_refl _
  | N + 1 => by
    have := cntB_le f N
    unfold cntB
    split <;> omega
theorem cntB_mono {f g : Nat → Bool} : ∀ N, (∀ k, k < N → g k = true → f k = true) → cntB g N ≤ cntB f N
  | 0, _ => Nat.le_refl _
  | N + 1, h => by
    have h1 := cntB_mono N (fun k hk => h k (by omega))
    have h2 := h N (by omega)
    unfold cntB
    cases hg : g N
    · simp
      omega
    · rw [h2 hg]
      omega
theorem cntB_lt {f g : Nat → Bool} {j : Nat} (hf : f j = true) (hg : g j = false) : ∀ N, j < N → (∀ k, k < N → g k = true → f k = true) → cntB g N < cntB f N
  | 0, h, _ => absurd h (by omega)
  | N + 1, hj, h => by
    unfold cntB
    by_cases e : j = N
    · subst e
      rw [hf, hg]
      have := cntB_mono j (fun k hk => h k (by omega))
      simp
      omega
    · have h1 := cntB_lt hf hg N (by omega) (fun k hk => h k (by omega))
      have h2 := h N (by omega)
      cases hgN : g N
      · simp
        omega
      · rw [h2 hgN]
        omega
theorem cntB_pos {f : Nat → Bool} {j : Nat} (hf : f j = true) : ∀ N, j < N → 0 < cntB f N
  | 0, h => absurd h (by omega)
  | N + 1, h => by
    unfold cntB
    by_cases e : j = N
    · subst e
      rw [hf]
      simp
    · have := cntB_pos hf N (by omega)
      omega
/-- a round that ranks no cell is followed by none that does -/
theorem rk_stop {N n : Nat} (hnb : ∀ k d m, k < N → nbr Wn Hn k d = some m → m < N) (h : ∀ k, k < N → rk Wn Hn V S (n + 1) k = rk Wn Hn V S n k) : ∀ e k, k < N → rk Wn Hn V S (n + e) k = rk Wn Hn V S n k
  | 0, k, _ => rfl
  | 1, k, hk => h k hk
  | e + 2, k, hk => by
    have ih1 := rk_stop hnb h (e + 1)
    have i1 := ih1 k hk
    rw [show n + (e + 2) = n + (e + 1) + 1 by omega]
    by_cases h0 : 0 ≤ rk Wn Hn V S (n + (e + 1)) k
    · rw [rk_keep h0, i1]
    · rw [rk, if_neg h0]
      rw [i1] at h0
      have hr := rk_range (Wn := Wn) (Hn := Hn) (V := V) (S := S) k n
      split
      · rename_i hn
        obtain ⟨d, m, hd, hm, _, hrm⟩ := nearR_iff.1 hn
        have hmN := hnb k d m hk hm
        rw [ih1 m hmN] at hrm
        have := rk_range (Wn := Wn) (Hn := Hn) (V := V) (S := S) m n
        omega
      · omega
theorem rk_all {N : Nat} (hnb : ∀ k d m, k < N → nbr Wn Hn k d = some m → m < N) (hs : ∃ k, k < N ∧ S k = true) (hreach : ∀ k, k < N → ∃ n, 0 ≤ rk Wn Hn V S n k) : ∀ k, k < N → 0 ≤ rk Wn Hn V S (N - 1) k := by
  have key : ∀ n, (∃ k, k < N ∧ rk Wn Hn V S n k < 0) → cntB (fun k => decide (rk Wn Hn V S n k < 0)) N + n + 1 ≤ N := by
    intro n
    induction n with
    | zero =>
      intro _
      obtain ⟨j, hj, hS⟩ := hs
      have h0 : rk Wn Hn V S 0 j = 0 := rk_zero.2 hS
      have h1 := cntB_lt (f := fun _ => true) (g := fun k => decide (rk Wn Hn V S 0 k < 0)) (j := j) rfl (by simp [h0]) N hj (fun _ _ _ => rfl)
      have h2 := cntB_le (fun _ => true) N
      omega
    | succ n ih =>
      rintro ⟨k, hk, hlt⟩
      have hk0 : rk Wn Hn V S n k < 0 := by
        rcases Int.lt_or_le (rk Wn Hn V S n k) 0 with h | h
        · exact h
        · rw [rk_keep h] at hlt
          omega
      have ih' := ih ⟨k, hk, hk0⟩
      -- some cell is ranked in this round
      have hnew : ∃ j, j < N ∧ rk Wn Hn V S (n + 1) j ≠ rk Wn Hn V S n j := Classical.byContradiction fun hno => by
        have hsame : ∀ j, j < N → rk Wn Hn V S (n + 1) j = rk Wn Hn V S n j := fun j hj => Classical.byContradiction fun h => hno ⟨j, hj, h⟩
        obtain ⟨m, hm⟩ := hreach k hk
        rcases Nat.le_total n m with h | h
        · have := rk_stop hnb hsame (m - n) k hk
          rw [show n + (m - n) = m by omega] at this
          omega
        · have := rk_keepN hm (n - m)
          rw [show m + (n - m) = n by omega] at this
          omega
      obtain ⟨j, hj, hne⟩ := hnew
      have hj0 : rk Wn Hn V S n j < 0 := by
        rcases Int.lt_or_le (rk Wn Hn V S n j) 0 with h | h
        · exact h
        · exact absurd (rk_keep h) hne
      have hj1 : 0 ≤ rk Wn Hn V S (n + 1) j := by
        have h1 := rk_range (Wn := Wn) (Hn := Hn) (V := V) (S := S) j n
        have h2 := rk_range (Wn := Wn) (Hn := Hn) (V := V) (S := S) j (n + 1)
        omega
      have := cntB_lt (f := fun k => decide (rk Wn Hn V S n k < 0)) (g := fun k => decide (rk Wn Hn V S (n + 1) k < 0)) (j := j) (by simpa using hj0) (by simpa using hj1) N hj (fun i hi h => by
        simp only [decide_eq_true_eq] at h ⊢
        rcases Int.lt_or_le (rk Wn Hn V S n i) 0 with h9 | h9
        · exact h9
        · rw [rk_keep h9] at h
          exact h)
      omega
  intro k hk
  rcases Int.lt_or_le (rk Wn Hn V S (N - 1) k) 0 with h | h
  · have h1 := key (N - 1) ⟨k, hk, h⟩
    have h2 := cntB_pos (f := fun k => decide (rk Wn Hn V S (N - 1) k < 0)) (j := k) (by simpa using h) N hk
    omega
  · exact h
end
/-- which cells drain -/
def srcB (v : Nat → Nat) (Wn Hn k : Nat) : Bool := decide (0 ≤ (stp v Wn Hn k 8).1) || brd Wn Hn k
def rkV (v : Nat → Nat) (Wn Hn : Nat) : Nat → Nat → Int := rk Wn Hn (fun k => valI (v k)) (srcB v Wn Hn)
theorem reach_all {Wn Hn : Nat} {h v : Nat → Nat} (hw : 1 ≤ Wn) (hh : ∀ k, k < Wn * Hn → Bd 20 (h k)) (hv : ∀ k, k < Wn * Hn → Bd 20 (v k)) (hL : LeastG Wn Hn h 0 (fun k => valI (v k))) : ∀ k, k < Wn * Hn → ∃ n, 0 ≤ rkV v Wn Hn n k := by
  have z10 : Bd 10 0 := zero_bd.mono (by omega)
  have key : ∀ k z, WayG Wn Hn h 0 k z → z = valI (v k) → ∃ n, 0 ≤ rkV v Wn Hn n k := by
    intro k z hway
    induction hway with
    | start hk he =>
      intro _
      refine ⟨0, ?_⟩
      have : rkV v Wn Hn 0 _ = 0 := rk_zero.2 (by unfold srcB; rw [he]; simp)
      rw [this]
      exact Int.le_refl _
    | @step n d k z hwn hn hd hnb hk ih =>
      intro hz
      have h1 := hL.2 n z hwn
      obtain ⟨b, hb, hbz⟩ := way_bd hh z10 (by rw [val_zero]; exact Int.le_refl _) hwn
      have h2 := infl_val hb z10 (by rw [val_zero]; exact Int.le_refl _)
      rw [hbz] at h2
      have hz' : max (valI (h k)) (upV 0 z) = valI (v k) := hz
      have h1' : valI (v n) ≤ z := h1
      have h3 : valI (v n) ≤ valI (v k) := by omega
      obtain ⟨d', hd', hnb'⟩ := nbr_symm hw hn hd hnb
      rcases Int.lt_or_eq_of_le h3 with h4 | h4
      · refine ⟨0, ?_⟩
        have hs := stp_low hv hk hd' hnb' h4
        have : rkV v Wn Hn 0 k = 0 := rk_zero.2 (by unfold srcB; simp [hs])
        rw [this]
        exact Int.le_refl _
      · obtain ⟨m, hm⟩ := ih (by omega)
        have hr := rk_range (Wn := Wn) (Hn := Hn) (V := fun k => valI (v k)) (S := srcB v Wn Hn) n m
        have hm' : 0 ≤ rk Wn Hn (fun k => valI (v k)) (srcB v Wn Hn) m n := hm
        have e : rk Wn Hn (fun k => valI (v k)) (srcB v Wn Hn) m n = ((rk Wn Hn (fun k => valI (v k)) (srcB v Wn Hn) m n).toNat : Int) := by omega
        exact ⟨_, (rk_near hd' hnb' h4 e).1⟩
  exact fun k hk => key k _ (hL.1 k hk) rfl
theorem ranked {Wn Hn N : Nat} {h v : Nat → Nat} (hw : 1 ≤ Wn) (hN : N = Wn * Hn) (hN1 : 1 ≤ N) (hh : ∀ k, k < N → Bd 20 (h k)) (hv : ∀ k, k < N → Bd 20 (v k)) (hL : LeastG Wn Hn h 0 (fun k => valI (v k))) : ∀ k, k < N → 0 ≤ rkV v Wn Hn (N - 1) k := by
  subst hN
  refine rk_all (fun k d m _ hm => nbr_lt hm) ⟨0, by omega, ?_⟩ (reach_all hw hh hv hL)
  unfold srcB brd
  simp
end Go.Proofs.Ytinohfgokpbcdaa
namespace Go.Proofs.Ytinohfgokpbcdaa
open Go.RowKit

theorem up_zero {b : Nat} (hb : Bd 36 b) : upV 0 (valI b) = valI b := by
  have z := zero_bd.mono (Nat.zero_le 36)
  have h1 := fadd_up hb (zero_bd.mono (by omega))
  have h2 := fadd_key (K := 36) hb z (by omega)
  rw [val_zero, Int.add_zero, rkey_val (bd_Fin hb (by omega))] at h2
  rw [← h1]
  exact val_key_eq.2 h2
theorem way_low {Wn Hn : Nat} {h : Nat → Nat} (hh : ∀ k, k < Wn * Hn → Bd 20 (h k)) {k : Nat} {z : Int} (hw : WayG Wn Hn h 0 k z) : ∃ j, j < Wn * Hn ∧ z = valI (h j) := by
  induction hw with
  | @start k hk he => exact ⟨k, hk, rfl⟩
  | @step n d k z hwn hn hd hnb hk ih =>
    obtain ⟨j, hj, rfl⟩ := ih
    rw [up_zero ((hh j hj).mono (by omega))]
    rcases Int.le_total (valI (h k)) (valI (h j)) with h1 | h1
    · exact ⟨j, hj, by show max (valI (h k)) (valI (h j)) = _; omega⟩
    · exact ⟨k, hk, by show max (valI (h k)) (valI (h j)) = _; omega⟩
theorem fill_bd {Wn Hn : Nat} {h v : Nat → Nat} (hh : ∀ k, k < Wn * Hn → Bd 20 (h k)) (hL : LeastG Wn Hn h 0 (fun k => valI (v k))) : ∀ k, k < Wn * Hn → Bd 20 (v k) := fun k hk => by
  obtain ⟨j, hj, e⟩ := way_low hh (hL.1 k hk)
  have e' : valI (v k) = valI (h j) := e
  rw [bd_valI (by omega), e', ← bd_valI (by omega)]
  exact hh j hj
section
variable {Wn Hn : Nat} {v : Nat → Nat}
theorem rkV_zero (k : Nat) : rkV v Wn Hn 0 k = if srcB v Wn Hn k = true then 0 else -1 := rfl
theorem rkV_eqn {n m : Nat} : rkV v Wn Hn (n + 1) m = (n : Int) ↔ rkV v Wn Hn n m = (n : Int) := by
  unfold rkV
  constructor
  · intro h
    by_cases h0 : 0 ≤ rk Wn Hn (fun k => valI (v k)) (srcB v Wn Hn) n m
    · rw [rk_keep h0] at h
      exact h
    · rw [rk, if_neg h0] at h
      split at h <;> omega
  · intro h
    rw [rk_keep (by rw [h]; omega)]
    exact h
theorem rkV_none {n k : Nat} (h0 : rkV v Wn Hn n k < 0) (h : ∀ d m, d < 8 → nbr Wn Hn k d = some m → ¬ (valI (v m) = valI (v k) ∧ rkV v Wn Hn n m = (n : Int))) : rkV v Wn Hn (n + 1) k = -1 := by
  unfold rkV at *
  rw [rk, if_neg (by omega), if_neg]
  rw [nearR_iff]
  rintro ⟨d, m, hd, hn, h1, h2⟩
  exact h d m hd hn ⟨h1, h2⟩
theorem rkV_some {n k d m : Nat} (h0 : rkV v Wn Hn n k < 0) (hd : d < 8) (hn : nbr Wn Hn k d = some m) (h1 : valI (v m) = valI (v k)) (h2 : rkV v Wn Hn n m = (n : Int)) : rkV v Wn Hn (n + 1) k = ((n + 1 : Nat) : Int) := by
  unfold rkV at *
  rw [rk, if_neg (by omega), if_pos (nearR_iff.2 ⟨d, m, hd, hn, h1, h2⟩)]
theorem rkV_old {n k : Nat} (h0 : 0 ≤ rkV v Wn Hn n k) : rkV v Wn Hn (n + 1) k = rkV v Wn Hn n k := rk_keep h0
theorem rkV_src {n k : Nat} (h : rkV v Wn Hn n k < 0) : srcB v Wn Hn k = false := by
  cases hs : srcB v Wn Hn k
  · rfl
  · have : rkV v Wn Hn n k = 0 := rk_zero.2 hs
    omega
theorem src_brd {k : Nat} (h : srcB v Wn Hn k = false) : brd Wn Hn k = false ∧ (stp v Wn Hn k 8).1 < 0 := by
  unfold srcB at h
  rw [Bool.or_eq_false_iff] at h
  exact ⟨h.2, by have := h.1; simp at this; omega⟩
theorem brd_all {k : Nat} (h1 : 1 ≤ Wn) (hk : k < Wn * Hn) (h : brd Wn Hn k = false) (d : Nat) (hd : d < 8) : ∃ m, nbr Wn Hn k d = some m := by
  cases hn : nbr Wn Hn k d with
  | some m => exact ⟨m, rfl⟩
  | none =>
    have := (brd_nbr h1 hk).2 ⟨d, hd, hn⟩
    rw [h] at this
    cases this
end
/-- the least rank beside a cell, of its height, and the first direction to it -/
def bstD (v : Nat → Nat) (R : Nat → Int) (Wn Hn k : Nat) : Nat → Int × Int
  | 0 => (-1, -1)
  | d + 1 => match nbr Wn Hn k d with
    | none => bstD v R Wn Hn k d
    | some m => if valI (v m) = valI (v k) ∧ 0 ≤ R m ∧ ((bstD v R Wn Hn k d).1 < 0 ∨ R m < (bstD v R Wn Hn k d).1) then (R m, (d : Int)) else bstD v R Wn Hn k d
theorem bst_some {v : Nat → Nat} {R : Nat → Int} {Wn Hn k d m : Nat} (h : nbr Wn Hn k d = some m) : bstD v R Wn Hn k (d + 1) = if valI (v m) = valI (v k) ∧ 0 ≤ R m ∧ ((bstD v R Wn Hn k d).1 < 0 ∨ R m < (bstD v R Wn Hn k d).1) then (R m, (d : Int)) else bstD v R Wn Hn k d := by simp [bstD, h]
/-- the directions by which all water leaves -/
def drnV (v : Nat → Nat) (R : Nat → Int) (Wn Hn k : Nat) : Int := if 0 ≤ (stp v Wn Hn k 8).1 then (stp v Wn Hn k 8).1 else if brd Wn Hn k = true then -1 else (bstD v R Wn Hn k 8).2
end Go.Proofs.Ytinohfgokpbcdaa
namespace Go.Proofs.Ytinohfgokpbcdaa
open Go.RowKit

/-- what is known of the last ranks -/
structure Rk (Wn Hn N : Nat) (V : Nat → Int) (S : Nat → Bool) (K : Nat → Int) : Prop where
  pos : ∀ k, k < N → 0 ≤ K k ∧ K k < N
  src : ∀ k, k < N → (K k = 0 ↔ S k = true)
  pred : ∀ k, k < N → ∀ i : Nat, K k = ((i + 1 : Nat) : Int) → ∃ d m, d < 8 ∧ nbr Wn Hn k d = some m ∧ V m = V k ∧ K m = (i : Int)
  near : ∀ k d m, k < N → d < 8 → nbr Wn Hn k d = some m → V m = V k → K k ≤ K m + 1
theorem Rk.of {Wn Hn N : Nat} {v : Nat → Nat} (hN : N = Wn * Hn) (hN1 : 1 ≤ N) (h : ∀ k, k < N → 0 ≤ rkV v Wn Hn (N - 1) k) : Rk Wn Hn N (fun k => valI (v k)) (srcB v Wn Hn) (rkV v Wn Hn (N - 1)) := by
  refine ⟨fun k hk => ?_, fun k hk => rk_zero, fun k hk i hi => ?_, fun k d m hk hd hn hv => ?_⟩
  · have h1 := rk_range (Wn := Wn) (Hn := Hn) (V := fun k => valI (v k)) (S := srcB v Wn Hn) k (N - 1)
    have h2 := h k hk
    have h3 : rkV v Wn Hn (N - 1) k = rk Wn Hn (fun k => valI (v k)) (srcB v Wn Hn) (N - 1) k := rfl
    omega
  · obtain ⟨d, m, hd, hn, hv, hm⟩ := rk_pred (n := N - 1) (k := k) (i := i) hi
    refine ⟨d, m, hd, hn, hv, ?_⟩
    have h1 := rk_range (Wn := Wn) (Hn := Hn) (V := fun k => valI (v k)) (S := srcB v Wn Hn) k (N - 1)
    have h3 : rkV v Wn Hn (N - 1) k = rk Wn Hn (fun k => valI (v k)) (srcB v Wn Hn) (N - 1) k := rfl
    have h4 := rk_keepN (n := i) (k := m) (by rw [hm]; omega) (N - 1 - i)
    rw [show i + (N - 1 - i) = N - 1 by omega, hm] at h4
    exact h4
  · have hmN : m < N := by rw [hN]; exact nbr_lt hn
    have h2 := h m hmN
    have h3 : rkV v Wn Hn (N - 1) m = rk Wn Hn (fun k => valI (v k)) (srcB v Wn Hn) (N - 1) m := rfl
    have h5 : rkV v Wn Hn (N - 1) k = rk Wn Hn (fun k => valI (v k)) (srcB v Wn Hn) (N - 1) k := rfl
    obtain ⟨i, hi⟩ : ∃ i : Nat, rkV v Wn Hn (N - 1) m = (i : Int) := ⟨(rkV v Wn Hn (N - 1) m).toNat, by omega⟩
    have h4 := rk_near (n := N - 1) (k := k) (m := m) (d := d) hd hn hv hi
    have h6 := rk_range (Wn := Wn) (Hn := Hn) (V := fun k => valI (v k)) (S := srcB v Wn Hn) k (N - 1)
    rcases Nat.lt_or_ge (N - 1) (i + 1) with h7 | h7
    · omega
    · have h8 := rk_keepN (n := i + 1) (k := k) h4.1 (N - 1 - (i + 1))
      rw [show i + 1 + (N - 1 - (i + 1)) = N - 1 by omega] at h8
      omega

/-- what holds of the queue: cur: the cell that is looked at, and how many of its directions have been -/
structure BQ (Wn Hn N : Nat) (V : Nat → Int) (K : Nat → Int) (o : Nat → Int) (L : List Nat) (cur : Option (Nat × Nat)) : Prop where
  rank : ∀ k, k < N → o k = N ∨ o k = K k
  inL : ∀ k ∈ L, k < N ∧ o k = K k
  sorted : L.Pairwise fun a b => K a ≤ K b
  near : ∀ a ∈ L, ∀ b ∈ L, K b ≤ K a + 1
  cur1 : ∀ p d, cur = some (p, d) → p < N ∧ o p = K p ∧ (∀ a ∈ L, K p ≤ K a ∧ K a ≤ K p + 1) ∧ ∀ d' m, d' < d → nbr Wn Hn p d' = some m → V m = V p → o m ≠ N
  done : ∀ p, p < N → o p = K p → p ∈ L ∨ (∃ d, cur = some (p, d)) ∨ ∀ d m, d < 8 → nbr Wn Hn p d = some m → V m = V p → o m ≠ N
  zero : ∀ k, k < N → K k = 0 → o k = K k
section
variable {Wn Hn N : Nat} {V : Nat → Int} {S : Nat → Bool} {K o : Nat → Int} {L : List Nat} {cur : Option (Nat × Nat)}
/-- a cell that is not seen is farther than the one that is looked at -/
theorem BQ.low (hR : Rk Wn Hn N V S K) (hw : 1 ≤ Wn) (hN : N = Wn * Hn) {p d : Nat} (h : BQ Wn Hn N V K o L (some (p, d))) : ∀ i k, k < N → o k = N → K k = (i : Nat) → K p + 1 ≤ K k
  | 0, k, hk, ho, hi => by
    have h1 := h.zero k hk (by simpa using hi)
    have := (hR.pos k hk).2
    omega
  | i + 1, k, hk, ho, hi => by
    obtain ⟨d', m, hd, hn, hv, hm⟩ := hR.pred k hk i hi
    have hmN : m < N := by rw [hN]; exact nbr_lt hn
    have hp := (hR.pos m hmN).2
    rcases h.rank m hmN with ho' | ho'
    · have := BQ.low hR hw hN h i m hmN ho' hm
      omega
    · obtain ⟨hc1, hc2, hc3, hc4⟩ := h.cur1 p d rfl
      rcases h.done m hmN ho' with hL | ⟨e, he⟩ | hall
      · have := (hc3 m hL).1
        omega
      · injection he with he
        injection he with he1 he2
        subst he1
        omega
      · obtain ⟨d2, hd2, hn2⟩ := nbr_symm hw (by rw [← hN]; exact hk) hd hn
        exact absurd ho (hall d2 k hd2 hn2 hv.symm)
theorem BQ.take {p : Nat} (h : BQ Wn Hn N V K o (p :: L) none) : BQ Wn Hn N V K o L (some (p, 0)) := by
  have hp := h.inL p (by simp)
  have hs := List.pairwise_cons.1 h.sorted
  refine ⟨h.rank, fun k hk => h.inL k (by simp [hk]), hs.2, fun a ha b hb => h.near a (by simp [ha]) b (by simp [hb]), ?_, ?_, h.zero⟩
  · intro p' d he
    injection he with he
    injection he with he1 he2
    subst he1
    subst he2
    exact ⟨hp.1, hp.2, fun a ha => ⟨hs.1 a ha, h.near p (by simp) a (by simp [ha])⟩, fun d' m hd => absurd hd (by omega)⟩
  · intro q hq ho
    rcases h.done q hq ho with hL | ⟨e, he⟩ | hall
    · rcases List.mem_cons.1 hL with rfl | hL
      · exact .inr (.inl ⟨0, rfl⟩)
      · exact .inl hL
    · cases he
    · exact .inr (.inr hall)
theorem BQ.all {p : Nat} (h : BQ Wn Hn N V K o L (some (p, 8))) : BQ Wn Hn N V K o L none := by
  obtain ⟨_, _, _, hc4⟩ := h.cur1 p 8 rfl
  refine ⟨h.rank, h.inL, h.sorted, h.near, fun p d he => (by cases he), ?_, h.zero⟩
  intro q hq ho
  rcases h.done q hq ho with hL | ⟨e, he⟩ | hall
  · exact .inl hL
  · injection he with he
    injection he with he1 he2
    subst he1
    exact .inr (.inr hc4)
  · exact .inr (.inr hall)
theorem BQ.skip {p d : Nat} (h : BQ Wn Hn N V K o L (some (p, d))) (hs : ∀ m, nbr Wn Hn p d = some m → V m = V p → o m ≠ N) : BQ Wn Hn N V K o L (some (p, d + 1)) := by
  obtain ⟨hc1, hc2, hc3, hc4⟩ := h.cur1 p d rfl
  refine ⟨h.rank, h.inL, h.sorted, h.near, ?_, ?_, h.zero⟩
  · intro p' d' he
    injection he with he
    injection he with he1 he2
    subst he1
    subst he2
    refine ⟨hc1, hc2, hc3, fun d' m hd hn hv => ?_⟩
    by_cases e : d' = d
    · subst e
      exact hs m hn hv
    · exact hc4 d' m (by omega) hn hv
  · intro q hq ho
    rcases h.done q hq ho with hL | ⟨e, he⟩ | hall
    · exact .inl hL
    · injection he with he
      injection he with he1 he2
      subst he1
      exact .inr (.inl ⟨d + 1, rfl⟩)
    · exact .inr (.inr hall)
theorem BQ.push (hR : Rk Wn Hn N V S K) (hw : 1 ≤ Wn) (hN : N = Wn * Hn) {p d m : Nat} (hd : d < 8) (h : BQ Wn Hn N V K o L (some (p, d))) (hn : nbr Wn Hn p d = some m) (hv : V m = V p) (ho : o m = N) :
    K m = o p + 1 ∧ BQ Wn Hn N V K (updF o m (o p + 1)) (L ++ [m]) (some (p, d + 1)) := by
  obtain ⟨hc1, hc2, hc3, hc4⟩ := h.cur1 p d rfl
  have hmN : m < N := by rw [hN]; exact nbr_lt hn
  obtain ⟨d2, hd2, hn2⟩ := nbr_symm hw (by rw [← hN]; exact hc1) hd hn
  have h1 := hR.near m d2 p hmN hd2 hn2 hv.symm
  have hp := hR.pos m hmN
  have h2 := BQ.low hR hw hN h (K m).toNat m hmN ho (by omega)
  have hK : K m = o p + 1 := by omega
  have hseen : ∀ q, o q ≠ N → updF o m (o p + 1) q ≠ N := fun q hq => by
    unfold updF
    split
    · rw [← hK]
      omega
    · exact hq
  have hsame : ∀ q, o q ≠ N → updF o m (o p + 1) q = o q := fun q hq => by
    have : q ≠ m := fun e => hq (by rw [e, ho])
    exact updF_ne _ _ this
  have hsm : updF o m (o p + 1) m = K m := by rw [updF_same, hK]
  have hne : ∀ q, q < N → o q = K q → o q ≠ N := fun q hq he => by
    have := (hR.pos q hq).2
    omega
  refine ⟨hK, ?_, ?_, ?_, ?_, ?_, ?_, ?_⟩
  · intro k hk
    by_cases e : k = m
    · subst e
      exact .inr hsm
    · rw [updF_ne _ _ e]
      exact h.rank k hk
  · intro k hk
    rcases List.mem_append.1 hk with hk | hk
    · obtain ⟨a1, a2⟩ := h.inL k hk
      exact ⟨a1, by rw [hsame k (hne k a1 a2)]; exact a2⟩
    · obtain rfl := List.mem_singleton.1 hk
      exact ⟨hmN, hsm⟩
  · refine List.pairwise_append.2 ⟨h.sorted, List.pairwise_singleton _ _, fun a ha b hb => ?_⟩
    obtain rfl := List.mem_singleton.1 hb
    have := (hc3 a ha).2
    omega
  · intro a ha b hb
    rcases List.mem_append.1 ha with ha1 | ha1
    · rcases List.mem_append.1 hb with hb1 | hb1
      · exact h.near a ha1 b hb1
      · have e := List.mem_singleton.1 hb1
        have := (hc3 a ha1).1
        rw [e]
        omega
    · have e := List.mem_singleton.1 ha1
      rcases List.mem_append.1 hb with hb1 | hb1
      · have := (hc3 b hb1).2
        rw [e]
        omega
      · have e2 := List.mem_singleton.1 hb1
        rw [e, e2]
        omega
  · intro p' d' he
    injection he with he
    injection he with he1 he2
    subst he1
    subst he2
    refine ⟨hc1, by rw [hsame p (hne p hc1 hc2)]; exact hc2, fun a ha => ?_, fun d' m' hd' hn' hv' => ?_⟩
    · rcases List.mem_append.1 ha with ha | ha
      · exact hc3 a ha
      · obtain rfl := List.mem_singleton.1 ha
        omega
    · by_cases e : d' = d
      · subst e
        obtain rfl : m = m' := Option.some.inj (hn.symm.trans hn')
        rw [updF_same, ← hK]
        omega
      · exact hseen m' (hc4 d' m' (by omega) hn' hv')
  · intro q hq ho2
    by_cases e : q = m
    · subst e
      exact .inl (by simp)
    · rw [updF_ne _ _ e] at ho2
      rcases h.done q hq ho2 with hL | ⟨e2, he⟩ | hall
      · exact .inl (by simp [hL])
      · injection he with he
        injection he with he1 he2
        subst he1
        exact .inr (.inl ⟨d + 1, rfl⟩)
      · exact .inr (.inr fun d m' hd hn hv => hseen m' (hall d m' hd hn hv))
  · intro k hk hz
    by_cases e : k = m
    · subst e
      exact hsm
    · rw [updF_ne _ _ e]
      exact h.zero k hk hz
/-- where the queue is empty all cells are ranked -/
theorem BQ.fin (hR : Rk Wn Hn N V S K) (hw : 1 ≤ Wn) (hN : N = Wn * Hn) (h : BQ Wn Hn N V K o [] none) : ∀ k, k < N → o k = K k := by
  have key : ∀ i k, k < N → K k = (i : Nat) → o k = K k := by
    intro i
    induction i with
    | zero => exact fun k hk hi => h.zero k hk (by simpa using hi)
    | succ i ih =>
      intro k hk hi
      obtain ⟨d', m, hd, hn, hv, hm⟩ := hR.pred k hk i hi
      have hmN : m < N := by rw [hN]; exact nbr_lt hn
      rcases h.rank k hk with ho | ho
      · rcases h.done m hmN (ih m hmN hm) with hL | ⟨e, he⟩ | hall
        · cases hL
        · cases he
        · obtain ⟨d2, hd2, hn2⟩ := nbr_symm hw (by rw [← hN]; exact hk) hd hn
          exact absurd ho (hall d2 k hd2 hn2 hv.symm)
      · exact ho
  intro k hk
  have := hR.pos k hk
  exact key (K k).toNat k hk (by omega)
end
end Go.Proofs.Ytinohfgokpbcdaa
namespace Go.Proofs.Ytinohfgokpbcdaa
open Go.RowKit Ieee

theorem zero_read {x : Nat} (hF : Fin x) (h : valI x = 0) : ∃ (s : Bool) (k : Nat), single.read x = .number s 0 ((k : Int) - 149) := by
  obtain ⟨s, m, k, e, hv, hm, _⟩ := read_val hF
  rw [h] at hv
  have h2 := signed_abs s m k
  rw [hv] at h2
  have h3 : m * 2 ^ k = 0 := by simpa using h2.symm
  rcases Nat.mul_eq_zero.1 h3 with h4 | h4
  · rw [h4] at e
    exact ⟨s, k, e⟩
  · exact absurd h4 (Nat.pos_iff_ne_zero.1 (Nat.two_pow_pos _))
theorem nil_near (s : Bool) (p : Int) : valI (single.nearest s 0 p) = 0 := by
  unfold Format.nearest
  rw [if_pos rfl]
  cases s <;> decide +kernel
theorem quo_zero {x : Nat} (d : Nat) (hF : Fin x) (h0 : valI x = 0) : valI (fdiv x (longN d)) = 0 := by
  obtain ⟨s, k, e1⟩ := zero_read hF h0
  obtain ⟨n, e2, hn1, hn2, hn3⟩ := long_read d
  have hd : floatBits .quo .f32 x (longN d) = single.div x (longN d) := rfl
  unfold fdiv
  rw [hd]
  unfold Format.div
  rw [e1, e2]
  have hn : n ≠ 0 := by omega
  simp only [Datum.quotient, if_neg hn, Option.map_some, Option.getD_some, Format.write]
  simp [Nat.zero_shiftLeft, nil_near]
theorem one_val {a b : Nat} (ha : a < 4294967296) (hb : b < 4294967296) (h : valI a = valI b) (hz : valI a ≠ 0) : a = b := by
  have h1 := val_key_eq.1 h
  have hqz : a % 2147483648 ≠ 0 := fun h9 => hz (by unfold valI; rw [h9, valN_zero]; split <;> rfl)
  unfold keyI at h1
  split at h1 <;> split at h1 <;> omega
theorem drop_val {v v' : Nat → Nat} {k n : Nat} (d : Nat) (hk : Bd 20 (v k)) (hn : Bd 20 (v n)) (hk' : Bd 20 (v' k)) (hn' : Bd 20 (v' n)) (h1 : valI (v k) = valI (v' k)) (h2 : valI (v n) = valI (v' n)) : valI (dropF v k n d) = valI (dropF v' k n d) := by
  obtain ⟨g1, g2⟩ := fsub_ok hk hn (by omega)
  obtain ⟨f1, f2⟩ := fsub_ok hk' hn' (by omega)
  have e1 := fsub_key (K := 20) hk hn (by omega)
  have e2 := fsub_key (K := 20) hk' hn' (by omega)
  have hv : valI (fsub (v k) (v n)) = valI (fsub (v' k) (v' n)) := val_key_eq.2 (by rw [e1, e2, h1, h2])
  unfold dropF
  by_cases h0 : valI (fsub (v k) (v n)) = 0
  · rw [quo_zero d (bd_Fin g2 (by omega)) h0, quo_zero d (bd_Fin f2 (by omega)) (by rw [← hv]; exact h0)]
  · rw [one_val (Format.map_write_lt single (show single.sub (v k) (v n) = some _ from g1)) (Format.map_write_lt single (show single.sub (v' k) (v' n) = some _ from f1)) hv h0]
section
variable {v v' : Nat → Nat} {Wn Hn : Nat}
theorem stp_val (hb : ∀ j, j < Wn * Hn → Bd 20 (v j)) (hb' : ∀ j, j < Wn * Hn → Bd 20 (v' j)) (he : ∀ j, j < Wn * Hn → valI (v j) = valI (v' j)) {k : Nat} (hk : k < Wn * Hn) : ∀ d, (stp v Wn Hn k d).1 = (stp v' Wn Hn k d).1 ∧ valI (stp v Wn Hn k d).2 = valI (stp v' Wn Hn k d).2
  | 0 => ⟨rfl, rfl⟩
  | d + 1 => by
    have ih := stp_val hb hb' he hk d
    cases hn : nbr Wn Hn k d with
    | none => rw [stp_none hn, stp_none hn]; exact ih
    | some n =>
      have hnN := nbr_lt hn
      have hd := drop_val d (hb k hk) (hb n hnN) (hb' k hk) (hb' n hnN) (he k hk) (he n hnN)
      have b1 := stp_bd hb hk (fun d n h => nbr_lt h) d
      have b2 := stp_bd hb' hk (fun d n h => nbr_lt h) d
      have b3 := (drop_ok d (hb k hk) (hb n hnN)).2.2
      have b4 := (drop_ok d (hb' k hk) (hb' n hnN)).2.2
      have hg : gt (dropF v k n d) (stp v Wn Hn k d).2 = gt (dropF v' k n d) (stp v' Wn Hn k d).2 := by
        rw [gt_val (bd_Fin b3 (by omega)) (bd_Fin b1 (by omega)), gt_val (bd_Fin b4 (by omega)) (bd_Fin b2 (by omega)), hd, ih.2]
      rw [stp_some hn, stp_some hn, hg]
      split
      · exact ⟨rfl, hd⟩
      · exact ih
theorem src_val (hb : ∀ j, j < Wn * Hn → Bd 20 (v j)) (hb' : ∀ j, j < Wn * Hn → Bd 20 (v' j)) (he : ∀ j, j < Wn * Hn → valI (v j) = valI (v' j)) {k : Nat} (hk : k < Wn * Hn) : srcB v Wn Hn k = srcB v' Wn Hn k := by
  unfold srcB
  rw [(stp_val hb hb' he hk 8).1]
theorem rk_congr {V V' : Nat → Int} {S S' : Nat → Bool} (hV : ∀ k, k < Wn * Hn → V k = V' k) (hS : ∀ k, k < Wn * Hn → S k = S' k) : ∀ n k, k < Wn * Hn → rk Wn Hn V S n k = rk Wn Hn V' S' n k
  | 0, k, hk => by rw [rk, rk, hS k hk]
  | n + 1, k, hk => by
    have ih := rk_congr hV hS n
    rw [rk, rk, ih k hk]
    have hn : nearR Wn Hn V (rk Wn Hn V S n) n k = nearR Wn Hn V' (rk Wn Hn V' S' n) n k := by
      rw [Bool.eq_iff_iff, nearR_iff, nearR_iff]
      constructor
      · rintro ⟨d, m, hd, hm, h1, h2⟩
        exact ⟨d, m, hd, hm, by rw [← hV k hk, ← hV m (nbr_lt hm)]; exact h1, by rw [← ih m (nbr_lt hm)]; exact h2⟩
      · rintro ⟨d, m, hd, hm, h1, h2⟩
        exact ⟨d, m, hd, hm, by rw [hV k hk, hV m (nbr_lt hm)]; exact h1, by rw [ih m (nbr_lt hm)]; exact h2⟩
    rw [hn]
theorem bst_congr {R R' : Nat → Int} (he : ∀ j, j < Wn * Hn → valI (v j) = valI (v' j)) (hR : ∀ j, j < Wn * Hn → R j = R' j) {k : Nat} (hk : k < Wn * Hn) : ∀ d, bstD v R Wn Hn k d = bstD v' R' Wn Hn k d
  | 0 => rfl
  | d + 1 => by
    have ih := bst_congr he hR hk d
    cases hn : nbr Wn Hn k d with
    | none => rw [bstD, bstD, hn]; exact ih
    | some m => rw [bst_some hn, bst_some hn, ih, he m (nbr_lt hn), he k hk, hR m (nbr_lt hn)]
/-- the last directions hang on the values of the heights alone -/
theorem drn_val (hb : ∀ j, j < Wn * Hn → Bd 20 (v j)) (hb' : ∀ j, j < Wn * Hn → Bd 20 (v' j)) (he : ∀ j, j < Wn * Hn → valI (v j) = valI (v' j)) (n : Nat) {k : Nat} (hk : k < Wn * Hn) : drnV v (rkV v Wn Hn n) Wn Hn k = drnV v' (rkV v' Wn Hn n) Wn Hn k := by
  unfold drnV
  rw [(stp_val hb hb' he hk 8).1, bst_congr he (fun j hj => show rkV v Wn Hn n j = rkV v' Wn Hn n j from rk_congr he (fun k hk => src_val hb hb' he hk) n j hj) hk 8]
end
end Go.Proofs.Ytinohfgokpbcdaa
namespace Go.Proofs.Ytinohfgokpbcdaa
open Go.RowKit

/-- the cells xs lie in a block of its own from off on, and behind them is room up to cap -/
structure Qs (w : World) (base : Nat) (e : TypeId) (A : Option Addr) (n cap : Nat) (xs : List Value) : Prop where
  len : xs.length = n
  le : n ≤ cap
  max : cap ≤ maxLen
  own : (A = none ∧ cap = 0) ∨ ∃ g off cur, A = some ⟨g, off, none⟩ ∧ base ≤ g ∧ w.heap[g]? = some (.cells cur e (0, 0)) ∧ off + cap ≤ cur.size ∧ ∀ j u, xs[j]? = some u → cur[off + j]? = some u
section
variable {w : World} {base : Nat} {e : TypeId} {A : Option Addr} {n cap : Nat} {xs : List Value}
theorem Qs.nil (w : World) (base : Nat) (e : TypeId) : Qs w base e none 0 0 [] := ⟨rfl, Nat.le_refl _, Nat.zero_le _, .inl ⟨rfl, rfl⟩⟩
theorem Qs.of_own {c : Nat} (h : w.ownsRow base e 1 (.slice A n c) n xs) : Qs w base e A n c xs := by
  obtain ⟨hl, ⟨hv, h0⟩ | ⟨g, cap, cur, hv, hb, hg, hn, hm, hs, hx⟩⟩ := h
  · injection hv with h1 h2 h3
    subst h1; subst h2; subst h3
    exact ⟨by simpa using hl, Nat.le_refl _, Nat.zero_le _, .inl ⟨rfl, rfl⟩⟩
  · injection hv with h1 h2 h3
    subst h1; subst h3
    refine ⟨by simpa using hl, hn, hm, .inr ⟨g, 0, cur, rfl, hb, hg, by omega, fun j u hu => ?_⟩⟩
    rw [← hx, List.getElem?_take] at hu
    split at hu
    · rw [Nat.zero_add]
      simpa using hu
    · cases hu
theorem Qs.rd (h : Qs w base e A n cap xs) : Rd w A xs := fun hne => by
  rcases h.own with ⟨_, h0⟩ | ⟨g, off, cur, hA, hb, hg, hs, hx⟩
  · have h1 := h.len
    have h2 := h.le
    exact absurd (List.eq_nil_of_length_eq_zero (by omega)) hne
  · refine ⟨_, hA, (Array.getElem?_eq_some_iff.1 hg).1, fun j u hu => ?_⟩
    rw [show (⟨g, off, none⟩ : Addr).add j = ⟨g, off + j, none⟩ by unfold Addr.add; split <;> simp_all, cell_of_row _ _ _ cur e (0, 0) hg]
    exact hx j u hu
theorem Qs.kept {w' : World} (h : Qs w base e A n cap xs) (hk : ∀ a, A = some a → a.block < w.heap.size → w'.heap[a.block]? = w.heap[a.block]?) : Qs w' base e A n cap xs := by
  refine ⟨h.len, h.le, h.max, ?_⟩
  rcases h.own with h0 | ⟨g, off, cur, hA, hb, hg, hs, hx⟩
  · exact .inl h0
  · exact .inr ⟨g, off, cur, hA, hb, (hk _ hA (Array.getElem?_eq_some_iff.1 hg).1).trans hg, hs, hx⟩
theorem Qs.lt (h : Qs w base e A n cap xs) {a : Addr} (hA : A = some a) : base ≤ a.block ∧ a.block < w.heap.size ∧ a.spot = none := by
  rcases h.own with ⟨h0, _⟩ | ⟨g, off, cur, hA', hb, hg, hs, hx⟩
  · rw [h0] at hA; cases hA
  · rw [hA'] at hA
    cases hA
    exact ⟨hb, (Array.getElem?_eq_some_iff.1 hg).1, rfl⟩
/-- cut in front -/
theorem Qs.cut {x : Value} (h : Qs w base e A n cap (x :: xs)) : ∃ A', sliced A 1 n cap 1 = .slice A' (n - 1) (cap - 1) ∧ Qs w base e A' (n - 1) (cap - 1) xs ∧ A'.map (·.block) = A.map (·.block) := by
  have h1 := h.len
  have h2 := h.le
  have h3 := h.max
  rw [List.length_cons] at h1
  unfold sliced
  by_cases hc : cap = 1
  · subst hc
    rw [if_pos rfl]
    refine ⟨A, rfl, ⟨by omega, by omega, by omega, ?_⟩, rfl⟩
    rcases h.own with ⟨h0, h00⟩ | ⟨g, off, cur, hA, hb, hg, hs, hx⟩
    · omega
    · refine .inr ⟨g, off, cur, hA, hb, hg, by omega, fun j u hu => ?_⟩
      have : xs = [] := List.eq_nil_of_length_eq_zero (by omega)
      subst this
      simp at hu
  · rw [if_neg hc]
    rcases h.own with ⟨h0, h00⟩ | ⟨g, off, cur, hA, hb, hg, hs, hx⟩
    · omega
    · subst hA
      refine ⟨some ⟨g, off + 1, none⟩, by simp [Addr.add], ⟨by omega, by omega, by omega, .inr ⟨g, off + 1, cur, rfl, hb, hg, by omega, fun j u hu => ?_⟩⟩, rfl⟩
      have := hx (j + 1) u (by simpa using hu)
      rwa [show off + (j + 1) = off + 1 + j by omega] at this
end
theorem heap_set {w : World} {g o : Nat} {cur : Array Value} {e : TypeId} {fz : Nat × Nat} {u : Value} (h : w.heap[g]? = some (.cells cur e fz)) : (w.setCell ⟨g, o, none⟩ u).heap[g]? = some (.cells (cur.setIfInBounds o u) e fz) := by
  unfold World.setCell
  simp [Array.getElem?_modify, h]
/-- one more behind: into the room, or into a new block -/
theorem wpList_append_q {P : Program} (w : World) {ops : Array Oper} {rest : List Oper} {o : Oper} {a : Act} {Q : Exit → Act → World → Prop}
    (hg : o.guard = none) (s x : Operand) (t : TypeId) (hop : o.op = Op.call { callee := Callee.builtin Builtin.append, args := #[s, x], argTypes := #[t, t] })
    (base : Nat) (e : TypeId) (i : TypeInfo) (z : Value) (bytes : Nat) (h1 : P.underlying t = some (.slice e)) (h2 : P.info? e = some i) (h3 : i.zero = some z) (h4 : i.size = 1) (h5 : i.bytes = bytes) (h6 : z.cells.size = 1)
    (A : Option Addr) (n cap : Nat) (olds : List Value) (hs : a.eval s = .slice A n cap) (hq : Qs w base e A n cap olds) (hbase : base ≤ w.heap.size)
    (ad : Addr) (c : Nat) (u : Value) (hx : a.eval x = .slice (some ad) 1 c) (hc : w.cell? ad = some u) (h1c : u.oneCell' = true)
    (b1 : n + 1 ≤ maxLen) (b2 : (n + 1) * bytes ≤ 140737488355328)
    (hK : ∀ A' cap' w', Qs w' base e A' (n + 1) cap' (olds ++ [u]) → w.grownBy w' (A.map (·.block)) → (∀ b, A'.map (·.block) = some b → A.map (·.block) = some b ∨ w.heap.size ≤ b) → wpList P ops Q rest (a.put o.dst (.slice A' (n + 1) cap')) w') :
    wpList P ops Q (o :: rest) a w := by
  have hcc : ∀ j u', [u][j]? = some u' → w.cell? (ad.add j) = some u' := fun j u' hu => by
    cases j with
    | zero => simp at hu; subst hu; simpa [Addr.add] using hc
    | succ j => simp at hu
  have hgrow : ∀ v' w', w'.ownsRow w.heap.size e 1 v' (n + 1) (olds ++ [u]) → w.grownBy w' none → wpList P ops Q rest (a.put o.dst v') w' := by
    intro v' w' ho hgr
    obtain ⟨hl, ⟨hv, h0⟩ | ⟨g, cap', cur, hv, hb, hgg, hn, hm, hss, hxx⟩⟩ := ho
    · omega
    · subst hv
      refine hK _ _ _ ?_ ⟨hgr.os, hgr.tape, hgr.output, hgr.size, fun k hk _ => hgr.block k hk (by simp)⟩ (fun b hb' => .inr ?_)
      · have q : Qs w' w.heap.size e (some ⟨g, 0, none⟩) (n + 1) cap' (olds ++ [u]) := Qs.of_own ⟨hl, .inr ⟨g, cap', cur, rfl, hb, hgg, hn, hm, hss, hxx⟩⟩
        refine ⟨q.len, q.le, q.max, .inr ⟨g, 0, cur, rfl, by omega, hgg, by omega, ?_⟩⟩
        rcases q.own with ⟨h, _⟩ | ⟨g', off', cur', hA', _, hg', _, hx'⟩
        · cases h
        · cases hA'
          rw [hgg] at hg'
          cases hg'
          exact hx'
      · simp at hb'
        omega
  rcases hq.own with ⟨hA, h0⟩ | ⟨g, off, cur, hA, hb, hgg, hss, hxx⟩
  · subst hA
    have hn0 := hq.le
    exact wpList_append_grows w hg s x t hop e i z 1 bytes h1 h2 h3 h4 h5 h6 (by omega) none n cap olds hs (fun _ => ⟨by omega, h0⟩) (by rw [hq.len, Nat.mul_one]) (fun b hb => by cases hb) ad 1 c [u] hx rfl hcc (by simpa using h1c) (by omega) b1 b2 hgrow
  · subst hA
    have hcell : ∀ j, w.cell? ⟨g, off + j, none⟩ = cur[off + j]? := fun j => cell_of_row _ _ _ cur e (0, 0) hgg
    refine wpList_append_arg w hg s x t hop e i z 1 bytes h1 h2 h3 h4 h5 h6 (by omega) g off n cap olds hs (by rw [hq.len, Nat.mul_one]) (fun j u' hu => by rw [hcell]; exact hxx j u' hu) ad 1 c [u] hx rfl hcc (by simpa using h1c) (fun hr j hj => ?_) b1 b2 (fun hr => ?_) (fun _ => hgrow)
    · simp at hj
      subst hj
      simp only [Nat.mul_one, Nat.add_zero]
      refine ⟨by rw [hcell, Array.getElem?_eq_getElem (by omega)]; rfl, ?_⟩
      unfold World.frozen?
      rw [hgg]
      simp
    · rw [Nat.mul_one]
      show wpList P ops Q rest _ (w.setCell ⟨g, off + n, none⟩ u)
      refine hK _ _ _ ⟨by rw [List.length_append, hq.len]; rfl, hr, hq.max, .inr ⟨g, off, cur.setIfInBounds (off + n) u, rfl, hb, heap_set hgg, by rw [Array.size_setIfInBounds]; exact hss, fun j u' hu => ?_⟩⟩ ?_ (fun b hb' => .inl hb')
      · have hl := hq.len
        rw [Array.getElem?_setIfInBounds]
        rcases Nat.lt_or_ge j n with h | h
        · rw [if_neg (by omega)]
          rw [List.getElem?_append_left (by omega)] at hu
          exact hxx j u' hu
        · rw [List.getElem?_append_right (by omega)] at hu
          obtain rfl : j = n := by
            rcases Nat.lt_or_ge n j with h' | h'
            · rw [List.getElem?_eq_none (by simp; omega)] at hu
              cases hu
            · omega
          rw [hl, Nat.sub_self] at hu
          rw [if_pos rfl, if_pos (by omega)]
          simpa using hu
      · refine ⟨rfl, rfl, rfl, by unfold World.setCell; simp, fun k hk hne => ?_⟩
        unfold World.setCell
        simp only [Array.getElem?_modify]
        rw [if_neg (by rintro rfl; exact hne rfl)]
end Go.Proofs.Ytinohfgokpbcdaa
namespace Go.Proofs.Ytinohfgokpbcdaa
open Go.RowKit

def inq (q : List Nat) : List Value := q.map fun (k : Nat) => Value.int .i64 (k : Int)
theorem inq_snoc (q : List Nat) (i : Nat) : inq (q ++ [i]) = inq q ++ [.int .i64 (i : Int)] := by simp [inq]
theorem inq_get {q : List Nat} {k : Nat} (hk : k < q.length) : (inq q)[k]? = some (.int .i64 (q[k] : Nat)) := by simp [inq, hk]
theorem inq_length (q : List Nat) : (inq q).length = q.length := by simp [inq]
theorem Qs.ne {w : World} {base : Nat} {e : TypeId} {A : Option Addr} {n cap : Nat} {xs : List Value} (h : Qs w base e A n cap xs) {g : Nat} {t : TypeId} {cs : Array Value} (hb : Bk w g t cs) (ht : t ≠ e) : some g ≠ A.map (·.block) := by
  rcases h.own with ⟨h0, _⟩ | ⟨g', off, cur, hA, _, hg, _, _⟩
  · subst h0
    simp
  · subst hA
    intro h2
    simp at h2
    subst h2
    unfold Bk at hb
    rw [hb] at hg
    injection hg with hg
    injection hg with _ h3 _
    exact ht h3
/-- what ranks holds in memory: the field, the cell that is looked at, the ranks, the directions, the queue -/
structure RM (W0 w : World) (hf hk hr hd hq gr : Nat) (X Y : Int) (Wn Hn N : Nat) (A : Option Addr) (c : Nat) (D : Option Addr) (cD p : Nat) (o : Nat → Int) (L : List Nat) (Q : Option Addr) (cap : Nat) : Prop where
  fb : Bk w hf 26 #[.int .i64 X, .int .i64 Y, .int .i64 (Wn : Int), .int .i64 (Hn : Int), .slice A N c]
  kb : Bk w hk 3 #[.int .i64 (p : Int)]
  rb : Bk w hr 41 #[.slice (some ⟨gr, 0, none⟩) N N]
  db : Bk w hd 41 #[.slice D N cD]
  gb : Bk w gr 3 (intB N o)
  qb : Bk w hq 41 #[.slice Q L.length cap]
  qs : Qs w W0.heap.size 3 Q L.length cap (inq L)
  qk : some hk ≠ Q.map (·.block)
  qr : some gr ≠ Q.map (·.block)
  ext : Ext W0 w
  b1 : W0.heap.size ≤ gr
  b2 : W0.heap.size ≤ hq
  n1 : hk ≠ gr
  n2 : hr ≠ hq
  n3 : hd ≠ hq
section
variable {W0 w : World} {hf hk hr hd hq gr : Nat} {X Y : Int} {Wn Hn N : Nat} {A : Option Addr} {c : Nat} {D : Option Addr} {cD p : Nat} {o : Nat → Int} {L : List Nat} {Q : Option Addr} {cap : Nat}
theorem RM.step (h : RM W0 w hf hk hr hd hq gr X Y Wn Hn N A c D cD p o L Q cap) {w' : World} (hx : Ext w w') : RM W0 w' hf hk hr hd hq gr X Y Wn Hn N A c D cD p o L Q cap :=
  ⟨h.fb.ext hx, h.kb.ext hx, h.rb.ext hx, h.db.ext hx, h.gb.ext hx, h.qb.ext hx, h.qs.kept fun a _ ha => hx.block a.block ha, h.qk, h.qr, h.ext.trans hx, h.b1, h.b2, h.n1, h.n2, h.n3⟩
theorem RM.put (h : RM W0 w hf hk hr hd hq gr X Y Wn Hn N A c D cD p o L Q cap) (n : Nat) (x : Int) : RM W0 (w.setCell ⟨gr, n, none⟩ (.int .i64 x)) hf hk hr hd hq gr X Y Wn Hn N A c D cD p (updF o n x) L Q cap := by
  have e1 := Bk.set h.gb n (.int .i64 x)
  rw [intB_set] at e1
  exact ⟨h.fb.far (Bk.ne h.fb h.gb (by decide)) _, h.kb.far h.n1 _, h.rb.far (Bk.ne h.rb h.gb (by decide)) _, h.db.far (Bk.ne h.db h.gb (by decide)) _, e1, h.qb.far (Bk.ne h.qb h.gb (by decide)) _,
    h.qs.kept (fun a ha _ => Below.heap_setCell w _ _ _ (fun e => h.qr (by subst ha; simp only [Option.map_some]; exact congrArg some e.symm))), h.qk, h.qr, h.ext.setCell h.b1 _, h.b1, h.b2, h.n1, h.n2, h.n3⟩
theorem RM.app (h : RM W0 w hf hk hr hd hq gr X Y Wn Hn N A c D cD p o L Q cap) {w' : World} {n : Nat} {Q' : Option Addr} {cap' : Nat} (hq' : Qs w' W0.heap.size 3 Q' (L.length + 1) cap' (inq L ++ [.int .i64 (n : Int)])) (hg : w.grownBy w' (Q.map (·.block)))
    (ho : ∀ b, Q'.map (·.block) = some b → Q.map (·.block) = some b ∨ w.heap.size ≤ b) :
    RM W0 (w'.setCell ⟨hq, 0, none⟩ (.slice Q' (L.length + 1) cap')) hf hk hr hd hq gr X Y Wn Hn N A c D cD p o (L ++ [n]) Q' cap' := by
  have hx : Ext W0 w' := h.ext.grown hg (fun k hk => by
    cases hQ : Q with
    | none => rw [hQ] at hk; cases hk
    | some a => rw [hQ] at hk; cases hk; exact (h.qs.lt hQ).1)
  have f1 := h.fb.grown hg (h.qs.ne h.fb (by decide))
  have k1 := h.kb.grown hg h.qk
  have r1 := h.rb.grown hg (h.qs.ne h.rb (by decide))
  have d1 := h.db.grown hg (h.qs.ne h.db (by decide))
  have g1 := h.gb.grown hg h.qr
  have q1 := h.qb.grown hg (h.qs.ne h.qb (by decide))
  have e1 := Bk.set q1 0 (.slice Q' (L.length + 1) cap')
  have hl : (L ++ [n]).length = L.length + 1 := by simp
  refine ⟨f1.far (Bk.ne f1 q1 (by decide)) _, k1.far (Bk.ne k1 q1 (by decide)) _, r1.far h.n2 _, d1.far h.n3 _, g1.far (Bk.ne g1 q1 (by decide)) _, ?_, ?_, ?_, ?_, hx.setCell h.b2 _, h.b1, h.b2, h.n1, h.n2, h.n3⟩
  · rw [hl]; exact e1
  · rw [hl, inq_snoc]
    exact hq'.kept (fun a ha _ => Below.heap_setCell w' _ _ _ (fun e => hq'.ne q1 (by decide) (by subst ha; simp only [Option.map_some]; exact congrArg some e.symm)))
  · intro e
    rcases ho hk e.symm with e2 | e2
    · exact h.qk e2.symm
    · have := h.kb.lt
      omega
  · intro e
    rcases ho gr e.symm with e2 | e2
    · exact h.qr e2.symm
    · have := h.gb.lt
      omega
theorem RM.rcell (h : RM W0 w hf hk hr hd hq gr X Y Wn Hn N A c D cD p o L Q cap) {k : Nat} (hk : k < N) {w' : World} (hx : Ext w w') : w'.cell? ⟨gr, k, none⟩ = some (.int .i64 (o k)) := by rw [(h.gb.ext hx).cell]; exact intB_get _ hk
end
end Go.Proofs.Ytinohfgokpbcdaa
