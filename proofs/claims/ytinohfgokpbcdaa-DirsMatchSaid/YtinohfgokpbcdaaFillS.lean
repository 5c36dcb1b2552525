/- The least spills in the reference: rounds over all cells until nothing changes. No program in sight. -/
import Derived.Test.YtinohfgokpbcdaaFillR
namespace Go.Proofs.Ytinohfgokpbcdaa
open Go.RowKit

theorem step_opp (d : Nat) (h : d < 8) : ∃ d', d' < 8 ∧ stepX ((d' : Nat) : Int) = -stepX d ∧ stepY ((d' : Nat) : Int) = -stepY d := by
  have hc : d = 0 ∨ d = 1 ∨ d = 2 ∨ d = 3 ∨ d = 4 ∨ d = 5 ∨ d = 6 ∨ d = 7 := by omega
  rcases hc with rfl | rfl | rfl | rfl | rfl | rfl | rfl | rfl
  · exact ⟨4, by decide, by decide, by decide⟩
  · exact ⟨5, by decide, by decide, by decide⟩
  · exact ⟨6, by decide, by decide, by decide⟩
  · exact ⟨7, by decide, by decide, by decide⟩
  · exact ⟨0, by decide, by decide, by decide⟩
  · exact ⟨1, by decide, by decide, by decide⟩
  · exact ⟨2, by decide, by decide, by decide⟩
  · exact ⟨3, by decide, by decide, by decide⟩
theorem nbr_symm {Wn Hn n d m : Nat} (h1 : 1 ≤ Wn) (hn : n < Wn * Hn) (hd : d < 8) (h : nbr Wn Hn n d = some m) : ∃ d', d' < 8 ∧ nbr Wn Hn m d' = some n := by
  obtain ⟨d', hd', ex, ey⟩ := step_opp d hd
  refine ⟨d', hd', ?_⟩
  obtain ⟨f1, f2⟩ := grid_facts h1 hn
  have hdm := Nat.div_add_mod n Wn
  unfold nbr at h
  split at h
  · rename_i hc
    injection h with h
    obtain ⟨x', hx'⟩ : ∃ x' : Nat, ((n % Wn : Nat) : Int) + stepX d = x' := ⟨(((n % Wn : Nat) : Int) + stepX d).toNat, by omega⟩
    obtain ⟨y', hy'⟩ : ∃ y' : Nat, ((n / Wn : Nat) : Int) + stepY d = y' := ⟨(((n / Wn : Nat) : Int) + stepY d).toNat, by omega⟩
    rw [hx', hy', Int.toNat_natCast, Int.toNat_natCast] at h
    rw [hx', hy'] at hc
    have hxw : x' < Wn := by omega
    have e1 : m % Wn = x' := by rw [← h, Nat.mul_comm, Nat.mul_add_mod, Nat.mod_eq_of_lt hxw]
    have e2 : m / Wn = y' := by rw [← h, Nat.mul_comm, Nat.mul_add_div (by omega), Nat.div_eq_of_lt hxw, Nat.add_zero]
    unfold nbr
    rw [e1, e2, ex, ey]
    generalize n % Wn = a at *
    generalize n / Wn = b at *
    rw [if_pos (by omega)]
    congr 1
    rw [show ((y' : Int) + -stepY d).toNat = b by omega, show ((x' : Int) + -stepX d).toNat = a by omega, Nat.mul_comm]
    exact hdm
  · cases h

/-- as relV, as the reference writes it -/
def relR (h s x : Nat) : Nat := if gt h (fadd x s) = true then h else fadd x s
theorem relR_bd {h s x : Nat} (hh : Bd 20 h) (hx : Bd 36 x) (hs : Bd 10 s) (h0 : 0 ≤ valI s) : Bd 36 (relR h s x) := by
  unfold relR
  split
  · exact hh.mono (by omega)
  · exact fadd_cap hx hs h0
theorem relR_val {h s x : Nat} (hh : Bd 20 h) (hx : Bd 36 x) (hs : Bd 10 s) (h0 : 0 ≤ valI s) : valI (relR h s x) = max (valI h) (upV s (valI x)) := by
  have hc := fadd_cap hx hs h0
  have e := fadd_up hx hs
  unfold relR
  rw [gt_val (bd_Fin hh (by omega)) (bd_Fin hc (by omega)), e]
  by_cases hlt : upV s (valI x) < valI h
  · rw [if_pos (by simpa using hlt)]
    omega
  · rw [if_neg (by simpa using hlt), e]
    omega

/-- what is known of cells -/
structure RS (Wn Hn N slope : Nat) (l : List Nat) (known : Nat → Bool) (out : Nat → Nat) : Prop where
  r1 : ∀ k, k < N → known k = true → WayG Wn Hn (fun k => l.getD k 0) slope k (valI (out k))
  r2 : ∀ k, k < N → known k = true → Bd 36 (out k)
  r3 : ∀ k, k < N → brd Wn Hn k = true → known k = true ∧ out k = l.getD k 0
/-- a neighbour leaves a cell as it is -/
def Calm (Wn Hn slope : Nat) (l : List Nat) (known : Nat → Bool) (out : Nat → Nat) (k d : Nat) : Prop := ∀ n, nbr Wn Hn k d = some n → known n = true → known k = true ∧ valI (out k) ≤ max (valI (l.getD k 0)) (upV slope (valI (out n)))
/-- all cells below k are calm -/
def CalmTo (Wn Hn slope : Nat) (l : List Nat) (known : Nat → Bool) (out : Nat → Nat) (k : Nat) : Prop := ∀ j, j < k → brd Wn Hn j = false → ∀ d, d < 8 → Calm Wn Hn slope l known out j d
def rankK (known : Nat → Bool) (out : Nat → Nat) (k : Nat) : Nat := if known k = true then (valI (out k) + 2 ^ 186).toNat else 2 ^ 188
/-- how much may still change -/
def rankN (known : Nat → Bool) (out : Nat → Nat) : Nat → Nat
  | 0 => 0
  | n + 1 => rankN known out n + rankK known out n
theorem rankN_upd {known known' : Nat → Bool} {out out' : Nat → Nat} {k : Nat} (hs : ∀ j, j ≠ k → known' j = known j ∧ out' j = out j) (hlt : rankK known' out' k < rankK known out k) : ∀ N, (N ≤ k → rankN known' out' N = rankN known out N) ∧ (k < N → rankN known' out' N < rankN known out N)
  | 0 => ⟨fun _ => rfl, fun h => by omega⟩
  | N + 1 => by
    obtain ⟨h1, h2⟩ := rankN_upd hs hlt N
    constructor
    · intro h
      have e : rankK known' out' N = rankK known out N := by
        obtain ⟨a, b⟩ := hs N (by omega)
        unfold rankK
        rw [a, b]
      rw [rankN, rankN, h1 (by omega), e]
    · intro h
      rw [rankN, rankN]
      by_cases e : N = k
      · have := h1 (by omega)
        subst e
        omega
      · have e : rankK known' out' N = rankK known out N := by
          obtain ⟨a, b⟩ := hs N e
          unfold rankK
          rw [a, b]
        have := h2 (by omega)
        omega
section
variable {Wn Hn N slope : Nat} {l : List Nat} {known : Nat → Bool} {out : Nat → Nat}
theorem RS.upd (h : RS Wn Hn N slope l known out) (hN : N = Wn * Hn) (hw : 1 ≤ Wn) {k d n : Nat} (hk : k < N) (hb : brd Wn Hn k = false) (hd : d < 8) (hnb : nbr Wn Hn k d = some n) (hkn : known n = true) (hh : Bd 20 (l.getD k 0)) (hs : Bd 10 slope) (h0 : 0 ≤ valI slope)
    (hlow : known k = false ∨ valI (relR (l.getD k 0) slope (out n)) < valI (out k)) :
    RS Wn Hn N slope l (updF known k true) (updF out k (relR (l.getD k 0) slope (out n))) ∧ rankN (updF known k true) (updF out k (relR (l.getD k 0) slope (out n))) N < rankN known out N := by
  have hnN : n < N := by rw [hN]; exact nbr_lt hnb
  have hv := relR_val hh (h.r2 n hnN hkn) hs h0
  have hbd := relR_bd hh (h.r2 n hnN hkn) hs h0
  constructor
  · refine ⟨fun j hj hkj => ?_, fun j hj hkj => ?_, fun j hj hbj => ?_⟩
    · by_cases e : j = k
      · subst e
        rw [updF_same, hv]
        obtain ⟨d', hd', hnb'⟩ := nbr_symm hw (by rw [← hN]; exact hk) hd hnb
        exact Way.step (H := fun k => valI (l.getD k 0)) (h.r1 n hnN hkn) (by rw [← hN]; exact hnN) hd' hnb' (by rw [← hN]; exact hj)
      · rw [updF_ne _ _ e] at hkj ⊢
        exact h.r1 j hj hkj
    · by_cases e : j = k
      · subst e
        rw [updF_same]
        exact hbd
      · rw [updF_ne _ _ e] at hkj ⊢
        exact h.r2 j hj hkj
    · have e : j ≠ k := fun e => by subst e; rw [hb] at hbj; cases hbj
      rw [updF_ne _ _ e, updF_ne _ _ e]
      exact h.r3 j hj hbj
  · refine (rankN_upd (k := k) (fun j hj => ⟨updF_ne _ _ hj, updF_ne _ _ hj⟩) ?_ N).2 hk
    have e1 : rankK (updF known k true) (updF out k (relR (l.getD k 0) slope (out n))) k = (valI (relR (l.getD k 0) slope (out n)) + 2 ^ 186).toNat := by
      unfold rankK
      simp [updF_same]
    have b1 := (bd_valI (K := 36) (by omega)).1 hbd
    show rankK (updF known k true) (updF out k (relR (l.getD k 0) slope (out n))) k < rankK known out k
    rw [e1]
    cases hkk : known k
    · have e2 : rankK known out k = 2 ^ 188 := by unfold rankK; simp [hkk]
      rw [e2]
      omega
    · have e2 : rankK known out k = (valI (out k) + 2 ^ 186).toNat := by unfold rankK; simp [hkk]
      rw [e2]
      have b2 := (bd_valI (K := 36) (by omega)).1 (h.r2 k hk hkk)
      rcases hlow with h1 | h1
      · rw [hkk] at h1; cases h1
      · omega
theorem RS.least (h : RS Wn Hn N slope l known out) (hN : N = Wn * Hn) (hw : 1 ≤ Wn) (hc : CalmTo Wn Hn slope l known out N) : LeastG Wn Hn (fun k => l.getD k 0) slope (fun k => valI (out k)) ∧ ∀ k, k < N → Bd 36 (out k) := by
  subst hN
  have hall : ∀ k, k < Wn * Hn → known k = true := conn_grid hw (fun k => known k = true) (fun k hk hb => (h.r3 k hk hb).1) (fun n d m hn hkn hd hnb => by
    have hm := nbr_lt hnb
    cases hb : brd Wn Hn m
    · obtain ⟨d', hd', hnb'⟩ := nbr_symm hw hn hd hnb
      exact (hc m hm hb d' hd' n hnb' hkn).1
    · exact (h.r3 m hm hb).1)
  refine ⟨Least.mk' (upV_mono slope) (fun k hk => h.r1 k hk (hall k hk)) (fun k hk hb => Int.le_of_eq (by rw [(h.r3 k hk hb).2])) (fun n d k hn hd hnb hk => ?_), fun k hk => h.r2 k hk (hall k hk)⟩
  cases hb : brd Wn Hn k
  · obtain ⟨d', hd', hnb'⟩ := nbr_symm hw hn hd hnb
    exact (hc k hk hb d' hd' n hnb' (hall n hn)).2
  · show valI (out k) ≤ max (valI (l.getD k 0)) _
    rw [(h.r3 k hk hb).2]
    omega
end
end Go.Proofs.Ytinohfgokpbcdaa
