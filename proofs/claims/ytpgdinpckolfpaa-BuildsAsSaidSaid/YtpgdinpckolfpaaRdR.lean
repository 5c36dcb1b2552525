/- The heap of prices and the least prices: what holds of singles at each step of prices. No program in sight. -/
import Derived.Test.YtpgdinpckolfpaaRdE
import Derived.Test.YtpgdinpckolfpaaQueC
namespace Go.Proofs.Ytpgdinpckolfpaa
open Go.RowKit

def pr (a : SpR) : Int × Nat := (valI a.v, a.k.toNat)
/-- whether a cell is reached anew, or for less -/
def goesR (seen : Nat → Bool) (out : Nat → Nat) (n x : Nat) : Bool := !seen n || lt x (out n)
/-- what holds at each step -/
structure DR (N : Nat) (E : Nat → List (Nat × Nat)) (src : Nat) (c : Option (Nat × List (Nat × Nat) × Int)) (done seen : Nat → Bool) (out : Nat → Nat) (xs : List SpR) : Prop where
  dj : DJ N E src c done seen (fun k => valI (out k)) (xs.map pr)
  kn : ∀ a ∈ xs, 0 ≤ a.k ∧ Bd 84 a.v ∧ 0 ≤ valI a.v
  ob : ∀ k, k < N → Bd 84 (out k) ∧ 0 ≤ valI (out k) ∧ out k < 4294967296
  oz : ∀ k, k < N → seen k = false → out k = 0
  os : out src = 0
theorem valI_0 : valI 0 = 0 := by decide +kernel
theorem bd_0 (K : Nat) : Bd K 0 := by unfold Bd; omega
theorem sum_ok {sv c : Nat} (hs : Bd 84 sv) (h0 : 0 ≤ valI sv) (hc : Bd 56 c) (c0 : 0 < valI c) :
    floatBits .add .f32 sv c = some (fadd sv c) ∧ Bd 84 (fadd sv c) ∧ 0 ≤ valI (fadd sv c) ∧ fadd sv c < 4294967296 := by
  have h1 := fadd_ge hs (hc.mono (by omega)) (by omega) (by omega)
  have h2 := (fadd_ok hs (hc.mono (by omega : 56 ≤ 84)) (by omega)).1
  exact ⟨h2, fadd_cap hs hc (by omega), by omega, bits_lt h2 (.inl rfl)⟩
section
variable {N : Nat} {E : Nat → List (Nat × Nat)} {src : Nat} {done seen : Nat → Bool} {out : Nat → Nat}
theorem DR.start (hs : src < N) : DR N E src none (fun _ => false) (updF (fun _ => false) src true) (fun _ => 0) [⟨0, (src : Int)⟩] := by
  have e1 : ∀ k, updF (fun _ => false) src true k = true → k = src := fun k hk => by
    unfold updF at hk
    split at hk
    · assumption
    · cases hk
  refine ⟨⟨fun z k hm => ?_, fun k hk hs hd => ?_, (fun k hk hd => by cases hd), (fun k hk hd => by cases hd), fun k hk hsk => ?_, ?_, (fun n m b hn hd => by cases hd), (fun _ _ _ e => by cases e)⟩, fun a ha => ?_, fun k hk => ?_, fun k hk _ => rfl, rfl⟩
  · simp [pr, valI_0] at hm
    obtain ⟨rfl, rfl⟩ := hm
    exact ⟨hs, updF_same _ _ _, by simp [valI_0]⟩
  · have := e1 k hs
    subst this
    simp [pr]
  · have := e1 k hsk
    subst this
    show RWay N E k k (valI 0)
    rw [valI_0]
    exact .start
  · exact ⟨updF_same _ _ _, by simp [valI_0]⟩
  · simp at ha
    subst ha
    exact ⟨by simp, bd_0 84, by simp [valI_0]⟩
  · exact ⟨bd_0 84, by simp [valI_0], by omega⟩
theorem DR.perm {c : Option (Nat × List (Nat × Nat) × Int)} {xs ys : List SpR} (h : DR N E src c done seen out xs) (hp : ys.Perm xs) : DR N E src c done seen out ys :=
  ⟨h.dj.perm (hp.map pr), fun a ha => h.kn a (hp.mem_iff.1 ha), h.ob, h.oz, h.os⟩
theorem DR.cell {c : Option (Nat × List (Nat × Nat) × Int)} {a : SpR} {xs : List SpR} (h : DR N E src c done seen out (a :: xs)) : ∃ k : Nat, a.k = k ∧ k < N ∧ pr a = (valI a.v, k) ∧ Bd 84 a.v ∧ 0 ≤ valI a.v := by
  obtain ⟨h1, h2, h4⟩ := h.kn a (List.mem_cons_self ..)
  obtain ⟨h3, _, _⟩ := h.dj.h1 (pr a).1 (pr a).2 (by simp)
  exact ⟨a.k.toNat, by omega, h3, rfl, h2, h4⟩
theorem DR.skip {a : SpR} {xs : List SpR} {k : Nat} (h : DR N E src none done seen out (a :: xs)) (hk : a.k = k) (hd : done k = true) : DR N E src none done seen out xs := by
  have e : pr a = (valI a.v, k) := by unfold pr; rw [hk, Int.toNat_natCast]
  have h1 := h.dj
  rw [List.map_cons, e] at h1
  exact ⟨h1.skip hd, fun b hb => h.kn b (List.mem_cons_of_mem _ hb), h.ob, h.oz, h.os⟩
theorem DR.take {a : SpR} {xs : List SpR} {k : Nat} (h : DR N E src none done seen out (a :: xs)) (hk : a.k = k) (hl : ∀ b ∈ xs, leS a b) (hd : done k = false) : DR N E src (some (k, E k, valI a.v)) (updF done k true) seen out xs := by
  have e : pr a = (valI a.v, k) := by unfold pr; rw [hk, Int.toNat_natCast]
  have h1 := h.dj
  rw [List.map_cons, e] at h1
  refine ⟨h1.take (fun y j hm => ?_) hd, fun b hb => h.kn b (List.mem_cons_of_mem _ hb), h.ob, h.oz, h.os⟩
  obtain ⟨b, hb, eb⟩ := List.mem_map.1 hm
  have hle := hl b hb
  unfold pr at eb
  injection eb with e1 e2
  subst e1
  unfold leS at hle
  omega
theorem DR.all {xs : List SpR} {k : Nat} {z : Int} (h : DR N E src (some (k, [], z)) done seen out xs) : DR N E src none done seen out xs := ⟨h.dj.all, h.kn, h.ob, h.oz, h.os⟩
theorem DR.stay {xs : List SpR} {k n c sv : Nat} {L : List (Nat × Nat)} (h : DR N E src (some (k, (n, c) :: L, valI sv)) done seen out xs) (hn : n < N) (hsv : Bd 84 sv) (h0 : 0 ≤ valI sv) (hc : Bd 56 c) (c0 : 0 < valI c)
    (hg : goesR seen out n (fadd sv c) = false) : DR N E src (some (k, L, valI sv)) done seen out xs := by
  refine ⟨h.dj.stay ?_, h.kn, h.ob, h.oz, h.os⟩
  unfold goesR at hg
  obtain ⟨_, h1, h2, _⟩ := sum_ok hsv h0 hc c0
  cases hsn : seen n
  · rw [hsn] at hg; cases hg
  · rw [hsn] at hg
    have h3 : lt (fadd sv c) (out n) = false := by simpa using hg
    rw [lt_val (bd_Fin h1 (by omega)) (bd_Fin (h.ob n hn).1 (by omega)), fadd_up hsv hc] at h3
    exact ⟨rfl, by simpa using h3⟩
theorem DR.push {xs ys : List SpR} {k n c sv : Nat} {L : List (Nat × Nat)} (h : DR N E src (some (k, (n, c) :: L, valI sv)) done seen out xs) (hmE : (n, c) ∈ E k) (hn : n < N) (hsv : Bd 84 sv) (h0 : 0 ≤ valI sv) (hc : Bd 56 c) (c0 : 0 < valI c)
    (hg : goesR seen out n (fadd sv c) = true) (hp : ys.Perm (xs ++ [⟨fadd sv c, n⟩])) : DR N E src (some (k, L, valI sv)) done (updF seen n true) (updF out n (fadd sv c)) ys := by
  obtain ⟨_, h1, h2, h3⟩ := sum_ok hsv h0 hc c0
  have hv := fadd_up hsv hc
  unfold goesR at hg
  have hlow : seen n = false ∨ upV c (valI sv) < valI (out n) := by
    cases hsn : seen n
    · exact .inl rfl
    · right
      rw [hsn] at hg
      have h4 : lt (fadd sv c) (out n) = true := by simpa using hg
      rw [lt_val (bd_Fin h1 (by omega)) (bd_Fin (h.ob n hn).1 (by omega)), hv] at h4
      simpa using h4
  have infl := infl_val hsv hc (by omega)
  have hd := h.dj.push hmE hn infl h0 hlow
  have e1 : (fun k => valI (updF out n (fadd sv c) k)) = updF (fun k => valI (out k)) n (upV c (valI sv)) := by
    funext j
    unfold updF
    split
    · exact hv
    · rfl
  have e2 : (xs ++ [(⟨fadd sv c, (n : Int)⟩ : SpR)]).map pr = xs.map pr ++ [(upV c (valI sv), n)] := by
    rw [List.map_append, ← hv]
    rfl
  have hns : src ≠ n := fun e => by
    subst e
    rcases hlow with h5 | h5
    · have := h.dj.h6.1
      rw [h5] at this
      cases this
    · rw [h.os, valI_0] at h5
      omega
  refine ⟨?_, fun a ha => ?_, fun j hj => ?_, fun j hj hsj => ?_, ?_⟩
  · rw [e1]
    refine DJ.perm (xs := (xs ++ [(⟨fadd sv c, (n : Int)⟩ : SpR)]).map pr) ?_ (hp.map pr)
    rw [e2]
    exact hd
  · rcases List.mem_append.1 (hp.mem_iff.1 ha) with h3 | h3
    · exact h.kn a h3
    · simp at h3
      subst h3
      exact ⟨by simp, h1, h2⟩
  · by_cases e : j = n
    · subst e
      rw [updF_same]
      exact ⟨h1, h2, h3⟩
    · rw [updF_ne _ _ e]
      exact h.ob j hj
  · by_cases e : j = n
    · subst e
      rw [updF_same] at hsj
      cases hsj
    · rw [updF_ne _ _ e] at hsj ⊢
      exact h.oz j hj hsj
  · rw [updF_ne _ _ hns]
    exact h.os
/-- what prices leaves -/
structure PrOk (N : Nat) (E : Nat → List (Nat × Nat)) (src : Nat) (seen : Nat → Bool) (out : Nat → Nat) : Prop where
  least : RLeast N E src seen (fun k => valI (out k))
  ob : ∀ k, k < N → Bd 84 (out k) ∧ 0 ≤ valI (out k) ∧ out k < 4294967296
  oz : ∀ k, k < N → seen k = false → out k = 0
  os : out src = 0
  sk : seen src = true
theorem DR.fin (h : DR N E src none done seen out []) : PrOk N E src seen out := ⟨h.dj.least, h.ob, h.oz, h.os, h.dj.h6.1⟩
end
end Go.Proofs.Ytpgdinpckolfpaa
