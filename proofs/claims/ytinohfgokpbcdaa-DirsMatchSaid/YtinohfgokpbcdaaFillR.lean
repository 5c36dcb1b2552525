/- The heap of spills and the least spills: what holds of singles at each step of filled. No program in sight. -/
import Derived.Test.YtinohfgokpbcdaaFillA
namespace Go.Proofs.Ytinohfgokpbcdaa
open Go.RowKit

def pr (a : SpR) : Int × Nat := (valI a.v, a.k.toNat)
/-- what holds at each step -/
structure DS (Wn Hn N slope : Nat) (l : List Nat) (c : Option (Nat × Nat × Int)) (done seen : Nat → Bool) (out : Nat → Nat) (xs : List SpR) : Prop where
  di : DI N (nbr Wn Hn) (brd Wn Hn) (fun k => valI (l.getD k 0)) (upV slope) c done seen (fun k => valI (out k)) (xs.map pr)
  kn : ∀ a ∈ xs, 0 ≤ a.k ∧ Bd 36 a.v
  ob : ∀ k, k < N → seen k = true → Bd 36 (out k)
/-- the border is in the heap, up to a cell -/
structure BI (Wn Hn k : Nat) (l : List Nat) (seen : Nat → Bool) (out : Nat → Nat) (xs : List SpR) : Prop where
  s1 : ∀ j, j < k → brd Wn Hn j = true → seen j = true ∧ out j = l.getD j 0 ∧ ⟨l.getD j 0, (j : Int)⟩ ∈ xs
  s2 : ∀ j, seen j = true → j < k ∧ brd Wn Hn j = true
  s3 : ∀ a ∈ xs, ∃ j : Nat, j < k ∧ brd Wn Hn j = true ∧ a = ⟨l.getD j 0, (j : Int)⟩
  s4 : xs.length ≤ k
theorem BI.zero (Wn Hn : Nat) (l : List Nat) : BI Wn Hn 0 l (fun _ => false) (fun _ => 0) [] := ⟨fun j h => by omega, (fun j h => by cases h), fun a h => (List.not_mem_nil h).elim, Nat.le_refl _⟩
theorem BI.next {Wn Hn k : Nat} {l : List Nat} {seen : Nat → Bool} {out : Nat → Nat} {xs : List SpR} (h : BI Wn Hn k l seen out xs) (hb : brd Wn Hn k = true) : BI Wn Hn (k + 1) l (updF seen k true) (updF out k (l.getD k 0)) (xs ++ [⟨l.getD k 0, (k : Int)⟩]) := by
  refine ⟨fun j hj hbj => ?_, fun j hj => ?_, fun a ha => ?_, by simpa using h.s4⟩
  · by_cases e : j = k
    · subst e
      exact ⟨updF_same _ _ _, updF_same _ _ _, by simp⟩
    · obtain ⟨a, b, c⟩ := h.s1 j (by omega) hbj
      exact ⟨by rw [updF_ne _ _ e]; exact a, by rw [updF_ne _ _ e]; exact b, List.mem_append_left _ c⟩
  · by_cases e : j = k
    · subst e
      exact ⟨by omega, hb⟩
    · rw [updF_ne _ _ e] at hj
      obtain ⟨a, b⟩ := h.s2 j hj
      exact ⟨by omega, b⟩
  · rcases List.mem_append.1 ha with h1 | h1
    · obtain ⟨j, a, b, c⟩ := h.s3 _ h1
      exact ⟨j, by omega, b, c⟩
    · simp at h1
      exact ⟨k, by omega, hb, h1⟩
theorem BI.pass {Wn Hn k : Nat} {l : List Nat} {seen : Nat → Bool} {out : Nat → Nat} {xs : List SpR} (h : BI Wn Hn k l seen out xs) (hb : brd Wn Hn k = false) : BI Wn Hn (k + 1) l seen out xs := by
  refine ⟨fun j hj hbj => ?_, fun j hj => ?_, fun a ha => ?_, by have := h.s4; omega⟩
  · have e : j ≠ k := fun e => by subst e; rw [hb] at hbj; cases hbj
    exact h.s1 j (by omega) hbj
  · obtain ⟨a, b⟩ := h.s2 j hj
    exact ⟨by omega, b⟩
  · obtain ⟨j, a, b, c⟩ := h.s3 _ ha
    exact ⟨j, by omega, b, c⟩
theorem BI.fin {Wn Hn k : Nat} {l : List Nat} {seen : Nat → Bool} {out : Nat → Nat} {xs : List SpR} (h : BI Wn Hn k l seen out xs) (hh : ∀ j, j < k → Bd 20 (l.getD j 0)) : AllFin xs := fun a ha => by
  obtain ⟨j, hj, _, rfl⟩ := h.s3 a ha
  exact bd_Fin (hh j hj) (by omega)
theorem DS.start {Wn Hn N slope : Nat} {l : List Nat} {seen : Nat → Bool} {out : Nat → Nat} {xs ys : List SpR} (h : BI Wn Hn N l seen out xs) (hp : ys.Perm xs) (hh : ∀ j, j < N → Bd 20 (l.getD j 0)) : DS Wn Hn N slope l none (fun _ => false) seen out ys := by
  refine ⟨DI.perm (xs := xs.map pr) ⟨fun z k hm => ?_, fun k hk hs hd => ?_, (fun k hk hd => by cases hd), (fun k hk hd => by cases hd), fun k hk hs => ?_, fun k hk he => ?_, (fun n d m hn hd => by cases hd), (fun _ _ _ e => by cases e)⟩ (hp.map pr), fun a ha => ?_, fun k hk hs => ?_⟩
  · obtain ⟨a, ha, e⟩ := List.mem_map.1 hm
    obtain ⟨j, hj, hb, rfl⟩ := h.s3 a ha
    obtain ⟨s1, s2, s3⟩ := h.s1 j hj hb
    unfold pr at e
    simp only [Int.toNat_natCast] at e
    injection e with e1 e2
    subst e1
    subst e2
    exact ⟨hj, s1, by rw [s2]; exact Int.le_refl _⟩
  · obtain ⟨hj, hb⟩ := h.s2 k hs
    obtain ⟨s1, s2, s3⟩ := h.s1 k hj hb
    refine List.mem_map.2 ⟨_, s3, ?_⟩
    unfold pr
    simp [s2]
  · obtain ⟨hj, hb⟩ := h.s2 k hs
    obtain ⟨s1, s2, s3⟩ := h.s1 k hj hb
    rw [s2]
    exact .start (H := fun k => valI (l.getD k 0)) hk hb
  · obtain ⟨s1, s2, s3⟩ := h.s1 k hk he
    exact ⟨s1, by rw [s2]⟩
  · obtain ⟨j, hj, hb, rfl⟩ := h.s3 a (hp.mem_iff.1 ha)
    exact ⟨by simp, (hh j hj).mono (by omega)⟩
  · obtain ⟨hj, hb⟩ := h.s2 k hs
    obtain ⟨s1, s2, s3⟩ := h.s1 k hj hb
    rw [s2]
    exact (hh k hk).mono (by omega)
section
variable {Wn Hn N slope : Nat} {l : List Nat} {done seen : Nat → Bool} {out : Nat → Nat}
theorem DS.perm {c : Option (Nat × Nat × Int)} {xs ys : List SpR} (h : DS Wn Hn N slope l c done seen out xs) (hp : ys.Perm xs) : DS Wn Hn N slope l c done seen out ys :=
  ⟨h.di.perm (hp.map pr), fun a ha => h.kn a (hp.mem_iff.1 ha), h.ob⟩
theorem DS.cell {c : Option (Nat × Nat × Int)} {a : SpR} {xs : List SpR} (h : DS Wn Hn N slope l c done seen out (a :: xs)) : ∃ k : Nat, a.k = k ∧ k < N ∧ pr a = (valI a.v, k) ∧ Bd 36 a.v := by
  obtain ⟨h1, h2⟩ := h.kn a (List.mem_cons_self ..)
  obtain ⟨h3, _, _⟩ := h.di.h1 (pr a).1 (pr a).2 (by simp)
  exact ⟨a.k.toNat, by omega, h3, rfl, h2⟩
theorem DS.skip {a : SpR} {xs : List SpR} {k : Nat} (h : DS Wn Hn N slope l none done seen out (a :: xs)) (hk : a.k = k) (hd : done k = true) : DS Wn Hn N slope l none done seen out xs := by
  have e : pr a = (valI a.v, k) := by unfold pr; rw [hk, Int.toNat_natCast]
  have h1 := h.di
  rw [List.map_cons, e] at h1
  exact ⟨h1.skip hd, fun b hb => h.kn b (List.mem_cons_of_mem _ hb), h.ob⟩
theorem DS.take {a : SpR} {xs : List SpR} {k : Nat} (h : DS Wn Hn N slope l none done seen out (a :: xs)) (hk : a.k = k) (hl : ∀ b ∈ xs, leS a b) (hd : done k = false) : DS Wn Hn N slope l (some (k, 0, valI a.v)) (updF done k true) seen out xs := by
  have e : pr a = (valI a.v, k) := by unfold pr; rw [hk, Int.toNat_natCast]
  have h1 := h.di
  rw [List.map_cons, e] at h1
  refine ⟨h1.take (fun y j hm => ?_) hd, fun b hb => h.kn b (List.mem_cons_of_mem _ hb), h.ob⟩
  obtain ⟨b, hb, eb⟩ := List.mem_map.1 hm
  have hle := hl b hb
  unfold pr at eb
  injection eb with e1 e2
  subst e1
  unfold leS at hle
  omega
theorem DS.all {xs : List SpR} {k : Nat} {z : Int} (h : DS Wn Hn N slope l (some (k, 8, z)) done seen out xs) : DS Wn Hn N slope l none done seen out xs := ⟨h.di.all, h.kn, h.ob⟩
theorem DS.miss {xs : List SpR} {k d : Nat} {z : Int} (h : DS Wn Hn N slope l (some (k, d, z)) done seen out xs) (hn : nbr Wn Hn k d = none) : DS Wn Hn N slope l (some (k, d + 1, z)) done seen out xs := ⟨h.di.miss hn, h.kn, h.ob⟩
theorem DS.stay {xs : List SpR} {k d n sv : Nat} (h : DS Wn Hn N slope l (some (k, d, valI sv)) done seen out xs) (hnb : nbr Wn Hn k d = some n) (hn : n < N) (hh : Bd 20 (l.getD n 0)) (hsv : Bd 36 sv) (hs : Bd 10 slope) (h0 : 0 ≤ valI slope)
    (hg : goesB done seen out n (relV (l.getD n 0) slope sv) = false) : DS Wn Hn N slope l (some (k, d + 1, valI sv)) done seen out xs := by
  refine ⟨h.di.stay hnb hn (infl_val hsv hs h0) ?_, h.kn, h.ob⟩
  unfold goesB at hg
  cases hd : done n
  · right
    rw [hd] at hg
    cases hsn : seen n
    · rw [hsn] at hg
      cases hg
    · refine ⟨rfl, ?_⟩
      rw [hsn] at hg
      have h1 : lt (relV (l.getD n 0) slope sv) (out n) = false := by simpa using hg
      rw [lt_val (bd_Fin (relV_bd hh hsv hs h0) (by omega)) (bd_Fin (h.ob n hn hsn) (by omega)), relV_val hh hsv hs h0] at h1
      simpa using h1
  · exact .inl rfl
theorem DS.push {xs ys : List SpR} {k d n sv : Nat} (h : DS Wn Hn N slope l (some (k, d, valI sv)) done seen out xs) (hd8 : d < 8) (hnb : nbr Wn Hn k d = some n) (hn : n < N) (hh : Bd 20 (l.getD n 0)) (hsv : Bd 36 sv) (hs : Bd 10 slope) (h0 : 0 ≤ valI slope)
    (hg : goesB done seen out n (relV (l.getD n 0) slope sv) = true) (hp : ys.Perm (xs ++ [⟨relV (l.getD n 0) slope sv, n⟩])) : DS Wn Hn N slope l (some (k, d + 1, valI sv)) done (updF seen n true) (updF out n (relV (l.getD n 0) slope sv)) ys := by
  have hv := relV_val hh hsv hs h0
  have hb := relV_bd hh hsv hs h0
  unfold goesB at hg
  simp only [Bool.and_eq_true, Bool.not_eq_true', Bool.or_eq_true] at hg
  have hlow : seen n = false ∨ max (valI (l.getD n 0)) (upV slope (valI sv)) < valI (out n) := by
    cases hsn : seen n
    · exact .inl rfl
    · right
      rcases hg.2 with h1 | h1
      · rw [hsn] at h1; cases h1
      · rw [lt_val (bd_Fin hb (by omega)) (bd_Fin (h.ob n hn hsn) (by omega)), hv] at h1
        simpa using h1
  have h2 := h.di.push hd8 hnb hn (infl_val hsv hs h0) hg.1 hlow
  have e1 : (fun k => valI (updF out n (relV (l.getD n 0) slope sv) k)) = updF (fun k => valI (out k)) n (max (valI (l.getD n 0)) (upV slope (valI sv))) := by
    funext j
    unfold updF
    split
    · exact hv
    · rfl
  have e2 : (xs ++ [(⟨relV (l.getD n 0) slope sv, (n : Int)⟩ : SpR)]).map pr = xs.map pr ++ [(max (valI (l.getD n 0)) (upV slope (valI sv)), n)] := by
    rw [List.map_append, ← hv]
    rfl
  refine ⟨?_, fun a ha => ?_, fun j hj hsj => ?_⟩
  · rw [e1]
    refine DI.perm (xs := (xs ++ [(⟨relV (l.getD n 0) slope sv, (n : Int)⟩ : SpR)]).map pr) ?_ (hp.map pr)
    rw [e2]
    exact h2
  · rcases List.mem_append.1 (hp.mem_iff.1 ha) with h3 | h3
    · exact h.kn a h3
    · simp at h3
      subst h3
      exact ⟨by simp, hb⟩
  · by_cases e : j = n
    · subst e
      rw [updF_same]
      exact hb
    · rw [updF_ne _ _ e] at hsj ⊢
      exact h.ob j hj hsj
theorem DS.least (h : DS Wn Hn N slope l none done seen out []) (hw : 1 ≤ Wn) (hN : N = Wn * Hn) : LeastG Wn Hn (fun k => l.getD k 0) slope (fun k => valI (out k)) ∧ ∀ k, k < N → Bd 36 (out k) := by
  subst hN
  have hl := h.di.least (upV_mono slope) (fun P hb hs => conn_grid hw P hb hs)
  refine ⟨hl, fun k hk => h.ob k hk ?_⟩
  have hdone : ∀ k, k < Wn * Hn → seen k = true → done k = true := fun k hk hs => by
    cases hd : done k
    · have := h.di.h2 k hk hs hd
      cases this
    · rfl
  exact conn_grid hw (fun k => seen k = true) (fun k hk he => (h.di.h6 k hk he).1) (fun n d m hn hs hd hnb => (h.di.h7 n d m hn (hdone n hn hs) hd hnb (fun _ _ _ e => by cases e)).1) k hk
end
/-- how many cells are not done -/
def left (N : Nat) (done : Nat → Bool) : Nat := ((List.range N).filter fun k => !done k).length
theorem left_le (N : Nat) (done : Nat → Bool) : left N done ≤ N := by
  unfold left
  have := List.length_filter_le (fun k => !done k) (List.range N)
  simpa using this
theorem filter_one : ∀ (ks : List Nat) (f : Nat → Bool) (n : Nat), ks.Nodup → n ∈ ks → f n = false → (ks.filter fun k => !updF f n true k).length + 1 = (ks.filter fun k => !f k).length
  | [], _, _, _, h, _ => by cases h
  | k :: ks, f, n, hnd, hm, hf => by
    rw [List.nodup_cons] at hnd
    by_cases e : k = n
    · subst e
      have h1 : (ks.filter fun j => !updF f k true j) = ks.filter fun j => !f j := by
        apply List.filter_congr
        intro j hj
        rw [updF_ne]
        rintro rfl
        exact hnd.1 hj
      rw [List.filter_cons, List.filter_cons, updF_same, hf, h1]
      simp
    · have hm' : n ∈ ks := by
        rcases List.mem_cons.1 hm with h | h
        · exact absurd h.symm e
        · exact h
      have ih := filter_one ks f n hnd.2 hm' hf
      rw [List.filter_cons, List.filter_cons, updF_ne _ _ e]
      cases f k <;> simp <;> omega
theorem left_upd {N n : Nat} {done : Nat → Bool} (hn : n < N) (hd : done n = false) : left N (updF done n true) + 1 = left N done := filter_one _ done n List.nodup_range (List.mem_range.2 hn) hd
end Go.Proofs.Ytinohfgokpbcdaa
