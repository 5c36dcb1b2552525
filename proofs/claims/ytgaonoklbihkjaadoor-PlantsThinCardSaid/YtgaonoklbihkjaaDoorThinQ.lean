/- Plain words: which plants stay. -/
import Derived.Test.YtgaonoklbihkjaaDoorThinAP
import Derived.Test.YtgaonoklbihkjaaDoorCoverQ
namespace Go.Proofs.YtgaonoklbihkjaaDoor
open Go.RowKit

/-- the places of the plants rise -/
def Rises (p : List PlantR) : Prop := p.Pairwise fun a b => ltP a b = true
theorem Rises.place {p : List PlantR} (h : Rises p) {i j : Nat} (hi : i < p.length) (hj : j < p.length) (he : p[i].x = p[j].x ∧ p[i].y = p[j].y) : i = j := by
  have h2 := List.pairwise_iff_getElem.1 h
  have key : ∀ a b : PlantR, a.x = b.x ∧ a.y = b.y → ltP a b = false := fun a b e => by
    unfold ltP placeC
    rw [e.1, e.2, cmpI_eq, cmpI_eq]
    rfl
  rcases Nat.lt_trichotomy i j with h3 | h3 | h3
  · have := h2 i j hi hj h3
    rw [key _ _ he] at this
    cases this
  · exact h3
  · have := h2 j i hj hi h3
    rw [key _ _ ⟨he.1.symm, he.2.symm⟩] at this
    cases this
theorem Rises.one {p : List PlantR} (h : Rises p) {a b : PlantR} (ha : a ∈ p) (hb : b ∈ p) (he : a.x = b.x ∧ a.y = b.y) : a = b := by
  obtain ⟨i, hi, rfl⟩ := List.getElem_of_mem ha
  obtain ⟨j, hj, rfl⟩ := List.getElem_of_mem hb
  have := h.place hi hj he
  subst this
  rfl
theorem Rises.nodup {p : List PlantR} (h : Rises p) : p.Nodup := by
  refine List.Pairwise.imp (fun {a b} h2 => ?_) h
  rintro rfl
  rw [ltP_irrefl] at h2
  cases h2

section
variable (l : List KindR)
def cloB (a b : PlantR) : Bool := decide ((sqD a b : Int) < max (spaceOf l a.kind) (spaceOf l b.kind) * max (spaceOf l a.kind) (spaceOf l b.kind))
theorem cloB_symm (a b : PlantR) : cloB l a b = cloB l b a := by
  unfold cloB
  rw [sqD_symm, Int.max_comm]
def addS (acc : List PlantR) (x : PlantR) : List PlantR := if acc.any (fun o => cloB l x o) = true then acc else acc ++ [x]
def stayL (o : List PlantR) : List PlantR := o.foldl (addS l) []
theorem stayL_snoc (o : List PlantR) (x : PlantR) : stayL l (o ++ [x]) = addS l (stayL l o) x := by simp [stayL]
theorem stayL_take (o : List PlantR) {t : Nat} (ht : t < o.length) : stayL l (o.take (t + 1)) = addS l (stayL l (o.take t)) o[t] := by
  rw [← List.take_append_getElem ht, stayL_snoc]
theorem addS_sub (acc : List PlantR) (x y : PlantR) (h : y ∈ addS l acc x) : y ∈ acc ∨ y = x := by
  unfold addS at h
  split at h
  · exact .inl h
  · simpa using h
theorem foldl_sub : ∀ (o acc : List PlantR) (y : PlantR), y ∈ o.foldl (addS l) acc → y ∈ acc ∨ y ∈ o
  | [], acc, y, h => .inl h
  | x :: r, acc, y, h => by
    rw [List.foldl_cons] at h
    rcases foldl_sub r _ y h with h | h
    · rcases addS_sub l acc x y h with h | rfl
      · exact .inl h
      · exact .inr (List.mem_cons_self ..)
    · exact .inr (List.mem_cons_of_mem _ h)
theorem stayL_sub {o : List PlantR} {y : PlantR} (h : y ∈ stayL l o) : y ∈ o := by
  rcases foldl_sub l o [] y h with h | h
  · cases h
  · exact h
theorem foldl_nodup : ∀ (o acc : List PlantR), (acc ++ o).Nodup → (o.foldl (addS l) acc).Nodup
  | [], acc, h => by simpa using h
  | x :: r, acc, h => by
    rw [List.foldl_cons]
    refine foldl_nodup r _ ?_
    unfold addS
    split
    · exact List.Nodup.sublist (List.Sublist.append (List.Sublist.refl _) (List.sublist_cons_self x r)) h
    · simpa using h
theorem stayL_nodup {o : List PlantR} (h : o.Nodup) : (stayL l o).Nodup := foldl_nodup l o [] (by simpa using h)
end

/-- the plants in the order in which they stand -/
structure Stood (p o : List PlantR) : Prop where
  perm : o.Perm p
  sorted : o.Pairwise fun a b => ltS b a = false
theorem stood_ex (p : List PlantR) : ∃ o, Stood p o :=
  ⟨p.mergeSort (fun a b => !ltS b a), List.mergeSort_perm _ _, by
    have h := List.pairwise_mergeSort (le := fun a b => !ltS b a) (fun a b c h1 h2 => by
      simp only [Bool.not_eq_true'] at *
      exact ltS_ntrans h2 h1) (fun a b => by
      cases h : ltS b a
      · rfl
      · rw [ltS_le h]
        rfl) p
    exact List.Pairwise.imp (fun {a b} h => by simpa using h) h⟩
theorem Stood.eq {p o o' : List PlantR} (hr : Rises p) (h : Stood p o) (h' : Stood p o') : o = o' :=
  List.Perm.eq_of_pairwise (le := fun a b => ltS b a = false) (fun _ _ ha hb h1 h2 => hr.one (h.perm.mem_iff.1 ha) (h'.perm.mem_iff.1 hb) (ltS_total h2 h1)) h.sorted h'.sorted (h.perm.trans h'.perm.symm)
theorem Stood.nodup {p o : List PlantR} (hr : Rises p) (h : Stood p o) : o.Nodup := h.perm.nodup_iff.2 hr.nodup
theorem Stood.length {p o : List PlantR} (h : Stood p o) : o.length = p.length := h.perm.length_eq

section
variable {l : List KindR} {p o : List PlantR}
instance : DecidableEq PlantR := fun a b => decidable_of_iff (a.kind = b.kind ∧ a.x = b.x ∧ a.y = b.y ∧ a.size = b.size ∧ a.age = b.age) ⟨fun ⟨h1, h2, h3, h4, h5⟩ => by cases a; cases b; simp_all, fun h => by subst h; exact ⟨rfl, rfl, rfl, rfl, rfl⟩⟩
/-- those that stay, by their places -/
def restP (l : List KindR) (p o : List PlantR) : List PlantR := p.filter fun x => decide (x ∈ stayL l o)
/-- a row of those that stay that is sorted by place is that -/
theorem rest_eq (hr : Rises p) (h : Stood p o) {q : List PlantR} (hq : q.Perm (stayL l o)) (hs : q.Pairwise fun a b => ltP b a = false) : q = restP l p o := by
  have hperm : q.Perm (restP l p o) := by
    refine hq.trans ?_
    refine (List.perm_ext_iff_of_nodup (stayL_nodup l (h.nodup hr)) (hr.nodup.sublist (List.filter_sublist ..))).2 (fun a => ?_)
    rw [List.mem_filter]
    simp only [decide_eq_true_eq]
    exact ⟨fun ha => ⟨h.perm.mem_iff.1 (stayL_sub l ha), ha⟩, fun ha => ha.2⟩
  refine List.Perm.eq_of_pairwise (le := fun a b => ltP b a = false) (fun a b ha hb h1 h2 => ?_) hs ?_ hperm
  · have m1 : a ∈ p := h.perm.mem_iff.1 (stayL_sub l (hq.mem_iff.1 ha))
    have m2 : b ∈ p := (List.mem_filter.1 hb).1
    exact hr.one m1 m2 (ltP_total h2 h1)
  · refine List.Pairwise.sublist (List.filter_sublist ..) (List.Pairwise.imp (fun {a b} h => ?_) hr)
    cases h2 : ltP b a
    · rfl
    · have := ltP_trans h h2
      rw [ltP_irrefl] at this
      cases this
end

/-! the way of the document: the one that stands first of those that are not decided -/
section
variable (p : List PlantR) (out : Nat → Bool)
def pickK : Nat → Int
  | 0 => -1
  | i + 1 => if out i = false ∧ (pickK i < 0 ∨ ltS (plK p i) (plK p (pickK i).toNat) = true) then (i : Int) else pickK i
theorem pickK_is : ∀ i, (∀ j, j < i → out j = true) ∧ pickK p out i = -1 ∨ ∃ k : Nat, k < i ∧ pickK p out i = (k : Int) ∧ out k = false ∧ ∀ j, j < i → out j = false → ltS (plK p j) (plK p k) = false
  | 0 => .inl ⟨fun j h => by omega, rfl⟩
  | i + 1 => by
    have e : pickK p out (i + 1) = if out i = false ∧ (pickK p out i < 0 ∨ ltS (plK p i) (plK p (pickK p out i).toNat) = true) then (i : Int) else pickK p out i := rfl
    rcases pickK_is i with ⟨h1, h2⟩ | ⟨k, hk, h2, h3, h4⟩
    · rw [h2] at e
      cases ho : out i
      · rw [if_pos ⟨ho, .inl (by omega)⟩] at e
        refine .inr ⟨i, by omega, e, ho, fun j hj hj2 => ?_⟩
        rcases Nat.lt_or_eq_of_le (Nat.le_of_lt_succ hj) with h | rfl
        · rw [h1 j h] at hj2
          cases hj2
        · exact ltS_irrefl _
      · rw [if_neg (by rw [ho]; rintro ⟨h, _⟩; cases h)] at e
        refine .inl ⟨fun j hj => ?_, e⟩
        rcases Nat.lt_or_eq_of_le (Nat.le_of_lt_succ hj) with h | rfl
        · exact h1 j h
        · exact ho
    · rw [h2, Int.toNat_natCast] at e
      by_cases hc : out i = false ∧ ltS (plK p i) (plK p k) = true
      · rw [if_pos ⟨hc.1, .inr hc.2⟩] at e
        refine .inr ⟨i, by omega, e, hc.1, fun j hj hj2 => ?_⟩
        rcases Nat.lt_or_eq_of_le (Nat.le_of_lt_succ hj) with h | rfl
        · cases h5 : ltS (plK p j) (plK p i)
          · rfl
          · have := ltS_trans h5 hc.2
            rw [h4 j h hj2] at this
            cases this
        · exact ltS_irrefl _
      · rw [if_neg (fun hh => hh.2.elim (fun hb => by omega) (fun hb => hc ⟨hh.1, hb⟩))] at e
        refine .inr ⟨k, by omega, e, h3, fun j hj hj2 => ?_⟩
        rcases Nat.lt_or_eq_of_le (Nat.le_of_lt_succ hj) with h | rfl
        · exact h4 j h hj2
        · cases h5 : ltS (plK p j) (plK p k)
          · rfl
          · exact absurd ⟨hj2, h5⟩ hc
end
section
variable {p o : List PlantR}
/-- which are decided after t rounds -/
def outT (p o : List PlantR) (t i : Nat) : Bool := decide (plK p i ∈ o.take t)
def stayT (l : List KindR) (p o : List PlantR) (t i : Nat) : Bool := decide (plK p i ∈ stayL l (o.take t))
theorem mem_take_iff (hn : o.Nodup) {t s : Nat} (hs : s < o.length) : o[s] ∈ o.take t ↔ s < t := by
  constructor
  · intro h
    obtain ⟨i, hi, he⟩ := List.getElem_of_mem h
    rw [List.length_take] at hi
    rw [List.getElem_take] at he
    have := (List.getElem_inj hn).1 he
    omega
  · intro h
    have h2 : s < (o.take t).length := by rw [List.length_take]; omega
    have := List.getElem_mem h2
    rwa [List.getElem_take] at this
theorem pick_first (hr : Rises p) (h : Stood p o) {t : Nat} (ht : t < o.length) : ∃ k : Nat, ∃ hk : k < p.length, pickK p (outT p o t) p.length = (k : Int) ∧ p[k] = o[t] := by
  have hn := h.nodup hr
  have hm : o[t] ∈ p := h.perm.mem_iff.1 (List.getElem_mem ht)
  obtain ⟨j, hj, hje⟩ := List.getElem_of_mem hm
  have hjo : outT p o t j = false := by
    unfold outT
    rw [plK_at hj, hje, decide_eq_false_iff_not, mem_take_iff hn ht]
    omega
  rcases pickK_is p (outT p o t) p.length with ⟨h1, _⟩ | ⟨k, hk, h2, h3, h4⟩
  · rw [h1 j hj] at hjo
    cases hjo
  · refine ⟨k, hk, h2, ?_⟩
    have h5 := h4 j hj hjo
    rw [plK_at hj, plK_at hk, hje] at h5
    have hmk : p[k] ∈ o := h.perm.mem_iff.2 (List.getElem_mem hk)
    obtain ⟨s, hs, hse⟩ := List.getElem_of_mem hmk
    unfold outT at h3
    rw [plK_at hk, ← hse, decide_eq_false_iff_not, mem_take_iff hn hs] at h3
    rcases Nat.lt_or_eq_of_le (Nat.le_of_not_lt h3) with h6 | h6
    · have h7 := List.pairwise_iff_getElem.1 h.sorted t s ht hs h6
      rw [hse] at h7
      exact hr.one (List.getElem_mem hk) hm (ltS_total h7 h5)
    · subst h6
      exact hse.symm
theorem out_next (hr : Rises p) {t k : Nat} (ht : t < o.length) (hk : k < p.length) (he : p[k] = o[t]) {i : Nat} (hi : i < p.length) : outT p o (t + 1) i = if i = k then true else outT p o t i := by
  unfold outT
  rw [← List.take_append_getElem ht, plK_at hi, Bool.eq_iff_iff, decide_eq_true_eq, List.mem_append, List.mem_singleton, ← he]
  by_cases hik : i = k
  · subst hik
    simp
  · rw [if_neg hik, decide_eq_true_eq]
    constructor
    · rintro (h | h)
      · exact h
      · exact absurd (hr.place hi hk (by rw [h]; exact ⟨rfl, rfl⟩)) hik
    · exact .inl
theorem stay_next (l : List KindR) (hr : Rises p) (h : Stood p o) {t k : Nat} (ht : t < o.length) (hk : k < p.length) (he : p[k] = o[t]) {i : Nat} (hi : i < p.length) :
    stayT l p o (t + 1) i = if i = k then !((List.range p.length).any fun j => decide (j ≠ k) && (stayT l p o t j && cloB l (plK p j) (plK p k))) else stayT l p o t i := by
  have hn := h.nodup hr
  have hany : ((List.range p.length).any fun j => decide (j ≠ k) && (stayT l p o t j && cloB l (plK p j) (plK p k))) = (stayL l (o.take t)).any fun x => cloB l o[t] x := by
    rw [Bool.eq_iff_iff, List.any_eq_true, List.any_eq_true]
    constructor
    · rintro ⟨j, hj, hc⟩
      simp only [Bool.and_eq_true, decide_eq_true_eq, stayT] at hc
      rw [List.mem_range] at hj
      refine ⟨plK p j, hc.2.1, ?_⟩
      rw [← he, ← plK_at hk, cloB_symm]
      exact hc.2.2
    · rintro ⟨x, hx, hc⟩
      have hxo := stayL_sub l hx
      have hxp : x ∈ p := h.perm.mem_iff.1 (List.mem_of_mem_take hxo)
      obtain ⟨j, hj, hje⟩ := List.getElem_of_mem hxp
      refine ⟨j, List.mem_range.2 hj, ?_⟩
      simp only [Bool.and_eq_true, decide_eq_true_eq, stayT]
      rw [plK_at hj, plK_at hk, hje, he]
      refine ⟨?_, hx, by rw [cloB_symm]; exact hc⟩
      rintro rfl
      rw [← hje, he, mem_take_iff hn ht] at hxo
      omega
  rw [hany]
  unfold stayT
  rw [stayL_take l o ht, plK_at hi, Bool.eq_iff_iff, decide_eq_true_eq]
  unfold addS
  by_cases hik : i = k
  · subst hik
    rw [if_pos rfl]
    have hno : p[i] ∉ stayL l (o.take t) := fun h2 => by
      have := stayL_sub l h2
      rw [he, mem_take_iff hn ht] at this
      omega
    cases hc : (stayL l (o.take t)).any fun x => cloB l o[t] x
    · simp [he]
    · simp [hno]
  · rw [if_neg hik, decide_eq_true_eq]
    have hne : p[i] ≠ o[t] := fun h2 => hik (hr.place hi hk (by rw [h2, he]; exact ⟨rfl, rfl⟩))
    cases hc : (stayL l (o.take t)).any fun x => cloB l o[t] x
    · simp [hne]
    · simp
end
end Go.Proofs.YtgaonoklbihkjaaDoor
