/- What burns: the queue's plants are those that are reached. No program in sight. -/
import Derived.Test.YtgaonoklbihkjaaDoorFireD
namespace Go.Proofs.YtgaonoklbihkjaaDoor
open Go.RowKit

def cnt (b : Nat → Bool) : Nat → Nat
  | 0 => 0
  | m + 1 => cnt b m + (if b m = true then 1 else 0)
theorem cnt_le (b : Nat → Bool) : ∀ m, cnt b m ≤ m
  | 0 => Nat.le_refl _
  | m + 1 => by
    have := cnt_le b m
    rw [cnt]
    split <;> omega
theorem cnt_none : ∀ m, cnt (fun _ => false) m = 0
  | 0 => rfl
  | m + 1 => by rw [cnt, cnt_none m]; rfl
theorem cnt_up (b : Nat → Bool) {i : Nat} (hb : b i = false) : ∀ m, cnt (upB b i true) m = cnt b m + (if i < m then 1 else 0)
  | 0 => by rw [if_neg (by omega)]; rfl
  | m + 1 => by
    have ih := cnt_up b hb m
    rw [cnt, cnt, ih]
    by_cases h : m = i
    · subst h
      rw [if_neg (by omega : ¬ m < m), if_pos (by omega : m < m + 1), hb]
      simp [upB]
    · have e : upB b i true m = b m := by unfold upB; rw [if_neg h]
      rw [e]
      by_cases h2 : i < m
      · rw [if_pos h2, if_pos (show i < m + 1 by omega)]; omega
      · rw [if_neg h2, if_neg (show ¬ i < m + 1 by omega)]; omega

section
variable (m : Nat) (st can : Nat → Bool) (edge : Nat → Nat → Bool)
inductive Reach : Nat → Prop
  | base {i : Nat} : i < m → st i = true → can i = true → Reach i
  | step {i j : Nat} : Reach i → j < m → edge i j = true → can j = true → Reach j
structure Good (b : Nat → Bool) (q : List Nat) : Prop where
  g1 : ∀ i, i < m → (b i = true ↔ i ∈ q)
  g2 : ∀ i, i ∈ q → i < m ∧ Reach m st can edge i
  g3 : q.length = cnt b m
end
section
variable {m : Nat} {st can : Nat → Bool} {edge : Nat → Nat → Bool}
theorem Reach.lt {i : Nat} (h : Reach m st can edge i) : i < m := by cases h <;> assumption
theorem Good.start : Good m st can edge (fun _ => false) [] := ⟨fun i _ => by simp, (fun i h => absurd h (by simp)), (by rw [cnt_none]; rfl)⟩
theorem Good.len {b : Nat → Bool} {q : List Nat} (h : Good m st can edge b q) : q.length ≤ m := by rw [h.g3]; exact cnt_le b m
/-- what the closure does -/
def Lit (near cani : Bool) (i : Nat) (b : Nat → Bool) (q : List Nat) (b' : Nat → Bool) (q' : List Nat) : Prop :=
  (near && !b i && cani) = true ∧ b' = upB b i true ∧ q' = q ++ [i] ∨ (near && !b i && cani) = false ∧ b' = b ∧ q' = q
theorem Good.lit {b b' : Nat → Bool} {q q' : List Nat} {i : Nat} {near : Bool} (h : Good m st can edge b q) (hi : i < m) (hr : near = true → can i = true → Reach m st can edge i) (hl : Lit near (can i) i b q b' q') :
    Good m st can edge b' q' ∧ (∀ j, b j = true → b' j = true) ∧ (∃ r, q' = q ++ r) ∧ (near = true → can i = true → b' i = true) := by
  rcases hl with ⟨h1, rfl, rfl⟩ | ⟨h1, rfl, rfl⟩
  · simp only [Bool.and_eq_true, Bool.not_eq_true'] at h1
    obtain ⟨⟨hn, hb⟩, hc⟩ := h1
    refine ⟨⟨fun j hj => ?_, fun j hj => ?_, ?_⟩, fun j hj => ?_, ⟨_, rfl⟩, fun _ _ => by simp [upB]⟩
    · unfold upB
      by_cases e : j = i
      · subst e; simp
      · rw [if_neg e, h.g1 j hj]
        simp [e]
    · rcases List.mem_append.1 hj with hj | hj
      · exact h.g2 j hj
      · simp at hj
        subst hj
        exact ⟨hi, hr hn hc⟩
    · rw [cnt_up b hb, if_pos hi, List.length_append, h.g3]
      rfl
    · unfold upB
      split
      · rfl
      · exact hj
  · refine ⟨h, fun _ h => h, ⟨[], by simp⟩, fun hn hc => ?_⟩
    rw [hn, hc] at h1
    cases hb : b' i with
    | true => rfl
    | false => rw [hb] at h1; cases h1
/-- the first k are lit, where they are near -/
def Begun (st can : Nat → Bool) (k : Nat) (b : Nat → Bool) : Prop := ∀ i, i < k → st i = true → can i = true → b i = true
/-- those that the first n of the queue light -/
def Spread (m : Nat) (can : Nat → Bool) (edge : Nat → Nat → Bool) (n : Nat) (b : Nat → Bool) (q : List Nat) : Prop := ∀ t i, t < n → q[t]? = some i → ∀ j, j < m → edge i j = true → can j = true → b j = true
theorem Spread.mono {n : Nat} {b b' : Nat → Bool} {q q' : List Nat} (h : Spread m can edge n b q) (hb : ∀ j, b j = true → b' j = true) (hq : ∃ r, q' = q ++ r) (hn : n ≤ q.length) : Spread m can edge n b' q' := by
  obtain ⟨r, rfl⟩ := hq
  intro t i ht hi j hj he hc
  rw [List.getElem?_append_left (by omega)] at hi
  exact hb j (h t i ht hi j hj he hc)
theorem good_end {b : Nat → Bool} {q : List Nat} (h : Good m st can edge b q) (hs : Begun st can m b) (hp : Spread m can edge q.length b q) : ∀ i, i < m → (b i = true ↔ Reach m st can edge i) := by
  have key : ∀ i, Reach m st can edge i → b i = true := by
    intro i hr
    induction hr with
    | base hi h1 h2 => exact hs _ hi h1 h2
    | @step i j hr hj he hc ih =>
      have hq := (h.g1 i hr.lt).1 ih
      obtain ⟨t, ht, e⟩ := List.getElem_of_mem hq
      exact hp t i ht (by rw [List.getElem?_eq_getElem ht, e]) j hj he hc
  exact fun i hi => ⟨fun hb => (h.g2 i ((h.g1 i hi).1 hb)).2, key i⟩
/-- closed: nothing that burns lights what does not burn -/
theorem closed_end {b : Nat → Bool} (h1 : ∀ i, i < m → b i = true → Reach m st can edge i) (hs : Begun st can m b) (hc : ∀ i, i < m → b i = true → ∀ j, j < m → edge i j = true → can j = true → b j = true) : ∀ i, i < m → (b i = true ↔ Reach m st can edge i) := by
  have key : ∀ i, Reach m st can edge i → b i = true := by
    intro i hr
    induction hr with
    | base hi h1 h2 => exact hs _ hi h1 h2
    | @step i j hr hj he hcj ih => exact hc i hr.lt ih j hj he hcj
  exact fun i hi => ⟨h1 i hi, key i⟩
end
theorem filter_same {m : Nat} {b b' : Nat → Bool} (h : ∀ i, i < m → (b i = true ↔ b' i = true)) : (List.range m).filter b = (List.range m).filter b' := by
  refine List.filter_congr fun i hi => ?_
  have := h i (List.mem_range.1 hi)
  cases h1 : b i <;> cases h2 : b' i <;> simp_all

def P0 : PlantR := ⟨0, 0, 0, 0, 0⟩
def K0 : KindR := ⟨ByteArray.empty, 0, 0, 0, 0, 0, 0, 0, 0, 0, 0, 0, 0⟩
def kindOf (l : List KindR) (p : List PlantR) (i : Nat) : KindR := l.getD (p.getD i P0).kind.toNat K0
def canF (l : List KindR) (p : List PlantR) (i : Nat) : Bool := litB (kindOf l p i).a9 (p.getD i P0).x (p.getD i P0).y
def nearF (p : List PlantR) (z : PlantR) (i : Nat) : Bool := decide ((sqD (p.getD i P0) z : Int) ≤ 9)
def edgeF (l : List KindR) (p : List PlantR) (wind : Int) (i j : Nat) : Bool := edgeB (kindOf l p i).p (kindOf l p j).p (p.getD i P0) (p.getD j P0) wind
theorem getD_at {p : List PlantR} {i : Nat} (hi : i < p.length) : p.getD i P0 = p[i] := by simp [List.getD, hi]
theorem kindOf_at {l : List KindR} {p : List PlantR} {i ia : Nat} (hi : i < p.length) (hia : ia < l.length) (hk : p[i].kind = ia) : kindOf l p i = l[ia] := by
  unfold kindOf
  rw [getD_at hi, hk]
  simp [List.getD, hia]
abbrev ReachF (l : List KindR) (p : List PlantR) (z : PlantR) (wind : Int) : Nat → Prop := Reach p.length (nearF p z) (canF l p) (edgeF l p wind)
/-- what holds of plants that are accepted -/
structure PlantsOk (l : List KindR) (p : List PlantR) : Prop where
  idx : ∀ i (h : i < p.length), ∃ ia, ∃ h2 : ia < l.length, (p[i]'h).kind = (ia : Nat) ∧ 0 ≤ l[ia].p ∧ l[ia].p ≤ 32 ∧ Num l[ia].a9
  near : ∀ i (h : i < p.length), (p[i]'h).farB = false
  small : p.length ≤ 4000
  few : l.length ≤ 12
theorem kind_bark {x : KindR} (h : x.err = 0) : Num x.a9 := by
  have hb : Bd 20 x.a9 := by
    unfold KindR.err kindE numsE at h
    split at h
    · split at h
      · contradiction
      · have h2 := (numE_zero (by omega : numE [x.a0, x.a1, x.a2, x.a3, x.a4, x.a5, x.a6, x.a7, x.a8, x.a9] = 0)).2
        exact hgt_bd (h2 _ (by simp))
    · omega
  obtain ⟨s, m, k, e, _⟩ := read_bd hb (by omega)
  exact ⟨s, m, k, e⟩
theorem plantsOk {l : List KindR} {p : List PlantR} (h0 : plantsE l p = 0) : PlantsOk l p := by
  obtain ⟨hk, h4, he⟩ := plantsE_zero h0
  obtain ⟨_, hl12, hl⟩ := kindsE_zero hk
  refine ⟨fun i h => ?_, fun i h => (plantE_zero (he _ (List.getElem_mem h))).2.2.1, h4, hl12⟩
  obtain ⟨u1, u2, _⟩ := plantE_zero (he _ (List.getElem_mem h))
  have ha : p[i].kind.toNat < l.length := by omega
  have hs := kind_space (hl _ (List.getElem_mem ha))
  exact ⟨p[i].kind.toNat, ha, by omega, hs.1, hs.2, kind_bark (hl _ (List.getElem_mem ha))⟩
end Go.Proofs.YtgaonoklbihkjaaDoor
