/- Plain words for plants: a plant in memory, the errors of plants of kinds. No program in sight. -/
import Derived.Test.YtgaonoklbihkjaaDoorKindsA
namespace Go.Proofs.YtgaonoklbihkjaaDoor
open Go.RowKit

structure PlantR where
  kind : Int
  x : Int
  y : Int
  size : Nat
  age : Int
def PlantR.cells (p : PlantR) : List Value := [.int .i64 p.kind, .int .i64 p.x, .int .i64 p.y, .float .f32 p.size, .int .i64 p.age]
def PlantR.v (p : PlantR) : Value := .agg #[.int .i64 p.kind, .int .i64 p.x, .int .i64 p.y, .float .f32 p.size, .int .i64 p.age]
def pcells (l : List PlantR) : List Value := l.flatMap PlantR.cells
theorem pcells_get {l : List PlantR} {k i : Nat} (hk : k < l.length) (hi : i < 5) : (pcells l)[k * 5 + i]? = (l[k].cells)[i]? := flat_get (f := PlantR.cells) (m := 5) (fun _ => rfl) hk hi
theorem pcells_length (l : List PlantR) : (pcells l).length = l.length * 5 := by
  induction l with
  | nil => rfl
  | cons x r ih =>
    unfold pcells at *
    rw [List.flatMap_cons, List.length_append, ih]
    show 5 + r.length * 5 = _
    simp
    omega
theorem Rd.plant {w : World} {ad : Addr} {l : List PlantR} (h : Rd w (some ad) (pcells l)) {k : Nat} (hk : k < l.length) :
    w.cell? (ad.add (k * 5)) = some (.int .i64 l[k].kind) ∧ w.cell? ⟨(ad.add (k * 5)).block, (ad.add (k * 5)).off + 1, none⟩ = some (.int .i64 l[k].x) ∧ w.cell? ⟨(ad.add (k * 5)).block, (ad.add (k * 5)).off + 2, none⟩ = some (.int .i64 l[k].y) ∧
    w.cell? ⟨(ad.add (k * 5)).block, (ad.add (k * 5)).off + 3, none⟩ = some (.float .f32 l[k].size) ∧ w.cell? ⟨(ad.add (k * 5)).block, (ad.add (k * 5)).off + 4, none⟩ = some (.int .i64 l[k].age) := by
  have hg : ∀ j u, (pcells l)[j]? = some u → w.cell? (ad.add j) = some u := fun j u hu => by
    obtain ⟨ad', e, _, hc⟩ := h (by rintro e; rw [e] at hu; simp at hu)
    injection e with e
    subst e
    exact hc j u hu
  refine ⟨hg (k * 5) _ (pcells_get (i := 0) hk (by omega)), ?_, ?_, ?_, ?_⟩
  all_goals
    rw [add_off _ _ _ (by omega)]
    exact hg _ _ (pcells_get hk (by omega))

/-! ### errors -/
def topOf (l : List KindR) (k : Int) : Nat := (l[k.toNat]?.map KindR.a6).getD 0
def spaceOf (l : List KindR) (k : Int) : Int := (l[k.toNat]?.map KindR.p).getD 0
def PlantR.farB (x : PlantR) : Bool := decide (x.x < -4194304 ∨ 4194304 < x.x ∨ x.y < -4194304 ∨ 4194304 < x.y)
def PlantR.badB (l : List KindR) (x : PlantR) : Bool := lt x.size 0 || (gt x.size (topOf l x.kind) || (decide (x.age < 0) || decide (1000 < x.age)))
def plantE (l : List KindR) (x : PlantR) : Int :=
  if x.kind < 0 ∨ (l.length : Int) ≤ x.kind then 1
  else if x.farB = true then 5
  else if numE [x.size] ≠ 0 then numE [x.size]
  else if x.badB l = true then 3 else 0
def aheadB (a b : PlantR) : Bool := decide (a.y < b.y ∨ a.y = b.y ∧ a.x < b.x)
def behindB : Option PlantR → PlantR → Bool
  | none, _ => false
  | some a, x => !aheadB a x
def scanP (l : List KindR) : Option PlantR → List PlantR → Int
  | _, [] => 0
  | q, x :: r => if plantE l x ≠ 0 then plantE l x else if behindB q x = true then 8 else scanP l (some x) r
def plantsE (l : List KindR) (p : List PlantR) : Int := if kindsE l ≠ 0 then kindsE l else if 4000 < p.length then 4 else scanP l none p
/-- the plant ahead of a place -/
def prevP (p : List PlantR) (k : Nat) : Option PlantR := if k = 0 then none else p[k - 1]?
theorem scanP_step {l : List KindR} {p : List PlantR} {k : Nat} (hk : k < p.length) : scanP l (prevP p k) (p.drop k) = if plantE l p[k] ≠ 0 then plantE l p[k] else if behindB (prevP p k) p[k] = true then 8 else scanP l (prevP p (k + 1)) (p.drop (k + 1)) := by
  rw [List.drop_eq_getElem_cons hk, scanP]
  have e : prevP p (k + 1) = some p[k] := by
    unfold prevP
    rw [if_neg (by omega)]
    simp [hk]
  rw [e]
theorem scanP_end {l : List KindR} {p : List PlantR} {k : Nat} (hk : p.length ≤ k) : scanP l (prevP p k) (p.drop k) = 0 := by
  rw [List.drop_eq_nil_of_le hk]
  rfl
theorem scanP_ok {l : List KindR} : ∀ {p : List PlantR} {q : Option PlantR}, scanP l q p = 0 → ∀ x ∈ p, plantE l x = 0
  | [], _, _, x, hx => by cases hx
  | a :: r, q, h, x, hx => by
    unfold scanP at h
    split at h
    · rename_i h1
      exact absurd h h1
    · rename_i h1
      split at h
      · cases h
      · rcases List.mem_cons.1 hx with rfl | hx
        · simpa using h1
        · exact scanP_ok h x hx
theorem plantsE_zero {l : List KindR} {p : List PlantR} (h : plantsE l p = 0) : kindsE l = 0 ∧ p.length ≤ 4000 ∧ ∀ x ∈ p, plantE l x = 0 := by
  unfold plantsE at h
  split at h
  · rename_i h1
    exact absurd h h1
  · rename_i h1
    split at h
    · cases h
    · exact ⟨by simpa using h1, by omega, scanP_ok h⟩
/-- a plant that is right -/
theorem plantE_zero {l : List KindR} {x : PlantR} (h : plantE l x = 0) : 0 ≤ x.kind ∧ x.kind < l.length ∧ x.farB = false ∧ numE [x.size] = 0 ∧ x.badB l = false := by
  unfold plantE at h
  split at h
  · cases h
  · rename_i h1
    split at h
    · cases h
    · rename_i h2
      split at h
      · rename_i h3
        exact absurd h h3
      · rename_i h3
        split at h
        · cases h
        · rename_i h4
          exact ⟨by omega, by omega, by simpa using h2, by simpa using h3, by simpa using h4⟩
theorem far_no {x : PlantR} (h : x.farB = false) : -4194304 ≤ x.x ∧ x.x ≤ 4194304 ∧ -4194304 ≤ x.y ∧ x.y ≤ 4194304 := by
  unfold PlantR.farB at h
  simp at h
  omega
/-- kinds that are right -/
theorem scanE_ok : ∀ {r l : List KindR}, scanE l r = 0 → ∀ x ∈ r, x.err = 0
  | [], _, _, x, hx => by cases hx
  | a :: r, l, h, x, hx => by
    unfold scanE at h
    split at h
    · rename_i h1
      exact absurd h h1
    · rename_i h1
      split at h
      · cases h
      · rcases List.mem_cons.1 hx with rfl | hx
        · simpa using h1
        · exact scanE_ok h x hx
theorem kindsE_zero {l : List KindR} (h : kindsE l = 0) : 1 ≤ l.length ∧ l.length ≤ 12 ∧ ∀ x ∈ l, x.err = 0 := by
  unfold kindsE at h
  split at h
  · cases h
  · split at h
    · cases h
    · exact ⟨by omega, by omega, scanE_ok h⟩
theorem kind_space {x : KindR} (h : x.err = 0) : 0 ≤ x.p ∧ x.p ≤ 32 := by
  unfold KindR.err kindE at h
  split at h
  · unfold numsE at h
    split at h
    · rename_i h1
      exact absurd h h1
    · split at h
      · cases h
      · split at h
        · cases h
        · split at h
          · cases h
          · split at h
            · cases h
            · rename_i h2
              omega
  · cases h
end Go.Proofs.YtgaonoklbihkjaaDoor
