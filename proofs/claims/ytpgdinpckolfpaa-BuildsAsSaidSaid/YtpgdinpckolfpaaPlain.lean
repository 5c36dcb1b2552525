/- Plain functions that the contracts speak of: errors of regions and of numbers. No program in sight. -/
import Derived.Test.YtpgdinpckolfpaaWords
namespace Go.Proofs.Ytpgdinpckolfpaa
open Go.RowKit

def firstE : List Int → Int
  | [] => 0
  | x :: r => if x = 0 then firstE r else x

def regE (x y w h : Int) : Int :=
  if w < 1 ∨ 512 < w ∨ h < 1 ∨ 512 < h then 3 else if 65536 < w * h then 4
  else if x < -4194304 ∨ y < -4194304 ∨ 4194304 - w < x ∨ 4194304 - h < y then 5 else 0

theorem prod_bd {a b A B : Int} (h0 : 0 ≤ a) (h1 : a ≤ A) (h2 : 0 ≤ b) (h3 : b ≤ B) : 0 ≤ a * b ∧ a * b ≤ A * B :=
  ⟨Int.mul_nonneg h0 h2, Int.mul_le_mul h1 h3 h2 (by omega)⟩

theorem regE_zero {x y w h : Int} (e : regE x y w h = 0) :
    1 ≤ w ∧ w ≤ 512 ∧ 1 ≤ h ∧ h ≤ 512 ∧ w * h ≤ 65536 ∧ -4194304 ≤ x ∧ -4194304 ≤ y ∧ x + w ≤ 4194304 ∧ y + h ≤ 4194304 := by
  unfold regE at e
  split at e
  · simp at e
  · split at e
    · simp at e
    · split at e
      · simp at e
      · omega

/-- How two singles stand to each other, by their bits. -/
def ord (a b : Nat) : Option Ordering := FloatKind.f32.format.order a b
theorem ord_def (a b : Nat) : FloatKind.f32.format.order a b = ord a b := rfl

def finB (b : Nat) : Bool := (ord b 4286578687 == some .gt || ord b 4286578687 == some .eq) && (ord b 2139095039 == some .lt || ord b 2139095039 == some .eq)
def hgtB (b : Nat) : Bool := (ord b 3380609024 == some .gt || ord b 3380609024 == some .eq) && (ord b 1233125376 == some .lt || ord b 1233125376 == some .eq)

def numE (l : List Nat) : Int := if l.any (fun b => !finB b) then 2 else if l.any (fun b => !hgtB b) then 3 else 0

def AllTo (p : Nat → Bool) (l : List Nat) (k : Nat) : Prop := ∀ j, (h : j < l.length) → j < k → p l[j] = true
theorem AllTo.zero (p : Nat → Bool) (l : List Nat) : AllTo p l 0 := fun _ _ h => by omega
theorem AllTo.step {p : Nat → Bool} {l : List Nat} {k : Nat} (h : AllTo p l k) (hk : k < l.length) (hp : p l[k] = true) : AllTo p l (k + 1) := fun j hj hlt => by
  rcases Nat.lt_or_eq_of_le (Nat.le_of_lt_succ hlt) with h1 | h1
  · exact h j hj h1
  · subst h1; exact hp
theorem AllTo.all {p : Nat → Bool} {l : List Nat} {k : Nat} (h : AllTo p l k) (hk : l.length ≤ k) : ∀ b ∈ l, p b = true := fun b hb => by
  obtain ⟨j, hj, rfl⟩ := List.mem_iff_getElem.1 hb
  exact h j hj (by omega)

theorem numE_two {l : List Nat} {k : Nat} (hk : k < l.length) (h : finB l[k] = false) : numE l = 2 := by
  unfold numE
  rw [if_pos]
  exact List.any_eq_true.2 ⟨l[k], List.getElem_mem hk, by simp [h]⟩
theorem not_any {p : Nat → Bool} {l : List Nat} (h : ∀ b ∈ l, p b = true) : ¬ (l.any (fun b => !p b) = true) := by
  intro h'
  obtain ⟨b, hb, hp⟩ := List.any_eq_true.1 h'
  simp [h b hb] at hp
theorem numE_three {l : List Nat} {k : Nat} (ha : ∀ b ∈ l, finB b = true) (hk : k < l.length) (h : hgtB l[k] = false) : numE l = 3 := by
  unfold numE
  rw [if_neg (not_any ha), if_pos]
  exact List.any_eq_true.2 ⟨l[k], List.getElem_mem hk, by simp [h]⟩
theorem numE_ok {l : List Nat} (ha : ∀ b ∈ l, finB b = true) (hb : ∀ b ∈ l, hgtB b = true) : numE l = 0 := by
  unfold numE
  rw [if_neg (not_any ha), if_neg (not_any hb)]
theorem numE_zero {l : List Nat} (h : numE l = 0) : (∀ b ∈ l, finB b = true) ∧ (∀ b ∈ l, hgtB b = true) := by
  unfold numE at h
  split at h
  · simp at h
  · split at h
    · simp at h
    · rename_i h1 h2
      constructor
      · intro b hb
        cases hp : finB b
        · exact absurd (List.any_eq_true.2 ⟨b, hb, by simp [hp]⟩) h1
        · rfl
      · intro b hb
        cases hp : hgtB b
        · exact absurd (List.any_eq_true.2 ⟨b, hb, by simp [hp]⟩) h2
        · rfl

/-! ### how singles compare -/
open Ieee in
theorem order_none {d c : Ieee.Datum} (h : d.order c = none) : d.isNaN = true ∨ c.isNaN = true := by
  cases d <;> cases c <;> simp_all [Datum.order, Datum.isNaN]
open Ieee in
theorem order_nan_left {d c : Ieee.Datum} (h : d.isNaN = true) : d.order c = none := by
  cases d <;> cases c <;> simp_all [Datum.order, Datum.isNaN]
open Ieee in
theorem order_nan_right {d c : Ieee.Datum} (h : c.isNaN = true) : d.order c = none := by
  cases d <;> cases c <;> simp_all [Datum.order, Datum.isNaN]
theorem order_self {d : Ieee.Datum} (h : d.isNaN = false) : d.order d = some .eq := by
  cases d <;> simp_all [Ieee.Datum.order, Ieee.Datum.isNaN]

def nanB (b : Nat) : Bool := (FloatKind.f32.format.read b).isNaN
theorem ord_nan {b : Nat} (h : nanB b = true) (c : Nat) : ord b c = none := order_nan_left h
theorem ord_nan' {b : Nat} (h : nanB b = true) (c : Nat) : ord c b = none := order_nan_right h
theorem ord_some {b c : Nat} (h : nanB b = false) (hc : nanB c = false) : ∃ o, ord b c = some o := by
  cases ho : ord b c with
  | some o => exact ⟨o, rfl⟩
  | none =>
    rcases order_none (show (FloatKind.f32.format.read b).order (FloatKind.f32.format.read c) = none from ho) with h' | h'
    · have : nanB b = true := h'
      rw [h] at this; cases this
    · have : nanB c = true := h'
      rw [hc] at this; cases this
theorem ord_self {b : Nat} (h : nanB b = false) : ord b b = some .eq := order_self h
theorem nan_max : nanB 2139095039 = false := by decide +kernel
theorem nan_min : nanB 4286578687 = false := by decide +kernel
theorem nan_hi : nanB 1233125376 = false := by decide +kernel
theorem nan_lo : nanB 3380609024 = false := by decide +kernel

/-- the reference's test for a number that is not finite -/
theorem fin_ref (b : Nat) : ((ord b b != some .eq || ord b 2139095039 == some .gt) || ord b 4286578687 == some .lt) = !finB b := by
  unfold finB
  cases h : nanB b
  · obtain ⟨o1, h1⟩ := ord_some h nan_max
    obtain ⟨o2, h2⟩ := ord_some h nan_min
    rw [ord_self h, h1, h2]
    cases o1 <;> cases o2 <;> rfl
  · simp [ord_nan h]
theorem fin_not_nan {b : Nat} (h : finB b = true) : nanB b = false := by
  cases hn : nanB b
  · rfl
  · simp [finB, ord_nan hn] at h
theorem hgt_not_nan {b : Nat} (h : hgtB b = true) : nanB b = false := by
  cases hn : nanB b
  · rfl
  · simp [hgtB, ord_nan hn] at h
theorem hgt_ref {b : Nat} (h : finB b = true) : (ord b 1233125376 == some .gt || ord b 3380609024 == some .lt) = !hgtB b := by
  unfold hgtB
  have hn := fin_not_nan h
  obtain ⟨o1, h1⟩ := ord_some hn nan_hi
  obtain ⟨o2, h2⟩ := ord_some hn nan_lo
  rw [h1, h2]
  cases o1 <;> cases o2 <;> rfl

theorem fin_false {b : Nat} (h : ¬ FloatKind.f32.format.order b b = some .eq ∨ FloatKind.f32.format.order b 2139095039 = some .gt ∨ FloatKind.f32.format.order b 4286578687 = some .lt) : finB b = false := by
  have k := fin_ref b
  unfold ord at k
  cases hf : finB b with
  | false => rfl
  | true =>
    exfalso
    rw [hf] at k
    simp only [Bool.not_true, Bool.or_eq_false_iff, bne_eq_false_iff_eq, beq_eq_false_iff_ne] at k
    rcases h with h | h | h
    · exact h k.1.1
    · exact k.1.2 h
    · exact k.2 h
theorem fin_true {b : Nat} (h1 : FloatKind.f32.format.order b b = some .eq) (h2 : ¬ FloatKind.f32.format.order b 2139095039 = some .gt) (h3 : ¬ FloatKind.f32.format.order b 4286578687 = some .lt) : finB b = true := by
  have k := fin_ref b
  unfold ord at k
  have e2 : (FloatKind.f32.format.order b 2139095039 == some .gt) = false := by simpa using h2
  have e3 : (FloatKind.f32.format.order b 4286578687 == some .lt) = false := by simpa using h3
  rw [e2, e3, h1] at k
  simpa using k
theorem hgt_false {b : Nat} (hf : finB b = true) (h : FloatKind.f32.format.order b 1233125376 = some .gt ∨ FloatKind.f32.format.order b 3380609024 = some .lt) : hgtB b = false := by
  have k := hgt_ref hf
  unfold ord at k
  cases hg : hgtB b with
  | false => rfl
  | true =>
    exfalso
    rw [hg] at k
    simp only [Bool.not_true, Bool.or_eq_false_iff, beq_eq_false_iff_ne] at k
    rcases h with h | h
    · exact k.1 h
    · exact k.2 h
theorem hgt_true {b : Nat} (hf : finB b = true) (h2 : ¬ FloatKind.f32.format.order b 1233125376 = some .gt) (h3 : ¬ FloatKind.f32.format.order b 3380609024 = some .lt) : hgtB b = true := by
  have k := hgt_ref hf
  unfold ord at k
  have e2 : (FloatKind.f32.format.order b 1233125376 == some .gt) = false := by simpa using h2
  have e3 : (FloatKind.f32.format.order b 3380609024 == some .lt) = false := by simpa using h3
  rw [e2, e3] at k
  simpa using k

theorem fin_false3 {b : Nat} (h : (FloatKind.f32.format.order b 2139095039 == some .gt) = true ∨ (FloatKind.f32.format.order b 4286578687 == some .lt) = true) : finB b = false :=
  fin_false (.inr (by simpa using h))
theorem fin_true3 {b : Nat} (h1 : FloatKind.f32.format.order b b = some .eq) (h : (FloatKind.f32.format.order b 2139095039 == some .gt) = false ∧ (FloatKind.f32.format.order b 4286578687 == some .lt) = false) : finB b = true :=
  fin_true h1 (by simpa using h.1) (by simpa using h.2)
theorem hgt_false3 {b : Nat} (hf : finB b = true) (h : (FloatKind.f32.format.order b 1233125376 == some .gt) = true ∨ (FloatKind.f32.format.order b 3380609024 == some .lt) = true) : hgtB b = false :=
  hgt_false hf (by simpa using h)
theorem hgt_true3 {b : Nat} (hf : finB b = true) (h : (FloatKind.f32.format.order b 1233125376 == some .gt) = false ∧ (FloatKind.f32.format.order b 3380609024 == some .lt) = false) : hgtB b = true :=
  hgt_true hf (by simpa using h.1) (by simpa using h.2)

/-- the error of a field -/
def fieldE (x y w h : Int) (l : List Nat) : Int :=
  if regE x y w h ≠ 0 then regE x y w h else if (l.length : Int) ≠ w * h then 2 else numE l

def flt (l : List Nat) : List Value := l.map (.float .f32)
@[simp] theorem flt_length (l : List Nat) : (flt l).length = l.length := by simp [flt]
theorem flt_get {l : List Nat} {k : Nat} (hk : k < l.length) : (flt l)[k]? = some (.float .f32 l[k]) := by simp [flt, hk]

end Go.Proofs.Ytpgdinpckolfpaa
