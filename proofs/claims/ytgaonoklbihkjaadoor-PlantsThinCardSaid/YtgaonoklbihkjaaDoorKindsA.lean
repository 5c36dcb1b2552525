/- Plain words for lists of kinds of plants: how they lie in memory, and their errors. No program in sight. -/
import Derived.Test.YtgaonoklbihkjaaDoorSuitB
namespace Go.Proofs.YtgaonoklbihkjaaDoor
open Go.RowKit

theorem run_store_float {P : Program} {a : Addr} {m : Mode} {w : World} (k : FloatKind) (b : Nat) : (store a (.float k b) m).run P w = stored P w a (.float k b) m := run_store P w a _ m rfl

structure KindR where
  s : ByteArray
  a0 : Nat
  a1 : Nat
  a2 : Nat
  a3 : Nat
  a4 : Nat
  a5 : Nat
  a6 : Nat
  a7 : Nat
  a8 : Nat
  a9 : Nat
  p : Int
  q : Int
def KindR.cells (x : KindR) : List Value := [.string x.s, .float .f32 x.a0, .float .f32 x.a1, .float .f32 x.a2, .float .f32 x.a3, .float .f32 x.a4, .float .f32 x.a5, .float .f32 x.a6, .float .f32 x.a7, .float .f32 x.a8, .float .f32 x.a9, .int .i64 x.p, .int .i64 x.q]
def kcells (l : List KindR) : List Value := l.flatMap KindR.cells
theorem flat_get {α β : Type} {f : α → List β} {m : Nat} (hf : ∀ x, (f x).length = m) : ∀ {l : List α} {k i : Nat} (hk : k < l.length), i < m → (l.flatMap f)[k * m + i]? = (f l[k])[i]?
  | x :: r, 0, i, _, hi => by
    simp only [List.flatMap_cons, Nat.zero_mul, Nat.zero_add, List.getElem_cons_zero]
    rw [List.getElem?_append_left (by rw [hf]; exact hi)]
  | x :: r, k + 1, i, hk, hi => by
    have hk' : k < r.length := by simpa using hk
    simp only [List.flatMap_cons, List.getElem_cons_succ]
    rw [List.getElem?_append_right (by rw [hf, Nat.add_mul]; omega), hf, show (k + 1) * m + i - m = k * m + i by rw [Nat.add_mul]; omega]
    exact flat_get hf hk' hi
theorem kcells_get {l : List KindR} {k i : Nat} (hk : k < l.length) (hi : i < 13) : (kcells l)[k * 13 + i]? = (l[k].cells)[i]? := flat_get (f := KindR.cells) (m := 13) (fun _ => rfl) hk hi
theorem kcells_length (l : List KindR) : (kcells l).length = l.length * 13 := by
  induction l with
  | nil => rfl
  | cons x r ih =>
    unfold kcells at *
    rw [List.flatMap_cons, List.length_append, ih]
    show 13 + r.length * 13 = _
    simp
    omega
theorem add_off (a : Addr) (n i : Nat) (h : 0 < i) : (⟨(a.add n).block, (a.add n).off + i, none⟩ : Addr) = a.add (n + i) := by
  unfold Addr.add
  by_cases hn : n = 0
  · subst hn
    rw [if_pos rfl, if_neg (by omega)]
    simp
  · rw [if_neg hn, if_neg (by omega)]
    simp [Nat.add_assoc]
theorem Rd.kind {w : World} {ad : Addr} {l : List KindR} (h : Rd w (some ad) (kcells l)) {k : Nat} (hk : k < l.length) :
    w.cell? (ad.add (k * 13)) = some (.string l[k].s) ∧ w.cell? ⟨(ad.add (k * 13)).block, (ad.add (k * 13)).off + 1, none⟩ = some (.float .f32 l[k].a0) ∧ w.cell? ⟨(ad.add (k * 13)).block, (ad.add (k * 13)).off + 2, none⟩ = some (.float .f32 l[k].a1) ∧ w.cell? ⟨(ad.add (k * 13)).block, (ad.add (k * 13)).off + 3, none⟩ = some (.float .f32 l[k].a2) ∧ w.cell? ⟨(ad.add (k * 13)).block, (ad.add (k * 13)).off + 4, none⟩ = some (.float .f32 l[k].a3) ∧ w.cell? ⟨(ad.add (k * 13)).block, (ad.add (k * 13)).off + 5, none⟩ = some (.float .f32 l[k].a4) ∧ w.cell? ⟨(ad.add (k * 13)).block, (ad.add (k * 13)).off + 6, none⟩ = some (.float .f32 l[k].a5) ∧ w.cell? ⟨(ad.add (k * 13)).block, (ad.add (k * 13)).off + 7, none⟩ = some (.float .f32 l[k].a6) ∧ w.cell? ⟨(ad.add (k * 13)).block, (ad.add (k * 13)).off + 8, none⟩ = some (.float .f32 l[k].a7) ∧ w.cell? ⟨(ad.add (k * 13)).block, (ad.add (k * 13)).off + 9, none⟩ = some (.float .f32 l[k].a8) ∧ w.cell? ⟨(ad.add (k * 13)).block, (ad.add (k * 13)).off + 10, none⟩ = some (.float .f32 l[k].a9) ∧ w.cell? ⟨(ad.add (k * 13)).block, (ad.add (k * 13)).off + 11, none⟩ = some (.int .i64 l[k].p) ∧ w.cell? ⟨(ad.add (k * 13)).block, (ad.add (k * 13)).off + 12, none⟩ = some (.int .i64 l[k].q) := by
  have hg : ∀ j u, (kcells l)[j]? = some u → w.cell? (ad.add j) = some u := fun j u hu => by
    obtain ⟨ad', e, _, hc⟩ := h (by rintro e; rw [e] at hu; simp at hu)
    injection e with e
    subst e
    exact hc j u hu
  refine ⟨hg (k * 13) _ (kcells_get (i := 0) hk (by omega)), ?_, ?_, ?_, ?_, ?_, ?_, ?_, ?_, ?_, ?_, ?_, ?_⟩
  all_goals
    rw [add_off _ _ _ (by omega)]
    exact hg _ _ (kcells_get hk (by omega))

def KindR.err (x : KindR) : Int := kindE x.s x.a0 x.a1 x.a2 x.a3 x.a4 x.a5 x.a6 x.a7 x.a8 x.a9 x.p x.q
def hasName (l : List KindR) (s : ByteArray) : Bool := l.any fun x => x.s.toList == s.toList
def scanE : List KindR → List KindR → Int
  | _, [] => 0
  | seen, x :: r => if x.err ≠ 0 then x.err else if hasName seen x.s = true then 7 else scanE (seen ++ [x]) r
def kindsE (l : List KindR) : Int := if l.length = 0 then 10 else if 12 < l.length then 4 else scanE [] l
theorem scan_step {l : List KindR} {k : Nat} (hk : k < l.length) : scanE (l.take k) (l.drop k) = if l[k].err ≠ 0 then l[k].err else if hasName (l.take k) l[k].s = true then 7 else scanE (l.take (k + 1)) (l.drop (k + 1)) := by
  rw [List.drop_eq_getElem_cons hk, scanE, List.take_succ_eq_append_getElem hk]
theorem scan_end {l : List KindR} : scanE (l.take l.length) (l.drop l.length) = 0 := by
  rw [List.drop_length]
  unfold scanE
  rfl
def NoName (l : List KindR) (s : ByteArray) (k : Nat) : Prop := ∀ j, (h : j < l.length) → j < k → (l[j].s.toList == s.toList) = false
theorem NoName.zero (l : List KindR) (s : ByteArray) : NoName l s 0 := fun _ _ h => by omega
theorem NoName.step {l : List KindR} {s : ByteArray} {k : Nat} (h : NoName l s k) (hk : k < l.length) (hn : (l[k].s.toList == s.toList) = false) : NoName l s (k + 1) := fun j hj hlt => by
  rcases Nat.lt_or_eq_of_le (Nat.le_of_lt_succ hlt) with h1 | rfl
  · exact h j hj h1
  · exact hn
theorem noName_end {l : List KindR} {s : ByteArray} {k : Nat} (h : NoName l s k) (hk : k ≤ l.length) : hasName (l.take k) s = false := by
  unfold hasName
  rw [List.any_eq_false]
  intro x hx
  obtain ⟨j, hj, rfl⟩ := List.mem_iff_getElem.1 hx
  have hj' : j < k := by simp at hj; omega
  rw [List.getElem_take, h j (by omega) hj']
  decide
theorem name_is {l : List KindR} {s : ByteArray} {k i : Nat} (hk : i < k) (hl : i < l.length) (h : (l[i].s.toList == s.toList) = true) : hasName (l.take k) s = true := by
  unfold hasName
  rw [List.any_eq_true]
  exact ⟨l[i], by rw [List.mem_take_iff_getElem]; exact ⟨i, by omega, rfl⟩, h⟩
theorem name_in {l : List KindR} {s : ByteArray} {i : Nat} (hl : i < l.length) (h : (l[i].s.toList == s.toList) = true) : hasName l s = true := by
  have := name_is (k := l.length) hl hl h
  rwa [List.take_length] at this
theorem Rd.upto {w : World} {A : Option Addr} {l : List KindR} (h : Rd w A (kcells l)) (k : Nat) : Rd w A (kcells (l.take k)) := fun hn => by
  have e : kcells l = kcells (l.take k) ++ kcells (l.drop k) := by
    unfold kcells
    rw [← List.flatMap_append, List.take_append_drop]
  obtain ⟨ad, ha, hb, hc⟩ := h (by rw [e]; simp [hn])
  refine ⟨ad, ha, hb, fun j u hu => hc j u ?_⟩
  rw [e, List.getElem?_append_left (List.getElem?_eq_some_iff.1 hu).1]
  exact hu
end Go.Proofs.YtgaonoklbihkjaaDoor
