/- How an argument lies: a slice of integers. -/
import Derived.Test.YtinohfgokpbcdaaOpenW
import Derived.Test.YtinohfgokpbcdaaWetA
namespace Go.Proofs.Ytinohfgokpbcdaa
open Go.ChangeShapes Go.WideShapes Go.ChangeAt Go.RowKit Go.Joins Go.Deep

theorem bytesInt : Try.prog.bytesOf 3 = 8 := by kernel_rfl
section
variable {H : Type} {enc : TypeId × Value → H} {W : World} {base : Nat}
set_option maxRecDepth 100000 in
theorem open_intsW {r : Reach} {b0 : Nat} {held : Bool} {v : Value} {d : DataW H} {p : List MemPlace} (hv : Value.okWide Try.prog W r b0 41 v)
    (h : DataW.Trod enc Try.prog W base (fun _ => true) held 41 v d p) (hsz : ∀ n ∈ d.weights Try.prog 41, n ≤ reachBytes) :
    ∃ (A : Option Addr) (n c : Nat) (l : List Int), v = .slice A n c ∧ l.length = n ∧ Rd W A (intC l) ∧ n ≤ 140737488351232 := by
  obtain ⟨a0, len0, cap0, rfl⟩ := okWide_slice Try.underlying41 hv
  obtain ⟨fuel, hf⟩ := h
  rcases open_slice1 Try.underlying41 cellsInt hf with ⟨hc, hd⟩ | ⟨a, len, cap, m', n', V, D, Pl, hc, _, hl, _, hm, hd, hV⟩
  · simp [Value.cells] at hc
    obtain ⟨rfl, rfl, rfl⟩ := hc
    exact ⟨none, 0, 0, [], rfl, rfl, Rd.nil _ _, by omega⟩
  · simp [Value.cells] at hc
    obtain ⟨rfl, rfl, rfl⟩ := hc
    simp only [if_true] at hm
    subst hm
    simp only [Prod.mk.injEq] at hd
    obtain ⟨rfl, _⟩ := hd
    obtain ⟨f, hff⟩ := choose_lt (α := Int) (n := len0) (p := fun i b => V i = .int .i64 b) (fun i hi => by
      obtain ⟨b, hb, _, _⟩ := DataW.trod_int Try.underlying3 (hV i (by omega)).2
      exact ⟨b, by simpa using hb⟩)
    have hw : (len0 + (m' - len0)) * 8 ≤ reachBytes := by
      refine hsz _ ?_
      simp [DataW.weights, Try.underlying41, bytesInt]
    refine ⟨some a, len0, m', (List.range len0).map f, rfl, by simp, ?_, by simp only [reachBytes] at hw; omega⟩
    intro hne
    have hpos : 0 < len0 := by
      rcases Nat.eq_zero_or_pos len0 with h | h
      · subst h; exact absurd rfl hne
      · exact h
    refine ⟨a, rfl, ?_, ?_⟩
    · have := cell_lt (hV 0 (by omega)).1
      rwa [add_block] at this
    · intro j u hu
      have hj : j < len0 := by
        have := (List.getElem?_eq_some_iff.1 hu).1
        simpa [intC] using this
      simp [intC, hj] at hu
      rw [(hV j (by omega)).1, hff j hj, hu]
end
end Go.Proofs.Ytinohfgokpbcdaa
