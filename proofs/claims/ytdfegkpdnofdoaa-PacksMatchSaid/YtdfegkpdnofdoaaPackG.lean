/- How the arguments of PacksMatch lie; a string as a list of bytes. -/
import Derived.Test.YtdfegkpdnofdoaaRows
import Derived.Test.YtdfegkpdnofdoaaPackF
import Derived.WalkKit
import Derived.ProofKit
import Derived.OpenShut
import Derived.SizedLaws
import Derived.Carry
import Derived.Laws.Cover2
import Derived.Lib.SmallJoins
import Derived.Deep.Slices
namespace Go.Proofs.Ytdfegkpdnofdoaa
open Go.ChangeShapes Go.WideShapes Go.ChangeAt Go.RowKit Go.Joins Go.Deep

theorem own : ownKnob Try.prog.godebug = none := by kernel_rfl
theorem laidOut : laidOutB Try.prog = true := by kernel_rfl
theorem cellsInt : Try.prog.cellsOf 3 = 1 := by kernel_rfl
theorem cell_lt {w : World} {a : Addr} {v : Value} (h : w.cell? a = some v) : a.block < w.heap.size := by
  by_cases hb : a.block < w.heap.size
  · exact hb
  · simp [World.cell?, Array.getElem?_eq_none (Nat.le_of_not_lt hb)] at h

theorem bytesInt : Try.prog.bytesOf 3 = 8 := by kernel_rfl
section
variable {H : Type} {enc : TypeId × Value → H} {W : World} {base : Nat}
set_option maxRecDepth 100000 in
theorem open_intsW {r : Reach} {b0 : Nat} {held : Bool} {v : Value} {d : DataW H} {p : List MemPlace} (hv : Value.okWide Try.prog W r b0 67 v)
    (h : DataW.Trod enc Try.prog W base (fun _ => true) held 67 v d p) (hsz : ∀ n ∈ d.weights Try.prog 67, n ≤ reachBytes) :
    ∃ (A : Option Addr) (n c : Nat) (l : List Int), v = .slice A n c ∧ l.length = n ∧ Rd W A (iL l) ∧ n ≤ 140737488351232 := by
  obtain ⟨a0, len0, cap0, rfl⟩ := okWide_slice Try.underlying67 hv
  obtain ⟨fuel, hf⟩ := h
  rcases open_slice1 Try.underlying67 cellsInt hf with ⟨hc, hd⟩ | ⟨a, len, cap, m', n', V, D, Pl, hc, _, hl, _, hm, hd, hV⟩
  · simp [Value.cells] at hc
    obtain ⟨rfl, rfl, rfl⟩ := hc
    exact ⟨none, 0, 0, [], rfl, rfl, Rd.nil _ _, by omega⟩
  · simp [Value.cells] at hc
    obtain ⟨rfl, rfl, rfl⟩ := hc
    simp only [if_true] at hm
    subst hm
    simp only [Prod.mk.injEq] at hd
    obtain ⟨rfl, _⟩ := hd
    obtain ⟨f, hff⟩ := choose_lt (α := Int) (n := len0) (p := fun i b => V i = .int .i64 b) (fun i hi => by
      obtain ⟨b, hb, _, _⟩ := DataW.trod_int Try.underlying3 (hV i (by omega)).2
      exact ⟨b, by simpa using hb⟩)
    have hw : (len0 + (m' - len0)) * 8 ≤ reachBytes := by
      refine hsz _ ?_
      simp [DataW.weights, Try.underlying67, bytesInt]
    refine ⟨some a, len0, m', (List.range len0).map f, rfl, by simp, ?_, by simp only [reachBytes] at hw; omega⟩
    intro hne
    have hpos : 0 < len0 := by
      rcases Nat.eq_zero_or_pos len0 with h | h
      · subst h; exact absurd rfl hne
      · exact h
    refine ⟨a, rfl, ?_, ?_⟩
    · have := cell_lt (hV 0 (by omega)).1
      rwa [add_block] at this
    · intro j u hu
      have hj : j < len0 := by
        have := (List.getElem?_eq_some_iff.1 hu).1
        simpa [iL] using this
      simp [iL, hj] at hu
      rw [(hV j (by omega)).1, hff j hj, hu]
end
theorem packs_walkS (A : Option Addr) (n c : Nat) (q : List Int) (s : ByteArray) (w : World) (hq : q.length = n) (hR : Rd w A (iL q)) (hb : n ≤ 140737488351232) :
    Calls Try.prog 7 #[.slice A n c, .string s] w fun e w' => e = .returned (.bool true) ∧ Ext w w' := by
  have e : s = strB s.data.toList := by unfold strB; simp
  rw [e]
  exact packs_walk A n c q s.data.toList w hq hR hb
end Go.Proofs.Ytdfegkpdnofdoaa
