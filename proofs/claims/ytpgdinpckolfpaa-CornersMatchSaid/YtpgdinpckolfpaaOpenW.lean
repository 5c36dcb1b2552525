/- How the arguments lie: fields, regions, points, numbers, slices of numbers. -/
import Derived.Test.YtpgdinpckolfpaaRows
import Derived.Test.YtpgdinpckolfpaaBaseC
import Derived.WalkKit
import Derived.ProofKit
import Derived.OpenShut
import Derived.SizedLaws
import Derived.Carry
import Derived.Lib.SmallJoins
import Derived.Deep.Slices
namespace Go.Proofs.Ytpgdinpckolfpaa
open Go.ChangeShapes Go.WideShapes Go.ChangeAt Go.RowKit Go.Joins Go.Deep 

theorem own : ownKnob Try.prog.godebug = none := by kernel_rfl
theorem laidOut : laidOutB Try.prog = true := by kernel_rfl
theorem cellsField : Try.prog.cellsOf 26 = 5 := by kernel_rfl
theorem cellsRegion : Try.prog.cellsOf 23 = 4 := by kernel_rfl
theorem cellsPoint : Try.prog.cellsOf 32 = 2 := by kernel_rfl
theorem cellsInt : Try.prog.cellsOf 3 = 1 := by kernel_rfl
theorem cellsFloats : Try.prog.cellsOf 24 = 1 := by kernel_rfl
theorem cellsFloat : Try.prog.cellsOf 27 = 1 := by kernel_rfl
theorem bytesFloat : Try.prog.bytesOf 27 = 4 := by kernel_rfl

section
variable {H : Type} {enc : TypeId × Value → H} {W : World} {base : Nat}

theorem trod_flo {P : Program} {w : World} {spare : Nat → Bool} {held : Bool} {fuel : Nat} {t : TypeId} {k : FloatKind} {cs : List Value} {x : DataW H × List MemPlace} (ht : P.underlying t = some (.float k)) (h : DataW.trod enc P w base spare held fuel t cs = some x) : ∃ b, cs = [.float k b] := by
  cases fuel with
  | zero => simp [DataW.trod] at h
  | succ n =>
    unfold DataW.trod at h
    rw [ht] at h
    split at h <;> simp_all

set_option maxRecDepth 100000 in
theorem open_point {spare : Nat → Bool} {held : Bool} {r : Reach} {b0 : Nat} {v : Value} {d : DataW H} {p : List MemPlace} (hv : Value.okWide Try.prog W r b0 32 v)
    (h : DataW.Trod enc Try.prog W base spare held 32 v d p) : ∃ x y : Int, v = .agg #[.int .i64 x, .int .i64 y] := by
  obtain ⟨v0, v1, y0, y1, n, rfl, rfl, rfl, h0, h1⟩ := open_agg2 Try.underlying32 (by kernel_rfl) cellsPoint hv h
  obtain ⟨x, e0, _, _⟩ := DataW.trod_int Try.underlying3 h0
  obtain ⟨y, e1, _, _⟩ := DataW.trod_int Try.underlying3 h1
  obtain rfl : v0 = _ := by simpa using e0
  obtain rfl : v1 = _ := by simpa using e1
  exact ⟨x, y, rfl⟩

theorem cell_lt {w : World} {a : Addr} {v : Value} (h : w.cell? a = some v) : a.block < w.heap.size := by
  by_cases hb : a.block < w.heap.size
  · exact hb
  · simp [World.cell?, Array.getElem?_eq_none (Nat.le_of_not_lt hb)] at h

set_option maxRecDepth 100000 in
theorem open_field {r : Reach} {b0 : Nat} {held : Bool} {v : Value} {d : DataW H} {p : List MemPlace} (hv : Value.okWide Try.prog W r b0 26 v)
    (h : DataW.Trod enc Try.prog W base (fun _ => true) held 26 v d p) (hsz : ∀ n ∈ d.weights Try.prog 26, n ≤ reachBytes) :
    ∃ (X Y K J : Int) (A : Option Addr) (n c : Nat) (l : List Nat), v = .agg #[.int .i64 X, .int .i64 Y, .int .i64 K, .int .i64 J, .slice A n c] ∧ l.length = n ∧ Rd W A (flt l) ∧ n ≤ 140737488351232 := by
  obtain ⟨cs, rfl, hcs⟩ := okWide_struct Try.underlying26 hv
  rw [cellsField] at hcs
  obtain ⟨L⟩ := cs
  match L, hcs with
  | [c0, c1, c2, c3, c4], _ =>
    obtain ⟨fuel, hf⟩ := h
    obtain ⟨y0, y1, n, hx, _, h0, h1⟩ := trod_struct2 Try.underlying26 hf
    simp only [Prod.mk.injEq] at hx
    obtain ⟨rfl, rfl⟩ := hx
    simp only [Value.cells, cellsRegion, cellsFloats] at h0 h1
    simp at h0 h1
    obtain ⟨r0, r1, r2, r3, m, hx0, _, g0, g1, g2, g3⟩ := trod_struct4 Try.underlying23 h0
    simp [cellsInt] at g0 g1 g2 g3
    obtain ⟨X, e0, _, _⟩ := DataW.trod_int Try.underlying3 g0
    obtain ⟨Y, e1, _, _⟩ := DataW.trod_int Try.underlying3 g1
    obtain ⟨K, e2, _, _⟩ := DataW.trod_int Try.underlying3 g2
    obtain ⟨J, e3, _, _⟩ := DataW.trod_int Try.underlying3 g3
    obtain rfl : c0 = _ := by simpa using e0
    obtain rfl : c1 = _ := by simpa using e1
    obtain rfl : c2 = _ := by simpa using e2
    obtain rfl : c3 = _ := by simpa using e3
    rcases open_slice1 Try.underlying24 cellsFloat h1 with ⟨hc, hd⟩ | ⟨a, len, cap, m', n', V, D, Pl, hc, _, hl, _, hm, hd, hV⟩
    · obtain rfl : c4 = _ := by simpa using hc
      exact ⟨X, Y, K, J, none, 0, 0, [], rfl, rfl, Rd.nil _ _, by omega⟩
    · obtain rfl : c4 = _ := by simpa using hc
      simp only [if_true] at hm
      subst hm
      obtain ⟨f, hff⟩ := choose_lt (α := Nat) (n := len) (p := fun i b => V i = .float .f32 b) (fun i hi => by
        obtain ⟨b, hb⟩ := trod_flo Try.underlying27 (hV i (by omega)).2
        exact ⟨b, by simpa using hb⟩)
      have hw : (len + (m' - len)) * 4 ≤ reachBytes := by
        refine hsz _ ?_
        rw [hd]
        simp [DataW.weights, DataW.weightsEach, Try.underlying26, Try.underlying24, bytesFloat]
      refine ⟨X, Y, K, J, some a, len, m', (List.range len).map f, rfl, by simp, ?_, by simp only [reachBytes] at hw; omega⟩
      intro hne
      have hpos : 0 < len := by
        rcases Nat.eq_zero_or_pos len with h | h
        · subst h; exact absurd rfl hne
        · exact h
      refine ⟨a, rfl, ?_, ?_⟩
      · have := cell_lt (hV 0 (by omega)).1
        rwa [add_block] at this
      · intro j u hu
        have hj : j < len := by
          have := (List.getElem?_eq_some_iff.1 hu).1
          simpa [flt] using this
        simp [flt, hj] at hu
        rw [(hV j (by omega)).1, hff j hj, hu]
set_option maxRecDepth 100000 in
theorem open_region {spare : Nat → Bool} {held : Bool} {r : Reach} {b0 : Nat} {v : Value} {d : DataW H} {p : List MemPlace} (hv : Value.okWide Try.prog W r b0 23 v)
    (h : DataW.Trod enc Try.prog W base spare held 23 v d p) : ∃ X Y K J : Int, v = .agg #[.int .i64 X, .int .i64 Y, .int .i64 K, .int .i64 J] := by
  obtain ⟨cs, rfl, hcs⟩ := okWide_struct Try.underlying23 hv
  rw [cellsRegion] at hcs
  obtain ⟨L⟩ := cs
  match L, hcs with
  | [c0, c1, c2, c3], _ =>
    obtain ⟨fuel, hf⟩ := h
    obtain ⟨r0, r1, r2, r3, m, hx0, _, g0, g1, g2, g3⟩ := trod_struct4 Try.underlying23 hf
    simp [Value.cells, cellsInt] at g0 g1 g2 g3
    obtain ⟨X, e0, _, _⟩ := DataW.trod_int Try.underlying3 g0
    obtain ⟨Y, e1, _, _⟩ := DataW.trod_int Try.underlying3 g1
    obtain ⟨K, e2, _, _⟩ := DataW.trod_int Try.underlying3 g2
    obtain ⟨J, e3, _, _⟩ := DataW.trod_int Try.underlying3 g3
    obtain rfl : c0 = _ := by simpa using e0
    obtain rfl : c1 = _ := by simpa using e1
    obtain rfl : c2 = _ := by simpa using e2
    obtain rfl : c3 = _ := by simpa using e3
    exact ⟨X, Y, K, J, rfl⟩

theorem one_flo {spare : Nat → Bool} {held : Bool} {n : Nat} {v : Value} {y : Option (DataW H × List MemPlace)} (h : DataW.trod enc Try.prog W base spare held n 27 [v] = y) (hy : y.isSome = true) : ∃ b, v = .float .f32 b := by
  obtain ⟨z, rfl⟩ := Option.isSome_iff_exists.1 hy
  obtain ⟨b, e⟩ := trod_flo Try.underlying27 h
  exact ⟨b, by simpa using e⟩
theorem one_int {spare : Nat → Bool} {held : Bool} {n : Nat} {v : Value} {y : Option (DataW H × List MemPlace)} (h : DataW.trod enc Try.prog W base spare held n 3 [v] = y) (hy : y.isSome = true) : ∃ b, v = .int .i64 b := by
  obtain ⟨z, rfl⟩ := Option.isSome_iff_exists.1 hy
  obtain ⟨x, e, _, _⟩ := DataW.trod_int Try.underlying3 h
  exact ⟨x, by simpa using e⟩

end
end Go.Proofs.Ytpgdinpckolfpaa
