/- How the arguments of the laws on plants lie in memory: kinds, grounds and fields, opened. -/
import Derived.Test.YtjkalnboijkikaaDoorRows
import Derived.Test.YtjkalnboijkikaaDoorCards
import Derived.Test.YtjkalnboijkikaaDoorTie
import Derived.Test.YtjkalnboijkikaaDoorBaseC
import Derived.WalkKit
import Derived.ProofKit
import Derived.OpenShut
import Derived.SizedLaws
import Derived.Carry
import Derived.LaidMore
import Derived.Lay
import Derived.SevenTiedAt
import Derived.Laws.Cover2
import Derived.Lib.SmallJoins
import Derived.Deep.Slices
namespace Go.Proofs.YtjkalnboijkikaaDoor
open Go.ChangeShapes Go.WideShapes Go.ChangeAt Go.RowKit Go.Joins Go.Deep

theorem own : ownKnob Tryd.prog.godebug = none := by kernel_rfl
theorem laidOut : laidOutB Tryd.prog = true := by kernel_rfl
theorem cellsField : Tryd.prog.cellsOf 47 = 5 := by kernel_rfl
theorem cellsRegion : Tryd.prog.cellsOf 44 = 4 := by kernel_rfl
theorem cellsFloats : Tryd.prog.cellsOf 45 = 1 := by kernel_rfl
theorem bytesFloat : Tryd.prog.bytesOf 26 = 4 := by kernel_rfl
theorem cellsKind : Tryd.prog.cellsOf 28 = 13 := by kernel_rfl
theorem cellsGround : Tryd.prog.cellsOf 32 = 3 := by kernel_rfl
theorem cellsString : Tryd.prog.cellsOf 9 = 1 := by kernel_rfl
theorem cellsFloat : Tryd.prog.cellsOf 26 = 1 := by kernel_rfl
theorem cellsInt : Tryd.prog.cellsOf 3 = 1 := by kernel_rfl

theorem list13 {α : Type} {cs : List α} (h : cs.length = 13) : ∃ c0 c1 c2 c3 c4 c5 c6 c7 c8 c9 c10 c11 c12, cs = [c0, c1, c2, c3, c4, c5, c6, c7, c8, c9, c10, c11, c12] := by
  match cs, h with
  | [c0, c1, c2, c3, c4, c5, c6, c7, c8, c9, c10, c11, c12], _ => exact ⟨c0, c1, c2, c3, c4, c5, c6, c7, c8, c9, c10, c11, c12, rfl⟩

section
variable {H : Type} {enc : TypeId × Value → H} {W : World} {base : Nat}
theorem trod_flo {P : Program} {w : World} {spare : Nat → Bool} {held : Bool} {fuel : Nat} {t : TypeId} {k : FloatKind} {cs : List Value} {x : DataW H × List MemPlace} (ht : P.underlying t = some (.float k)) (h : DataW.trod enc P w base spare held fuel t cs = some x) : ∃ b, cs = [.float k b] := by
  cases fuel with
  | zero => simp [DataW.trod] at h
  | succ n =>
    unfold DataW.trod at h
    rw [ht] at h
    split at h <;> simp_all
theorem one_flo {spare : Nat → Bool} {held : Bool} {n : Nat} {v : Value} {y : Option (DataW H × List MemPlace)} (h : DataW.trod enc Tryd.prog W base spare held n 26 [v] = y) (hy : y.isSome = true) : ∃ b, v = .float .f32 b := by
  obtain ⟨x, hx⟩ := Option.isSome_iff_exists.1 hy
  rw [hx] at h
  obtain ⟨b, hb⟩ := trod_flo Tryd.underlying26 h
  exact ⟨b, by simpa using hb⟩
theorem one_int {spare : Nat → Bool} {held : Bool} {n : Nat} {v : Value} {y : Option (DataW H × List MemPlace)} (h : DataW.trod enc Tryd.prog W base spare held n 3 [v] = y) (hy : y.isSome = true) : ∃ b, v = .int .i64 b := by
  obtain ⟨x, hx⟩ := Option.isSome_iff_exists.1 hy
  rw [hx] at h
  obtain ⟨b, hb, _, _⟩ := DataW.trod_int Tryd.underlying3 h
  exact ⟨b, by simpa using hb⟩
theorem one_str {spare : Nat → Bool} {held : Bool} {n : Nat} {v : Value} {y : Option (DataW H × List MemPlace)} (h : DataW.trod enc Tryd.prog W base spare held n 9 [v] = y) (hy : y.isSome = true) : ∃ s : ByteArray, v = .string s ∧ s.size ≤ maxLen := by
  obtain ⟨x, hx⟩ := Option.isSome_iff_exists.1 hy
  rw [hx] at h
  obtain ⟨s, hs, _, hl⟩ := DataW.trod_string Tryd.underlying9 h
  exact ⟨s, by simpa using hs, hl⟩
set_option maxRecDepth 100000 in
theorem open_kind {spare : Nat → Bool} {held : Bool} {r : Reach} {b0 : Nat} {v : Value} {d : DataW H} {ps : List MemPlace} (hv : Value.okWide Tryd.prog W r b0 28 v)
    (h : DataW.Trod enc Tryd.prog W base spare held 28 v d ps) : ∃ (s : ByteArray) (a0 a1 a2 a3 a4 a5 a6 a7 a8 a9 : Nat) (p q : Int), v = .agg #[.string s, .float .f32 a0, .float .f32 a1, .float .f32 a2, .float .f32 a3, .float .f32 a4, .float .f32 a5, .float .f32 a6, .float .f32 a7, .float .f32 a8, .float .f32 a9, .int .i64 p, .int .i64 q] ∧ s.size ≤ maxLen := by
  obtain ⟨cs, rfl, hcs⟩ := okWide_struct Tryd.underlying28 hv
  rw [cellsKind] at hcs
  obtain ⟨L⟩ := cs
  obtain ⟨c0, c1, c2, c3, c4, c5, c6, c7, c8, c9, c10, c11, c12, rfl⟩ := list13 hcs
  obtain ⟨fuel, hf⟩ := h
  obtain ⟨xs, n, _, _, _, hlen, hF⟩ := DataW.trod_struct Tryd.underlying28 hf
  have hx : ∀ i, i < 13 → (xs[i]?).isSome = true := fun i hi => by
    have : xs.length = 13 := hlen
    rw [List.getElem?_eq_getElem (by omega)]
    rfl
  obtain ⟨s, rfl, hs⟩ := one_str (by simpa [Value.cells, cellsString] using hF 0 _ rfl) (hx 0 (by omega))
  obtain ⟨a0, rfl⟩ := one_flo (by simpa [Value.cells, cellsFloat] using hF 1 _ rfl) (hx 1 (by omega))
  obtain ⟨a1, rfl⟩ := one_flo (by simpa [Value.cells, cellsFloat] using hF 2 _ rfl) (hx 2 (by omega))
  obtain ⟨a2, rfl⟩ := one_flo (by simpa [Value.cells, cellsFloat] using hF 3 _ rfl) (hx 3 (by omega))
  obtain ⟨a3, rfl⟩ := one_flo (by simpa [Value.cells, cellsFloat] using hF 4 _ rfl) (hx 4 (by omega))
  obtain ⟨a4, rfl⟩ := one_flo (by simpa [Value.cells, cellsFloat] using hF 5 _ rfl) (hx 5 (by omega))
  obtain ⟨a5, rfl⟩ := one_flo (by simpa [Value.cells, cellsFloat] using hF 6 _ rfl) (hx 6 (by omega))
  obtain ⟨a6, rfl⟩ := one_flo (by simpa [Value.cells, cellsFloat] using hF 7 _ rfl) (hx 7 (by omega))
  obtain ⟨a7, rfl⟩ := one_flo (by simpa [Value.cells, cellsFloat] using hF 8 _ rfl) (hx 8 (by omega))
  obtain ⟨a8, rfl⟩ := one_flo (by simpa [Value.cells, cellsFloat] using hF 9 _ rfl) (hx 9 (by omega))
  obtain ⟨a9, rfl⟩ := one_flo (by simpa [Value.cells, cellsFloat] using hF 10 _ rfl) (hx 10 (by omega))
  obtain ⟨p, rfl⟩ := one_int (by simpa [Value.cells, cellsInt] using hF 11 _ rfl) (hx 11 (by omega))
  obtain ⟨q, rfl⟩ := one_int (by simpa [Value.cells, cellsInt] using hF 12 _ rfl) (hx 12 (by omega))
  exact ⟨s, a0, a1, a2, a3, a4, a5, a6, a7, a8, a9, p, q, rfl, hs⟩
set_option maxRecDepth 100000 in
theorem open_ground {spare : Nat → Bool} {held : Bool} {r : Reach} {b0 : Nat} {v : Value} {d : DataW H} {ps : List MemPlace} (hv : Value.okWide Tryd.prog W r b0 32 v)
    (h : DataW.Trod enc Tryd.prog W base spare held 32 v d ps) : ∃ g0 g1 g2 : Nat, v = .agg #[.float .f32 g0, .float .f32 g1, .float .f32 g2] := by
  obtain ⟨v0, v1, v2, y0, y1, y2, n, rfl, rfl, rfl, h0, h1, h2⟩ := open_agg3 Tryd.underlying32 (by kernel_rfl) cellsGround hv h
  obtain ⟨g0, e0⟩ := trod_flo Tryd.underlying26 h0
  obtain ⟨g1, e1⟩ := trod_flo Tryd.underlying26 h1
  obtain ⟨g2, e2⟩ := trod_flo Tryd.underlying26 h2
  obtain rfl : v0 = _ := by simpa using e0
  obtain rfl : v1 = _ := by simpa using e1
  obtain rfl : v2 = _ := by simpa using e2
  exact ⟨g0, g1, g2, rfl⟩

theorem cell_lt {w : World} {a : Addr} {v : Value} (h : w.cell? a = some v) : a.block < w.heap.size := by
  by_cases hb : a.block < w.heap.size
  · exact hb
  · simp [World.cell?, Array.getElem?_eq_none (Nat.le_of_not_lt hb)] at h

set_option maxRecDepth 100000 in
theorem open_field {r : Reach} {b0 : Nat} {held : Bool} {v : Value} {d : DataW H} {p : List MemPlace} (hv : Value.okWide Tryd.prog W r b0 47 v)
    (h : DataW.Trod enc Tryd.prog W base (fun _ => true) held 47 v d p) (hsz : ∀ n ∈ d.weights Tryd.prog 47, n ≤ reachBytes) :
    ∃ (X Y K J : Int) (A : Option Addr) (n c : Nat) (l : List Nat), v = .agg #[.int .i64 X, .int .i64 Y, .int .i64 K, .int .i64 J, .slice A n c] ∧ l.length = n ∧ Rd W A (flt l) ∧ n ≤ 140737488351232 := by
  obtain ⟨cs, rfl, hcs⟩ := okWide_struct Tryd.underlying47 hv
  rw [cellsField] at hcs
  obtain ⟨L⟩ := cs
  match L, hcs with
  | [c0, c1, c2, c3, c4], _ =>
    obtain ⟨fuel, hf⟩ := h
    obtain ⟨y0, y1, n, hx, _, h0, h1⟩ := trod_struct2 Tryd.underlying47 hf
    simp only [Prod.mk.injEq] at hx
    obtain ⟨rfl, rfl⟩ := hx
    simp only [Value.cells, cellsRegion, cellsFloats] at h0 h1
    simp at h0 h1
    obtain ⟨r0, r1, r2, r3, m, hx0, _, g0, g1, g2, g3⟩ := trod_struct4 Tryd.underlying44 h0
    simp [cellsInt] at g0 g1 g2 g3
    obtain ⟨X, e0, _, _⟩ := DataW.trod_int Tryd.underlying3 g0
    obtain ⟨Y, e1, _, _⟩ := DataW.trod_int Tryd.underlying3 g1
    obtain ⟨K, e2, _, _⟩ := DataW.trod_int Tryd.underlying3 g2
    obtain ⟨J, e3, _, _⟩ := DataW.trod_int Tryd.underlying3 g3
    obtain rfl : c0 = _ := by simpa using e0
    obtain rfl : c1 = _ := by simpa using e1
    obtain rfl : c2 = _ := by simpa using e2
    obtain rfl : c3 = _ := by simpa using e3
    rcases open_slice1 Tryd.underlying45 cellsFloat h1 with ⟨hc, hd⟩ | ⟨a, len, cap, m', n', V, D, Pl, hc, _, hl, _, hm, hd, hV⟩
    · obtain rfl : c4 = _ := by simpa using hc
      exact ⟨X, Y, K, J, none, 0, 0, [], rfl, rfl, Rd.nil _ _, by omega⟩
    · obtain rfl : c4 = _ := by simpa using hc
      simp only [if_true] at hm
      subst hm
      obtain ⟨f, hff⟩ := choose_lt (α := Nat) (n := len) (p := fun i b => V i = .float .f32 b) (fun i hi => by
        obtain ⟨b, hb⟩ := trod_flo Tryd.underlying26 (hV i (by omega)).2
        exact ⟨b, by simpa using hb⟩)
      have hw : (len + (m' - len)) * 4 ≤ reachBytes := by
        refine hsz _ ?_
        rw [hd]
        simp [DataW.weights, DataW.weightsEach, Tryd.underlying47, Tryd.underlying45, bytesFloat]
      refine ⟨X, Y, K, J, some a, len, m', (List.range len).map f, rfl, by simp, ?_, by simp only [reachBytes] at hw; omega⟩
      intro hne
      have hpos : 0 < len := by
        rcases Nat.eq_zero_or_pos len with h | h
        · subst h; exact absurd rfl hne
        · exact h
      refine ⟨a, rfl, ?_, ?_⟩
      · have := cell_lt (hV 0 (by omega)).1
        rwa [add_block] at this
      · intro j u hu
        have hj : j < len := by
          have := (List.getElem?_eq_some_iff.1 hu).1
          simpa [flt] using this
        simp [flt, hj] at hu
        rw [(hV j (by omega)).1, hff j hj, hu]
end
end Go.Proofs.YtjkalnboijkikaaDoor
