/- BedsMatch: for every input the call returns true, and each argument reads afterwards as it read before. No condition is asked. -/
import Derived.Test.YtpgdinpckolfpaaRows
import Derived.Test.YtpgdinpckolfpaaBaseC
import Derived.WalkKit
import Derived.ProofKit
import Derived.OpenShut
import Derived.SizedLaws
import Derived.Carry
import Derived.Lib.SmallJoins
import Derived.Deep.Slices
import Derived.Test.YtpgdinpckolfpaaRdM
import Derived.Test.YtpgdinpckolfpaaBdAF
namespace Go.Proofs.Ytpgdinpckolfpaa
open Go.ChangeShapes Go.WideShapes Go.ChangeAt Go.RowKit Go.Joins Go.Deep 

theorem own : ownKnob Try.prog.godebug = none := by kernel_rfl
theorem laidOut : laidOutB Try.prog = true := by kernel_rfl
theorem cellsField : Try.prog.cellsOf 26 = 5 := by kernel_rfl
theorem cellsRegion : Try.prog.cellsOf 23 = 4 := by kernel_rfl
theorem cellsPoint : Try.prog.cellsOf 32 = 2 := by kernel_rfl
theorem cellsInt : Try.prog.cellsOf 3 = 1 := by kernel_rfl
theorem cellsFloats : Try.prog.cellsOf 24 = 1 := by kernel_rfl
theorem cellsFloat : Try.prog.cellsOf 27 = 1 := by kernel_rfl
theorem bytesFloat : Try.prog.bytesOf 27 = 4 := by kernel_rfl

section
variable {H : Type} {enc : TypeId × Value → H} {W : World} {base : Nat}

theorem trod_flo {P : Program} {w : World} {spare : Nat → Bool} {held : Bool} {fuel : Nat} {t : TypeId} {k : FloatKind} {cs : List Value} {x : DataW H × List MemPlace} (ht : P.underlying t = some (.float k)) (h : DataW.trod enc P w base spare held fuel t cs = some x) : ∃ b, cs = [.float k b] := by
  cases fuel with
  | zero => simp [DataW.trod] at h
  | succ n =>
    unfold DataW.trod at h
    rw [ht] at h
    split at h <;> simp_all

set_option maxRecDepth 100000 in
theorem open_point {spare : Nat → Bool} {held : Bool} {r : Reach} {b0 : Nat} {v : Value} {d : DataW H} {p : List MemPlace} (hv : Value.okWide Try.prog W r b0 32 v)
    (h : DataW.Trod enc Try.prog W base spare held 32 v d p) : ∃ x y : Int, v = .agg #[.int .i64 x, .int .i64 y] := by
  obtain ⟨v0, v1, y0, y1, n, rfl, rfl, rfl, h0, h1⟩ := open_agg2 Try.underlying32 (by kernel_rfl) cellsPoint hv h
  obtain ⟨x, e0, _, _⟩ := DataW.trod_int Try.underlying3 h0
  obtain ⟨y, e1, _, _⟩ := DataW.trod_int Try.underlying3 h1
  obtain rfl : v0 = _ := by simpa using e0
  obtain rfl : v1 = _ := by simpa using e1
  exact ⟨x, y, rfl⟩

theorem cell_lt {w : World} {a : Addr} {v : Value} (h : w.cell? a = some v) : a.block < w.heap.size := by
  by_cases hb : a.block < w.heap.size
  · exact hb
  · simp [World.cell?, Array.getElem?_eq_none (Nat.le_of_not_lt hb)] at h

set_option maxRecDepth 100000 in
theorem open_field {r : Reach} {b0 : Nat} {held : Bool} {v : Value} {d : DataW H} {p : List MemPlace} (hv : Value.okWide Try.prog W r b0 26 v)
    (h : DataW.Trod enc Try.prog W base (fun _ => true) held 26 v d p) (hsz : ∀ n ∈ d.weights Try.prog 26, n ≤ reachBytes) :
    ∃ (X Y K J : Int) (A : Option Addr) (n c : Nat) (l : List Nat), v = .agg #[.int .i64 X, .int .i64 Y, .int .i64 K, .int .i64 J, .slice A n c] ∧ l.length = n ∧ Rd W A (flt l) ∧ n ≤ 140737488351232 := by
  obtain ⟨cs, rfl, hcs⟩ := okWide_struct Try.underlying26 hv
  rw [cellsField] at hcs
  obtain ⟨L⟩ := cs
  match L, hcs with
  | [c0, c1, c2, c3, c4], _ =>
    obtain ⟨fuel, hf⟩ := h
    obtain ⟨y0, y1, n, hx, _, h0, h1⟩ := trod_struct2 Try.underlying26 hf
    simp only [Prod.mk.injEq] at hx
    obtain ⟨rfl, rfl⟩ := hx
    simp only [Value.cells, cellsRegion, cellsFloats] at h0 h1
    simp at h0 h1
    obtain ⟨r0, r1, r2, r3, m, hx0, _, g0, g1, g2, g3⟩ := trod_struct4 Try.underlying23 h0
    simp [cellsInt] at g0 g1 g2 g3
    obtain ⟨X, e0, _, _⟩ := DataW.trod_int Try.underlying3 g0
    obtain ⟨Y, e1, _, _⟩ := DataW.trod_int Try.underlying3 g1
    obtain ⟨K, e2, _, _⟩ := DataW.trod_int Try.underlying3 g2
    obtain ⟨J, e3, _, _⟩ := DataW.trod_int Try.underlying3 g3
    obtain rfl : c0 = _ := by simpa using e0
    obtain rfl : c1 = _ := by simpa using e1
    obtain rfl : c2 = _ := by simpa using e2
    obtain rfl : c3 = _ := by simpa using e3
    rcases open_slice1 Try.underlying24 cellsFloat h1 with ⟨hc, hd⟩ | ⟨a, len, cap, m', n', V, D, Pl, hc, _, hl, _, hm, hd, hV⟩
    · obtain rfl : c4 = _ := by simpa using hc
      exact ⟨X, Y, K, J, none, 0, 0, [], rfl, rfl, Rd.nil _ _, by omega⟩
    · obtain rfl : c4 = _ := by simpa using hc
      simp only [if_true] at hm
      subst hm
      obtain ⟨f, hff⟩ := choose_lt (α := Nat) (n := len) (p := fun i b => V i = .float .f32 b) (fun i hi => by
        obtain ⟨b, hb⟩ := trod_flo Try.underlying27 (hV i (by omega)).2
        exact ⟨b, by simpa using hb⟩)
      have hw : (len + (m' - len)) * 4 ≤ reachBytes := by
        refine hsz _ ?_
        rw [hd]
        simp [DataW.weights, DataW.weightsEach, Try.underlying26, Try.underlying24, bytesFloat]
      refine ⟨X, Y, K, J, some a, len, m', (List.range len).map f, rfl, by simp, ?_, by simp only [reachBytes] at hw; omega⟩
      intro hne
      have hpos : 0 < len := by
        rcases Nat.eq_zero_or_pos len with h | h
        · subst h; exact absurd rfl hne
        · exact h
      refine ⟨a, rfl, ?_, ?_⟩
      · have := cell_lt (hV 0 (by omega)).1
        rwa [add_block] at this
      · intro j u hu
        have hj : j < len := by
          have := (List.getElem?_eq_some_iff.1 hu).1
          simpa [flt] using this
        simp [flt, hj] at hu
        rw [(hV j (by omega)).1, hff j hj, hu]
set_option maxRecDepth 100000 in
theorem open_region {spare : Nat → Bool} {held : Bool} {r : Reach} {b0 : Nat} {v : Value} {d : DataW H} {p : List MemPlace} (hv : Value.okWide Try.prog W r b0 23 v)
    (h : DataW.Trod enc Try.prog W base spare held 23 v d p) : ∃ X Y K J : Int, v = .agg #[.int .i64 X, .int .i64 Y, .int .i64 K, .int .i64 J] := by
  obtain ⟨cs, rfl, hcs⟩ := okWide_struct Try.underlying23 hv
  rw [cellsRegion] at hcs
  obtain ⟨L⟩ := cs
  match L, hcs with
  | [c0, c1, c2, c3], _ =>
    obtain ⟨fuel, hf⟩ := h
    obtain ⟨r0, r1, r2, r3, m, hx0, _, g0, g1, g2, g3⟩ := trod_struct4 Try.underlying23 hf
    simp [Value.cells, cellsInt] at g0 g1 g2 g3
    obtain ⟨X, e0, _, _⟩ := DataW.trod_int Try.underlying3 g0
    obtain ⟨Y, e1, _, _⟩ := DataW.trod_int Try.underlying3 g1
    obtain ⟨K, e2, _, _⟩ := DataW.trod_int Try.underlying3 g2
    obtain ⟨J, e3, _, _⟩ := DataW.trod_int Try.underlying3 g3
    obtain rfl : c0 = _ := by simpa using e0
    obtain rfl : c1 = _ := by simpa using e1
    obtain rfl : c2 = _ := by simpa using e2
    obtain rfl : c3 = _ := by simpa using e3
    exact ⟨X, Y, K, J, rfl⟩

theorem one_flo {spare : Nat → Bool} {held : Bool} {n : Nat} {v : Value} {y : Option (DataW H × List MemPlace)} (h : DataW.trod enc Try.prog W base spare held n 27 [v] = y) (hy : y.isSome = true) : ∃ b, v = .float .f32 b := by
  obtain ⟨z, rfl⟩ := Option.isSome_iff_exists.1 hy
  obtain ⟨b, e⟩ := trod_flo Try.underlying27 h
  exact ⟨b, by simpa using e⟩
theorem one_int {spare : Nat → Bool} {held : Bool} {n : Nat} {v : Value} {y : Option (DataW H × List MemPlace)} (h : DataW.trod enc Try.prog W base spare held n 3 [v] = y) (hy : y.isSome = true) : ∃ b, v = .int .i64 b := by
  obtain ⟨z, rfl⟩ := Option.isSome_iff_exists.1 hy
  obtain ⟨x, e, _, _⟩ := DataW.trod_int Try.underlying3 h
  exact ⟨x, by simpa using e⟩

end
end Go.Proofs.Ytpgdinpckolfpaa

namespace Go.Proofs.Ytpgdinpckolfpaa
open Go.ChangeShapes Go.WideShapes Go.ChangeAt Go.RowKit Go.Joins Go.Deep

theorem bytesPoint : Try.prog.bytesOf 32 = 16 := by kernel_rfl
theorem list2 {α : Type} {cs : List α} (h : cs.length = 2) : ∃ c0 c1, cs = [c0, c1] := by
  match cs, h with
  | [c0, c1], _ => exact ⟨c0, c1, rfl⟩
theorem flat_get {α β : Type} {f : α → List β} {m : Nat} (hf : ∀ x, (f x).length = m) : ∀ {l : List α} {k i : Nat} (hk : k < l.length), i < m → (l.flatMap f)[k * m + i]? = (f l[k])[i]?
  | x :: r, 0, i, _, hi => by
    simp only [List.flatMap_cons, Nat.zero_mul, Nat.zero_add, List.getElem_cons_zero]
    rw [List.getElem?_append_left (by rw [hf]; exact hi)]
  | x :: r, k + 1, i, hk, hi => by
    have hk' : k < r.length := by simpa using hk
    simp only [List.flatMap_cons, List.getElem_cons_succ]
    rw [List.getElem?_append_right (by rw [hf, Nat.add_mul]; omega), hf, show (k + 1) * m + i - m = k * m + i by rw [Nat.add_mul]; omega]
    exact flat_get hf hk' hi
theorem flat_mem {α β : Type} {f : α → List β} {m : Nat} (hf : ∀ x, (f x).length = m) {l : List α} {j : Nat} {u : β} (hu : (l.flatMap f)[j]? = some u) (hm : 0 < m) : ∃ k i, ∃ hk : k < l.length, i < m ∧ j = k * m + i ∧ (f l[k])[i]? = some u := by
  have hl : (l.flatMap f).length = l.length * m := by
    clear hu
    induction l with
    | nil => simp
    | cons x r ih => rw [List.flatMap_cons, List.length_append, ih, hf, List.length_cons, Nat.add_mul]; omega
  have hj : j < l.length * m := by
    have := (List.getElem?_eq_some_iff.1 hu).1
    omega
  have hk : j / m < l.length := (Nat.div_lt_iff_lt_mul hm).2 hj
  have hi : j % m < m := Nat.mod_lt _ hm
  have e : j = j / m * m + j % m := by rw [Nat.mul_comm]; exact (Nat.div_add_mod j m).symm
  refine ⟨j / m, j % m, hk, hi, e, ?_⟩
  rw [← flat_get hf hk hi, ← e]
  exact hu

section
variable {H : Type} {enc : TypeId × Value → H} {W : World} {base : Nat}
set_option maxRecDepth 100000 in
theorem pt_of_trod {spare : Nat → Bool} {held : Bool} {fuel : Nat} {cs : List Value} {y : DataW H × List MemPlace} (hf : DataW.trod enc Try.prog W base spare held fuel 32 cs = some y) : ∃ x : Int × Int, cs = [.int .i64 x.1, .int .i64 x.2] := by
  obtain ⟨xs, n, _, _, hl, hlen, hF⟩ := DataW.trod_struct Try.underlying32 hf
  rw [cellsPoint] at hl
  obtain ⟨c0, c1, rfl⟩ := list2 hl
  have hx : ∀ i, i < 2 → (xs[i]?).isSome = true := fun i hi => by
    have : xs.length = 2 := hlen
    rw [List.getElem?_eq_getElem (by omega)]
    rfl
  obtain ⟨a0, rfl⟩ := one_int (by simpa [Value.cells, cellsInt] using hF 0 _ rfl) (hx 0 (by omega))
  obtain ⟨a1, rfl⟩ := one_int (by simpa [Value.cells, cellsInt] using hF 1 _ rfl) (hx 1 (by omega))
  exact ⟨(a0, a1), rfl⟩
set_option maxRecDepth 100000 in
theorem open_points {r : Reach} {b0 : Nat} {held : Bool} {v : Value} {d : DataW H} {ps : List MemPlace} (hv : Value.okWide Try.prog W r b0 46 v)
    (h : DataW.Trod enc Try.prog W base (fun _ => true) held 46 v d ps) (hsz : ∀ n ∈ d.weights Try.prog 46, n ≤ reachBytes) :
    ∃ (A : Option Addr) (n c : Nat) (l : List (Int × Int)), v = .slice A n c ∧ l.length = n ∧ Rd W A (ptv l) ∧ n ≤ c ∧ n ≤ 140737488351232 := by
  obtain ⟨a0, len0, cap0, rfl⟩ := okWide_slice Try.underlying46 hv
  obtain ⟨fuel, hf⟩ := h
  rcases open_slice Try.underlying46 hf with ⟨hc, hd⟩ | ⟨a, len, cap, m, n, D, Pl, hc, _, hl, _, hm, hd, hV⟩
  · simp [Value.cells] at hc
    obtain ⟨rfl, rfl, rfl⟩ := hc
    exact ⟨none, 0, 0, [], rfl, rfl, Rd.nil _ _, by omega, by omega⟩
  · simp [Value.cells] at hc
    obtain ⟨rfl, rfl, rfl⟩ := hc
    simp only [if_true] at hm
    subst hm
    simp only [Prod.mk.injEq] at hd
    obtain ⟨rfl, _⟩ := hd
    obtain ⟨f, hff⟩ := choose_lt (α := Int × Int) (n := len0) (p := fun i x => ∀ j, j < 2 → W.cell? ((a.add (i * 2)).add j) = ([.int .i64 x.1, .int .i64 x.2] : List Value)[j]?) (fun i hi => by
      obtain ⟨cs', h1, h2⟩ := hV i (by omega)
      rw [cellsPoint] at h1
      obtain ⟨_, _, h3⟩ := World.cells?_some h1
      obtain ⟨x, rfl⟩ := pt_of_trod h2
      exact ⟨x, h3⟩)
    have hw : (len0 + (m - len0)) * 16 ≤ reachBytes := by
      refine hsz _ ?_
      simp [DataW.weights, Try.underlying46, bytesPoint]
    refine ⟨some a, len0, m, (List.range len0).map f, rfl, by simp, ?_, hl, by simp only [reachBytes] at hw; omega⟩
    intro hne
    have hpos : 0 < len0 := by
      rcases Nat.eq_zero_or_pos len0 with h | h
      · subst h; exact absurd rfl hne
      · exact h
    refine ⟨a, rfl, ?_, ?_⟩
    · have := cell_lt ((hff 0 hpos) 0 (by omega))
      rw [add_add'] at this
      rwa [add_block] at this
    · intro j u hu
      obtain ⟨k, i, hk, hi, rfl, hu'⟩ := flat_mem (f := fun p : Int × Int => ([.int .i64 p.1, .int .i64 p.2] : List Value)) (m := 2) (fun _ => rfl) hu (by omega)
      have hk' : k < len0 := by simpa using hk
      have h1 := (hff k hk') i hi
      rw [add_add'] at h1
      rw [h1]
      simpa using hu'
end
end Go.Proofs.Ytpgdinpckolfpaa

namespace Go.Proofs.Ytpgdinpckolfpaa
open Go.ChangeShapes Go.WideShapes Go.ChangeAt Go.RowKit Go.Joins Go.Deep

set_option maxRecDepth 100000 in
set_option maxHeartbeats 1600000 in
theorem bedsMatch_lifted (os : Os) (started : os.Started) (H : Type) (enc : TypeId × Value → H) :
    ReturnsInHanded {} Try.checked os 11 .any (Rows.bedsMatchSpec.pre6 enc Try.prog Try.f11 Rows.bedsMatchRow.domain false) (Rows.bedsMatchSpec.post enc Try.prog Try.f11 false true false false) := by
  refine returnsInHanded_of_change_sized (C := Try.checked) own started (by kernel_rfl) Try.func11
    (ChangeSpec.witness6 (enc := enc) (C := Try.checked) false ⟨#[], #[.agg #[.int .i64 0, .int .i64 0, .int .i64 0, .int .i64 0, .slice none 0 0], .slice none 0 0, .int .i64 0, .float .f32 0], []⟩ 8 (by kernel_rfl) (by kernel_rfl) (by kernel_rfl) (by kernel_rfl)) ?_
  intro W base args ds gs before hval0 hW _ hsz0 _
  have hsz : (DataW.weightsEach Try.prog (Try.f11.params.toList ++ Rows.bedsMatchSpec.plain.varTypes Try.prog) (ds ++ gs)).all (· ≤ reachBytes) = true := hsz0
  clear hsz0
  have hval : ∀ (j : Nat) t v, Try.f11.params[j]? = some t → args[j]? = some v → Value.okWide Try.prog W .any base t v := hval0
  have hW' := hW
  obtain ⟨p, q, hA0, hV, rfl, _, _⟩ := hW
  have hA : DataW.TrodAll enc Try.prog W 0 (fun _ => true) true Try.f11.params.toList args.toList ds p := hA0
  rw [Try.params11] at hA hval hsz
  obtain ⟨v0, vs0, d0, ds0, p0, q0, e0, rfl, rfl, h0, g0⟩ := trodAll_cons hA
  obtain ⟨v1, vs1, d1, ds1, p1, q1, rfl, rfl, rfl, h1, g1⟩ := trodAll_cons g0
  obtain ⟨v2, vs2, d2, ds2, p2, q2, rfl, rfl, rfl, h2, g2⟩ := trodAll_cons g1
  obtain ⟨v3, vs3, d3, ds3, p3, q3, rfl, rfl, rfl, h3, g3⟩ := trodAll_cons g2
  obtain ⟨rfl, rfl, rfl⟩ := trodAll_nil g3
  obtain ⟨L⟩ := args
  obtain rfl : L = [v0, v1, v2, v3] := by simpa using e0
  obtain ⟨rfl, rfl⟩ := trodVars_none hV
  obtain ⟨x0, y0, w0, u0, A0, n0, c0, l0, rfl, hn0, hr0, hb0⟩ := open_field (hval 0 26 v0 rfl rfl) h0 (fun n hn => by
    have := List.all_eq_true.1 hsz n (by simp [DataW.weightsEach, hn])
    simpa using this)
  obtain ⟨A1, n1, c1, l1, rfl, hn1, hr1, hc1, hb1⟩ := open_points (hval 1 46 v1 rfl rfl) h1 (fun n hn => by
    have := List.all_eq_true.1 hsz n (by simp [DataW.weightsEach, hn])
    simpa using this)
  obtain ⟨i2, rfl, rfl, rfl, ib2⟩ := open_int Try.underlying3 (hval 2 3 v2 rfl rfl) h2
  obtain ⟨b3, rfl, rfl, rfl, _⟩ := open_float Try.underlying27 (hval 3 27 v3 rfl rfl) h3
  clear hA0 hval0
  simp only [List.append_nil] at hW'
  have hlt : ∀ x ∈ p0 ++ p1, x.block < W.heap.size := fun x hx => by simpa using hW'.lt x (by simpa using hx)
  refine (beds_walk x0 y0 w0 u0 A0 n0 c0 l0 A1 n1 c1 l1 i2 b3 W hn0 hr0 hb0 hn1 hr1 hc1 (by omega)).mono fun e W' ⟨he, hx⟩ => ?_
  subst he
  refine ⟨_, rfl, _, _, _, [], p0 ++ (p1 ++ ([] ++ ([] ++ []))), [], hW', trodAll_mk1 (shut_bool Try.underlying4 _), ?_, rfl, Below.frame hx _, fun h => by cases h⟩
  refine trodAll_cons_mk (Below.trod laidOut (by kernel_rfl) (of_decide_eq_true (by kernel_rfl)) h0 hx ?_) (trodAll_mk3 (Below.trod laidOut (by kernel_rfl) (of_decide_eq_true (by kernel_rfl)) h1 hx ?_) (Below.trod laidOut (by kernel_rfl) (of_decide_eq_true (by kernel_rfl)) h2 hx ?_) (Below.trod laidOut (by kernel_rfl) (of_decide_eq_true (by kernel_rfl)) h3 hx ?_))
  · exact fun x hx => hlt x (by simp [hx])
  · exact fun x hx => hlt x (by simp [hx])
  · exact fun x hx => by cases hx
  · exact fun x hx => by cases hx

theorem bedsMatch_holds : Rows.BedsMatchSaid :=
  OpenClaim.holds_of_wide 11 Try.f11 rfl rfl rfl rfl rfl rfl rfl ⟨rfl, rfl, rfl, rfl, rfl⟩ rfl rfl rfl rfl rfl (by kernel_rfl) Try.func11 (by kernel_rfl)
    (of_decide_eq_true (by kernel_rfl)) (by unfold Func.isWrapper; first | (rw [if_pos (by decide +kernel)]; kernel_rfl) | (rw [if_neg (by decide +kernel)]; exact ⟨rfl, rfl⟩))
    (fun os started H enc _ => bedsMatch_lifted os started H enc)

end Go.Proofs.Ytpgdinpckolfpaa
