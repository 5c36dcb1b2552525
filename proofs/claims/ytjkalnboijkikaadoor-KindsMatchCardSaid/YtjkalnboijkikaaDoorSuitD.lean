/- SuitsMatch: for every input the call returns true, and each argument reads afterwards as it read before; the package-level variables that the row lists hold what the program's text lays. No other condition is asked. -/
import Derived.Test.YtjkalnboijkikaaDoorSuitC
import Derived.Test.YtjkalnboijkikaaDoorCards
import Derived.Test.YtjkalnboijkikaaDoorTie
import Derived.ProofKit
import Derived.OpenShut
import Derived.Carry
import Derived.LaidMore
import Derived.Lay
import Derived.SevenTiedAt
import Derived.Laws.Cover2
import Derived.Lib.SmallJoins
namespace Go.Proofs.YtjkalnboijkikaaDoor
open Go.ChangeShapes Go.WideShapes Go.ChangeAt Go.RowKit Go.Joins

theorem own : ownKnob Tryd.prog.godebug = none := by kernel_rfl
theorem laidOut : laidOutB Tryd.prog = true := by kernel_rfl
theorem cellsKind : Tryd.prog.cellsOf 28 = 13 := by kernel_rfl
theorem cellsGround : Tryd.prog.cellsOf 32 = 3 := by kernel_rfl
theorem cellsString : Tryd.prog.cellsOf 9 = 1 := by kernel_rfl
theorem cellsFloat : Tryd.prog.cellsOf 26 = 1 := by kernel_rfl
theorem cellsInt : Tryd.prog.cellsOf 3 = 1 := by kernel_rfl

theorem list13 {α : Type} {cs : List α} (h : cs.length = 13) : ∃ c0 c1 c2 c3 c4 c5 c6 c7 c8 c9 c10 c11 c12, cs = [c0, c1, c2, c3, c4, c5, c6, c7, c8, c9, c10, c11, c12] := by
  match cs, h with
  | [c0, c1, c2, c3, c4, c5, c6, c7, c8, c9, c10, c11, c12], _ => exact ⟨c0, c1, c2, c3, c4, c5, c6, c7, c8, c9, c10, c11, c12, rfl⟩

section
variable {H : Type} {enc : TypeId × Value → H} {W : World} {base : Nat}
theorem trod_flo {P : Program} {w : World} {spare : Nat → Bool} {held : Bool} {fuel : Nat} {t : TypeId} {k : FloatKind} {cs : List Value} {x : DataW H × List MemPlace} (ht : P.underlying t = some (.float k)) (h : DataW.trod enc P w base spare held fuel t cs = some x) : ∃ b, cs = [.float k b] := by
  cases fuel with
  | zero => simp [DataW.trod] at h
  | succ n =>
    unfold DataW.trod at h
    rw [ht] at h
    split at h <;> simp_all
theorem one_flo {spare : Nat → Bool} {held : Bool} {n : Nat} {v : Value} {y : Option (DataW H × List MemPlace)} (h : DataW.trod enc Tryd.prog W base spare held n 26 [v] = y) (hy : y.isSome = true) : ∃ b, v = .float .f32 b := by
  obtain ⟨x, hx⟩ := Option.isSome_iff_exists.1 hy
  rw [hx] at h
  obtain ⟨b, hb⟩ := trod_flo Tryd.underlying26 h
  exact ⟨b, by simpa using hb⟩
theorem one_int {spare : Nat → Bool} {held : Bool} {n : Nat} {v : Value} {y : Option (DataW H × List MemPlace)} (h : DataW.trod enc Tryd.prog W base spare held n 3 [v] = y) (hy : y.isSome = true) : ∃ b, v = .int .i64 b := by
  obtain ⟨x, hx⟩ := Option.isSome_iff_exists.1 hy
  rw [hx] at h
  obtain ⟨b, hb, _, _⟩ := DataW.trod_int Tryd.underlying3 h
  exact ⟨b, by simpa using hb⟩
theorem one_str {spare : Nat → Bool} {held : Bool} {n : Nat} {v : Value} {y : Option (DataW H × List MemPlace)} (h : DataW.trod enc Tryd.prog W base spare held n 9 [v] = y) (hy : y.isSome = true) : ∃ s : ByteArray, v = .string s ∧ s.size ≤ maxLen := by
  obtain ⟨x, hx⟩ := Option.isSome_iff_exists.1 hy
  rw [hx] at h
  obtain ⟨s, hs, _, hl⟩ := DataW.trod_string Tryd.underlying9 h
  exact ⟨s, by simpa using hs, hl⟩
set_option maxRecDepth 100000 in
theorem open_kind {spare : Nat → Bool} {held : Bool} {r : Reach} {b0 : Nat} {v : Value} {d : DataW H} {ps : List MemPlace} (hv : Value.okWide Tryd.prog W r b0 28 v)
    (h : DataW.Trod enc Tryd.prog W base spare held 28 v d ps) : ∃ (s : ByteArray) (a0 a1 a2 a3 a4 a5 a6 a7 a8 a9 : Nat) (p q : Int), v = .agg #[.string s, .float .f32 a0, .float .f32 a1, .float .f32 a2, .float .f32 a3, .float .f32 a4, .float .f32 a5, .float .f32 a6, .float .f32 a7, .float .f32 a8, .float .f32 a9, .int .i64 p, .int .i64 q] ∧ s.size ≤ maxLen := by
  obtain ⟨cs, rfl, hcs⟩ := okWide_struct Tryd.underlying28 hv
  rw [cellsKind] at hcs
  obtain ⟨L⟩ := cs
  obtain ⟨c0, c1, c2, c3, c4, c5, c6, c7, c8, c9, c10, c11, c12, rfl⟩ := list13 hcs
  obtain ⟨fuel, hf⟩ := h
  obtain ⟨xs, n, _, _, _, hlen, hF⟩ := DataW.trod_struct Tryd.underlying28 hf
  have hx : ∀ i, i < 13 → (xs[i]?).isSome = true := fun i hi => by
    have : xs.length = 13 := hlen
    rw [List.getElem?_eq_getElem (by omega)]
    rfl
  obtain ⟨s, rfl, hs⟩ := one_str (by simpa [Value.cells, cellsString] using hF 0 _ rfl) (hx 0 (by omega))
  obtain ⟨a0, rfl⟩ := one_flo (by simpa [Value.cells, cellsFloat] using hF 1 _ rfl) (hx 1 (by omega))
  obtain ⟨a1, rfl⟩ := one_flo (by simpa [Value.cells, cellsFloat] using hF 2 _ rfl) (hx 2 (by omega))
  obtain ⟨a2, rfl⟩ := one_flo (by simpa [Value.cells, cellsFloat] using hF 3 _ rfl) (hx 3 (by omega))
  obtain ⟨a3, rfl⟩ := one_flo (by simpa [Value.cells, cellsFloat] using hF 4 _ rfl) (hx 4 (by omega))
  obtain ⟨a4, rfl⟩ := one_flo (by simpa [Value.cells, cellsFloat] using hF 5 _ rfl) (hx 5 (by omega))
  obtain ⟨a5, rfl⟩ := one_flo (by simpa [Value.cells, cellsFloat] using hF 6 _ rfl) (hx 6 (by omega))
  obtain ⟨a6, rfl⟩ := one_flo (by simpa [Value.cells, cellsFloat] using hF 7 _ rfl) (hx 7 (by omega))
  obtain ⟨a7, rfl⟩ := one_flo (by simpa [Value.cells, cellsFloat] using hF 8 _ rfl) (hx 8 (by omega))
  obtain ⟨a8, rfl⟩ := one_flo (by simpa [Value.cells, cellsFloat] using hF 9 _ rfl) (hx 9 (by omega))
  obtain ⟨a9, rfl⟩ := one_flo (by simpa [Value.cells, cellsFloat] using hF 10 _ rfl) (hx 10 (by omega))
  obtain ⟨p, rfl⟩ := one_int (by simpa [Value.cells, cellsInt] using hF 11 _ rfl) (hx 11 (by omega))
  obtain ⟨q, rfl⟩ := one_int (by simpa [Value.cells, cellsInt] using hF 12 _ rfl) (hx 12 (by omega))
  exact ⟨s, a0, a1, a2, a3, a4, a5, a6, a7, a8, a9, p, q, rfl, hs⟩
set_option maxRecDepth 100000 in
theorem open_ground {spare : Nat → Bool} {held : Bool} {r : Reach} {b0 : Nat} {v : Value} {d : DataW H} {ps : List MemPlace} (hv : Value.okWide Tryd.prog W r b0 32 v)
    (h : DataW.Trod enc Tryd.prog W base spare held 32 v d ps) : ∃ g0 g1 g2 : Nat, v = .agg #[.float .f32 g0, .float .f32 g1, .float .f32 g2] := by
  obtain ⟨v0, v1, v2, y0, y1, y2, n, rfl, rfl, rfl, h0, h1, h2⟩ := open_agg3 Tryd.underlying32 (by kernel_rfl) cellsGround hv h
  obtain ⟨g0, e0⟩ := trod_flo Tryd.underlying26 h0
  obtain ⟨g1, e1⟩ := trod_flo Tryd.underlying26 h1
  obtain ⟨g2, e2⟩ := trod_flo Tryd.underlying26 h2
  obtain rfl : v0 = _ := by simpa using e0
  obtain rfl : v1 = _ := by simpa using e1
  obtain rfl : v2 = _ := by simpa using e2
  exact ⟨g0, g1, g2, rfl⟩
end

set_option maxRecDepth 100000 in
set_option maxHeartbeats 1600000 in
theorem suits_lifted (os : Os) (started : os.Started) (H : Type) (enc : TypeId × Value → H) :
    ReturnsInHanded {} Tryd.checked os 4 .any (fun w args => (Rows.suitsMatchSpec.pre enc Tryd.prog Tryd.f4 Rows.suitsMatchRow.domain false w args ∧ laidMetH Tryd.prog Rows.suitsMatchRow.laid w) ∧ sizedMet enc Tryd.prog Tryd.f4 (OpenSpec.ofChange Rows.suitsMatchSpec) false w args)
      (Rows.suitsMatchSpec.post enc Tryd.prog Tryd.f4 false true false false) := by
  refine returnsInHanded_of_change_and (C := Tryd.checked) (X := fun w _ => laidMetH Tryd.prog Rows.suitsMatchRow.laid w) (fun _ _ _ hh h => h.of_heap hh) own started (by kernel_rfl) Tryd.func4
    (ChangeSpec.witness_shaped (enc := enc) (C := Tryd.checked) (os := os) (X := fun w _ => laidMetH Tryd.prog Rows.suitsMatchRow.laid w) false (World.laidAll Tryd.prog os Rows.suitsMatchRow.laid)
      #[.agg #[.string ⟨#[]⟩, .float .f32 0, .float .f32 0, .float .f32 0, .float .f32 0, .float .f32 0, .float .f32 0, .float .f32 0, .float .f32 0, .float .f32 0, .float .f32 0, .int .i64 0, .int .i64 0], .agg #[.float .f32 0, .float .f32 0, .float .f32 0], .float .f32 0, .float .f32 0, .float .f32 0, .float .f32 0] 8 (World.laidAll_os _ _ _)
      (World.shaped_of_ZipB (by kernel_rfl) (by kernel_rfl)) (by kernel_rfl) (by kernel_rfl) (by kernel_rfl)
      (by rw [MakeChecks.laidMetH_plain _ _ _ (by kernel_rfl)]; exact laidMet_laidAll _ (by kernel_rfl) (by kernel_rfl))) ?_
  intro W base args ds gs before hval0 hW _ _ _ _
  have hval : ∀ (j : Nat) t v, Tryd.f4.params[j]? = some t → args[j]? = some v → Value.okWide Tryd.prog W .any base t v := hval0
  have hW' := hW
  obtain ⟨p, q, hA0, hV, rfl, _, _⟩ := hW
  have hA : DataW.TrodAll enc Tryd.prog W 0 (fun _ => true) true Tryd.f4.params.toList args.toList ds p := hA0
  rw [Tryd.params4] at hA hval
  obtain ⟨v0, vs0, d0, ds0, p0, q0, e0, rfl, rfl, h0, g0⟩ := trodAll_cons hA
  obtain ⟨v1, vs1, d1, ds1, p1, q1, rfl, rfl, rfl, h1, g1⟩ := trodAll_cons g0
  obtain ⟨v2, vs2, d2, ds2, p2, q2, rfl, rfl, rfl, h2, g2⟩ := trodAll_cons g1
  obtain ⟨v3, vs3, d3, ds3, p3, q3, rfl, rfl, rfl, h3, g3⟩ := trodAll_cons g2
  obtain ⟨v4, vs4, d4, ds4, p4, q4, rfl, rfl, rfl, h4, g4⟩ := trodAll_cons g3
  obtain ⟨v5, vs5, d5, ds5, p5, q5, rfl, rfl, rfl, h5, g5⟩ := trodAll_cons g4
  obtain ⟨rfl, rfl, rfl⟩ := trodAll_nil g5
  obtain ⟨L⟩ := args
  obtain rfl : L = [v0, v1, v2, v3, v4, v5] := by simpa using e0
  obtain ⟨rfl, rfl⟩ := trodVars_none hV
  obtain ⟨s, a0, a1, a2, a3, a4, a5, a6, a7, a8, a9, pp, qq, rfl, hs⟩ := open_kind (hval 0 28 v0 rfl rfl) h0
  obtain ⟨u0, u1, u2, rfl⟩ := open_ground (hval 1 32 v1 rfl rfl) h1
  obtain ⟨v, rfl, rfl, rfl, _⟩ := open_float Tryd.underlying26 (hval 2 26 v2 rfl rfl) h2
  obtain ⟨low, rfl, rfl, rfl, _⟩ := open_float Tryd.underlying26 (hval 3 26 v3 rfl rfl) h3
  obtain ⟨high, rfl, rfl, rfl, _⟩ := open_float Tryd.underlying26 (hval 4 26 v4 rfl rfl) h4
  obtain ⟨soft, rfl, rfl, rfl, _⟩ := open_float Tryd.underlying26 (hval 5 26 v5 rfl rfl) h5
  clear hA0 hval0
  simp only [List.append_nil] at hW'
  have hlt : ∀ x ∈ p0 ++ p1, x.block < W.heap.size := fun x hx => by simpa using hW'.lt x (by simpa using hx)
  refine (suits_walk s a0 a1 a2 a3 a4 a5 a6 a7 a8 a9 u0 u1 u2 v low high soft pp qq W (by unfold maxLen at hs; omega)).mono fun e W' ⟨he, hx⟩ => ?_
  subst he
  refine ⟨_, rfl, _, _, _, [], p0 ++ (p1 ++ ([] ++ ([] ++ ([] ++ [])))), [], hW', trodAll_mk1 (shut_bool Tryd.underlying4 _), ?_, rfl, Below.frame hx _, fun h => by cases h⟩
  refine trodAll_cons_mk (Below.trod laidOut (by kernel_rfl) (of_decide_eq_true (by kernel_rfl)) h0 hx ?_) (trodAll_cons_mk (Below.trod laidOut (by kernel_rfl) (of_decide_eq_true (by kernel_rfl)) h1 hx ?_) (trodAll_cons_mk (Below.trod laidOut (by kernel_rfl) (of_decide_eq_true (by kernel_rfl)) h2 hx ?_) (trodAll_mk3 (Below.trod laidOut (by kernel_rfl) (of_decide_eq_true (by kernel_rfl)) h3 hx ?_) (Below.trod laidOut (by kernel_rfl) (of_decide_eq_true (by kernel_rfl)) h4 hx ?_) (Below.trod laidOut (by kernel_rfl) (of_decide_eq_true (by kernel_rfl)) h5 hx ?_))))
  · exact fun x hx => hlt x (by simp [hx])
  · exact fun x hx => hlt x (by simp [hx])
  · exact fun x hx => by cases hx
  · exact fun x hx => by cases hx
  · exact fun x hx => by cases hx
  · exact fun x hx => by cases hx

theorem suits_holds : Rows.SuitsMatchSaid :=
  OpenClaim.holds_of_wide 4 Tryd.f4 rfl rfl rfl rfl rfl rfl rfl ⟨rfl, rfl, rfl, rfl, rfl⟩ rfl rfl rfl rfl rfl (by kernel_rfl) Tryd.func4 (by kernel_rfl)
    (of_decide_eq_true (by kernel_rfl)) (by unfold Func.isWrapper; first | (rw [if_pos (by decide +kernel)]; kernel_rfl) | (rw [if_neg (by decide +kernel)]; exact ⟨rfl, rfl⟩))
    (fun os started H enc _ => suits_lifted os started H enc)

theorem suits_card_holds : Rows.SuitsMatchCardSaid :=
  Claim7.holds_tied_plain_at .later [] [.data, .pinned] true (true, "6ad05ff2cf147c80ec540ec5b2ee96b4b7079472e3f882c3a43dbe70cc4b1450") false suits_holds (fun _ h => by cases h) (by kernel_rfl) (fun _ h => by cases h) suitsMatch_row_tie rfl ⟨rfl, rfl⟩ (by kernel_rfl) rfl
    (fun f fn hf hfn => by
      obtain rfl : f = 4 := Option.some.inj ((show Tryd.prog.funcNamed "tarnfell/tarnlaw2.SuitsMatch" = some 4 by kernel_rfl).symm.trans hf) |>.symm
      obtain rfl : fn = Tryd.f4 := (Option.some.inj (Tryd.func4.symm.trans hfn)).symm
      exact ⟨by kernel_rfl, fun j t ht => by
        rw [Tryd.params4] at ht
        have hm : t ∈ [28, 32, 26] := by
          have := Array.mem_of_getElem? ht
          simp at this
          simp
          omega
        have hall : ([28, 32, 26].all fun u => !Tryd.prog.wantsStandIn u) = true := by kernel_rfl
        exact (show Tryd.prog.wantsStandIn t = false by simpa using List.all_eq_true.1 hall t hm)⟩)
    (by kernel_rfl)
end Go.Proofs.YtjkalnboijkikaaDoor
