/- KindsMatch: for every input the call returns true, and the argument reads afterwards as it read before; the package-level variables that the row lists hold what the program's text lays. No other condition is asked. -/
import Derived.Test.YtjkalnboijkikaaDoorKindsE
import Derived.Test.YtjkalnboijkikaaDoorSuitD
import Derived.Deep.Slices
import Derived.DataReads
namespace Go.Proofs.YtjkalnboijkikaaDoor
open Go.ChangeShapes Go.WideShapes Go.ChangeAt Go.RowKit Go.Joins Go.Deep

instance : Inhabited KindR := ⟨⟨⟨#[]⟩, 0, 0, 0, 0, 0, 0, 0, 0, 0, 0, 0, 0⟩⟩
theorem bytesKind : Tryd.prog.bytesOf 28 = 72 := by kernel_rfl
section
variable {H : Type} {enc : TypeId × Value → H} {W : World} {base : Nat}
set_option maxRecDepth 100000 in
theorem kind_of_trod {spare : Nat → Bool} {held : Bool} {fuel : Nat} {cs : List Value} {y : DataW H × List MemPlace} (hf : DataW.trod enc Tryd.prog W base spare held fuel 28 cs = some y) : ∃ x : KindR, cs = x.cells ∧ x.s.size ≤ maxLen := by
  obtain ⟨xs, n, _, _, hl, hlen, hF⟩ := DataW.trod_struct Tryd.underlying28 hf
  rw [cellsKind] at hl
  obtain ⟨c0, c1, c2, c3, c4, c5, c6, c7, c8, c9, c10, c11, c12, rfl⟩ := list13 hl
  have hx : ∀ i, i < 13 → (xs[i]?).isSome = true := fun i hi => by
    have : xs.length = 13 := hlen
    rw [List.getElem?_eq_getElem (by omega)]
    rfl
  obtain ⟨s, rfl, hs⟩ := one_str (by simpa [Value.cells, cellsString] using hF 0 _ rfl) (hx 0 (by omega))
  obtain ⟨a0, rfl⟩ := one_flo (by simpa [Value.cells, cellsFloat] using hF 1 _ rfl) (hx 1 (by omega))
  obtain ⟨a1, rfl⟩ := one_flo (by simpa [Value.cells, cellsFloat] using hF 2 _ rfl) (hx 2 (by omega))
  obtain ⟨a2, rfl⟩ := one_flo (by simpa [Value.cells, cellsFloat] using hF 3 _ rfl) (hx 3 (by omega))
  obtain ⟨a3, rfl⟩ := one_flo (by simpa [Value.cells, cellsFloat] using hF 4 _ rfl) (hx 4 (by omega))
  obtain ⟨a4, rfl⟩ := one_flo (by simpa [Value.cells, cellsFloat] using hF 5 _ rfl) (hx 5 (by omega))
  obtain ⟨a5, rfl⟩ := one_flo (by simpa [Value.cells, cellsFloat] using hF 6 _ rfl) (hx 6 (by omega))
  obtain ⟨a6, rfl⟩ := one_flo (by simpa [Value.cells, cellsFloat] using hF 7 _ rfl) (hx 7 (by omega))
  obtain ⟨a7, rfl⟩ := one_flo (by simpa [Value.cells, cellsFloat] using hF 8 _ rfl) (hx 8 (by omega))
  obtain ⟨a8, rfl⟩ := one_flo (by simpa [Value.cells, cellsFloat] using hF 9 _ rfl) (hx 9 (by omega))
  obtain ⟨a9, rfl⟩ := one_flo (by simpa [Value.cells, cellsFloat] using hF 10 _ rfl) (hx 10 (by omega))
  obtain ⟨p, rfl⟩ := one_int (by simpa [Value.cells, cellsInt] using hF 11 _ rfl) (hx 11 (by omega))
  obtain ⟨q, rfl⟩ := one_int (by simpa [Value.cells, cellsInt] using hF 12 _ rfl) (hx 12 (by omega))
  exact ⟨⟨s, a0, a1, a2, a3, a4, a5, a6, a7, a8, a9, p, q⟩, rfl, hs⟩

theorem flat_mem {α β : Type} {f : α → List β} {m : Nat} (hf : ∀ x, (f x).length = m) {l : List α} {j : Nat} {u : β} (hu : (l.flatMap f)[j]? = some u) (hm : 0 < m) : ∃ k i, ∃ hk : k < l.length, i < m ∧ j = k * m + i ∧ (f l[k])[i]? = some u := by
  have hl : (l.flatMap f).length = l.length * m := by
    clear hu
    induction l with
    | nil => simp
    | cons x r ih => rw [List.flatMap_cons, List.length_append, ih, hf, List.length_cons, Nat.add_mul]; omega
  have hj : j < l.length * m := by
    have := (List.getElem?_eq_some_iff.1 hu).1
    omega
  have hk : j / m < l.length := (Nat.div_lt_iff_lt_mul hm).2 hj
  have hi : j % m < m := Nat.mod_lt _ hm
  have e : j = j / m * m + j % m := by rw [Nat.mul_comm]; exact (Nat.div_add_mod j m).symm
  refine ⟨j / m, j % m, hk, hi, e, ?_⟩
  rw [← flat_get hf hk hi, ← e]
  exact hu

theorem cell_lt {w : World} {a : Addr} {v : Value} (h : w.cell? a = some v) : a.block < w.heap.size := by
  by_cases hb : a.block < w.heap.size
  · exact hb
  · simp [World.cell?, Array.getElem?_eq_none (Nat.le_of_not_lt hb)] at h

set_option maxRecDepth 100000 in
theorem open_kinds {r : Reach} {b0 : Nat} {held : Bool} {v : Value} {d : DataW H} {ps : List MemPlace} (hv : Value.okWide Tryd.prog W r b0 22 v)
    (h : DataW.Trod enc Tryd.prog W base (fun _ => true) held 22 v d ps) (hsz : ∀ n ∈ d.weights Tryd.prog 22, n ≤ reachBytes) :
    ∃ (A : Option Addr) (n c : Nat) (l : List KindR), v = .slice A n c ∧ l.length = n ∧ Rd W A (kcells l) ∧ n ≤ c ∧ n ≤ 4000000000000 ∧ ∀ x ∈ l, x.s.size ≤ maxLen := by
  obtain ⟨a0, len0, cap0, rfl⟩ := okWide_slice Tryd.underlying22 hv
  obtain ⟨fuel, hf⟩ := h
  rcases open_slice Tryd.underlying22 hf with ⟨hc, hd⟩ | ⟨a, len, cap, m, n, D, Pl, hc, _, hl, _, hm, hd, hV⟩
  · simp [Value.cells] at hc
    obtain ⟨rfl, rfl, rfl⟩ := hc
    exact ⟨none, 0, 0, [], rfl, rfl, Rd.nil _ _, by omega, by omega, fun x hx => by cases hx⟩
  · simp [Value.cells] at hc
    obtain ⟨rfl, rfl, rfl⟩ := hc
    simp only [if_true] at hm
    subst hm
    simp only [Prod.mk.injEq] at hd
    obtain ⟨rfl, _⟩ := hd
    obtain ⟨f, hff⟩ := choose_lt (α := KindR) (n := len0) (p := fun i x => x.s.size ≤ maxLen ∧ ∀ j, j < 13 → W.cell? ((a.add (i * 13)).add j) = x.cells[j]?) (fun i hi => by
      obtain ⟨cs', h1, h2⟩ := hV i (by omega)
      rw [cellsKind] at h1
      obtain ⟨_, _, h3⟩ := World.cells?_some h1
      obtain ⟨x, rfl, hs⟩ := kind_of_trod h2
      exact ⟨x, hs, h3⟩)
    have hw : (len0 + (m - len0)) * 72 ≤ reachBytes := by
      refine hsz _ ?_
      simp [DataW.weights, Tryd.underlying22, bytesKind]
    refine ⟨some a, len0, m, (List.range len0).map f, rfl, by simp, ?_, hl, by simp only [reachBytes] at hw; omega, ?_⟩
    · intro hne
      have hpos : 0 < len0 := by
        rcases Nat.eq_zero_or_pos len0 with h | h
        · subst h; exact absurd rfl hne
        · exact h
      refine ⟨a, rfl, ?_, ?_⟩
      · have := cell_lt ((hff 0 hpos).2 0 (by omega))
        rw [add_add'] at this
        rwa [add_block] at this
      · intro j u hu
        obtain ⟨k, i, hk, hi, rfl, hu'⟩ := flat_mem (f := KindR.cells) (m := 13) (fun _ => rfl) hu (by omega)
        have hk' : k < len0 := by simpa using hk
        have h1 := (hff k hk').2 i hi
        rw [add_add'] at h1
        rw [h1]
        simpa using hu'
    · intro x hx
      obtain ⟨i, hi, rfl⟩ := List.mem_map.1 hx
      exact (hff i (List.mem_range.1 hi)).1
end

set_option maxRecDepth 100000 in
set_option maxHeartbeats 1600000 in
theorem kinds_lifted (os : Os) (started : os.Started) (H : Type) (enc : TypeId × Value → H) :
    ReturnsInHanded {} Tryd.checked os 3 .any (fun w args => (Rows.kindsMatchSpec.pre enc Tryd.prog Tryd.f3 Rows.kindsMatchRow.domain false w args ∧ laidMetH Tryd.prog Rows.kindsMatchRow.laid w) ∧ sizedMet enc Tryd.prog Tryd.f3 (OpenSpec.ofChange Rows.kindsMatchSpec) false w args)
      (Rows.kindsMatchSpec.post enc Tryd.prog Tryd.f3 false true false false) := by
  refine returnsInHanded_of_change_and (C := Tryd.checked) (X := fun w _ => laidMetH Tryd.prog Rows.kindsMatchRow.laid w) (fun _ _ _ hh h => h.of_heap hh) own started (by kernel_rfl) Tryd.func3
    (ChangeSpec.witness_shaped (enc := enc) (C := Tryd.checked) (os := os) (X := fun w _ => laidMetH Tryd.prog Rows.kindsMatchRow.laid w) false (World.laidAll Tryd.prog os Rows.kindsMatchRow.laid)
      #[.slice none 0 0] 8 (World.laidAll_os _ _ _)
      (World.shaped_of_ZipB (by kernel_rfl) (by kernel_rfl)) (by kernel_rfl) (by kernel_rfl) (by kernel_rfl)
      (by rw [MakeChecks.laidMetH_plain _ _ _ (by kernel_rfl)]; exact laidMet_laidAll _ (by kernel_rfl) (by kernel_rfl))) ?_
  intro W base args ds gs before hval0 hW _ hsz0 _ _
  have hsz : (DataW.weightsEach Tryd.prog (Tryd.f3.params.toList ++ Rows.kindsMatchSpec.plain.varTypes Tryd.prog) (ds ++ gs)).all (· ≤ reachBytes) = true := hsz0
  clear hsz0
  have hval : ∀ (j : Nat) t v, Tryd.f3.params[j]? = some t → args[j]? = some v → Value.okWide Tryd.prog W .any base t v := hval0
  have hW' := hW
  obtain ⟨p, q, hA0, hV, rfl, _, _⟩ := hW
  have hA : DataW.TrodAll enc Tryd.prog W 0 (fun _ => true) true Tryd.f3.params.toList args.toList ds p := hA0
  rw [Tryd.params3] at hA hval hsz
  obtain ⟨v0, d0, rfl, rfl, h0⟩ := trodAll_one hA
  obtain ⟨rfl, rfl⟩ := trodVars_none hV
  obtain ⟨Ad, n, c, l, rfl, hn, hr, hc, hb, hs⟩ := open_kinds (hval 0 22 v0 rfl rfl) h0 (fun n hn => by
    have := List.all_eq_true.1 hsz n (by simp [DataW.weightsEach, hn])
    simpa using this)
  clear hA0 hval0
  simp only [List.append_nil] at hW'
  have hlt : ∀ x ∈ p, x.block < W.heap.size := fun x hx => by simpa using hW'.lt x (by simpa using hx)
  refine (kinds_walk Ad n c l W hn hr hb hc (fun x hx => by have := hs x hx; unfold maxLen at this; omega)).mono fun e W' ⟨he, hx⟩ => ?_
  subst he
  refine ⟨_, rfl, _, _, _, [], p, [], hW', trodAll_mk1 (shut_bool Tryd.underlying4 _), ?_, rfl, Below.frame hx _, fun h => by cases h⟩
  exact trodAll_mk1 (Below.trod laidOut (by kernel_rfl) (of_decide_eq_true (by kernel_rfl)) h0 hx hlt)

theorem kinds_holds : Rows.KindsMatchSaid :=
  OpenClaim.holds_of_wide 3 Tryd.f3 rfl rfl rfl rfl rfl rfl rfl ⟨rfl, rfl, rfl, rfl, rfl⟩ rfl rfl rfl rfl rfl (by kernel_rfl) Tryd.func3 (by kernel_rfl)
    (of_decide_eq_true (by kernel_rfl)) (by unfold Func.isWrapper; first | (rw [if_pos (by decide +kernel)]; kernel_rfl) | (rw [if_neg (by decide +kernel)]; exact ⟨rfl, rfl⟩))
    (fun os started H enc _ => kinds_lifted os started H enc)

theorem kinds_card_holds : Rows.KindsMatchCardSaid :=
  Claim7.holds_tied_plain_at .later [] [.data, .pinned] true (true, "6ad05ff2cf147c80ec540ec5b2ee96b4b7079472e3f882c3a43dbe70cc4b1450") false kinds_holds (fun _ h => by cases h) (by kernel_rfl) (fun _ h => by cases h) kindsMatch_row_tie rfl ⟨rfl, rfl⟩ (by kernel_rfl) rfl
    (fun f fn hf hfn => by
      obtain rfl : f = 3 := Option.some.inj ((show Tryd.prog.funcNamed "tarnfell/tarnlaw2.KindsMatch" = some 3 by kernel_rfl).symm.trans hf) |>.symm
      obtain rfl : fn = Tryd.f3 := (Option.some.inj (Tryd.func3.symm.trans hfn)).symm
      exact ⟨by kernel_rfl, fun j t ht => by
        rw [Tryd.params3] at ht
        have hm : t ∈ [22] := by simpa using Array.mem_of_getElem? ht
        have hall : ([22].all fun u => !Tryd.prog.wantsStandIn u) = true := by kernel_rfl
        exact (show Tryd.prog.wantsStandIn t = false by simpa using List.all_eq_true.1 hall t hm)⟩)
    (by kernel_rfl)
end Go.Proofs.YtjkalnboijkikaaDoor
