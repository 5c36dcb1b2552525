/- GroundsMatch: for every input the call returns true, and each argument reads afterwards as it read before; the package-level variables that the row lists hold what the program's text lays. No other condition is asked. -/
import Derived.Test.YtjkalnboijkikaaDoorGroundK
import Derived.Test.YtjkalnboijkikaaDoorGroundL
import Derived.Test.YtjkalnboijkikaaDoorOpenP
namespace Go.Proofs.YtjkalnboijkikaaDoor
open Go.ChangeShapes Go.WideShapes Go.ChangeAt Go.RowKit Go.Joins Go.Deep

theorem two_same {X Y W H X' Y' W' H' : Int} {l l' : List Nat} (h : twoE X Y W H l X' Y' W' H' l' = 0) : X = X' ∧ Y = Y' ∧ W = W' ∧ H = H' := by
  unfold twoE at h
  by_cases hc : X = X' ∧ Y = Y' ∧ W = W' ∧ H = H'
  · exact hc
  · rw [if_neg hc] at h
    simp only [firstE] at h
    repeat' split at h
    all_goals omega

theorem grounds_walk (s : ByteArray) (a0 a1 a2 a3 a4 a5 a6 a7 a8 a9 : Nat) (p q X Y W H X' Y' W' H' x y : Int) (A A' : Option Addr) (n c n' c' : Nat) (l l' : List Nat) (w : World) (hs : s.size ≤ 9223372036854775807) (hn : l.length = n) (hn' : l'.length = n') (hd : Rd w A (flt l)) (hd' : Rd w A' (flt l')) (hb : n ≤ 140737488351232) (hb' : n' ≤ 140737488351232) :
    Calls Tryd.prog 5 #[.agg #[.int .i64 X, .int .i64 Y, .int .i64 W, .int .i64 H, .slice A n c], .agg #[.int .i64 X', .int .i64 Y', .int .i64 W', .int .i64 H', .slice A' n' c'], .agg #[.string s, .float .f32 a0, .float .f32 a1, .float .f32 a2, .float .f32 a3, .float .f32 a4, .float .f32 a5, .float .f32 a6, .float .f32 a7, .float .f32 a8, .float .f32 a9, .int .i64 p, .int .i64 q], .int .i64 x, .int .i64 y] w fun e w' => e = .returned (.bool true) ∧ Ext w w' := by
  by_cases ht : twoE X Y W H l X' Y' W' H' l' = 0
  · obtain ⟨rfl, rfl, rfl, rfl⟩ := two_same ht
    have key : ∀ (g0 g1 g2 : Nat) (ge : Int), (∀ w', Rd w' A (flt l) → Rd w' A' (flt l') → Calls Tryd.prog 19 #[.agg #[.int .i64 X, .int .i64 Y, .int .i64 W, .int .i64 H, .slice A n c], .agg #[.int .i64 X, .int .i64 Y, .int .i64 W, .int .i64 H, .slice A' n' c'], .int .i64 x, .int .i64 y] w' fun e w'' => e = .returned (.tuple #[.agg #[.float .f32 g0, .float .f32 g1, .float .f32 g2], .int .i64 ge]) ∧ Ext w' w'') →
        ((¬ InR X Y W H x y ∧ ge = 5 ∧ g0 = 0 ∧ g1 = 0 ∧ g2 = 0) ∨ (InR X Y W H x y ∧ ((hgtB (slopeK X Y W H l x y 4) = false ∧ ge = 3 ∧ g0 = 0 ∧ g1 = 0 ∧ g2 = 0) ∨ (hgtB (slopeK X Y W H l x y 4) = true ∧ ge = 0 ∧ g0 = valAt X Y W l (x, y) ∧ g1 = slopeK X Y W H l x y 4 ∧ g2 = wetF (valAt X Y W l' (x, y)))))) →
        Calls Tryd.prog 5 #[.agg #[.int .i64 X, .int .i64 Y, .int .i64 W, .int .i64 H, .slice A n c], .agg #[.int .i64 X, .int .i64 Y, .int .i64 W, .int .i64 H, .slice A' n' c'], .agg #[.string s, .float .f32 a0, .float .f32 a1, .float .f32 a2, .float .f32 a3, .float .f32 a4, .float .f32 a5, .float .f32 a6, .float .f32 a7, .float .f32 a8, .float .f32 a9, .int .i64 p, .int .i64 q], .int .i64 x, .int .i64 y] w fun e w' => e = .returned (.bool true) ∧ Ext w w' := by
      intro g0 g1 g2 ge hG hC
      by_cases hk : kindE s a0 a1 a2 a3 a4 a5 a6 a7 a8 a9 p q = 0
      · exact grounds_ok s a0 a1 a2 a3 a4 a5 a6 a7 a8 a9 g0 g1 g2 ge p q X Y W H x y A A' n c n' c' l l' w hs hn hn' hd hd' hb hb' ht hk hG hC
      · exact grounds_kind s a0 a1 a2 a3 a4 a5 a6 a7 a8 a9 g0 g1 g2 ge p q X Y W H x y A A' n c n' c' l l' w hs hn hn' hd hd' hb hb' ht hk hG hC
    by_cases hi : InR X Y W H x y
    · cases hh : hgtB (slopeK X Y W H l x y 4)
      · exact key 0 0 0 3 (fun w' h1 h2 => Ground_steep X Y W H x y A A' n c n' c' l l' w' hn hn' h1 h2 hb hb' ht hi hh) (.inr ⟨hi, .inl ⟨hh, rfl, rfl, rfl, rfl⟩⟩)
      · exact key _ _ _ 0 (fun w' h1 h2 => Ground_ok X Y W H x y A A' n c n' c' l l' w' hn hn' h1 h2 hb hb' ht hi hh) (.inr ⟨hi, .inr ⟨hh, rfl, rfl, rfl, rfl⟩⟩)
    · exact key 0 0 0 5 (fun w' h1 h2 => Ground_out X Y W H x y A A' n c n' c' l l' w' hn hn' h1 h2 hb hb' ht hi) (.inl ⟨hi, rfl, rfl, rfl, rfl⟩)
  · exact grounds_bad s a0 a1 a2 a3 a4 a5 a6 a7 a8 a9 p q X Y W H X' Y' W' H' x y A A' n c n' c' l l' w hn hn' hd hd' hb hb' ht

set_option maxRecDepth 100000 in
set_option maxHeartbeats 1600000 in
theorem grounds_lifted (os : Os) (started : os.Started) (H : Type) (enc : TypeId × Value → H) :
    ReturnsInHanded {} Tryd.checked os 5 .any (fun w args => (Rows.groundsMatchSpec.pre enc Tryd.prog Tryd.f5 Rows.groundsMatchRow.domain false w args ∧ laidMetH Tryd.prog Rows.groundsMatchRow.laid w) ∧ sizedMet enc Tryd.prog Tryd.f5 (OpenSpec.ofChange Rows.groundsMatchSpec) false w args)
      (Rows.groundsMatchSpec.post enc Tryd.prog Tryd.f5 false true false false) := by
  refine returnsInHanded_of_change_and (C := Tryd.checked) (X := fun w _ => laidMetH Tryd.prog Rows.groundsMatchRow.laid w) (fun _ _ _ hh h => h.of_heap hh) own started (by kernel_rfl) Tryd.func5
    (ChangeSpec.witness_shaped (enc := enc) (C := Tryd.checked) (os := os) (X := fun w _ => laidMetH Tryd.prog Rows.groundsMatchRow.laid w) false (World.laidAll Tryd.prog os Rows.groundsMatchRow.laid)
      #[.agg #[.int .i64 0, .int .i64 0, .int .i64 0, .int .i64 0, .slice none 0 0], .agg #[.int .i64 0, .int .i64 0, .int .i64 0, .int .i64 0, .slice none 0 0], .agg #[.string ⟨#[]⟩, .float .f32 0, .float .f32 0, .float .f32 0, .float .f32 0, .float .f32 0, .float .f32 0, .float .f32 0, .float .f32 0, .float .f32 0, .float .f32 0, .int .i64 0, .int .i64 0], .int .i64 0, .int .i64 0] 8 (World.laidAll_os _ _ _)
      (World.shaped_of_ZipB (by kernel_rfl) (by kernel_rfl)) (by kernel_rfl) (by kernel_rfl) (by kernel_rfl)
      (by rw [MakeChecks.laidMetH_plain _ _ _ (by kernel_rfl)]; exact laidMet_laidAll _ (by kernel_rfl) (by kernel_rfl))) ?_
  intro W base args ds gs before hval0 hW _ hsz0 _ _
  have hsz : (DataW.weightsEach Tryd.prog (Tryd.f5.params.toList ++ Rows.groundsMatchSpec.plain.varTypes Tryd.prog) (ds ++ gs)).all (· ≤ reachBytes) = true := hsz0
  clear hsz0
  have hval : ∀ (j : Nat) t v, Tryd.f5.params[j]? = some t → args[j]? = some v → Value.okWide Tryd.prog W .any base t v := hval0
  have hW' := hW
  obtain ⟨p, q, hA0, hV, rfl, _, _⟩ := hW
  have hA : DataW.TrodAll enc Tryd.prog W 0 (fun _ => true) true Tryd.f5.params.toList args.toList ds p := hA0
  rw [Tryd.params5] at hA hval hsz
  obtain ⟨v0, vs0, d0, ds0, p0, q0, e0, rfl, rfl, h0, g0⟩ := trodAll_cons hA
  obtain ⟨v1, vs1, d1, ds1, p1, q1, rfl, rfl, rfl, h1, g1⟩ := trodAll_cons g0
  obtain ⟨v2, vs2, d2, ds2, p2, q2, rfl, rfl, rfl, h2, g2⟩ := trodAll_cons g1
  obtain ⟨v3, vs3, d3, ds3, p3, q3, rfl, rfl, rfl, h3, g3⟩ := trodAll_cons g2
  obtain ⟨v4, vs4, d4, ds4, p4, q4, rfl, rfl, rfl, h4, g4⟩ := trodAll_cons g3
  obtain ⟨rfl, rfl, rfl⟩ := trodAll_nil g4
  obtain ⟨L⟩ := args
  obtain rfl : L = [v0, v1, v2, v3, v4] := by simpa using e0
  obtain ⟨rfl, rfl⟩ := trodVars_none hV
  obtain ⟨X, Y, K, J, A, n, c, l, rfl, hl, hr, hb⟩ := open_field (hval 0 47 v0 rfl rfl) h0 (fun n hn => by
    have := List.all_eq_true.1 hsz n (by simp [DataW.weightsEach, hn])
    simpa using this)
  obtain ⟨X', Y', K', J', A', n', c', l', rfl, hl', hr', hb'⟩ := open_field (hval 1 47 v1 rfl rfl) h1 (fun n hn => by
    have := List.all_eq_true.1 hsz n (by simp [DataW.weightsEach, hn])
    simpa using this)
  obtain ⟨s, a0, a1, a2, a3, a4, a5, a6, a7, a8, a9, pp, qq, rfl, hs⟩ := open_kind (hval 2 28 v2 rfl rfl) h2
  obtain ⟨x, rfl, rfl, rfl, _⟩ := open_int Tryd.underlying3 (hval 3 3 v3 rfl rfl) h3
  obtain ⟨y, rfl, rfl, rfl, _⟩ := open_int Tryd.underlying3 (hval 4 3 v4 rfl rfl) h4
  clear hA0 hval0
  simp only [List.append_nil] at hW'
  have hlt : ∀ x ∈ p0 ++ (p1 ++ p2), x.block < W.heap.size := fun x hx => by simpa using hW'.lt x (by simpa using hx)
  refine (grounds_walk s a0 a1 a2 a3 a4 a5 a6 a7 a8 a9 pp qq X Y K J X' Y' K' J' x y A A' n c n' c' l l' W (by unfold maxLen at hs; omega) hl hl' hr hr' hb hb').mono fun e W' ⟨he, hx⟩ => ?_
  subst he
  refine ⟨_, rfl, _, _, _, [], p0 ++ (p1 ++ (p2 ++ ([] ++ ([] ++ [])))), [], hW', trodAll_mk1 (shut_bool Tryd.underlying4 _), ?_, rfl, Below.frame hx _, fun h => by cases h⟩
  refine trodAll_cons_mk (Below.trod laidOut (by kernel_rfl) (of_decide_eq_true (by kernel_rfl)) h0 hx ?_) (trodAll_cons_mk (Below.trod laidOut (by kernel_rfl) (of_decide_eq_true (by kernel_rfl)) h1 hx ?_) (trodAll_mk3 (Below.trod laidOut (by kernel_rfl) (of_decide_eq_true (by kernel_rfl)) h2 hx ?_) (Below.trod laidOut (by kernel_rfl) (of_decide_eq_true (by kernel_rfl)) h3 hx ?_) (Below.trod laidOut (by kernel_rfl) (of_decide_eq_true (by kernel_rfl)) h4 hx ?_)))
  · exact fun x hx => hlt x (by simp [hx])
  · exact fun x hx => hlt x (by simp [hx])
  · exact fun x hx => hlt x (by simp [hx])
  · exact fun x hx => by cases hx
  · exact fun x hx => by cases hx

theorem grounds_holds : Rows.GroundsMatchSaid :=
  OpenClaim.holds_of_wide 5 Tryd.f5 rfl rfl rfl rfl rfl rfl rfl ⟨rfl, rfl, rfl, rfl, rfl⟩ rfl rfl rfl rfl rfl (by kernel_rfl) Tryd.func5 (by kernel_rfl)
    (of_decide_eq_true (by kernel_rfl)) (by unfold Func.isWrapper; first | (rw [if_pos (by decide +kernel)]; kernel_rfl) | (rw [if_neg (by decide +kernel)]; exact ⟨rfl, rfl⟩))
    (fun os started H enc _ => grounds_lifted os started H enc)

theorem grounds_card_holds : Rows.GroundsMatchCardSaid :=
  Claim7.holds_tied_plain_at .later [] [.data, .pinned] true (true, "6ad05ff2cf147c80ec540ec5b2ee96b4b7079472e3f882c3a43dbe70cc4b1450") false grounds_holds (fun _ h => by cases h) (by kernel_rfl) (fun _ h => by cases h) groundsMatch_row_tie rfl ⟨rfl, rfl⟩ (by kernel_rfl) rfl
    (fun f fn hf hfn => by
      obtain rfl : f = 5 := Option.some.inj ((show Tryd.prog.funcNamed "tarnfell/tarnlaw2.GroundsMatch" = some 5 by kernel_rfl).symm.trans hf) |>.symm
      obtain rfl : fn = Tryd.f5 := (Option.some.inj (Tryd.func5.symm.trans hfn)).symm
      exact ⟨by kernel_rfl, fun j t ht => by
        rw [Tryd.params5] at ht
        have hm : t ∈ [47, 28, 3] := by
          have := Array.mem_of_getElem? ht
          simp at this
          simp
          omega
        have hall : ([47, 28, 3].all fun u => !Tryd.prog.wantsStandIn u) = true := by kernel_rfl
        exact (show Tryd.prog.wantsStandIn t = false by simpa using List.all_eq_true.1 hall t hm)⟩)
    (by kernel_rfl)
end Go.Proofs.YtjkalnboijkikaaDoor
