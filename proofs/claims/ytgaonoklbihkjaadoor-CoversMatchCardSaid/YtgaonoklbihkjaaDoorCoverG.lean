/- CoversMatch: for every input the call returns true, and each argument reads afterwards as it read before; the package-level variables that the row lists hold what the program's text lays. No other condition is asked. -/
import Derived.Test.YtgaonoklbihkjaaDoorCoverF
import Derived.Test.YtgaonoklbihkjaaDoorOpenM
namespace Go.Proofs.YtgaonoklbihkjaaDoor
open Go.ChangeShapes Go.WideShapes Go.ChangeAt Go.RowKit Go.Joins Go.Deep

theorem covers_walk (X Y W H : Int) (A : Option Addr) (n c : Nat) (l : List KindR) (B : Option Addr) (m d : Nat) (p : List PlantR) (w : World) (hn : l.length = n) (hd : Rd w A (kcells l)) (hb : n ≤ 4000000000000) (hc : n ≤ c) (hsz : ∀ x ∈ l, x.s.size ≤ 9223372036854775807) (hm : p.length = m) (hp : Rd w B (pcells p)) (hbm : m ≤ 4000000000000) :
    Calls Tryd.prog 5 #[.agg #[.int .i64 X, .int .i64 Y, .int .i64 W, .int .i64 H], .slice A n c, .slice B m d] w fun e w' => e = .returned (.bool true) ∧ Ext w w' := by
  by_cases h0 : covE X Y W H l p = 0
  · have hr0 : regE X Y W H = 0 := Classical.byContradiction fun h => by
      unfold covE at h0
      rw [if_pos h] at h0
      exact h h0
    have hp0 : plantsE l p = 0 := by
      unfold covE at h0
      rwa [if_neg (fun h => h hr0)] at h0
    obtain ⟨Wn, Hn, rfl, rfl, hr⟩ := Reg.of_zero hr0
    exact covers_ok X Y Wn Hn hr A n c l B m d p w hn hd hb hc hsz hm hp hbm h0 hr0 hp0
  · exact covers_bad X Y W H A n c l B m d p w hn hd hb hc hsz hm hp hbm h0

set_option maxRecDepth 100000 in
set_option maxHeartbeats 1600000 in
theorem coversMatch_lifted (os : Os) (started : os.Started) (H : Type) (enc : TypeId × Value → H) :
    ReturnsInHanded {} Tryd.checked os 5 .any (fun w args => (Rows.coversMatchSpec.pre enc Tryd.prog Tryd.f5 Rows.coversMatchRow.domain false w args ∧ laidMetH Tryd.prog Rows.coversMatchRow.laid w) ∧ sizedMet enc Tryd.prog Tryd.f5 (OpenSpec.ofChange Rows.coversMatchSpec) false w args)
      (Rows.coversMatchSpec.post enc Tryd.prog Tryd.f5 false true false false) := by
  refine returnsInHanded_of_change_and (C := Tryd.checked) (X := fun w _ => laidMetH Tryd.prog Rows.coversMatchRow.laid w) (fun _ _ _ hh h => h.of_heap hh) own started (by kernel_rfl) Tryd.func5
    (ChangeSpec.witness_shaped (enc := enc) (C := Tryd.checked) (os := os) (X := fun w _ => laidMetH Tryd.prog Rows.coversMatchRow.laid w) false (World.laidAll Tryd.prog os Rows.coversMatchRow.laid)
      #[.agg #[.int .i64 0, .int .i64 0, .int .i64 0, .int .i64 0], .slice none 0 0, .slice none 0 0] 8 (World.laidAll_os _ _ _)
      (World.shaped_of_ZipB (by kernel_rfl) (by kernel_rfl)) (by kernel_rfl) (by kernel_rfl) (by kernel_rfl)
      (by rw [MakeChecks.laidMetH_plain _ _ _ (by kernel_rfl)]; exact laidMet_laidAll _ (by kernel_rfl) (by kernel_rfl))) ?_
  intro W base args ds gs before hval0 hW _ hsz0 _ _
  have hsz : (DataW.weightsEach Tryd.prog (Tryd.f5.params.toList ++ Rows.coversMatchSpec.plain.varTypes Tryd.prog) (ds ++ gs)).all (· ≤ reachBytes) = true := hsz0
  clear hsz0
  have hval : ∀ (j : Nat) t v, Tryd.f5.params[j]? = some t → args[j]? = some v → Value.okWide Tryd.prog W .any base t v := hval0
  have hW' := hW
  obtain ⟨p, q, hA0, hV, rfl, _, _⟩ := hW
  have hA : DataW.TrodAll enc Tryd.prog W 0 (fun _ => true) true Tryd.f5.params.toList args.toList ds p := hA0
  rw [Tryd.params5] at hA hval hsz
  obtain ⟨v0, vs0, d0, ds0, p0, q0, e0, rfl, rfl, h0, g0⟩ := trodAll_cons hA
  obtain ⟨v1, vs1, d1, ds1, p1, q1, rfl, rfl, rfl, h1, g1⟩ := trodAll_cons g0
  obtain ⟨v2, vs2, d2, ds2, p2, q2, rfl, rfl, rfl, h2, g2⟩ := trodAll_cons g1
  obtain ⟨rfl, rfl, rfl⟩ := trodAll_nil g2
  obtain ⟨L⟩ := args
  obtain rfl : L = [v0, v1, v2] := by simpa using e0
  obtain ⟨rfl, rfl⟩ := trodVars_none hV
  obtain ⟨x0, y0, w0, u0, rfl⟩ := open_region (hval 0 52 v0 rfl rfl) h0
  obtain ⟨A1, n1, c1, l1, rfl, hn1, hr1, hc1, hb1, hs1⟩ := open_kinds (hval 1 22 v1 rfl rfl) h1 (fun n hn => by
    have := List.all_eq_true.1 hsz n (by simp [DataW.weightsEach, hn])
    simpa using this)
  obtain ⟨A2, n2, c2, l2, rfl, hn2, hr2, hc2, hb2⟩ := open_plants (hval 2 23 v2 rfl rfl) h2 (fun n hn => by
    have := List.all_eq_true.1 hsz n (by simp [DataW.weightsEach, hn])
    simpa using this)
  clear hA0 hval0
  simp only [List.append_nil] at hW'
  have hlt : ∀ x ∈ p0 ++ p1 ++ p2, x.block < W.heap.size := fun x hx => by simpa using hW'.lt x (by simpa using hx)
  refine (covers_walk x0 y0 w0 u0 A1 n1 c1 l1 A2 n2 c2 l2 W hn1 hr1 hb1 hc1 (fun x hx => by have := hs1 x hx; unfold maxLen at this; omega) hn2 hr2 hb2).mono fun e W' ⟨he, hx⟩ => ?_
  subst he
  refine ⟨_, rfl, _, _, _, [], p0 ++ (p1 ++ (p2)), [], hW', trodAll_mk1 (shut_bool Tryd.underlying4 _), ?_, rfl, Below.frame hx _, fun h => by cases h⟩
  refine trodAll_mk3 (Below.trod laidOut (by kernel_rfl) (of_decide_eq_true (by kernel_rfl)) h0 hx ?_) (Below.trod laidOut (by kernel_rfl) (of_decide_eq_true (by kernel_rfl)) h1 hx ?_) (Below.trod laidOut (by kernel_rfl) (of_decide_eq_true (by kernel_rfl)) h2 hx ?_)
  · exact fun x hx => hlt x (by simp [hx])
  · exact fun x hx => hlt x (by simp [hx])
  · exact fun x hx => hlt x (by simp [hx])

theorem coversMatch_holds : Rows.CoversMatchSaid :=
  OpenClaim.holds_of_wide 5 Tryd.f5 rfl rfl rfl rfl rfl rfl rfl ⟨rfl, rfl, rfl, rfl, rfl⟩ rfl rfl rfl rfl rfl (by kernel_rfl) Tryd.func5 (by kernel_rfl)
    (of_decide_eq_true (by kernel_rfl)) (by unfold Func.isWrapper; first | (rw [if_pos (by decide +kernel)]; kernel_rfl) | (rw [if_neg (by decide +kernel)]; exact ⟨rfl, rfl⟩))
    (fun os started H enc _ => coversMatch_lifted os started H enc)

theorem coversMatch_card_holds : Rows.CoversMatchCardSaid :=
  Claim7.holds_tied_plain_at .later [] [.data, .pinned] true (true, "1a70f3ab7b235ed31e98457aec3c50d5ad54e4c0426dd986fcf2a315b8ec8953") false coversMatch_holds (fun _ h => by cases h) (by kernel_rfl) (fun _ h => by cases h) coversMatch_row_tie rfl ⟨rfl, rfl⟩ (by kernel_rfl) rfl
    (fun f fn hf hfn => by
      obtain rfl : f = 5 := Option.some.inj ((show Tryd.prog.funcNamed "tarnfell/tarnlaw2.CoversMatch" = some 5 by kernel_rfl).symm.trans hf) |>.symm
      obtain rfl : fn = Tryd.f5 := (Option.some.inj (Tryd.func5.symm.trans hfn)).symm
      exact ⟨by kernel_rfl, fun j t ht => by
        rw [Tryd.params5] at ht
        have hm : t ∈ [52, 22, 23] := by
          have := Array.mem_of_getElem? ht
          simp at this
          simp
          omega
        have hall : ([52, 22, 23].all fun u => !Tryd.prog.wantsStandIn u) = true := by kernel_rfl
        exact (show Tryd.prog.wantsStandIn t = false by simpa using List.all_eq_true.1 hall t hm)⟩)
    (by kernel_rfl)
end Go.Proofs.YtgaonoklbihkjaaDoor
