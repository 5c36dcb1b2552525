/- PlantsThin: for every input the call returns true, and each argument reads afterwards as it read before; the package-level variables that the row lists hold what the program's text lays. No other condition is asked. -/
import Derived.Test.YtgaonoklbihkjaaDoorThinG
import Derived.Test.YtgaonoklbihkjaaDoorPlantsE
import Derived.BigQuiet
import Derived.Test.YtgaonoklbihkjaaDoorOpenK
namespace Go.Proofs.YtgaonoklbihkjaaDoor
open Go.RowKit
attribute [local go_sem ↓] Go.wp_at_zero Go.wp_at_succ
attribute [local go_sem] run_store_float

theorem behind_ahead {a b : PlantR} (h : behindB (some a) b = false) : ltP a b = true := by
  rw [ltP_ahead]
  simpa [behindB] using h
theorem scan_rises {l : List KindR} : ∀ {p : List PlantR} {a : PlantR}, scanP l (some a) p = 0 → Rises (a :: p)
  | [], a, _ => List.pairwise_singleton _ _
  | x :: r, a, h => by
    unfold scanP at h
    split at h
    · rename_i h1
      exact absurd h h1
    · split at h
      · cases h
      · rename_i h2
        have h3 : behindB (some a) x = false := by simpa using h2
        have h4 := behind_ahead h3
        have ih : Rises (x :: r) := scan_rises h
        refine List.pairwise_cons.2 ⟨fun y hy => ?_, ih⟩
        rcases List.mem_cons.1 hy with rfl | hy
        · exact h4
        · exact ltP_trans h4 ((List.pairwise_cons.1 ih).1 y hy)
theorem rises_zero {l : List KindR} {p : List PlantR} (h : plantsE l p = 0) : Rises p := by
  unfold plantsE at h
  split at h
  · rename_i h1
    exact absurd h h1
  · split at h
    · cases h
    · cases p with
      | nil => exact List.Pairwise.nil
      | cons x r =>
        unfold scanP at h
        split at h
        · rename_i h1
          exact absurd h h1
        · split at h
          · cases h
          · exact scan_rises h
theorem run_equalIn_floP (w : World) (d : Nat) (a b : Nat) : (Op.equalIn (d + 1) 24 (.float .f32 a) (.float .f32 b)).run Tryd.prog w = .ok (FloatKind.f32.format.order a b == some .eq) w := by
  simp [Op.equalIn, run_underlying Tryd.underlying24]; rfl
attribute [local go_sem] run_equalIn_floP
theorem ord_self20 {b : Nat} (h : Bd 20 b) : (FloatKind.f32.format.order b b == some .eq) = true := by
  obtain ⟨s, m, k, e, _⟩ := read_bd h (by omega)
  have h1 := ord_val e e
  have h2 : FloatKind.f32.format.order b b = ord b b := rfl
  rw [h2, h1, Int.compare_eq_eq.2 rfl]
  rfl
set_option maxRecDepth 100000 in
set_option maxHeartbeats 1600000 in
theorem eqPl_same (A B : Option Addr) (n c d : Nat) (p : List PlantR) (w : World) (hn : p.length = n) (ha : Rd w A (pcells p)) (hb : Rd w B (pcells p)) (hnb : n ≤ 4000000) (hs : ∀ a ∈ p, Bd 20 a.size) :
    Calls Tryd.prog 31 #[.slice A n c, .slice B n d] w fun e w' => e = .returned (.bool true) ∧ Ext w w' := by
  have Hs := hidA hs
  have Hn := hidA hn
  clear hs hn
  go_enter Tryd.func31, Tryd.ntmps31
  go_wp2
  go_loopw [13] (fun i wr => ∃ k m : Nat, k ≤ n ∧ i = .int .i64 k ∧ wr = w.drewN m) (fun i _ => n - (intOf i).toNat)
  case atStart => exact ⟨0, 0, Nat.zero_le _, rfl, rfl⟩
  case round =>
    obtain ⟨k, m, hk, rfl, rfl⟩ := hrel
    by_cases hlt : k < n
    · have hkp : k < p.length := by rw [Hn.out]; exact hlt
      have f1 := ord_self20 (Hs.out _ (List.getElem_mem hkp))
      obtain ⟨ad, rfl, hba, _⟩ := ha.at (k := k) (by rw [pcells_length]; omega)
      obtain ⟨bd, rfl, hbb, _⟩ := hb.at (k := k) (by rw [pcells_length]; omega)
      obtain ⟨c0, c1, c2, c3, c4⟩ := ha.plant hkp
      obtain ⟨d0, d1, d2, d3, d4⟩ := hb.plant hkp
      generalize p[k] = x at *
      obtain ⟨kd, px, py, sz, ag⟩ := x
      dsimp only at c0 c1 c2 c3 c4 d0 d1 d2 d3 d4 f1
      have k0 : (0 : Int) ≤ k := by omega
      have k1 : (k : Int) < n := by omega
      go_wp2
      go_quiet (fail)
      go_wp2
      go_roundw
      case rel => exact ⟨k + 1, _, by omega, by go_num, rfl⟩
      case measure => simp [intOf]; omega
    · obtain rfl : k = n := by omega
      go_wp2
      go_ret
      exact ⟨rfl, (by repeat (first | exact Ext.refl _ | assumption | refine Ext.setCell ?_ (by first | (simp; done) | (simp; omega)) _ | refine Ext.drewN ?_ _ | refine Ext.alloc ?_ _ | refine Ext.drew ?_ | refine Ext.trans ?_ (by assumption)))⟩

set_option maxRecDepth 100000 in
set_option maxHeartbeats 1600000 in
theorem Apart_bad (A : Option Addr) (n c : Nat) (l : List KindR) (B : Option Addr) (m d : Nat) (p : List PlantR) (w : World) (hn : l.length = n) (hd : Rd w A (kcells l)) (hb : n ≤ 4000000000000) (hc : n ≤ c) (hsz : ∀ x ∈ l, x.s.size ≤ 9223372036854775807) (hm : p.length = m) (hp : Rd w B (pcells p)) (hbm : m ≤ 4000000000000) (h0 : plantsE l p ≠ 0) :
    Calls Tryd.prog 29 #[.slice A n c, .slice B m d] w fun e w' => e = .returned (.tuple #[.slice none 0 0, .int .i64 (plantsE l p)]) ∧ Ext w w' := by
  have HC := fun (w : World) (hd : Rd w A (kcells l)) (hp : Rd w B (pcells p)) => hidA (checkPlants_any A n c l B m d p w hn hd hb hc hsz hm hp hbm)
  have b0 : (plantsE l p != 0) = true := by simpa using h0
  generalize plantsE l p = e at *
  clear h0 hn hm hsz
  go_enter Tryd.func29, Tryd.ntmps29
  go_wp2_with fail
  refine ((HC _ hd hp).out).mono ?_
  rintro e w1 ⟨rfl, hb1⟩
  go_wp2
  go_ret2
  exact ⟨rfl, (by repeat (first | exact Ext.refl _ | assumption | refine Ext.setCell ?_ (by first | (simp; done) | (simp; omega)) _ | refine Ext.drewN ?_ _ | refine Ext.alloc ?_ _ | refine Ext.drew ?_ | refine Ext.trans ?_ (by assumption)))⟩
set_option maxRecDepth 100000 in
set_option maxHeartbeats 1600000 in
theorem Apart_ok (A : Option Addr) (n c : Nat) (l : List KindR) (B : Option Addr) (m d : Nat) (p : List PlantR) (w : World) (hn : l.length = n) (hd : Rd w A (kcells l)) (hb : n ≤ 4000000000000) (hc : n ≤ c) (hsz : ∀ x ∈ l, x.s.size ≤ 9223372036854775807) (hm : p.length = m) (hp : Rd w B (pcells p)) (hbm : m ≤ 4000000000000) (h0 : plantsE l p = 0) (o : List PlantR) (hS : Stood p o) :
    Calls Tryd.prog 29 #[.slice A n c, .slice B m d] w fun e w' => ∃ v, e = .returned (.tuple #[v, .int .i64 0]) ∧ OwnP w' w.heap.size v (restP l p o) ∧ Ext w w' := by
  obtain ⟨hks, hlen, he⟩ := plantsE_zero h0
  obtain ⟨_, _, hl⟩ := kindsE_zero hks
  have hr := rises_zero h0
  have HC := fun (w : World) (hd : Rd w A (kcells l)) (hp : Rd w B (pcells p)) => hidA (checkPlants_any A n c l B m d p w hn hd hb hc hsz hm hp hbm)
  have HA := fun (w : World) (hd : Rd w A (kcells l)) (hp : Rd w B (pcells p)) => hidA (apart_any A n c l B m d p o w hn hd hl hm hp he (by omega) hr hS)
  rw [h0] at HC
  clear h0 hn hm hsz hks he hl hr hS
  go_enter Tryd.func29, Tryd.ntmps29
  go_wp2_with fail
  refine ((HC _ hd hp).out).mono ?_
  rintro e w1 ⟨rfl, hb1⟩
  go_wp2_with fail
  refine ((HA _ (hd.ext hb1) (hp.ext hb1)).out).mono ?_
  rintro e w2 ⟨v, rfl, hO, hb2⟩
  go_wp2
  go_ret2
  exact ⟨v, rfl, hO.base hb1.size, (by repeat (first | exact Ext.refl _ | assumption | refine Ext.setCell ?_ (by first | (simp; done) | (simp; omega)) _ | refine Ext.drewN ?_ _ | refine Ext.alloc ?_ _ | refine Ext.drew ?_ | refine Ext.trans ?_ (by assumption)))⟩

set_option maxRecDepth 100000 in
set_option maxHeartbeats 3200000 in
theorem thin_walk (A : Option Addr) (n c : Nat) (l : List KindR) (B : Option Addr) (m d : Nat) (p : List PlantR) (w : World) (hn : l.length = n) (hd : Rd w A (kcells l)) (hb : n ≤ 4000000000000) (hc : n ≤ c) (hsz : ∀ x ∈ l, x.s.size ≤ 9223372036854775807) (hm : p.length = m) (hp : Rd w B (pcells p)) (hbm : m ≤ 4000000000000) :
    Calls Tryd.prog 7 #[.slice A n c, .slice B m d] w fun e w' => e = .returned (.bool true) ∧ Ext w w' := by
  have HP := fun (w : World) (hd : Rd w A (kcells l)) (hp : Rd w B (pcells p)) => hidA (plantsError_any A n c l B m d p w hn hd hb hc hsz hm hp hbm)
  have HC := fun (w : World) (hd : Rd w A (kcells l)) (hp : Rd w B (pcells p)) => hidA (checkPlants_any A n c l B m d p w hn hd hb hc hsz hm hp hbm)
  have HG := fun (w : World) => hidA (grows_any w)
  by_cases h0 : plantsE l p = 0
  · obtain ⟨o, hS⟩ := stood_ex p
    obtain ⟨hks, hlen, he⟩ := plantsE_zero h0
    obtain ⟨_, _, hl⟩ := kindsE_zero hks
    have hr := rises_zero h0
    have HA := fun (w : World) (hd : Rd w A (kcells l)) (hp : Rd w B (pcells p)) => hidA (Apart_ok A n c l B m d p w hn hd hb hc hsz hm hp hbm h0 o hS)
    have HT := fun (w : World) (hd : Rd w A (kcells l)) (hp : Rd w B (pcells p)) => hidA (ThinnedOf_any A n c l B m d p o w hn hd hl hm hp he (by omega) hr hS)
    have hsz2 : ∀ a ∈ restP l p o, Bd 20 a.size := fun a ha => (plant_good (he a (List.mem_filter.1 ha).1) hl).choose_spec.choose_spec.2.2.2.2.2
    have hrl : (restP l p o).length ≤ 4000 := Nat.le_trans (List.length_filter_le _ _) hlen
    have HE := fun (A B : Option Addr) (c d : Nat) (w : World) (ha : Rd w A (pcells (restP l p o))) (hb : Rd w B (pcells (restP l p o))) => hidA (eqPl_same A B _ c d (restP l p o) w rfl ha hb (by omega) hsz2)
    rw [h0] at HP HC
    clear h0 hks he hl hr hS hn hm hsz hsz2 hrl hlen
    generalize restP l p o = q at *
    go_enter Tryd.func7, Tryd.ntmps7
    go_wp2_with fail
    refine ((HP _ hd hp).out).mono ?_
    rintro e w1 ⟨rfl, hb1⟩
    have hd1 := hd.ext hb1
    have hp1 := hp.ext hb1
    go_wp2_with fail
    refine ((HA _ hd1 hp1).out).mono ?_
    rintro e w2 ⟨v, rfl, hO, hb2⟩
    have hd2 := hd1.ext hb2
    have hp2 := hp1.ext hb2
    obtain ⟨A2, c2, rfl⟩ := hO.form
    clear HP HA
    go_wp2_with fail
    refine ((HG _).out).mono ?_
    rintro e w3 ⟨rfl, hb3⟩
    have hd3 := hd2.ext hb3
    have hp3 := hp2.ext hb3
    go_wp2_with fail
    refine ((HC _ hd3 hp3).out).mono ?_
    rintro e w4 ⟨rfl, hb4⟩
    have hd4 := hd3.ext hb4
    have hp4 := hp3.ext hb4
    have hO4 := (hO.ext hb3).ext hb4
    by_cases hbig : (60 : Int) < m
    · go_wp2_with fail
      go_ret
      exact ⟨by first | rfl | simp, (by repeat (first | exact Ext.refl _ | assumption | refine Ext.setCell ?_ (by first | (simp; done) | (simp; omega)) _ | refine Ext.drewN ?_ _ | refine Ext.alloc ?_ _ | refine Ext.drew ?_ | refine Ext.trans ?_ (by assumption)))⟩
    · have hsm : (m : Int) ≤ 60 := by omega
      clear hbig
      go_wp2_with fail
      refine ((HT _ hd4 hp4).out).mono ?_
      rintro e w5 ⟨v5, rfl, hO5, hb5⟩
      obtain ⟨A5, c5, rfl⟩ := hO5.form
      have R5 := hO5.rd rfl
      have R4 := (hO4.ext hb5).rd rfl
      go_wp2_with fail
      refine ((HE _ _ _ _ _ R4 R5).out).mono ?_
      rintro e w6 ⟨rfl, hb6⟩
      go_wp2_with fail
      go_ret
      exact ⟨by first | rfl | simp, (by repeat (first | exact Ext.refl _ | assumption | refine Ext.setCell ?_ (by first | (simp; done) | (simp; omega)) _ | refine Ext.drewN ?_ _ | refine Ext.alloc ?_ _ | refine Ext.drew ?_ | refine Ext.trans ?_ (by assumption)))⟩
  · have HA := fun (w : World) (hd : Rd w A (kcells l)) (hp : Rd w B (pcells p)) => hidA (Apart_bad A n c l B m d p w hn hd hb hc hsz hm hp hbm h0)
    have b0 : (plantsE l p != 0) = true := by simpa using h0
    generalize plantsE l p = q at *
    clear h0 hn hm hsz
    go_enter Tryd.func7, Tryd.ntmps7
    go_wp2_with fail
    refine ((HP _ hd hp).out).mono ?_
    rintro e w1 ⟨rfl, hb1⟩
    have hd1 := hd.ext hb1
    have hp1 := hp.ext hb1
    go_wp2_with fail
    refine ((HA _ hd1 hp1).out).mono ?_
    rintro e w2 ⟨rfl, hb2⟩
    have hd2 := hd1.ext hb2
    have hp2 := hp1.ext hb2
    clear HP HA
    go_wp2_with fail
    refine ((HG _).out).mono ?_
    rintro e w3 ⟨rfl, hb3⟩
    have hd3 := hd2.ext hb3
    have hp3 := hp2.ext hb3
    go_wp2_with fail
    refine ((HC _ hd3 hp3).out).mono ?_
    rintro e w4 ⟨rfl, hb4⟩
    have hd4 := hd3.ext hb4
    have hp4 := hp3.ext hb4
    go_wp2_with fail
    refine ((HG _).out).mono ?_
    rintro e w5 ⟨rfl, hb5⟩
    have hd5 := hd4.ext hb5
    have hp5 := hp4.ext hb5
    go_wp2_with fail
    refine ((HC _ hd5 hp5).out).mono ?_
    rintro e w6 ⟨rfl, hb6⟩
    go_wp2_with fail
    go_ret
    exact ⟨by first | rfl | simp, (by repeat (first | exact Ext.refl _ | assumption | refine Ext.setCell ?_ (by first | (simp; done) | (simp; omega)) _ | refine Ext.drewN ?_ _ | refine Ext.alloc ?_ _ | refine Ext.drew ?_ | refine Ext.trans ?_ (by assumption)))⟩
end Go.Proofs.YtgaonoklbihkjaaDoor
namespace Go.Proofs.YtgaonoklbihkjaaDoor
open Go.ChangeShapes Go.WideShapes Go.ChangeAt Go.RowKit Go.Joins Go.Deep

set_option maxRecDepth 100000 in
set_option maxHeartbeats 1600000 in
theorem plantsThin_lifted (os : Os) (started : os.Started) (H : Type) (enc : TypeId × Value → H) :
    ReturnsInHanded {} Tryd.checked os 7 .any (fun w args => (Rows.plantsThinSpec.pre enc Tryd.prog Tryd.f7 Rows.plantsThinRow.domain false w args ∧ laidMetH Tryd.prog Rows.plantsThinRow.laid w) ∧ sizedMet enc Tryd.prog Tryd.f7 (OpenSpec.ofChange Rows.plantsThinSpec) false w args)
      (Rows.plantsThinSpec.post enc Tryd.prog Tryd.f7 false true false false) := by
  refine returnsInHanded_of_change_and (C := Tryd.checked) (X := fun w _ => laidMetH Tryd.prog Rows.plantsThinRow.laid w) (fun _ _ _ hh h => h.of_heap hh) own started (by kernel_rfl) Tryd.func7
    (ChangeSpec.witness_shaped (enc := enc) (C := Tryd.checked) (os := os) (X := fun w _ => laidMetH Tryd.prog Rows.plantsThinRow.laid w) false (World.laidAll Tryd.prog os Rows.plantsThinRow.laid)
      #[.slice none 0 0, .slice none 0 0] 8 (World.laidAll_os _ _ _)
      (World.shaped_of_ZipB (by kernel_rfl) (by kernel_rfl)) (by kernel_rfl) (by kernel_rfl) (by kernel_rfl)
      (by rw [MakeChecks.laidMetH_plain _ _ _ (by kernel_rfl)]; exact laidMet_laidAll _ (by kernel_rfl) (by kernel_rfl))) ?_
  intro W base args ds gs before hval0 hW _ hsz0 _ _
  have hsz : (DataW.weightsEach Tryd.prog (Tryd.f7.params.toList ++ Rows.plantsThinSpec.plain.varTypes Tryd.prog) (ds ++ gs)).all (· ≤ reachBytes) = true := hsz0
  clear hsz0
  have hval : ∀ (j : Nat) t v, Tryd.f7.params[j]? = some t → args[j]? = some v → Value.okWide Tryd.prog W .any base t v := hval0
  have hW' := hW
  obtain ⟨p, q, hA0, hV, rfl, _, _⟩ := hW
  have hA : DataW.TrodAll enc Tryd.prog W 0 (fun _ => true) true Tryd.f7.params.toList args.toList ds p := hA0
  rw [Tryd.params7] at hA hval hsz
  obtain ⟨v0, vs0, d0, ds0, p0, q0, e0, rfl, rfl, h0, g0⟩ := trodAll_cons hA
  obtain ⟨v1, vs1, d1, ds1, p1, q1, rfl, rfl, rfl, h1, g1⟩ := trodAll_cons g0
  obtain ⟨rfl, rfl, rfl⟩ := trodAll_nil g1
  obtain ⟨L⟩ := args
  obtain rfl : L = [v0, v1] := by simpa using e0
  obtain ⟨rfl, rfl⟩ := trodVars_none hV
  obtain ⟨A0, n0, c0, l0, rfl, hn0, hr0, hc0, hb0, hs0⟩ := open_kinds (hval 0 22 v0 rfl rfl) h0 (fun n hn => by
    have := List.all_eq_true.1 hsz n (by simp [DataW.weightsEach, hn])
    simpa using this)
  obtain ⟨A1, n1, c1, l1, rfl, hn1, hr1, hc1, hb1⟩ := open_plants (hval 1 23 v1 rfl rfl) h1 (fun n hn => by
    have := List.all_eq_true.1 hsz n (by simp [DataW.weightsEach, hn])
    simpa using this)
  clear hA0 hval0
  simp only [List.append_nil] at hW'
  have hlt : ∀ x ∈ p0 ++ p1, x.block < W.heap.size := fun x hx => by simpa using hW'.lt x (by simpa using hx)
  refine (thin_walk A0 n0 c0 l0 A1 n1 c1 l1 W hn0 hr0 hb0 hc0 (fun x hx => by have := hs0 x hx; unfold maxLen at this; omega) hn1 hr1 hb1).mono fun e W' ⟨he, hx⟩ => ?_
  subst he
  refine ⟨_, rfl, _, _, _, [], p0 ++ (p1), [], hW', trodAll_mk1 (shut_bool Tryd.underlying4 _), ?_, rfl, Below.frame hx _, fun h => by cases h⟩
  refine trodAll_cons_mk (Below.trod laidOut (by kernel_rfl) (of_decide_eq_true (by kernel_rfl)) h0 hx ?_) (trodAll_mk1 (Below.trod laidOut (by kernel_rfl) (of_decide_eq_true (by kernel_rfl)) h1 hx ?_))
  · exact fun x hx => hlt x (by simp [hx])
  · exact fun x hx => hlt x (by simp [hx])

theorem plantsThin_holds : Rows.PlantsThinSaid :=
  OpenClaim.holds_of_wide 7 Tryd.f7 rfl rfl rfl rfl rfl rfl rfl ⟨rfl, rfl, rfl, rfl, rfl⟩ rfl rfl rfl rfl rfl (by kernel_rfl) Tryd.func7 (by kernel_rfl)
    (of_decide_eq_true (by kernel_rfl)) (by unfold Func.isWrapper; first | (rw [if_pos (by decide +kernel)]; kernel_rfl) | (rw [if_neg (by decide +kernel)]; exact ⟨rfl, rfl⟩))
    (fun os started H enc _ => plantsThin_lifted os started H enc)

theorem plantsThin_card_holds : Rows.PlantsThinCardSaid :=
  Claim7.holds_tied_plain_at .later [] [.data, .pinned] true (true, "1a70f3ab7b235ed31e98457aec3c50d5ad54e4c0426dd986fcf2a315b8ec8953") false plantsThin_holds (fun _ h => by cases h) (by kernel_rfl) (fun _ h => by cases h) plantsThin_row_tie rfl ⟨rfl, rfl⟩ (by kernel_rfl) rfl
    (fun f fn hf hfn => by
      obtain rfl : f = 7 := Option.some.inj ((show Tryd.prog.funcNamed "tarnfell/tarnlaw2.PlantsThin" = some 7 by kernel_rfl).symm.trans hf) |>.symm
      obtain rfl : fn = Tryd.f7 := (Option.some.inj (Tryd.func7.symm.trans hfn)).symm
      exact ⟨by kernel_rfl, fun j t ht => by
        rw [Tryd.params7] at ht
        have hm : t ∈ [22, 23] := by
          have := Array.mem_of_getElem? ht
          simp at this
          simp
          omega
        have hall : ([22, 23].all fun u => !Tryd.prog.wantsStandIn u) = true := by kernel_rfl
        exact (show Tryd.prog.wantsStandIn t = false by simpa using List.all_eq_true.1 hall t hm)⟩)
    (by kernel_rfl)
end Go.Proofs.YtgaonoklbihkjaaDoor
