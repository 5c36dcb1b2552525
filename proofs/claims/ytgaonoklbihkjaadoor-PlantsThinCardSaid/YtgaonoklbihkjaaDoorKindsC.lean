/- Contract: plant.CheckKinds. -/
import Derived.Test.YtgaonoklbihkjaaDoorKindsB
namespace Go.Proofs.YtgaonoklbihkjaaDoor
open Go.RowKit
attribute [local go_sem ↓] Go.wp_at_zero Go.wp_at_succ
attribute [local go_sem] run_store_float
theorem put_mk (l : List Value) (D : List Deferred) (d : Nat) (v : Value) : Act.put ⟨l.toArray, D⟩ (some d) v = ⟨(l.set d v).toArray, D⟩ := by simp [Act.put]
theorem checkKindR (x : KindR) (w : World) (hs : x.s.size ≤ 9223372036854775807) :
    Calls Tryd.prog 74 #[.agg #[.string x.s, .float .f32 x.a0, .float .f32 x.a1, .float .f32 x.a2, .float .f32 x.a3, .float .f32 x.a4, .float .f32 x.a5, .float .f32 x.a6, .float .f32 x.a7, .float .f32 x.a8, .float .f32 x.a9, .int .i64 x.p, .int .i64 x.q]] w fun e w' => e = .returned (.int .i64 x.err) ∧ Ext w w' := checkKind_any x.s x.a0 x.a1 x.a2 x.a3 x.a4 x.a5 x.a6 x.a7 x.a8 x.a9 x.p x.q w hs
theorem kindErrorR (x : KindR) (w : World) (hs : x.s.size ≤ 9223372036854775807) :
    Calls Tryd.prog 61 #[.agg #[.string x.s, .float .f32 x.a0, .float .f32 x.a1, .float .f32 x.a2, .float .f32 x.a3, .float .f32 x.a4, .float .f32 x.a5, .float .f32 x.a6, .float .f32 x.a7, .float .f32 x.a8, .float .f32 x.a9, .int .i64 x.p, .int .i64 x.q]] w fun e w' => e = .returned (.int .i64 x.err) ∧ Ext w w' := kindError_any x.s x.a0 x.a1 x.a2 x.a3 x.a4 x.a5 x.a6 x.a7 x.a8 x.a9 x.p x.q w hs

set_option maxRecDepth 100000 in
set_option maxHeartbeats 3200000 in
theorem checkKinds_any (A : Option Addr) (n c : Nat) (l : List KindR) (w : World) (hn : l.length = n) (hd : Rd w A (kcells l)) (hb : n ≤ 4000000000000) (hc : n ≤ c) (hsz : ∀ x ∈ l, x.s.size ≤ 9223372036854775807) :
    Calls Tryd.prog 56 #[.slice A n c] w fun e w' => e = .returned (.int .i64 (kindsE l)) ∧ Ext w w' := by
  by_cases h0 : n = 0
  · have HE : Hid (kindsE l = 10) := if_pos (by omega)
    subst h0
    go_enter Tryd.func56, Tryd.ntmps56
    go_wp2
    go_ret
    exact ⟨ret_i HE.out.symm, (by repeat (first | exact Ext.refl _ | assumption | refine Ext.setCell ?_ (by first | (simp; done) | (simp; omega)) _ | refine Ext.drewN ?_ _ | refine Ext.alloc ?_ _ | refine Ext.drew ?_ | refine Ext.trans ?_ (by assumption)))⟩
  by_cases h12 : 12 < n
  · have HE : Hid (kindsE l = 4) := by show _ = _; unfold kindsE; rw [if_neg (by omega), if_pos (by omega)]
    go_enter Tryd.func56, Tryd.ntmps56
    go_wp2
    go_ret
    exact ⟨ret_i HE.out.symm, (by repeat (first | exact Ext.refl _ | assumption | refine Ext.setCell ?_ (by first | (simp; done) | (simp; omega)) _ | refine Ext.drewN ?_ _ | refine Ext.alloc ?_ _ | refine Ext.drew ?_ | refine Ext.trans ?_ (by assumption)))⟩
  have HE : Hid (kindsE l = scanE [] l) := by show _ = _; unfold kindsE; rw [if_neg (by omega), if_neg (by omega)]
  have Hn := hidA hn
  have Hsz := hidA hsz
  clear hn hsz
  go_enter Tryd.func56, Tryd.ntmps56
  go_wp2_with fail
  go_loopw [16] (fun i wr => ∃ k : Nat, k ≤ n ∧ i = .int .i64 k ∧ Hid (scanE (l.take k) (l.drop k) = scanE [] l) ∧ Ext w wr) (fun i _ => n - (intOf i).toNat)
  case atStart => exact ⟨0, Nat.zero_le _, rfl, rfl, (by repeat (first | exact Ext.refl _ | assumption | refine Ext.setCell ?_ (by first | (simp; done) | (simp; omega)) _ | refine Ext.drewN ?_ _ | refine Ext.alloc ?_ _ | refine Ext.drew ?_ | refine Ext.trans ?_ (by assumption)))⟩
  case round =>
    obtain ⟨k, hk, rfl, Ha, hx⟩ := hrel
    by_cases hlt : k < n
    · have hkl : k < l.length := by have := Hn.out; omega
      have Hst := hidA (scan_step hkl)
      have hsx := Hsz.out l[k] (List.getElem_mem hkl)
      obtain ⟨ad, rfl, hbk, _⟩ := hd.at (k := k) (by rw [kcells_length]; omega)
      have hk13 := (hd.ext hx).kind hkl
      have d0 := hk13.1
      have d1 := hk13.2.1
      have d2 := hk13.2.2.1
      have d3 := hk13.2.2.2.1
      have d4 := hk13.2.2.2.2.1
      have d5 := hk13.2.2.2.2.2.1
      have d6 := hk13.2.2.2.2.2.2.1
      have d7 := hk13.2.2.2.2.2.2.2.1
      have d8 := hk13.2.2.2.2.2.2.2.2.1
      have d9 := hk13.2.2.2.2.2.2.2.2.2.1
      have d10 := hk13.2.2.2.2.2.2.2.2.2.2.1
      have d11 := hk13.2.2.2.2.2.2.2.2.2.2.2.1
      have d12 := hk13.2.2.2.2.2.2.2.2.2.2.2.2
      have k0 : (0 : Int) ≤ k := by omega
      have k1 : (k : Int) < n := by omega
      clear hk13
      generalize hxe : l[k] = x at *
      clear hxe
      go_wp2_with fail
      refine (checkKindR x _ hsx).mono ?_
      rintro e w5 ⟨rfl, hb5⟩
      have hP : Bk w5 wr.heap.size 41 #[.string x.s, .float .f32 x.a0, .float .f32 x.a1, .float .f32 x.a2, .float .f32 x.a3, .float .f32 x.a4, .float .f32 x.a5, .float .f32 x.a6, .float .f32 x.a7, .float .f32 x.a8, .float .f32 x.a9, .int .i64 x.p, .int .i64 x.q] := (Bk.new wr 41 #[.string x.s, .float .f32 x.a0, .float .f32 x.a1, .float .f32 x.a2, .float .f32 x.a3, .float .f32 x.a4, .float .f32 x.a5, .float .f32 x.a6, .float .f32 x.a7, .float .f32 x.a8, .float .f32 x.a9, .int .i64 x.p, .int .i64 x.q]).ext hb5
      have hx5 : Ext wr w5 := ((Ext.refl wr).alloc _).trans hb5
      have hr5 := ((hd.ext hx).ext hx5).upto k
      have hR : ∀ w', Ext w5 w' → Rd w' (some ad) (kcells (l.take k)) := fun w' h => hr5.ext h
      have Hlt : Hid ((l.take k).length = k) := by show _ = _; rw [List.length_take]; omega
      have hkc : k ≤ c := by omega
      have p0 : ∀ w', Ext w5 w' → w'.cell? ⟨wr.heap.size, 0, none⟩ = some (.string x.s) := fun w' h => (hP.ext h).cell 0
      clear d0 d1 d2 d3 d4 d5 d6 d7 d8 d9 d10 d11 d12 hb5
      by_cases he : x.err = 0
      · have b0 : (x.err != 0) = false := by simpa using he
        have Hst2 : Hid (scanE [] l = if hasName (l.take k) x.s = true then 7 else scanE (l.take (k + 1)) (l.drop (k + 1))) := by show _ = _; rw [← Ha.out, Hst.out, if_neg (by omega)]
        clear he Hst Ha
        go_wp2_with fail
        refine wp_region_noPanic ?_
        refine wp_region_held_drew (S := fun w' => Ext w5 w') (by kernel_rfl) ?_ (fun hHeld => ?_)
        · (repeat (first | exact Ext.refl _ | assumption | refine Ext.setCell ?_ (by first | (simp; done) | (simp; omega)) _ | refine Ext.drewN ?_ _ | refine Ext.alloc ?_ _ | refine Ext.drew ?_ | refine Ext.trans ?_ (by assumption)))
        refine wpAnyH_take (i := 0) (oi := ?o2x0) (v := ?v2x0) ?hi2x0 (by kernel_rfl) ?hf2x0 ?hr2x0 (fun _ _ _ h => h) ?hy2x0 (by assumption) ?rest2x0
        case hi2x0 => (simp only [List.getElem?_toArray, List.getElem?_cons_zero]; exact rfl)
        case hf2x0 => kernel_rfl
        case hr2x0 => kernel_rfl
        case hy2x0 => (refine Or.inl ⟨by rfl, ?_⟩; intro w hSw; (try dsimp only at hSw); go_simp; try with_reducible rfl)
        simp only [put_mk, List.set_cons_succ, List.set_cons_zero]
        refine wpAnyH_take (i := 1) (oi := ?o3x1) (v := ?v3x1) ?hi3x1 (by kernel_rfl) ?hf3x1 ?hr3x1 (fun _ _ _ h => h) ?hy3x1 (by assumption) ?rest3x1
        case hi3x1 => (simp only [List.getElem?_toArray, List.getElem?_cons_succ, List.getElem?_cons_zero]; exact rfl)
        case hf3x1 => kernel_rfl
        case hr3x1 => kernel_rfl
        case hy3x1 => (refine Or.inl ⟨by rfl, ?_⟩; intro w hSw; (try dsimp only at hSw); go_simp; try with_reducible rfl)
        simp only [put_mk, List.set_cons_succ, List.set_cons_zero]
        refine wpAnyH_take (i := 2) (oi := ?o4x2) (v := ?v4x2) ?hi4x2 (by kernel_rfl) ?hf4x2 ?hr4x2 (fun _ _ _ h => h) ?hy4x2 (by assumption) ?rest4x2
        case hi4x2 => (simp only [List.getElem?_toArray, List.getElem?_cons_succ, List.getElem?_cons_zero]; exact rfl)
        case hf4x2 => kernel_rfl
        case hr4x2 => kernel_rfl
        case hy4x2 => (refine Or.inl ⟨by rfl, ?_⟩; intro w hSw; (try dsimp only at hSw); go_simp; try with_reducible rfl)
        simp only [put_mk, List.set_cons_succ, List.set_cons_zero]
        refine wpAnyH_take (i := 3) (oi := ?o5x3) (v := ?v5x3) ?hi5x3 (by kernel_rfl) ?hf5x3 ?hr5x3 (fun _ _ _ h => h) ?hy5x3 (by assumption) ?rest5x3
        case hi5x3 => (simp only [List.getElem?_toArray, List.getElem?_cons_succ, List.getElem?_cons_zero]; exact rfl)
        case hf5x3 => kernel_rfl
        case hr5x3 => kernel_rfl
        case hy5x3 => (refine Or.inl ⟨by rfl, ?_⟩; intro w hSw; (try dsimp only at hSw); go_simp; try with_reducible rfl)
        simp only [put_mk, List.set_cons_succ, List.set_cons_zero]
        refine wpAnyH_take (i := 4) (oi := ?o6x4) (v := ?v6x4) ?hi6x4 (by kernel_rfl) ?hf6x4 ?hr6x4 (fun _ _ _ h => h) ?hy6x4 (by assumption) ?rest6x4
        case hi6x4 => (simp only [List.getElem?_toArray, List.getElem?_cons_succ, List.getElem?_cons_zero]; exact rfl)
        case hf6x4 => kernel_rfl
        case hr6x4 => kernel_rfl
        case hy6x4 => (refine Or.inl ⟨by rfl, ?_⟩; intro w hSw; (try dsimp only at hSw); go_simp; try with_reducible rfl)
        simp only [put_mk, List.set_cons_succ, List.set_cons_zero]
        refine wpAnyH_ready (rs := [5]) (by kernel_rfl) (by simp) ?_
        refine AllReadyH.cons (o := ?o7x5) ?hi7x5 (fun K hK => ?_) AllReadyH.nil
        case hi7x5 => (simp only [List.getElem?_toArray, List.getElem?_cons_succ, List.getElem?_cons_zero]; exact rfl)
        go_simp
        refine (kindAt_any (some ad) k c (l.take k) x.s _ Hlt.out (hR _ ?_) (by omega)).mono ?_
        · (repeat (first | exact Ext.refl _ | assumption | refine Ext.setCell ?_ (by first | (simp; done) | (simp; omega)) _ | refine Ext.drewN ?_ _ | refine Ext.alloc ?_ _ | refine Ext.drew ?_ | refine Ext.trans ?_ (by assumption)))
        rintro e w6 ⟨r, rfl, hr, hb6⟩
        have Hr := hidA hr
        clear hr
        refine hK.out _ _ ?_ (fun hHeld => ?_)
        · (repeat (first | exact Ext.refl _ | assumption | refine Ext.setCell ?_ (by first | (simp; done) | (simp; omega)) _ | refine Ext.drewN ?_ _ | refine Ext.alloc ?_ _ | refine Ext.drew ?_ | refine Ext.trans ?_ (by assumption)))
        clear hK K
        refine wpAnyH_take (i := 6) (oi := ?o8x6) (v := ?v8x6) ?hi8x6 (by kernel_rfl) ?hf8x6 ?hr8x6 (fun _ _ _ h => h) ?hy8x6 (by assumption) ?rest8x6
        case hi8x6 => (simp only [List.getElem?_toArray, List.getElem?_cons_succ, List.getElem?_cons_zero]; exact rfl)
        case hf8x6 => kernel_rfl
        case hr8x6 => kernel_rfl
        case hy8x6 => (refine Or.inl ⟨by rfl, ?_⟩; intro w hSw; (try dsimp only at hSw); go_simp; try with_reducible rfl)
        simp only [put_mk, List.set_cons_succ, List.set_cons_zero]
        refine wpAnyH_done (by kernel_rfl) ?_ _
        refine NoPanic.normal ?_
        by_cases hr0 : 0 ≤ r
        · have hN : Hid (7 = kindsE l) := by
            show _ = _
            rw [HE.out, Hst2.out, if_pos (by rw [← Hr.out]; simpa using hr0)]
          go_wp2
          go_ret
          exact ⟨ret_i hN.out, (by repeat (first | exact Ext.refl _ | assumption | refine Ext.setCell ?_ (by first | (simp; done) | (simp; omega)) _ | refine Ext.drewN ?_ _ | refine Ext.alloc ?_ _ | refine Ext.drew ?_ | refine Ext.trans ?_ (by assumption)))⟩
        · have hN : Hid (scanE (l.take (k + 1)) (l.drop (k + 1)) = scanE [] l) := by
            show _ = _
            rw [Hst2.out, if_neg (by rw [← Hr.out]; simpa using hr0)]
          go_wp2_with fail
          go_roundw
          case rel => exact ⟨_, _, _, _, .int .i64 ((k : Int) + 1), ⟨k + 1, by omega, by go_num, hN, (by repeat (first | exact Ext.refl _ | assumption | refine Ext.setCell ?_ (by first | (simp; done) | (simp; omega)) _ | refine Ext.drewN ?_ _ | refine Ext.alloc ?_ _ | refine Ext.drew ?_ | refine Ext.trans ?_ (by assumption)))⟩, rfl, rfl, rfl, rfl, rfl⟩
          case measure => simp [intOf]; omega
      · have b0 : (x.err != 0) = true := by simpa using he
        have Hst2 : Hid (x.err = kindsE l) := by show _ = _; rw [HE.out, ← Ha.out, Hst.out, if_pos he]
        clear he Hst Ha
        go_wp2
        go_ret
        exact ⟨ret_i Hst2.out, (by repeat (first | exact Ext.refl _ | assumption | refine Ext.setCell ?_ (by first | (simp; done) | (simp; omega)) _ | refine Ext.drewN ?_ _ | refine Ext.alloc ?_ _ | refine Ext.drew ?_ | refine Ext.trans ?_ (by assumption)))⟩
    · obtain rfl : k = n := by omega
      have Hst2 : Hid (0 = kindsE l) := by
        show _ = _
        have h1 := Ha.out
        rw [← Hn.out, scan_end] at h1
        rw [HE.out, h1]
      go_wp2
      go_ret
      exact ⟨ret_i Hst2.out, (by repeat (first | exact Ext.refl _ | assumption | refine Ext.setCell ?_ (by first | (simp; done) | (simp; omega)) _ | refine Ext.drewN ?_ _ | refine Ext.alloc ?_ _ | refine Ext.drew ?_ | refine Ext.trans ?_ (by assumption)))⟩
end Go.Proofs.YtgaonoklbihkjaaDoor
