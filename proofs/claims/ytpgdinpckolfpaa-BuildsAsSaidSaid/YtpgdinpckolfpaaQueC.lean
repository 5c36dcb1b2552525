/- container/heap: up, down, Init, Push, Pop at a heap of spills. -/
import Derived.Test.YtpgdinpckolfpaaQueB
namespace Go.Proofs.Ytpgdinpckolfpaa
open Go.RowKit
attribute [local go_sem ↓] Go.wp_at_zero Go.wp_at_succ
attribute [local go_sem] run_store_float

/-- an element is not behind another -/
def leS (a b : SpR) : Prop := valI a.v ≤ valI b.v
theorem leS_refl (a : SpR) : leS a a := Int.le_refl _
theorem leS_trans (a b c : SpR) (h1 : leS a b) (h2 : leS b c) : leS a c := Int.le_trans h1 h2
theorem lessB_le {a b : SpR} (ha : Fin a.v) (hb : Fin b.v) : lessB a b = true ↔ ¬ leS b a := by
  unfold lessB leS
  rw [lt_val ha hb]
  simp only [decide_eq_true_eq]
  omega
theorem lessB_yes {a b : SpR} (ha : Fin a.v) (hb : Fin b.v) (h : lessB a b = true) : leS a b := by
  rw [lessB_le ha hb] at h
  unfold leS at *
  omega
theorem lessB_no {a b : SpR} (ha : Fin a.v) (hb : Fin b.v) (h : lessB a b = false) : leS b a := by
  have := lessB_le ha hb
  rw [h] at this
  simpa using this
def AllFin (xs : List SpR) : Prop := ∀ a ∈ xs, Fin a.v
theorem AllFin.get {xs : List SpR} (h : AllFin xs) {i : Nat} (hi : i < xs.length) : Fin (xs.getD i ⟨0, 0⟩).v := by
  rw [getD_el hi]
  exact h _ (List.getElem_mem hi)
theorem AllFin.perm {xs ys : List SpR} (h : AllFin xs) (hp : ys.Perm xs) : AllFin ys := fun a ha => h a (hp.mem_iff.1 ha)

set_option maxRecDepth 100000 in
set_option maxHeartbeats 1600000 in
theorem up_any (hb g n c j : Nat) (xs : List SpR) (rest : List Value) (w : World) (hB : Bk w hb 171 #[.slice (some ⟨g, 0, none⟩) n c]) (hn : xs.length = n) (hS : SB w g xs rest) (hf : AllFin xs) (hj : j < n) (hn4 : n ≤ 4000000000) (hu : UpH leS xs j) :
    Calls Try.prog 134 #[.iface 173 (.pointer (some ⟨hb, 0, none⟩)), .int .i64 j] w fun e w' => e = .returned (.tuple #[]) ∧ ∃ ys, ys.Perm xs ∧ HeapFrom leS ys ys.length 0 ∧ SB w' g ys rest ∧ w.grownBy w' (some g) := by
  have hgb : g ≠ hb := Bk.ne hS hB (by decide)
  have Hn := hidA hn
  have Hf := hidA hf
  clear hn hf
  go_enter Try.func134, Try.ntmps134
  go_wp2
  go_loopw [1] (fun s1 wr => ∃ (j : Nat) (ys : List SpR), s1 = .int .i64 j ∧ j < n ∧ ys.Perm xs ∧ UpH leS ys j ∧ SB wr g ys rest ∧ w.grownBy wr (some g)) (fun s1 _ => (intOf s1).toNat)
  case atStart => exact ⟨j, xs, rfl, hj, List.Perm.refl _, hu, hS, World.grownBy.refl _ _⟩
  case round =>
    clear hu hS hj
    obtain ⟨j, ys, rfl, hj, hp, hu, hS, hg⟩ := hrel
    have hyl : ys.length = n := by rw [hp.length_eq]; exact Hn.out
    have hBr := Bk.grown hB hg (fun e => by injection e with e; exact hgb e.symm)
    have c0 := hBr.cell 0
    have nl := nil_Less
    have ns := nil_Swap
    have ml := m_Less wr hb _ c0
    have ms := fun w' h => m_Swap w' hb _ ((hBr.ext h).cell 0)
    have Hu := hidA hu
    have Hyl := hidA hyl
    clear hu hyl
    by_cases h0 : j = 0
    · subst h0
      go_wp2
      refine bodyPost_end (results_none Try.results134 _ _ _) rfl ?_
      exact ⟨rfl, ys, hp, Hu.out.done (fun h _ => by omega), hS, hg⟩
    · obtain ⟨p, hpe⟩ : ∃ p : Nat, p = (j - 1) / 2 := ⟨_, rfl⟩
      have hpj : (((j : Int) - 1) / 2) = p := by omega
      have hpi : ((p : Int) == j) = false := by simp; omega
      have hj1 : 1 ≤ (j : Int) := by omega
      have hpl : p < j := by omega
      have hfj := (Hf.out.perm hp).get (i := j) (by have := Hyl.out; omega)
      have hfp := (Hf.out.perm hp).get (i := p) (by have := Hyl.out; omega)
      have HL := hidA (Less_any g n c ys j p wr Hyl.out hS.rd hj (by omega) hn4)
      have HW := fun w' (h : Ext wr w') => hidA (Swap_any g n c ys rest p j w' Hyl.out (Bk.ext hS h) (by omega) hj hn4)
      have Hpe := hidA hpe
      have Hfj := hidA hfj
      have Hfp := hidA hfp
      clear hpe hfj hfp
      generalize hb1 : lessB (ys.getD j ⟨0, 0⟩) (ys.getD p ⟨0, 0⟩) = b at HL
      have Hb := hidA hb1
      clear hb1
      cases b
      · go_upto_region 1 with fail
        rw [hpj]
        clear ms ns HW
        go_wp2_with (go_at_call 154; refine HL.out.mono ?_; rintro e w1 ⟨rfl, hx1⟩)
        refine bodyPost_end (results_none Try.results134 _ _ _) rfl ?_
        refine ⟨rfl, ys, hp, Hu.out.done (fun h1 h2 => ?_), Bk.ext hS hx1, grown_trans' hg (grown_ext hx1 _)⟩
        rw [← Hpe.out]
        exact lessB_no Hfj.out Hfp.out Hb.out
      · go_upto_region 1 with fail
        rw [hpj]
        go_wp2_with (first | (go_at_call 154; refine HL.out.mono ?_; rintro e w1 ⟨rfl, hx1⟩; have ms := ms w1 hx1) | (go_at_call 155; refine ((HW _ (by assumption)).out).mono ?_; rintro e w2 ⟨rfl, hS2, hg2⟩))
        go_roundw
        case rel =>
          refine ⟨p, swapL ys p j, by rfl, by omega, (swapL_perm (by have := Hyl.out; omega) (by have := Hyl.out; omega)).trans hp, ?_, hS2, grown_trans' (grown_trans' hg (grown_ext hx1 _)) hg2⟩
          have h2 := Hu.out.swap leS_trans (by omega) (by have := Hyl.out; omega) (by rw [← Hpe.out]; exact lessB_yes Hfj.out Hfp.out Hb.out)
          rw [← Hpe.out] at h2
          exact h2
        case measure => simp [intOf]; omega

theorem swapL_drop {xs : List SpR} {i j n : Nat} (hi : i < n) (hj : j < n) : (swapL xs i j).drop n = xs.drop n := by
  unfold swapL
  rw [List.drop_set_of_lt hj, List.drop_set_of_lt hi]
set_option maxRecDepth 100000 in
set_option maxHeartbeats 1600000 in
theorem down_any (hb g N n c s i : Nat) (xs : List SpR) (rest : List Value) (w : World) (hB : Bk w hb 171 #[.slice (some ⟨g, 0, none⟩) N c]) (hn : xs.length = N) (hS : SB w g xs rest) (hf : AllFin xs) (hsi : s ≤ i) (hin : i ≤ n) (hnN : n ≤ N) (hN4 : N ≤ 1000000000) (hu : DownH leS xs n s i) :
    Calls Try.prog 133 #[.iface 173 (.pointer (some ⟨hb, 0, none⟩)), .int .i64 i, .int .i64 n] w fun e w' => ∃ b, e = .returned (.bool b) ∧ ∃ ys, ys.Perm xs ∧ ys.drop n = xs.drop n ∧ HeapFrom leS ys n s ∧ SB w' g ys rest ∧ w.grownBy w' (some g) := by
  have hgb : g ≠ hb := Bk.ne hS hB (by decide)
  have Hn := hidA hn
  have Hf := hidA hf
  clear hn hf
  go_enter Try.func133, Try.ntmps133
  go_wp2
  go_loopw [7] (fun s7 wr => ∃ (i : Nat) (ys : List SpR), s7 = .int .i64 i ∧ s ≤ i ∧ i ≤ n ∧ ys.Perm xs ∧ ys.drop n = xs.drop n ∧ DownH leS ys n s i ∧ SB wr g ys rest ∧ w.grownBy wr (some g)) (fun s7 _ => n - (intOf s7).toNat)
  case atStart => exact ⟨i, xs, rfl, hsi, hin, List.Perm.refl _, rfl, hu, hS, World.grownBy.refl _ _⟩
  case round =>
    clear hu hS hsi hin
    obtain ⟨i, ys, rfl, hsi, hin, hp, hd, hu, hS, hg⟩ := hrel
    have hyl : ys.length = N := by rw [hp.length_eq]; exact Hn.out
    have hBr := Bk.grown hB hg (fun e => by injection e with e; exact hgb e.symm)
    have nl := nil_Less
    have ns := nil_Swap
    have ml := fun w' h => m_Less w' hb _ ((hBr.ext h).cell 0)
    have ms := fun w' h => m_Swap w' hb _ ((hBr.ext h).cell 0)
    have Hu := hidA hu
    have Hyl := hidA hyl
    have Hd := hidA hd
    clear hu hyl hd
    have hd := Hd.out
    by_cases h1 : 2 * i + 1 < n
    · have hfi := (Hf.out.perm hp).get (i := i) (by have := Hyl.out; omega)
      have Hfi := hidA hfi
      have ml0 := ml wr (Ext.refl _)
      have i1 : 2 * (i : Int) + 1 < n := by omega
      clear hfi hd
      by_cases h2 : 2 * i + 2 < n
      · have i2 : 2 * (i : Int) + 1 + 1 < n := by omega
        have hf1 := (Hf.out.perm hp).get (i := 2 * i + 1) (by have := Hyl.out; omega)
        have hf2 := (Hf.out.perm hp).get (i := 2 * i + 2) (by have := Hyl.out; omega)
        have HL1 := hidA (Less_any g N c ys (2 * i + 2) (2 * i + 1) wr Hyl.out hS.rd (by omega) (by omega) (by omega))
        generalize hb1 : lessB (ys.getD (2 * i + 2) ⟨0, 0⟩) (ys.getD (2 * i + 1) ⟨0, 0⟩) = b1 at HL1
        have Hb1 := hidA hb1
        have Hf1 := hidA hf1
        have Hf2 := hidA hf2
        clear hb1 hf1 hf2
        have e1 : ((2 * i + 1 : Nat) : Int) = 2 * (i : Int) + 1 := by omega
        have e2 : ((2 * i + 2 : Nat) : Int) = 2 * (i : Int) + 1 + 1 := by omega
        rw [e1, e2] at HL1
        clear e1 e2
        cases b1
        · go_upto_region 8 with (go_at_call 154; refine HL1.out.mono ?_; rintro e w1 ⟨rfl, hx1⟩)
          have ml1 := ml w1 hx1
          clear ml0 nl
          have nl := nil_Less
          clear HL1
          have Hfj := hidA ((Hf.out.perm hp).get (i := 2 * i + 1) (by have := Hyl.out; omega))
          have HL2 := hidA (Less_any g N c ys (2 * i + 1) i w1 Hyl.out (hS.rd.ext hx1) (by omega) (by omega) (by omega))
          have HW := fun w' (h : Ext wr w') => hidA (Swap_any g N c ys rest i (2 * i + 1) w' Hyl.out (Bk.ext hS h) (by omega) (by omega) (by omega))
          have e3 : ((2 * i + 1 : Nat) : Int) = 2 * (i : Int) + 1 := by omega
          rw [e3] at HL2 HW
          clear e3
          generalize hb2 : lessB (ys.getD (2 * i + 1) ⟨0, 0⟩) (ys.getD i ⟨0, 0⟩) = b2 at HL2
          have Hb2 := hidA hb2
          clear hb2
          cases b2
          · go_wp2_with (go_at_call 154; refine HL2.out.mono ?_; rintro e w2 ⟨rfl, hx2⟩)
            go_ret
            refine ⟨_, rfl, ys, hp, Hd.out, Hu.out.done (fun d d1 d2 d3 => ?_), Bk.ext hS (Ext.trans hx1 hx2), grown_trans' hg (grown_ext (Ext.trans hx1 hx2) _)⟩
            have h5 := lessB_no Hfj.out Hfi.out Hb2.out
            have h6 := lessB_no Hf2.out Hf1.out Hb1.out
            rcases (show d = 2 * i + 1 ∨ d = 2 * i + 2 by omega) with rfl | rfl
            · exact h5
            · exact leS_trans _ _ _ h5 h6

          · go_wp2_with (first | (go_at_call 154; refine HL2.out.mono ?_; rintro e w2 ⟨rfl, hx2⟩; have ms2 := ms w2 (Ext.trans hx1 hx2)) | (go_at_call 155; refine ((HW _ (Ext.trans hx1 (by assumption))).out).mono ?_; rintro e w3 ⟨rfl, hS2, hg2⟩))
            go_roundw
            case rel =>
              refine ⟨2 * i + 1, swapL ys i (2 * i + 1), congrArg (Value.int .i64) (by omega), by omega, by omega, (swapL_perm (by have := Hyl.out; omega) (by have := Hyl.out; omega)).trans hp, by rw [swapL_drop (by omega) (by omega)]; exact Hd.out, ?_, hS2, grown_trans' (grown_trans' hg (grown_ext (Ext.trans hx1 hx2) _)) hg2⟩
              refine Hu.out.swap (by have := Hyl.out; omega) (by omega) (by omega) (by omega) (by omega) (fun d d1 d2 d3 d4 => ?_) (lessB_yes Hfj.out Hfi.out Hb2.out)
              have h6 := lessB_no Hf2.out Hf1.out Hb1.out
              obtain rfl : d = 2 * i + 2 := by omega
              exact h6

            case measure => simp [intOf]; omega
        · go_upto_region 8 with (go_at_call 154; refine HL1.out.mono ?_; rintro e w1 ⟨rfl, hx1⟩)
          have ml1 := ml w1 hx1
          clear ml0
          clear HL1
          have Hfj := hidA ((Hf.out.perm hp).get (i := 2 * i + 2) (by have := Hyl.out; omega))
          have HL2 := hidA (Less_any g N c ys (2 * i + 2) i w1 Hyl.out (hS.rd.ext hx1) (by omega) (by omega) (by omega))
          have HW := fun w' (h : Ext wr w') => hidA (Swap_any g N c ys rest i (2 * i + 2) w' Hyl.out (Bk.ext hS h) (by omega) (by omega) (by omega))
          have e3 : ((2 * i + 2 : Nat) : Int) = 2 * (i : Int) + 1 + 1 := by omega
          rw [e3] at HL2 HW
          clear e3
          generalize hb2 : lessB (ys.getD (2 * i + 2) ⟨0, 0⟩) (ys.getD i ⟨0, 0⟩) = b2 at HL2
          have Hb2 := hidA hb2
          clear hb2
          cases b2
          · go_wp2_with (go_at_call 154; refine HL2.out.mono ?_; rintro e w2 ⟨rfl, hx2⟩)
            go_ret
            refine ⟨_, rfl, ys, hp, Hd.out, Hu.out.done (fun d d1 d2 d3 => ?_), Bk.ext hS (Ext.trans hx1 hx2), grown_trans' hg (grown_ext (Ext.trans hx1 hx2) _)⟩
            have h5 := lessB_no Hfj.out Hfi.out Hb2.out
            have h6 := lessB_yes Hf2.out Hf1.out Hb1.out
            rcases (show d = 2 * i + 1 ∨ d = 2 * i + 2 by omega) with rfl | rfl
            · exact leS_trans _ _ _ h5 h6
            · exact h5

          · go_wp2_with (first | (go_at_call 154; refine HL2.out.mono ?_; rintro e w2 ⟨rfl, hx2⟩; have ms2 := ms w2 (Ext.trans hx1 hx2)) | (go_at_call 155; refine ((HW _ (Ext.trans hx1 (by assumption))).out).mono ?_; rintro e w3 ⟨rfl, hS2, hg2⟩))
            go_roundw
            case rel =>
              refine ⟨2 * i + 2, swapL ys i (2 * i + 2), congrArg (Value.int .i64) (by omega), by omega, by omega, (swapL_perm (by have := Hyl.out; omega) (by have := Hyl.out; omega)).trans hp, by rw [swapL_drop (by omega) (by omega)]; exact Hd.out, ?_, hS2, grown_trans' (grown_trans' hg (grown_ext (Ext.trans hx1 hx2) _)) hg2⟩
              refine Hu.out.swap (by have := Hyl.out; omega) (by omega) (by omega) (by omega) (by omega) (fun d d1 d2 d3 d4 => ?_) (lessB_yes Hfj.out Hfi.out Hb2.out)
              have h6 := lessB_yes Hf2.out Hf1.out Hb1.out
              obtain rfl : d = 2 * i + 1 := by omega
              exact h6

            case measure => simp [intOf]; omega
      · have i2 : ¬ 2 * (i : Int) + 1 + 1 < n := by omega
        go_upto_region 8 with fail
        have Hfj := hidA ((Hf.out.perm hp).get (i := 2 * i + 1) (by have := Hyl.out; omega))
        have HL2 := hidA (Less_any g N c ys (2 * i + 1) i wr Hyl.out (hS.rd.ext (Ext.refl _)) (by omega) (by omega) (by omega))
        have HW := fun w' (h : Ext wr w') => hidA (Swap_any g N c ys rest i (2 * i + 1) w' Hyl.out (Bk.ext hS h) (by omega) (by omega) (by omega))
        have e3 : ((2 * i + 1 : Nat) : Int) = 2 * (i : Int) + 1 := by omega
        rw [e3] at HL2 HW
        clear e3
        generalize hb2 : lessB (ys.getD (2 * i + 1) ⟨0, 0⟩) (ys.getD i ⟨0, 0⟩) = b2 at HL2
        have Hb2 := hidA hb2
        clear hb2
        cases b2
        · go_wp2_with (go_at_call 154; refine HL2.out.mono ?_; rintro e w2 ⟨rfl, hx2⟩)
          go_ret
          refine ⟨_, rfl, ys, hp, Hd.out, Hu.out.done (fun d d1 d2 d3 => ?_), Bk.ext hS (Ext.trans (Ext.refl _) hx2), grown_trans' hg (grown_ext (Ext.trans (Ext.refl _) hx2) _)⟩
          have h5 := lessB_no Hfj.out Hfi.out Hb2.out
          obtain rfl : d = 2 * i + 1 := by omega
          exact h5

        · go_wp2_with (first | (go_at_call 154; refine HL2.out.mono ?_; rintro e w2 ⟨rfl, hx2⟩; have ms2 := ms w2 (Ext.trans (Ext.refl _) hx2)) | (go_at_call 155; refine ((HW _ (Ext.trans (Ext.refl _) (by assumption))).out).mono ?_; rintro e w3 ⟨rfl, hS2, hg2⟩))
          go_roundw
          case rel =>
            refine ⟨2 * i + 1, swapL ys i (2 * i + 1), congrArg (Value.int .i64) (by omega), by omega, by omega, (swapL_perm (by have := Hyl.out; omega) (by have := Hyl.out; omega)).trans hp, by rw [swapL_drop (by omega) (by omega)]; exact Hd.out, ?_, hS2, grown_trans' (grown_trans' hg (grown_ext (Ext.trans (Ext.refl _) hx2) _)) hg2⟩
            refine Hu.out.swap (by have := Hyl.out; omega) (by omega) (by omega) (by omega) (by omega) (fun d d1 d2 d3 d4 => ?_) (lessB_yes Hfj.out Hfi.out Hb2.out)
            omega

          case measure => simp [intOf]; omega
    · have i1 : (n : Int) ≤ 2 * (i : Int) + 1 := by omega
      go_wp2
      go_ret
      exact ⟨_, rfl, ys, hp, Hd.out, Hu.out.done (fun d d1 d2 d3 => by omega), hS, hg⟩
end Go.Proofs.Ytpgdinpckolfpaa
