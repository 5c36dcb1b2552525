/- Contract: the reference's GatherOf. -/
import Derived.Test.YtinohfgokpbcdaaFillS
import Derived.Test.YtinohfgokpbcdaaFillB
import Derived.LoopTactic
import Derived.Test.YtinohfgokpbcdaaSteepC
import Derived.Test.YtinohfgokpbcdaaDiAA
import Derived.Test.YtinohfgokpbcdaaDiAB
import Derived.Test.YtinohfgokpbcdaaDiAC
import Derived.Test.YtinohfgokpbcdaaDiAF
import Derived.RegionTactic
import Derived.ChangeAlike
namespace Go.Proofs.Ytinohfgokpbcdaa
open Go.RowKit
attribute [local go_sem ↓] Go.wp_at_zero Go.wp_at_succ
attribute [local go_sem] run_store_float

/-- what the reference holds in memory -/
structure OM (W0 w : World) (hf g1 g2 : Nat) (X Y : Int) (Wn Hn N : Nat) (A : Option Addr) (c : Nat) (known : Nat → Bool) (out : Nat → Nat) : Prop where
  fb : Bk w hf 26 #[.int .i64 X, .int .i64 Y, .int .i64 (Wn : Int), .int .i64 (Hn : Int), .slice A N c]
  ob : Bk w g1 27 (flo N out)
  kb : Bk w g2 4 (bools N known)
  ext : Ext W0 w
  b1 : W0.heap.size ≤ g1
  b2 : W0.heap.size ≤ g2
section
variable {W0 w : World} {hf g1 g2 : Nat} {X Y : Int} {Wn Hn N : Nat} {A : Option Addr} {c : Nat} {known : Nat → Bool} {out : Nat → Nat}
theorem OM.step (h : OM W0 w hf g1 g2 X Y Wn Hn N A c known out) {w' : World} (hx : Ext w w') : OM W0 w' hf g1 g2 X Y Wn Hn N A c known out := ⟨h.fb.ext hx, h.ob.ext hx, h.kb.ext hx, h.ext.trans hx, h.b1, h.b2⟩
theorem OM.put (h : OM W0 w hf g1 g2 X Y Wn Hn N A c known out) (k x : Nat) : OM W0 ((w.setCell ⟨g1, k, none⟩ (.float .f32 x)).setCell ⟨g2, k, none⟩ (.bool true)) hf g1 g2 X Y Wn Hn N A c (updF known k true) (updF out k x) := by
  have e1 := Bk.set h.ob k (.float .f32 x)
  rw [flo_set] at e1
  have f1 : ∀ {g : Nat} {t : TypeId} {cs : Array Value}, Bk w g t cs → g ≠ g1 → Bk (w.setCell ⟨g1, k, none⟩ (.float .f32 x)) g t cs := fun hb hn => hb.far hn _
  have eg := f1 h.kb (Bk.ne h.kb h.ob (by decide))
  have e2 := Bk.set eg k (.bool true)
  rw [bools_set] at e2
  have f2 : ∀ {g : Nat} {t : TypeId} {cs : Array Value}, Bk (w.setCell ⟨g1, k, none⟩ (.float .f32 x)) g t cs → g ≠ g2 → Bk ((w.setCell ⟨g1, k, none⟩ (.float .f32 x)).setCell ⟨g2, k, none⟩ (.bool true)) g t cs := fun hb hn => hb.far hn _
  exact ⟨f2 (f1 h.fb (Bk.ne h.fb h.ob (by decide))) (Bk.ne h.fb h.kb (by decide)), f2 e1 (Bk.ne h.ob h.kb (by decide)), e2, (h.ext.setCell h.b1 _).setCell h.b2 _, h.b1, h.b2⟩
end

set_option maxRecDepth 100000 in
set_option maxHeartbeats 6400000 in
theorem filledOf_any (X Y : Int) (Wn Hn N : Nat) (A : Option Addr) (c slope : Nat) (l : List Nat) (w : World) (hr : Reg X Y Wn Hn) (hN : N = Wn * Hn) (hl : l.length = N) (hV : Rd w A (flt l)) (hh : ∀ x ∈ l, Bd 20 x) (hs : Bd 10 slope) (h0 : 0 ≤ valI slope) :
    Calls Try.prog 23 #[.agg #[.int .i64 X, .int .i64 Y, .int .i64 (Wn : Int), .int .i64 (Hn : Int), .slice A N c], .float .f32 slope] w fun e w' => FillPost Wn Hn N slope l w e w' := by
  have hN6 : N ≤ 65536 := by rw [hN]; exact hr.n
  have mb := mk_bool N (by omega)
  have mf := mk_flo N (by omega)
  have hlk : ∀ j, j < N → Bd 20 (l.getD j 0) := fun j hj => by
    have hjl : j < l.length := by omega
    have e : l.getD j 0 = l[j] := by simp [List.getD_eq_getElem?_getD, hjl]
    rw [e]
    exact hh _ (List.getElem_mem hjl)
  have Hr := hidA hr
  have HN := hidA hN
  have Hl := hidA hl
  have Hh := hidA hlk
  have Hs := hidA hs
  have H0 := hidA h0
  clear hr hN hl hh hlk hs h0
  obtain ⟨w1, hw1⟩ : ∃ w1, w1 = ((w.alloc (.cells #[.int .i64 X, .int .i64 Y, .int .i64 (Wn : Int), .int .i64 (Hn : Int), .slice A N c] 26)).alloc (.cells (flo N fun _ => 0) 27)).alloc (.cells (bools N fun _ => false) 4) := ⟨_, rfl⟩
  have hO1 : OM w w1 w.heap.size (w.heap.size + 1) (w.heap.size + 1 + 1) X Y Wn Hn N A c (fun _ => false) (fun _ => 0) := by
    rw [hw1]
    refine ⟨?_, ?_, ?_, ?_, by omega, by omega⟩
    · exact ((Bk.new' rfl).alloc _).alloc _
    · refine (Bk.new' ?_).alloc _
      simp
    · refine Bk.new' ?_
      simp
    · exact (((Ext.refl w).alloc _).alloc _).alloc _
  go_enter Try.func23, Try.ntmps23
  go_upto_region 3 with fail
  rw [← hw1]
  clear hw1 mb mf
  generalize w.heap.size + 1 + 1 = g2 at *
  generalize w.heap.size + 1 = g1 at *
  generalize hfe : w.heap.size = hf at hO1 ⊢
  have Hfe := hidA hfe
  clear hfe
  have c4 := hO1.fb.cell 4
  go_wp2
  clear c4
  go_loopw [26] (fun s26 wr => ∃ (k : Nat) (known : Nat → Bool) (out : Nat → Nat) (xs : List SpR), k ≤ N ∧ s26 = .int .i64 k ∧ OM w wr hf g1 g2 X Y Wn Hn N A c known out ∧ BI Wn Hn k l known out xs) (fun s26 _ => N - (intOf s26).toNat)
  case atStart => exact ⟨0, _, _, _, Nat.zero_le _, rfl, hO1, BI.zero Wn Hn l⟩
  case round =>
    clear hO1
    obtain ⟨k, known, out, xs, hk, rfl, hO, hB⟩ := hrel
    have HB := hidA hB
    clear hB
    by_cases hkN : k < N
    · have hkl : k < l.length := by have := Hl.out; omega
      obtain ⟨ad, rfl, hbk, hcv⟩ := (hV.ext hO.ext).at (k := k) (by rw [flt_length]; exact hkl)
      have ck := hcv k _ (flt_get hkl)
      have el : l.getD k 0 = l[k] := by simp [List.getD_eq_getElem?_getD, hkl]
      obtain ⟨x0, hx0⟩ : ∃ x0, x0 = l.getD k 0 := ⟨_, rfl⟩
      rw [← el, ← hx0] at ck
      have Hx0 := hidA hx0
      clear hcv el hx0
      have c0 := hO.fb.cell 0
      have c1 := hO.fb.cell 1
      have c2 := hO.fb.cell 2
      have c3 := hO.fb.cell 3
      have HBo := fun (w : World) => hidA (edge_any X Y Wn Hn k w Hr.out (by rw [← HN.out]; exact hkN))
      unfold rgv at HBo
      cases hb : brd Wn Hn k
      · have Hb := hidA hb
        rw [hb] at HBo
        clear hb
        go_wp2_with (go_at_call 84; refine ((HBo _).out).mono ?_; rintro e w2 ⟨rfl, hx2⟩)
        go_roundw
        case rel => exact ⟨k + 1, known, out, xs, by omega, by go_num, hO.step hx2, HB.out.pass Hb.out⟩
        case measure => simp [intOf]; omega
      · have Hb := hidA hb
        rw [hb] at HBo
        clear hb
        go_upto_region 7 with (go_at_call 84; refine ((HBo _).out).mono ?_; rintro e w2 ⟨rfl, hx2⟩)
        have hO2 := hO.step hx2
        clear c0 c1 c2 c3 ck
        have o1 : w2.cell? ⟨g1, k, none⟩ = some (.float .f32 (out k)) := by rw [hO2.ob.cell]; exact flo_get _ hkN
        have o2 : w2.cell? ⟨g2, k, none⟩ = some (.bool (known k)) := by rw [hO2.kb.cell]; exact bools_get _ hkN
        have f1 := hO2.ob.frozen k
        have f2 := hO2.kb.frozen k
        have j0 : (0 : Int) ≤ k := by omega
        have j1 : (k : Int) < N := by omega
        have hgo : g1 ≠ g2 := Bk.ne hO2.ob hO2.kb (by decide)
        have q1 : (w2.setCell ⟨g1, k, none⟩ (.float .f32 x0)).cell? ⟨g2, k, none⟩ = some (.bool (known k)) := by rw [(hO2.kb.far (p := ⟨g1, k, none⟩) (Ne.symm hgo) (.float .f32 x0)).cell]; exact bools_get _ hkN
        have HO3 := hidA (hO2.put k x0)
        have hB3 := HB.out.next Hb.out
        rw [← Hx0.out] at hB3
        have HB3 := hidA hB3
        clear hB3 hO2 hgo
        go_wp2
        go_roundw
        case rel => exact ⟨k + 1, _, _, _, by omega, by go_num, HO3.out.step (by first | exact Ext.refl _ | exact Ext.drew (Ext.refl _)), HB3.out⟩
        case measure => simp [intOf]; omega
    · have hkN' : N = k := by omega
      subst hkN'
      have hR : RS Wn Hn N slope l known out := ⟨fun j hj hkj => by
          obtain ⟨a, b⟩ := HB.out.s2 j hkj
          rw [(HB.out.s1 j a b).2.1]
          exact Way.start (H := fun k => valI (l.getD k 0)) (by rw [← HN.out]; exact hj) b, fun j hj hkj => by
          obtain ⟨a, b⟩ := HB.out.s2 j hkj
          rw [(HB.out.s1 j a b).2.1]
          exact (Hh.out j hj).mono (by omega), fun j hj hbj => ⟨(HB.out.s1 j hj hbj).1, (HB.out.s1 j hj hbj).2.1⟩⟩
      have HR := hidA hR
      have HO := hidA hO
      clear hR hO HB
      go_wp2
      go_loopg [9] (2 * rankN known out N + 1) (fun gk s9 wr => ∃ (ag : Bool) (known : Nat → Bool) (out : Nat → Nat), s9 = .bool ag ∧ OM w wr hf g1 g2 X Y Wn Hn N A c known out ∧ RS Wn Hn N slope l known out ∧ (ag = false → CalmTo Wn Hn slope l known out N) ∧ 2 * rankN known out N + ag.toNat ≤ gk)
      case atStart => exact ⟨true, known, out, rfl, HO.out, HR.out, (fun h => by cases h), Nat.le_refl _⟩
      case round =>
        clear HR HO
        obtain ⟨ag, known, out, rfl, hO, hR, hC, hg⟩ := hrel
        have HR := hidA hR
        have HC := hidA hC
        have Hg := hidA hg
        clear hR hC hg
        cases ag
        · have hend := HR.out.least HN.out Hr.out.w1 (HC.out rfl)
          have Hend := hidA hend
          clear hend
          go_wp2
          go_ret
          exact ⟨g1, out, rfl, hO.b1, hO.ob, Hend.out.1, Hend.out.2, hO.ext⟩
        · have c4 := hO.fb.cell 4
          have Hg2 := hidA (show 2 * rankN known out N + 1 ≤ gk from Hg.out)
          obtain ⟨M0, hM0⟩ : ∃ M0, M0 = rankN known out N := ⟨_, rfl⟩
          rw [← hM0] at Hg2
          go_wp2
          clear c4
          go_loopw [9, 47] (fun s9 s47 wr => ∃ (ag : Bool) (k : Nat) (known : Nat → Bool) (out : Nat → Nat), s9 = .bool ag ∧ s47 = .int .i64 k ∧ k ≤ N ∧ OM w wr hf g1 g2 X Y Wn Hn N A c known out ∧ RS Wn Hn N slope l known out ∧ (ag = false → CalmTo Wn Hn slope l known out k) ∧ rankN known out N ≤ M0 ∧ (ag = true → rankN known out N < M0)) (fun _ s47 _ => N - (intOf s47).toNat)
          case atStart => exact ⟨false, 0, known, out, rfl, rfl, Nat.zero_le _, hO, HR.out, (fun _ j hj => by omega), Nat.le_of_eq hM0.symm, (fun h => by cases h)⟩
          case round =>
            clear hM0 hO HR HC Hg
            obtain ⟨ag, k, known, out, rfl, rfl, hk, hO, hR, hC, hM, hT⟩ := hrel
            have HR := hidA hR
            have HC := hidA hC
            have HM := hidA hM
            have HT := hidA hT
            clear hR hC hM hT
            by_cases hkN : k < N
            · have hkl : k < l.length := by have := Hl.out; omega
              obtain ⟨ad, rfl, hbk, hcv⟩ := (hV.ext hO.ext).at (k := k) (by rw [flt_length]; exact hkl)
              have ck := hcv k _ (flt_get hkl)
              have el : l.getD k 0 = l[k] := by simp [List.getD_eq_getElem?_getD, hkl]
              obtain ⟨x0, hx0⟩ : ∃ x0, x0 = l.getD k 0 := ⟨_, rfl⟩
              rw [← el, ← hx0] at ck
              have Hx0 := hidA hx0
              clear hcv el hx0
              have c0 := hO.fb.cell 0
              have c1 := hO.fb.cell 1
              have c2 := hO.fb.cell 2
              have c3 := hO.fb.cell 3
              have HBo := fun (w : World) => hidA (edge_any X Y Wn Hn k w Hr.out (by rw [← HN.out]; exact hkN))
              unfold rgv at HBo
              cases hb : brd Wn Hn k
              · have Hb := hidA hb
                rw [hb] at HBo
                clear hb
                go_upto_region 16 with (go_at_call 84; refine ((HBo _).out).mono ?_; rintro e w2 ⟨rfl, hx2⟩)
                have hO2 := hO.step hx2
                clear c0 c1 c2 c3 ck hO hx2 HBo
                go_wp2
                go_loopw [9, 56] (fun s9 s56 wr => ∃ (ag : Bool) (d : Nat) (known : Nat → Bool) (out : Nat → Nat), s9 = .bool ag ∧ s56 = .int .i64 d ∧ d ≤ 8 ∧ OM w wr hf g1 g2 X Y Wn Hn N (some ad) c known out ∧ RS Wn Hn N slope l known out ∧ (ag = false → CalmTo Wn Hn slope l known out k) ∧ (ag = false → ∀ d', d' < d → Calm Wn Hn slope l known out k d') ∧ rankN known out N ≤ M0 ∧ (ag = true → rankN known out N < M0)) (fun _ s56 _ => 8 - (intOf s56).toNat)
                case atStart => exact ⟨ag, 0, known, out, rfl, rfl, Nat.zero_le _, hO2, HR.out, HC.out, (fun _ d' h => by omega), HM.out, HT.out⟩
                case round =>
                  clear HR HC HM HT hO2
                  obtain ⟨ag, d, known, out, rfl, rfl, hd, hO, hR, hC, hD, hM, hT⟩ := hrel
                  have HR := hidA hR
                  have HC := hidA hC
                  have HD := hidA hD
                  have HM := hidA hM
                  have HT := hidA hT
                  clear hR hC hD hM hT
                  by_cases hd8 : d < 8
                  · have HNb := fun (w : World) => hidA (nb_any X Y Wn Hn k d w Hr.out (by rw [← HN.out]; exact hkN) hd8)
                    unfold rgv at HNb
                    obtain ⟨n, hnb⟩ : ∃ n, nbr Wn Hn k d = some n := by
                      cases h : nbr Wn Hn k d with
                      | some n => exact ⟨n, rfl⟩
                      | none =>
                        have h2 := (brd_nbr Hr.out.w1 (by rw [← HN.out]; exact hkN)).2 ⟨d, hd8, h⟩
                        rw [Hb.out] at h2
                        cases h2
                    have Hnb := hidA hnb
                    have hnN : n < N := by rw [HN.out]; exact nbr_lt hnb
                    rw [hnb] at HNb
                    simp only [nbI] at HNb
                    have c0 := hO.fb.cell 0
                    have c1 := hO.fb.cell 1
                    have c2 := hO.fb.cell 2
                    have c3 := hO.fb.cell 3
                    clear hnb
                    go_upto_region 20 with (go_at_call 63; refine ((HNb _).out).mono ?_; rintro e w4 ⟨rfl, hx4⟩)
                    have hO3 := hO.step hx4
                    clear c0 c1 c2 c3 hO hx4 HNb
                    have d1 : w4.cell? ⟨g2, n, none⟩ = some (.bool (known n)) := by rw [hO3.kb.cell]; exact bools_get _ hnN
                    have d2 : w4.cell? ⟨g2, k, none⟩ = some (.bool (known k)) := by rw [hO3.kb.cell]; exact bools_get _ hkN
                    have d3 : w4.cell? ⟨g1, n, none⟩ = some (.float .f32 (out n)) := by rw [hO3.ob.cell]; exact flo_get _ hnN
                    have i0 : (0 : Int) ≤ n := by omega
                    have i1 : (n : Int) < N := by omega
                    have j0 : (0 : Int) ≤ k := by omega
                    have j1 : (k : Int) < N := by omega
                    cases hkn : known n
                    · rw [hkn] at d1
                      have Hkn := hidA hkn
                      clear hkn
                      go_wp2
                      go_roundw
                      case rel =>
                        refine ⟨ag, d + 1, known, out, rfl, by go_num, by omega, hO3, HR.out, HC.out, fun hh d' hd' => ?_, HM.out, HT.out⟩
                        rcases Nat.lt_or_eq_of_le (Nat.le_of_lt_succ hd') with h1 | rfl
                        · exact HD.out hh d' h1
                        · intro n' hn' hk'
                          rw [Hnb.out] at hn'
                          injection hn' with hn'
                          subst hn'
                          rw [Hkn.out] at hk'
                          cases hk'
                      case measure => simp [intOf]; omega
                    · rw [hkn] at d1
                      have Hkn := hidA hkn
                      clear hkn
                      obtain ⟨x, hx⟩ : ∃ x, x = relR x0 slope (out n) := ⟨_, rfl⟩
                      have Hx := hidA hx
                      have hadd := (fadd_ok (HR.out.r2 n hnN Hkn.out) (Hs.out.mono (by omega : 10 ≤ 36)) (by omega)).1
                      have hrun := fun (w : World) => run_float_arith (P := Try.prog) w .add 27 .f32 _ _ _ hadd
                      clear hadd
                      cases hg : gt x0 (fadd (out n) slope)
                      · have hxe : x = fadd (out n) slope := by rw [hx]; unfold relR; rw [if_neg (by rw [hg]; decide)]
                        have hg' : (FloatKind.f32.format.order x0 (fadd (out n) slope) == some .gt) = false := hg
                        clear hg hx
                        rw [← hxe] at hrun hg'
                        clear hxe
                        go_upto_region 24 with fail
                        clear hg'
                        clear hrun
                        cases hkk : known k
                        · rw [hkk] at d2
                          have Hkk := hidA hkk
                          have o1 : w4.cell? ⟨g1, k, none⟩ = some (.float .f32 (out k)) := by rw [hO3.ob.cell]; exact flo_get _ hkN
                          have f1 := hO3.ob.frozen k
                          have f2 := hO3.kb.frozen k
                          have hgo : g1 ≠ g2 := Bk.ne hO3.ob hO3.kb (by decide)
                          have q1 : (w4.setCell ⟨g1, k, none⟩ (.float .f32 x)).cell? ⟨g2, k, none⟩ = some (.bool (known k)) := by rw [(hO3.kb.far (p := ⟨g1, k, none⟩) (Ne.symm hgo) (.float .f32 x)).cell]; exact bools_get _ hkN
                          have HO4 := hidA (hO3.put k x)
                          have HU := hidA (HR.out.upd HN.out Hr.out.w1 hkN Hb.out hd8 Hnb.out Hkn.out (Hh.out k hkN) Hs.out H0.out (by rw [← Hx0.out, ← Hx.out]; exact .inl Hkk.out))
                          rw [← Hx0.out, ← Hx.out] at HU
                          have HM2 := hidA (show rankN (updF known k true) (updF out k x) N < M0 from by have h1 := HU.out.2; have h2 := HM.out; omega)
                          clear hO3 hgo
                          go_wp2
                          go_roundw
                          case rel => exact ⟨true, d + 1, _, _, rfl, by go_num, by omega, HO4.out.step (by first | exact Ext.refl _ | exact Ext.drew (Ext.refl _)), HU.out.1, (fun h => by cases h), (fun h => by cases h), Nat.le_of_lt HM2.out, fun _ => HM2.out⟩
                          case measure => simp [intOf]; omega
                        · rw [hkk] at d2
                          have Hkk := hidA hkk
                          cases hlt : lt x (out k)
                          · have hlt' : (FloatKind.f32.format.order x (out k) == some .lt) = false := hlt
                            have Hlt := hidA hlt
                            have o1 : w4.cell? ⟨g1, k, none⟩ = some (.float .f32 (out k)) := by rw [hO3.ob.cell]; exact flo_get _ hkN
                            clear hlt
                            have HCk := hidA (show Calm Wn Hn slope l known out k d from fun n' hn' _ => by
                              have e : n' = n := by rw [Hnb.out] at hn'; injection hn' with hn'; exact hn'.symm
                              subst e
                              refine ⟨Hkk.out, ?_⟩
                              have h9 := relR_val (Hh.out k hkN) (HR.out.r2 n' hnN Hkn.out) Hs.out H0.out
                              rw [← Hx0.out] at h9
                              have h10 := Hlt.out
                              have hbx := relR_bd (Hh.out k hkN) (HR.out.r2 n' hnN Hkn.out) Hs.out H0.out
                              rw [← Hx0.out] at hbx
                              rw [lt_val (bd_Fin (by rw [Hx.out]; exact hbx) (by omega)) (bd_Fin (HR.out.r2 k hkN Hkk.out) (by omega)), Hx.out, h9] at h10
                              rw [Hx0.out] at h10
                              simpa using h10)
                            go_wp2
                            go_roundw
                            case rel =>
                              refine ⟨ag, d + 1, known, out, rfl, by go_num, by omega, hO3, HR.out, HC.out, fun hh d' hd' => ?_, HM.out, HT.out⟩
                              rcases Nat.lt_or_eq_of_le (Nat.le_of_lt_succ hd') with h1 | rfl
                              · exact HD.out hh d' h1
                              · exact HCk.out
                            case measure => simp [intOf]; omega
                          · have hlt' : (FloatKind.f32.format.order x (out k) == some .lt) = true := hlt
                            have Hlt := hidA hlt
                            clear hlt
                            have o1 : w4.cell? ⟨g1, k, none⟩ = some (.float .f32 (out k)) := by rw [hO3.ob.cell]; exact flo_get _ hkN
                            have f1 := hO3.ob.frozen k
                            have f2 := hO3.kb.frozen k
                            have hgo : g1 ≠ g2 := Bk.ne hO3.ob hO3.kb (by decide)
                            have q1 : (w4.setCell ⟨g1, k, none⟩ (.float .f32 x)).cell? ⟨g2, k, none⟩ = some (.bool (known k)) := by rw [(hO3.kb.far (p := ⟨g1, k, none⟩) (Ne.symm hgo) (.float .f32 x)).cell]; exact bools_get _ hkN
                            have HO4 := hidA (hO3.put k x)
                            have HU := hidA (HR.out.upd HN.out Hr.out.w1 hkN Hb.out hd8 Hnb.out Hkn.out (Hh.out k hkN) Hs.out H0.out (by rw [← Hx0.out, ← Hx.out]; exact .inr (by have h10 := Hlt.out; have hbx := relR_bd (Hh.out k hkN) (HR.out.r2 n hnN Hkn.out) Hs.out H0.out; rw [← Hx0.out, ← Hx.out] at hbx; rw [lt_val (bd_Fin hbx (by omega)) (bd_Fin (HR.out.r2 k hkN Hkk.out) (by omega))] at h10; simpa using h10)))
                            rw [← Hx0.out, ← Hx.out] at HU
                            have HM2 := hidA (show rankN (updF known k true) (updF out k x) N < M0 from by have h1 := HU.out.2; have h2 := HM.out; omega)
                            clear hO3 hgo
                            go_wp2
                            go_roundw
                            case rel => exact ⟨true, d + 1, _, _, rfl, by go_num, by omega, HO4.out.step (by first | exact Ext.refl _ | exact Ext.drew (Ext.refl _)), HU.out.1, (fun h => by cases h), (fun h => by cases h), Nat.le_of_lt HM2.out, fun _ => HM2.out⟩
                            case measure => simp [intOf]; omega
                      · have hxe : x = x0 := by rw [hx]; unfold relR; rw [if_pos hg]
                        have hg' : (FloatKind.f32.format.order x0 (fadd (out n) slope) == some .gt) = true := hg
                        clear hg hx
                        subst hxe
                        go_upto_region 24 with fail
                        clear hg'
                        clear hrun
                        cases hkk : known k
                        · rw [hkk] at d2
                          have Hkk := hidA hkk
                          have o1 : w4.cell? ⟨g1, k, none⟩ = some (.float .f32 (out k)) := by rw [hO3.ob.cell]; exact flo_get _ hkN
                          have f1 := hO3.ob.frozen k
                          have f2 := hO3.kb.frozen k
                          have hgo : g1 ≠ g2 := Bk.ne hO3.ob hO3.kb (by decide)
                          have q1 : (w4.setCell ⟨g1, k, none⟩ (.float .f32 x)).cell? ⟨g2, k, none⟩ = some (.bool (known k)) := by rw [(hO3.kb.far (p := ⟨g1, k, none⟩) (Ne.symm hgo) (.float .f32 x)).cell]; exact bools_get _ hkN
                          have HO4 := hidA (hO3.put k x)
                          have HU := hidA (HR.out.upd HN.out Hr.out.w1 hkN Hb.out hd8 Hnb.out Hkn.out (Hh.out k hkN) Hs.out H0.out (by rw [← Hx0.out, ← Hx.out]; exact .inl Hkk.out))
                          rw [← Hx0.out, ← Hx.out] at HU
                          have HM2 := hidA (show rankN (updF known k true) (updF out k x) N < M0 from by have h1 := HU.out.2; have h2 := HM.out; omega)
                          clear hO3 hgo
                          go_wp2
                          go_roundw
                          case rel => exact ⟨true, d + 1, _, _, rfl, by go_num, by omega, HO4.out.step (by first | exact Ext.refl _ | exact Ext.drew (Ext.refl _)), HU.out.1, (fun h => by cases h), (fun h => by cases h), Nat.le_of_lt HM2.out, fun _ => HM2.out⟩
                          case measure => simp [intOf]; omega
                        · rw [hkk] at d2
                          have Hkk := hidA hkk
                          cases hlt : lt x (out k)
                          · have hlt' : (FloatKind.f32.format.order x (out k) == some .lt) = false := hlt
                            have Hlt := hidA hlt
                            have o1 : w4.cell? ⟨g1, k, none⟩ = some (.float .f32 (out k)) := by rw [hO3.ob.cell]; exact flo_get _ hkN
                            clear hlt
                            have HCk := hidA (show Calm Wn Hn slope l known out k d from fun n' hn' _ => by
                              have e : n' = n := by rw [Hnb.out] at hn'; injection hn' with hn'; exact hn'.symm
                              subst e
                              refine ⟨Hkk.out, ?_⟩
                              have h9 := relR_val (Hh.out k hkN) (HR.out.r2 n' hnN Hkn.out) Hs.out H0.out
                              rw [← Hx0.out] at h9
                              have h10 := Hlt.out
                              have hbx := relR_bd (Hh.out k hkN) (HR.out.r2 n' hnN Hkn.out) Hs.out H0.out
                              rw [← Hx0.out] at hbx
                              rw [lt_val (bd_Fin (by rw [Hx.out]; exact hbx) (by omega)) (bd_Fin (HR.out.r2 k hkN Hkk.out) (by omega)), Hx.out, h9] at h10
                              rw [Hx0.out] at h10
                              simpa using h10)
                            go_wp2
                            go_roundw
                            case rel =>
                              refine ⟨ag, d + 1, known, out, rfl, by go_num, by omega, hO3, HR.out, HC.out, fun hh d' hd' => ?_, HM.out, HT.out⟩
                              rcases Nat.lt_or_eq_of_le (Nat.le_of_lt_succ hd') with h1 | rfl
                              · exact HD.out hh d' h1
                              · exact HCk.out
                            case measure => simp [intOf]; omega
                          · have hlt' : (FloatKind.f32.format.order x (out k) == some .lt) = true := hlt
                            have Hlt := hidA hlt
                            clear hlt
                            have o1 : w4.cell? ⟨g1, k, none⟩ = some (.float .f32 (out k)) := by rw [hO3.ob.cell]; exact flo_get _ hkN
                            have f1 := hO3.ob.frozen k
                            have f2 := hO3.kb.frozen k
                            have hgo : g1 ≠ g2 := Bk.ne hO3.ob hO3.kb (by decide)
                            have q1 : (w4.setCell ⟨g1, k, none⟩ (.float .f32 x)).cell? ⟨g2, k, none⟩ = some (.bool (known k)) := by rw [(hO3.kb.far (p := ⟨g1, k, none⟩) (Ne.symm hgo) (.float .f32 x)).cell]; exact bools_get _ hkN
                            have HO4 := hidA (hO3.put k x)
                            have HU := hidA (HR.out.upd HN.out Hr.out.w1 hkN Hb.out hd8 Hnb.out Hkn.out (Hh.out k hkN) Hs.out H0.out (by rw [← Hx0.out, ← Hx.out]; exact .inr (by have h10 := Hlt.out; have hbx := relR_bd (Hh.out k hkN) (HR.out.r2 n hnN Hkn.out) Hs.out H0.out; rw [← Hx0.out, ← Hx.out] at hbx; rw [lt_val (bd_Fin hbx (by omega)) (bd_Fin (HR.out.r2 k hkN Hkk.out) (by omega))] at h10; simpa using h10)))
                            rw [← Hx0.out, ← Hx.out] at HU
                            have HM2 := hidA (show rankN (updF known k true) (updF out k x) N < M0 from by have h1 := HU.out.2; have h2 := HM.out; omega)
                            clear hO3 hgo
                            go_wp2
                            go_roundw
                            case rel => exact ⟨true, d + 1, _, _, rfl, by go_num, by omega, HO4.out.step (by first | exact Ext.refl _ | exact Ext.drew (Ext.refl _)), HU.out.1, (fun h => by cases h), (fun h => by cases h), Nat.le_of_lt HM2.out, fun _ => HM2.out⟩
                            case measure => simp [intOf]; omega
                  · obtain rfl : d = 8 := by omega
                    go_wp2
                    go_roundw
                    case rel =>
                      refine ⟨ag, k + 1, known, out, rfl, by go_num, by omega, hO, HR.out, fun hh j hj hbj d' hd' => ?_, HM.out, HT.out⟩
                      rcases Nat.lt_or_eq_of_le (Nat.le_of_lt_succ hj) with h1 | rfl
                      · exact HC.out hh j h1 hbj d' hd'
                      · exact HD.out hh d' hd'
                    case measure => simp [intOf]; omega
              · have Hb := hidA hb
                rw [hb] at HBo
                clear hb
                go_wp2_with (go_at_call 84; refine ((HBo _).out).mono ?_; rintro e w2 ⟨rfl, hx2⟩)
                go_roundw
                case rel =>
                  refine ⟨ag, k + 1, known, out, rfl, by go_num, by omega, hO.step hx2, HR.out, fun hh j hj hbj d' hd' => ?_, HM.out, HT.out⟩
                  rcases Nat.lt_or_eq_of_le (Nat.le_of_lt_succ hj) with h1 | rfl
                  · exact HC.out hh j h1 hbj d' hd'
                  · rw [Hb.out] at hbj; cases hbj
                case measure => simp [intOf]; omega
            · obtain rfl : N = k := by omega
              go_wp2
              go_roundg (2 * rankN known out N + ag.toNat)
              case measure =>
                have h1 := Hg2.out
                have h2 := HM.out
                cases ag
                · simp; omega
                · have h3 := HT.out rfl
                  simp; omega
              case rel => exact ⟨ag, known, out, rfl, hO, HR.out, HC.out, Nat.le_refl _⟩
end Go.Proofs.Ytinohfgokpbcdaa

namespace Go.Proofs.Ytinohfgokpbcdaa
open Go.RowKit
attribute [local go_sem ↓] Go.wp_at_zero Go.wp_at_succ
attribute [local go_sem] run_store_float

set_option maxRecDepth 100000 in
set_option maxHeartbeats 6400000 in
theorem SteepOf_own (X Y : Int) (Wn Hn N : Nat) (A : Option Addr) (c : Nat) (l : List Nat) (w : World) (hr : Reg X Y Wn Hn) (hN : N = Wn * Hn) (hl : l.length = N) (hV : Rd w A (flt l)) (hh : ∀ j, j < N → Bd 20 (l.getD j 0)) :
    Calls Try.prog 37 #[rgv X Y Wn Hn, .slice A N c] w fun e w' => ∃ gi gf, e = .returned (.tuple #[.slice (some ⟨gi, 0, none⟩) N N, .slice (some ⟨gf, 0, none⟩) N N]) ∧
      Bk w' gi 3 (intB N fun k => (stp (fun j => l.getD j 0) Wn Hn k 8).1) ∧ Bk w' gf 27 (flo N fun k => (stp (fun j => l.getD j 0) Wn Hn k 8).2) ∧ Ext w w' ∧ w.heap.size ≤ gi := by
  have hN6 : N ≤ 65536 := by rw [hN]; exact hr.n
  have mi := mk_int N (by omega)
  have mf := mk_flo N (by omega)
  have HD := fun (k d : Nat) (wa : World) (hk : k < N) (hd : d < 8) (hx : Ext w wa) => hidA (drop_any X Y Wn Hn N k d A c l wa hr hN hl (hV.ext hx) hh hk hd)
  clear hr hN hl hh hV
  unfold rgv at HD ⊢
  go_enter Try.func37, Try.ntmps37
  go_upto_region 1 with fail
  go_region
  · obtain ⟨w1, hw1⟩ : ∃ w1, w1 = (((w.alloc (.cells #[.int .i64 X, .int .i64 Y, .int .i64 (Wn : Int), .int .i64 (Hn : Int)] 23)).alloc (.cells (intB N fun _ => 0) 3)).alloc (.cells (flo N fun _ => 0) 27)).drew := ⟨_, rfl⟩
    have hS : SO w w1 w.heap.size (w.heap.size + 1) (w.heap.size + 1 + 1) X Y Wn Hn N (fun _ => 0) (fun _ => 0) := by
      rw [hw1]
      refine ⟨?_, ?_, ?_, ?_, by omega, by omega⟩
      · refine Bk.drew (((Bk.new' ?_).alloc _).alloc _)
        simp
      · refine Bk.drew ((Bk.new' ?_).alloc _)
        simp
      · refine Bk.drew (Bk.new' ?_)
        simp
      · exact ((((Ext.refl w).alloc _).alloc _).alloc _).drew
    rw [← hw1]
    clear hw1
    generalize w.heap.size + 1 + 1 = gf at *
    generalize w.heap.size + 1 = gi at *
    generalize hrx : w.heap.size = hrr at hS ⊢
    clear hrx
    have HK := hidA (SOk.start (fun j => l.getD j 0) Wn Hn (fun _ => 0))
    go_wp2
    go_loopw [20] (fun s20 wr => ∃ (k : Nat) (I : Nat → Int) (F : Nat → Nat), k ≤ N ∧ s20 = .int .i64 k ∧ SO w wr hrr gi gf X Y Wn Hn N I F ∧ SOk (fun j => l.getD j 0) Wn Hn k I F) (fun s20 _ => N - (intOf s20).toNat)
    case atStart => exact ⟨0, _, _, Nat.zero_le _, rfl, hS, HK.out⟩
    case round =>
      clear hS HK
      obtain ⟨k, I, F, hk, rfl, hS, hK⟩ := hrel
      have HK := hidA hK
      clear hK
      by_cases hkN : k < N
      · have i0 : (0 : Int) ≤ k := by omega
        have i1 : (k : Int) < N := by omega
        have e0 : wr.cell? ⟨gi, k, none⟩ = some (.int .i64 (I k)) := by rw [hS.ib.cell]; exact intB_get _ hkN
        have e1 := hS.ib.frozen k
        have hS2 := hS.putI k (-1)
        have HK2 := hidA HK.out.enter
        clear HK
        go_upto_region 6 with fail
        clear hS e0 e1
        generalize wr.setCell ⟨gi, k, none⟩ (.int .i64 (-1)) = w2 at *
        generalize updF I k (-1) = I2 at *
        go_wp2
        go_loopw [26] (fun s26 wr => ∃ (d : Nat) (I : Nat → Int) (F : Nat → Nat), d ≤ 8 ∧ s26 = .int .i64 d ∧ SO w wr hrr gi gf X Y Wn Hn N I F ∧ SOd (fun j => l.getD j 0) Wn Hn k d I F) (fun s26 _ => 8 - (intOf s26).toNat)
        case atStart => exact ⟨0, _, _, by omega, rfl, hS2, HK2.out⟩
        case round =>
          clear hS2 HK2
          obtain ⟨d, I3, F3, hd, rfl, hS, hK⟩ := hrel
          have HK := hidA hK
          clear hK
          by_cases hd8 : d < 8
          · have c0 := hS.rb.cell 0
            have c1 := hS.rb.cell 1
            have c2 := hS.rb.cell 2
            have c3 := hS.rb.cell 3
            have HD2 := hidA (HD k d _ hkN hd8 hS.ext).out
            unfold dropV at HD2
            cases hn : nbr Wn Hn k d with
            | none =>
              have Hn' := hidA hn
              rw [hn] at HD2
              clear hn HD
              simp only [] at HD2
              go_wp2_with (go_at_call 93; refine (HD2.out).mono ?_; rintro e w3 ⟨rfl, hx3⟩)
              go_roundw
              case rel => exact ⟨d + 1, _, _, by omega, by go_num, hS.step hx3, HK.out.none Hn'.out⟩
              case measure => simp [intOf]; omega
            | some n =>
              have Hn' := hidA hn
              rw [hn] at HD2
              clear hn HD
              simp only [] at HD2
              obtain ⟨x, hx⟩ : ∃ x, x = dropF (fun j => l.getD j 0) k n d := ⟨_, rfl⟩
              rw [← hx] at HD2
              have Hx := hidA hx
              clear hx
              go_upto_region 10 with (go_at_call 93; refine (HD2.out).mono ?_; rintro e w3 ⟨rfl, hx3⟩)
              have hS3 := hS.step hx3
              clear c0 c1 c2 c3 hS hx3 HD2
              have f0 : w3.cell? ⟨gf, k, none⟩ = some (.float .f32 (F3 k)) := by rw [hS3.fb.cell]; exact flo_get _ hkN
              have f1 := hS3.fb.frozen k
              have e0 : w3.cell? ⟨gi, k, none⟩ = some (.int .i64 (I3 k)) := by rw [hS3.ib.cell]; exact intB_get _ hkN
              have e1 := hS3.ib.frozen k
              cases hg : gt x (F3 k)
              · have hg' : (FloatKind.f32.format.order x (F3 k) == some .gt) = false := hg
                rw [Hx.out] at hg
                have HK3 := hidA (HK.out.same Hn'.out hg)
                clear hg HK
                go_wp2
                go_roundw
                case rel => exact ⟨d + 1, _, _, by omega, by go_num, hS3, HK3.out⟩
                case measure => simp [intOf]; omega
              · have hg' : (FloatKind.f32.format.order x (F3 k) == some .gt) = true := hg
                rw [Hx.out] at hg
                have HK3 := hidA (HK.out.more Hn'.out hg)
                clear hg HK
                rw [← Hx.out] at HK3
                have hP := hidA ((hS3.putI k d).putF k x)
                have hgf : gf ≠ gi := Bk.ne hS3.fb hS3.ib (by decide)
                have f2 : (w3.setCell ⟨gi, k, none⟩ (.int .i64 (d : Int))).cell? ⟨gf, k, none⟩ = some (.float .f32 (F3 k)) := by rw [(hS3.fb.far (p := ⟨gi, k, none⟩) hgf (.int .i64 d)).cell]; exact flo_get _ hkN
                have f3 := (hS3.fb.far (p := ⟨gi, k, none⟩) hgf (.int .i64 d)).frozen k
                clear hS3
                go_wp2
                go_roundw
                case rel => exact ⟨d + 1, _, _, by omega, by go_num, hP.out, HK3.out⟩
                case measure => simp [intOf]; omega
          · have hd' : d = 8 := by omega
            subst hd'
            have HK3 := hidA HK.out.leave
            clear HK
            go_wp2
            go_roundw
            case rel => exact ⟨k + 1, _, _, by omega, by go_num, hS, HK3.out⟩
            case measure => simp [intOf]; omega
      · have hkN' : k = N := by omega
        subst hkN'
        go_wp2
        go_ret2
        refine ⟨gi, gf, rfl, ?_, ?_, hS.ext, hS.b1⟩
        · rw [← intB_congr fun j hj => (HK.out.1 j hj).1]
          exact hS.ib
        · rw [← flo_congr fun j hj => (HK.out.1 j hj).2]
          exact hS.fb
  · obtain ⟨w1, hw1⟩ : ∃ w1, w1 = (((w.alloc (.cells #[.int .i64 X, .int .i64 Y, .int .i64 (Wn : Int), .int .i64 (Hn : Int)] 23)).alloc (.cells (flo N fun _ => 0) 27)).alloc (.cells (intB N fun _ => 0) 3)).drew := ⟨_, rfl⟩
    have hS : SO w w1 w.heap.size (w.heap.size + 1 + 1) (w.heap.size + 1) X Y Wn Hn N (fun _ => 0) (fun _ => 0) := by
      rw [hw1]
      refine ⟨?_, ?_, ?_, ?_, by omega, by omega⟩
      · refine Bk.drew (((Bk.new' ?_).alloc _).alloc _)
        simp
      · refine Bk.drew (Bk.new' ?_)
        simp
      · refine Bk.drew ((Bk.new' ?_).alloc _)
        simp
      · exact ((((Ext.refl w).alloc _).alloc _).alloc _).drew
    rw [← hw1]
    clear hw1
    generalize w.heap.size + 1 + 1 = gi at *
    generalize w.heap.size + 1 = gf at *
    generalize hrx : w.heap.size = hrr at hS ⊢
    clear hrx
    have HK := hidA (SOk.start (fun j => l.getD j 0) Wn Hn (fun _ => 0))
    go_wp2
    go_loopw [20] (fun s20 wr => ∃ (k : Nat) (I : Nat → Int) (F : Nat → Nat), k ≤ N ∧ s20 = .int .i64 k ∧ SO w wr hrr gi gf X Y Wn Hn N I F ∧ SOk (fun j => l.getD j 0) Wn Hn k I F) (fun s20 _ => N - (intOf s20).toNat)
    case atStart => exact ⟨0, _, _, Nat.zero_le _, rfl, hS, HK.out⟩
    case round =>
      clear hS HK
      obtain ⟨k, I, F, hk, rfl, hS, hK⟩ := hrel
      have HK := hidA hK
      clear hK
      by_cases hkN : k < N
      · have i0 : (0 : Int) ≤ k := by omega
        have i1 : (k : Int) < N := by omega
        have e0 : wr.cell? ⟨gi, k, none⟩ = some (.int .i64 (I k)) := by rw [hS.ib.cell]; exact intB_get _ hkN
        have e1 := hS.ib.frozen k
        have hS2 := hS.putI k (-1)
        have HK2 := hidA HK.out.enter
        clear HK
        go_upto_region 6 with fail
        clear hS e0 e1
        generalize wr.setCell ⟨gi, k, none⟩ (.int .i64 (-1)) = w2 at *
        generalize updF I k (-1) = I2 at *
        go_wp2
        go_loopw [26] (fun s26 wr => ∃ (d : Nat) (I : Nat → Int) (F : Nat → Nat), d ≤ 8 ∧ s26 = .int .i64 d ∧ SO w wr hrr gi gf X Y Wn Hn N I F ∧ SOd (fun j => l.getD j 0) Wn Hn k d I F) (fun s26 _ => 8 - (intOf s26).toNat)
        case atStart => exact ⟨0, _, _, by omega, rfl, hS2, HK2.out⟩
        case round =>
          clear hS2 HK2
          obtain ⟨d, I3, F3, hd, rfl, hS, hK⟩ := hrel
          have HK := hidA hK
          clear hK
          by_cases hd8 : d < 8
          · have c0 := hS.rb.cell 0
            have c1 := hS.rb.cell 1
            have c2 := hS.rb.cell 2
            have c3 := hS.rb.cell 3
            have HD2 := hidA (HD k d _ hkN hd8 hS.ext).out
            unfold dropV at HD2
            cases hn : nbr Wn Hn k d with
            | none =>
              have Hn' := hidA hn
              rw [hn] at HD2
              clear hn HD
              simp only [] at HD2
              go_wp2_with (go_at_call 93; refine (HD2.out).mono ?_; rintro e w3 ⟨rfl, hx3⟩)
              go_roundw
              case rel => exact ⟨d + 1, _, _, by omega, by go_num, hS.step hx3, HK.out.none Hn'.out⟩
              case measure => simp [intOf]; omega
            | some n =>
              have Hn' := hidA hn
              rw [hn] at HD2
              clear hn HD
              simp only [] at HD2
              obtain ⟨x, hx⟩ : ∃ x, x = dropF (fun j => l.getD j 0) k n d := ⟨_, rfl⟩
              rw [← hx] at HD2
              have Hx := hidA hx
              clear hx
              go_upto_region 10 with (go_at_call 93; refine (HD2.out).mono ?_; rintro e w3 ⟨rfl, hx3⟩)
              have hS3 := hS.step hx3
              clear c0 c1 c2 c3 hS hx3 HD2
              have f0 : w3.cell? ⟨gf, k, none⟩ = some (.float .f32 (F3 k)) := by rw [hS3.fb.cell]; exact flo_get _ hkN
              have f1 := hS3.fb.frozen k
              have e0 : w3.cell? ⟨gi, k, none⟩ = some (.int .i64 (I3 k)) := by rw [hS3.ib.cell]; exact intB_get _ hkN
              have e1 := hS3.ib.frozen k
              cases hg : gt x (F3 k)
              · have hg' : (FloatKind.f32.format.order x (F3 k) == some .gt) = false := hg
                rw [Hx.out] at hg
                have HK3 := hidA (HK.out.same Hn'.out hg)
                clear hg HK
                go_wp2
                go_roundw
                case rel => exact ⟨d + 1, _, _, by omega, by go_num, hS3, HK3.out⟩
                case measure => simp [intOf]; omega
              · have hg' : (FloatKind.f32.format.order x (F3 k) == some .gt) = true := hg
                rw [Hx.out] at hg
                have HK3 := hidA (HK.out.more Hn'.out hg)
                clear hg HK
                rw [← Hx.out] at HK3
                have hP := hidA ((hS3.putI k d).putF k x)
                have hgf : gf ≠ gi := Bk.ne hS3.fb hS3.ib (by decide)
                have f2 : (w3.setCell ⟨gi, k, none⟩ (.int .i64 (d : Int))).cell? ⟨gf, k, none⟩ = some (.float .f32 (F3 k)) := by rw [(hS3.fb.far (p := ⟨gi, k, none⟩) hgf (.int .i64 d)).cell]; exact flo_get _ hkN
                have f3 := (hS3.fb.far (p := ⟨gi, k, none⟩) hgf (.int .i64 d)).frozen k
                clear hS3
                go_wp2
                go_roundw
                case rel => exact ⟨d + 1, _, _, by omega, by go_num, hP.out, HK3.out⟩
                case measure => simp [intOf]; omega
          · have hd' : d = 8 := by omega
            subst hd'
            have HK3 := hidA HK.out.leave
            clear HK
            go_wp2
            go_roundw
            case rel => exact ⟨k + 1, _, _, by omega, by go_num, hS, HK3.out⟩
            case measure => simp [intOf]; omega
      · have hkN' : k = N := by omega
        subst hkN'
        go_wp2
        go_ret2
        refine ⟨gi, gf, rfl, ?_, ?_, hS.ext, hS.b1⟩
        · rw [← intB_congr fun j hj => (HK.out.1 j hj).1]
          exact hS.ib
        · rw [← flo_congr fun j hj => (HK.out.1 j hj).2]
          exact hS.fb
end Go.Proofs.Ytinohfgokpbcdaa

namespace Go.Proofs.Ytinohfgokpbcdaa
open Go.RowKit
attribute [local go_sem ↓] Go.wp_at_zero Go.wp_at_succ
attribute [local go_sem] run_store_float

theorem Rd.of_blockD {w : World} {g : Nat} {t : TypeId} {cs : Array Value} (h : Bk w g t cs) : Rd w (some ⟨g, 0, none⟩) cs.toList := fun _ => ⟨_, rfl, h.lt, fun j u hu => by
  rw [lit_add, h.cell]
  simpa using hu⟩
theorem least_congr {Wn Hn s : Nat} {h : Nat → Nat} {r r' : Nat → Int} (hL : LeastG Wn Hn h s r) (e : ∀ k, k < Wn * Hn → r k = r' k) : LeastG Wn Hn h s r' := by
  refine ⟨fun k hk => ?_, fun k z hw => ?_⟩
  · rw [← e k hk]
    exact hL.1 k hk
  · have hk : k < Wn * Hn := by
      cases hw with
      | start hk _ => exact hk
      | step _ _ _ _ hk => exact hk
    rw [← e k hk]
    exact hL.2 k z hw
/-- what DrainOf holds in memory -/
structure DO (W0 w : World) (hf gw gi gr : Nat) (X Y : Int) (Wn Hn N : Nat) (A : Option Addr) (c : Nat) (v : Nat → Nat) (I R : Nat → Int) : Prop where
  fb : Bk w hf 26 #[.int .i64 X, .int .i64 Y, .int .i64 (Wn : Int), .int .i64 (Hn : Int), .slice A N c]
  wb : Bk w gw 27 (flo N v)
  ib : Bk w gi 3 (intB N I)
  kb : Bk w gr 3 (intB N R)
  ext : Ext W0 w
  b1 : W0.heap.size ≤ gi
  b2 : W0.heap.size ≤ gr
  ne : gi ≠ gr
section
variable {W0 w : World} {hf gw gi gr : Nat} {X Y : Int} {Wn Hn N : Nat} {A : Option Addr} {c : Nat} {v : Nat → Nat} {I R : Nat → Int}
theorem DO.step (h : DO W0 w hf gw gi gr X Y Wn Hn N A c v I R) {w' : World} (hx : Ext w w') : DO W0 w' hf gw gi gr X Y Wn Hn N A c v I R :=
  ⟨h.fb.ext hx, h.wb.ext hx, h.ib.ext hx, h.kb.ext hx, h.ext.trans hx, h.b1, h.b2, h.ne⟩
theorem DO.putI (h : DO W0 w hf gw gi gr X Y Wn Hn N A c v I R) (k : Nat) (x : Int) : DO W0 (w.setCell ⟨gi, k, none⟩ (.int .i64 x)) hf gw gi gr X Y Wn Hn N A c v (updF I k x) R := by
  have e1 := Bk.set h.ib k (.int .i64 x)
  rw [intB_set] at e1
  exact ⟨h.fb.far (Bk.ne h.fb h.ib (by decide)) _, h.wb.far (Bk.ne h.wb h.ib (by decide)) _, e1, h.kb.far (Ne.symm h.ne) _, h.ext.setCell h.b1 _, h.b1, h.b2, h.ne⟩
theorem DO.putR (h : DO W0 w hf gw gi gr X Y Wn Hn N A c v I R) (k : Nat) (x : Int) : DO W0 (w.setCell ⟨gr, k, none⟩ (.int .i64 x)) hf gw gi gr X Y Wn Hn N A c v I (updF R k x) := by
  have e1 := Bk.set h.kb k (.int .i64 x)
  rw [intB_set] at e1
  exact ⟨h.fb.far (Bk.ne h.fb h.kb (by decide)) _, h.wb.far (Bk.ne h.wb h.kb (by decide)) _, h.ib.far h.ne _, e1, h.ext.setCell h.b2 _, h.b1, h.b2, h.ne⟩
theorem DO.rcell (h : DO W0 w hf gw gi gr X Y Wn Hn N A c v I R) {k : Nat} (hk : k < N) {w' : World} (hx : Ext w w') : w'.cell? ⟨gr, k, none⟩ = some (.int .i64 (R k)) := by rw [(h.kb.ext hx).cell]; exact intB_get _ hk
theorem DO.icell (h : DO W0 w hf gw gi gr X Y Wn Hn N A c v I R) {k : Nat} (hk : k < N) {w' : World} (hx : Ext w w') : w'.cell? ⟨gi, k, none⟩ = some (.int .i64 (I k)) := by rw [(h.ib.ext hx).cell]; exact intB_get _ hk
theorem DO.wcell (h : DO W0 w hf gw gi gr X Y Wn Hn N A c v I R) {k : Nat} (hk : k < N) {w' : World} (hx : Ext w w') : w'.cell? ⟨gw, k, none⟩ = some (.float .f32 (v k)) := by rw [(h.wb.ext hx).cell]; exact flo_get _ hk
end
theorem feq_val {a b : Nat} (ha : Bd 20 a) (hb : Bd 20 b) : (FloatKind.f32.format.order a b == some .eq) = decide (valI a = valI b) := by
  have h := eq_val (bd_Fin ha (by omega)) (bd_Fin hb (by omega))
  rw [ord_def]
  by_cases e : valI a = valI b
  · rw [h.2 e]
    simp [e]
  · have h2 : ord a b ≠ some .eq := fun h3 => e (h.1 h3)
    simp [e, h2]

set_option maxRecDepth 100000 in
set_option maxHeartbeats 12800000 in
theorem DrainOf_any (X Y : Int) (Wn Hn N : Nat) (A : Option Addr) (c : Nat) (l : List Nat) (w : World) (hr : Reg X Y Wn Hn) (hN : N = Wn * Hn) (hl : l.length = N) (hV : Rd w A (flt l)) (hh : ∀ x ∈ l, Bd 20 x) :
    Calls Try.prog 69 #[.agg #[.int .i64 X, .int .i64 Y, .int .i64 (Wn : Int), .int .i64 (Hn : Int), .slice A N c]] w fun e w' => ∃ gi v, e = .returned (.slice (some ⟨gi, 0, none⟩) N N) ∧ LeastG Wn Hn (fun k => l.getD k 0) 0 (fun k => valI (v k)) ∧ Bk w' gi 3 (intB N (drnV v (rkV v Wn Hn N) Wn Hn)) ∧ Ext w w' := by
  have hN6 : N ≤ 65536 := by rw [hN]; exact hr.n
  have hN1 : 1 ≤ N := by rw [hN]; exact Nat.mul_pos hr.w1 hr.h1
  have hhk : ∀ k, k < Wn * Hn → Bd 20 (l.getD k 0) := fun k hk => by
    have hkl : k < l.length := by omega
    have e : l.getD k 0 = l[k] := by simp [List.getD_eq_getElem?_getD, hkl]
    rw [e]
    exact hh _ (List.getElem_mem hkl)
  have HFi := fun (w : World) (h : Rd w A (flt l)) => hidA (filledOf_any X Y Wn Hn N A c 0 l w hr hN hl h hh (zero_bd.mono (by omega)) (by rw [val_zero]; exact Int.le_refl _))
  have HSt := fun (g : Nat) (vL : List Nat) (w : World) (hvl : vL.length = N) (h : Rd w (some ⟨g, 0, none⟩) (flt vL)) (hb : ∀ j, j < N → Bd 20 (vL.getD j 0)) => hidA (SteepOf_own X Y Wn Hn N (some ⟨g, 0, none⟩) N vL w hr hN hvl h hb)
  unfold rgv at HSt
  have HNb := fun (k d : Nat) (w : World) (hk : k < N) (hd : d < 8) => hidA (nb_any X Y Wn Hn k d w hr (by rw [← hN]; exact hk) hd)
  have HEd := fun (k : Nat) (w : World) (hk : k < N) => hidA (edge_any X Y Wn Hn k w hr (by rw [← hN]; exact hk))
  unfold rgv at HNb HEd
  have Hfb := hidA (fun v => fill_bd (Wn := Wn) (Hn := Hn) (h := fun k => l.getD k 0) (v := v) hhk)
  have Hrk := hidA (fun (v : Nat → Nat) (hv : ∀ k, k < N → Bd 20 (v k)) hL => ranked (Wn := Wn) (Hn := Hn) (N := N) (h := fun k => l.getD k 0) (v := v) hr.w1 hN hN1 (fun k hk => hhk k (by rw [← hN]; exact hk)) hv hL)
  have Hbr := hidA (fun (k : Nat) (hk : k < N) => brd_all (Wn := Wn) (Hn := Hn) (k := k) hr.w1 (by rw [← hN]; exact hk))
  have Hnl := hidA (show ∀ k d m, nbr Wn Hn k d = some m → m < N from fun k d m h => by rw [hN]; exact nbr_lt h)
  have mi := mk_int N (by omega)
  have HN := hidA hN
  have Hl := hidA hl
  clear hr hl hh hhk hN
  go_enter Try.func69, Try.ntmps69
  have kF0 : Bk (w.alloc (.cells #[.int .i64 X, .int .i64 Y, .int .i64 (Wn : Int), .int .i64 (Hn : Int), .slice A N c] 26)) w.heap.size 26 #[.int .i64 X, .int .i64 Y, .int .i64 (Wn : Int), .int .i64 (Hn : Int), .slice A N c] := Bk.new' rfl
  have hx0 : Ext w (w.alloc (.cells #[.int .i64 X, .int .i64 Y, .int .i64 (Wn : Int), .int .i64 (Hn : Int), .slice A N c] 26)) := (Ext.refl w).alloc _
  go_upto_region 1 with fail
  generalize w.alloc (.cells #[.int .i64 X, .int .i64 Y, .int .i64 (Wn : Int), .int .i64 (Hn : Int), .slice A N c] 26) = w0 at *
  have f0 := kF0.cell 0
  have f1 := kF0.cell 1
  have f2 := kF0.cell 2
  have f3 := kF0.cell 3
  have f4 := kF0.cell 4
  go_upto_region 2 with (go_at_call 23; refine ((HFi _ (hV.ext hx0)).out).mono ?_; rintro e w1 ⟨gw, out, rfl, hgw, hWb, hLe, _, hx1⟩)
  have kF1 := kF0.ext hx1
  clear f0 f1 f2 f3 f4 kF0 HFi
  obtain ⟨vL, hvL⟩ : ∃ vL, vL = (List.range N).map out := ⟨_, rfl⟩
  have hvl : vL.length = N := by rw [hvL]; simp
  have hvk : ∀ k, k < N → vL.getD k 0 = out k := fun k hk => by rw [hvL]; simp [List.getD_eq_getElem?_getD, hk]
  have hLv : LeastG Wn Hn (fun k => l.getD k 0) 0 (fun k => valI (vL.getD k 0)) := least_congr hLe (fun k hk => by rw [hvk k (by rw [HN.out]; exact hk)])
  have hvb : ∀ k, k < N → Bd 20 (vL.getD k 0) := fun k hk => Hfb.out (fun k => vL.getD k 0) hLv k (by rw [← HN.out]; exact hk)
  have hrk := Hrk.out (fun k => vL.getD k 0) hvb hLv
  obtain ⟨v, hv⟩ : ∃ v : Nat → Nat, v = fun j => vL.getD j 0 := ⟨_, rfl⟩
  have hWv : Bk w1 gw 27 (flo N v) := by
    rw [hv, flo_congr hvk]
    exact hWb
  have hRv : Rd w1 (some ⟨gw, 0, none⟩) (flt vL) := by
    have h := Rd.of_blockD hWb
    rw [flo_list, ← hvL] at h
    exact h
  have HStv := fun (w : World) (h : Rd w (some ⟨gw, 0, none⟩) (flt vL)) => hidA (HSt gw vL w hvl h hvb).out
  have HLv : Hid (LeastG Wn Hn (fun k => l.getD k 0) 0 (fun k => valI (v k))) := by show LeastG _ _ _ _ _; rw [hv]; exact hLv
  have Hvb : Hid (∀ k, k < N → Bd 20 (v k)) := fun k hk => by rw [hv]; exact hvb k hk
  have Hrkv : Hid (∀ k, k < N → 0 ≤ rkV v Wn Hn (N - 1) k) := fun k hk => by rw [hv]; exact hrk k hk
  clear hWb hLe hvL hvl hvk hLv hvb hrk HSt Hfb Hrk
  have f0 := kF1.cell 0
  have f1 := kF1.cell 1
  have f2 := kF1.cell 2
  have f3 := kF1.cell 3
  go_upto_region 3 with (go_at_call 37; refine ((HStv _ hRv).out).mono ?_; rintro e w2 ⟨gi, gf, rfl, hIb, hFb, hx2, hgi⟩)
  have hil := hIb.lt
  have hIb' : Bk w2 gi 3 (intB N fun k => (stp v Wn Hn k 8).1) := by rw [hv]; exact hIb
  have hS0 : DO w (w2.alloc (.cells (intB N fun _ => 0) 3)) w.heap.size gw gi w2.heap.size X Y Wn Hn N A c v (fun k => (stp v Wn Hn k 8).1) (fun _ => 0) :=
    ⟨(kF1.ext hx2).alloc _, (hWv.ext hx2).alloc _, hIb'.alloc _, Bk.new' rfl, ((hx0.trans hx1).trans hx2).alloc _, by have := hx0.size; have := hx1.size; omega, by have := hx0.size; have := hx1.size; have := hx2.size; omega, by omega⟩
  clear f0 f1 f2 f3 kF1 hRv hWv HStv hIb hFb hx2 hx1 hx0
  go_upto_region 4 with fail
  generalize w2.alloc (.cells (intB N fun _ => 0) 3) = w3 at *
  generalize w2.heap.size = gr at *
  clear hv hIb' mi
  have HS0 := hidA hS0
  clear hS0 hil hgw hgi
  go_wp2_with fail
  go_loopw [30] (fun s30 wr => ∃ (k : Nat) (R : Nat → Int), k ≤ N ∧ s30 = .int .i64 k ∧ DO w wr w.heap.size gw gi gr X Y Wn Hn N A c v (fun k => (stp v Wn Hn k 8).1) R ∧ (∀ j, j < k → R j = rkV v Wn Hn 0 j) ∧ (∀ j, k ≤ j → R j = 0)) (fun s30 _ => N - (intOf s30).toNat)
  case atStart => exact ⟨0, _, Nat.zero_le _, rfl, HS0.out, fun j h => by omega, fun _ _ => rfl⟩
  case round =>
    clear HS0
    obtain ⟨k, R, hk, rfl, hS, hR1, hR2⟩ := hrel
    have HR1 := hidA hR1
    have HR2 := hidA hR2
    clear hR1 hR2
    by_cases hkN : k < N
    · have i0 : (0 : Int) ≤ k := by omega
      have i1 : (k : Int) < N := by omega
      have e0 := hS.icell hkN (Ext.refl _)
      have r0 := hS.rcell hkN (Ext.refl _)
      have r1 := hS.kb.frozen k
      have hsrc : srcB v Wn Hn k = (decide (0 ≤ (stp v Wn Hn k 8).1) || brd Wn Hn k) := rfl
      have hz := rkV_zero (v := v) (Wn := Wn) (Hn := Hn) k
      have Hz := hidA hz
      have Hsrc := hidA hsrc
      clear hz hsrc
      generalize hdir : (stp v Wn Hn k 8).1 = dir at *
      have Hdir := hidA hdir
      clear hdir
      have Hnext : Hid (∀ x : Int, x = rkV v Wn Hn 0 k → (∀ j, j < k + 1 → updF R k x j = rkV v Wn Hn 0 j) ∧ (∀ j, k + 1 ≤ j → updF R k x j = 0)) := by
        intro x hx
        refine ⟨fun j hj => ?_, fun j hj => ?_⟩
        · by_cases e : j = k
          · subst e
            rw [updF_same, hx]
          · rw [updF_ne _ _ e]
            exact HR1.out j (by omega)
        · rw [updF_ne _ _ (by omega)]
          exact HR2.out j (by omega)
      have hRk : R k = 0 := HR2.out k (Nat.le_refl _)
      have hup : updF R k 0 = R := by
        funext j
        unfold updF
        split
        · rename_i e; rw [e, hRk]
        · rfl
      by_cases hd0 : 0 ≤ dir
      · have Hv := hidA (Hnext.out 0 (by rw [Hz.out, Hsrc.out]; simp [hd0]))
        rw [hup] at Hv
        have hd1 : ¬ dir < 0 := by omega
        clear hup hRk Hnext
        go_wp2_with fail
        go_roundw
        case rel => exact ⟨k + 1, R, by omega, by go_num, hS, Hv.out.1, Hv.out.2⟩
        case measure => simp [intOf]; omega
      · have hd1 : dir < 0 := by omega
        have f0 := hS.fb.cell 0
        have f1 := hS.fb.cell 1
        have f2 := hS.fb.cell 2
        have f3 := hS.fb.cell 3
        have HEk := fun w => HEd k w hkN
        cases hb : brd Wn Hn k
        · have Hv := hidA (Hnext.out (-1) (by rw [Hz.out, Hsrc.out, hb]; simp [hd0]))
          rw [hb] at HEk
          have hP := fun (w' : World) (h : Ext wr w') => hidA ((hS.step h).putR k (-1))
          have r2 := fun (w' : World) (h : Ext wr w') => hS.rcell hkN h
          have r3 := fun (w' : World) (h : Ext wr w') => (hS.kb.ext h).frozen k
          clear hup hRk Hnext hb Hsrc Hz r0 r1
          go_wp2_with (go_at_call 84; refine ((HEk _).out).mono ?_; rintro e w5 ⟨rfl, hx5⟩; have q0 := r2 _ hx5; have q1 := r3 _ hx5)
          go_roundw
          case rel => exact ⟨k + 1, _, by omega, by go_num, (hP _ hx5).out, Hv.out.1, Hv.out.2⟩
          case measure => simp [intOf]; omega
        · have Hv := hidA (Hnext.out 0 (by rw [Hz.out, Hsrc.out, hb]; simp))
          rw [hup] at Hv
          rw [hb] at HEk
          clear hup hRk Hnext hb Hsrc Hz
          go_wp2_with (go_at_call 84; refine ((HEk _).out).mono ?_; rintro e w5 ⟨rfl, hx5⟩)
          go_roundw
          case rel => exact ⟨k + 1, R, by omega, by go_num, hS.step hx5, Hv.out.1, Hv.out.2⟩
          case measure => simp [intOf]; omega
    · obtain rfl : N = k := by omega
      have HSa := hidA hS
      clear hS HR2
      go_wp2_with fail
      go_loopw [8] (fun s8 wr => ∃ (n : Nat) (R : Nat → Int), n ≤ N ∧ s8 = .int .i64 n ∧ DO w wr w.heap.size gw gi gr X Y Wn Hn N A c v (fun k => (stp v Wn Hn k 8).1) R ∧ (∀ j, j < N → R j = rkV v Wn Hn n j)) (fun s8 _ => N - (intOf s8).toNat)
      case atStart => exact ⟨0, R, Nat.zero_le _, rfl, HSa.out, HR1.out⟩
      case round =>
        clear HSa HR1
        obtain ⟨n, R, hn, rfl, hS, hR⟩ := hrel
        have HR := hidA hR
        clear hR
        by_cases hnN : n < N
        · have n1 : (n : Int) < N := by omega
          have HSb := hidA hS
          clear hS
          go_wp2_with fail
          go_loopw [57] (fun s57 wr => ∃ (k : Nat) (R : Nat → Int), k ≤ N ∧ s57 = .int .i64 k ∧ DO w wr w.heap.size gw gi gr X Y Wn Hn N A c v (fun k => (stp v Wn Hn k 8).1) R ∧ (∀ j, j < k → R j = rkV v Wn Hn (n + 1) j) ∧ (∀ j, k ≤ j → j < N → R j = rkV v Wn Hn n j)) (fun s57 _ => N - (intOf s57).toNat)
          case atStart => exact ⟨0, R, Nat.zero_le _, rfl, HSb.out, fun j h => by omega, fun j _ h => HR.out j h⟩
          case round =>
            clear HSb HR
            obtain ⟨k, R, hk, rfl, hS, hRa, hRb⟩ := hrel
            have HRa := hidA hRa
            have HRb := hidA hRb
            clear hRa hRb
            by_cases hkN : k < N
            · have i0 : (0 : Int) ≤ k := by omega
              have i1 : (k : Int) < N := by omega
              have r0 := hS.rcell hkN (Ext.refl _)
              have hRk := HRb.out k (Nat.le_refl _) hkN
              by_cases h0 : 0 ≤ rkV v Wn Hn n k
              · have hx : 0 ≤ R k := by rw [hRk]; exact h0
                have Hv := hidA (show ∀ j, j < k + 1 → R j = rkV v Wn Hn (n + 1) j from fun j hj => by
                  by_cases e : j = k
                  · subst e
                    rw [hRk, rkV_old h0]
                  · exact HRa.out j (by omega))
                clear hRk h0
                generalize R k = x at r0 hx
                go_wp2_with fail
                go_roundw
                case rel => exact ⟨k + 1, R, by omega, by go_num, hS, Hv.out, fun j h1 h2 => HRb.out j (by omega) h2⟩
                case measure => simp [intOf]; omega
              · have h0' : rkV v Wn Hn n k < 0 := by omega
                obtain ⟨hbrd, _⟩ := src_brd (rkV_src h0')
                have Hbk := hidA (Hbr.out k hkN hbrd)
                have H0 := hidA h0'
                have HNk := fun d w hd => HNb k d w hkN hd
                have hx : R k < 0 := by rw [hRk]; exact h0'
                have hx2 : ¬ 0 ≤ R k := by omega
                have HRk := hidA hRk
                have HSc := hidA hS
                have Hrm := hidA (show ∀ m, m < N → (R m = (n : Int) ↔ rkV v Wn Hn n m = (n : Int)) from fun m hm => by
                  rcases Nat.lt_or_ge m k with h | h
                  · rw [HRa.out m h]
                    exact rkV_eqn
                  · rw [HRb.out m h hm])
                clear hRk h0 h0' hbrd hS
                generalize hxx : R k = x at r0 hx hx2
                have Hxx := hidA hxx
                clear hxx
                go_wp2_with fail
                clear r0
                go_loopw [65] (fun s65 wr => ∃ d : Nat, d ≤ 8 ∧ s65 = .int .i64 d ∧ DO w wr w.heap.size gw gi gr X Y Wn Hn N A c v (fun k => (stp v Wn Hn k 8).1) R ∧ (∀ d' m, d' < d → nbr Wn Hn k d' = some m → ¬ (valI (v m) = valI (v k) ∧ rkV v Wn Hn n m = (n : Int)))) (fun s65 _ => 8 - (intOf s65).toNat)
                case atStart => exact ⟨0, by omega, rfl, HSc.out, fun d' m h => by omega⟩
                case round =>
                  clear HSc
                  obtain ⟨d, hd, rfl, hS, hno⟩ := hrel
                  have Hno := hidA hno
                  clear hno
                  by_cases hd8 : d < 8
                  · obtain ⟨m, hm⟩ := Hbk.out d hd8
                    have hmN := Hnl.out k d m hm
                    have Hm := hidA hm
                    have HNd := fun w => HNk d w hd8
                    rw [hm] at HNd
                    unfold nbI at HNd
                    simp only [] at HNd
                    clear hm
                    have f0 := hS.fb.cell 0
                    have f1 := hS.fb.cell 1
                    have f2 := hS.fb.cell 2
                    have f3 := hS.fb.cell 3
                    have j0 : (0 : Int) ≤ m := by omega
                    have j1 : (m : Int) < N := by omega
                    go_upto_region 21 with (go_at_call 63; refine ((HNd _).out).mono ?_; rintro e w5 ⟨rfl, hx5⟩)
                    have hS5 := hS.step hx5
                    clear f0 f1 f2 f3 HNd hx5 hS
                    have HS5 := hidA hS5
                    have u1 : ∀ w', Ext w5 w' → w'.cell? ⟨gw, m, none⟩ = some (.float .f32 (v m)) := fun w' h => HS5.out.wcell hmN h
                    have u2 : ∀ w', Ext w5 w' → w'.cell? ⟨gw, k, none⟩ = some (.float .f32 (v k)) := fun w' h => HS5.out.wcell hkN h
                    have u3 : ∀ w', Ext w5 w' → w'.cell? ⟨gr, m, none⟩ = some (.int .i64 (R m)) := fun w' h => HS5.out.rcell hmN h
                    have hfe := feq_val (Hvb.out m hmN) (Hvb.out k hkN)
                    clear hS5
                    by_cases he : valI (v m) = valI (v k)
                    · rw [decide_eq_true he] at hfe
                      have He := hidA he
                      clear he
                      by_cases hrm : R m = (n : Int)
                      · have hb : (R m == (n : Int)) = true := by simp [hrm]
                        have Hrm2 := hidA ((Hrm.out m hmN).1 hrm)
                        have HP := hidA ((HS5.out.step (Ext.drew (Ext.refl _))).putR k ((n + 1 : Nat) : Int))
                        have r2 := HS5.out.rcell hkN (Ext.drew (Ext.refl _))
                        have r3 := (HS5.out.kb.drew).frozen k
                        clear hrm
                        generalize R m = z at u3 hb
                        generalize v m = va at u1 hfe
                        generalize v k = vb at u2 hfe
                        refine wp_region_noPanic ?_
                        refine wp_region_held_drew (S := fun w' => Ext w5 w') (by kernel_rfl) ?_ (fun hHeld => ?_)
                        · (repeat (first | exact Ext.refl _ | assumption | refine Ext.setCell ?_ (by first | (simp; done) | (simp; omega)) _ | refine Ext.drewN ?_ _ | refine Ext.alloc ?_ _ | refine Ext.drew ?_ | refine Ext.trans ?_ (by assumption)))
                        refine wpAnyH_take (i := 0) (oi := ?o1x0) (v := ?v1x0) ?hi1x0 (by kernel_rfl) ?hf1x0 ?hr1x0 (fun _ _ _ h => h) ?hy1x0 (by assumption) ?rest1x0
                        case hi1x0 => (simp only [List.getElem?_toArray, List.getElem?_cons_zero]; exact rfl)
                        case hf1x0 => kernel_rfl
                        case hr1x0 => kernel_rfl
                        case hy1x0 => (refine Or.inl ⟨by rfl, ?_⟩; intro w hSw; (try dsimp only at hSw); go_simp; try with_reducible rfl)
                        simp only [put_mk, List.set_cons_succ, List.set_cons_zero]
                        refine wpAnyH_take (i := 1) (oi := ?o1x1) (v := ?v1x1) ?hi1x1 (by kernel_rfl) ?hf1x1 ?hr1x1 (fun _ _ _ h => h) ?hy1x1 (by assumption) ?rest1x1
                        case hi1x1 => (simp only [List.getElem?_toArray, List.getElem?_cons_succ, List.getElem?_cons_zero]; exact rfl)
                        case hf1x1 => kernel_rfl
                        case hr1x1 => kernel_rfl
                        case hy1x1 => (refine Or.inl ⟨by rfl, ?_⟩; intro w hSw; (try dsimp only at hSw); go_simp; try with_reducible rfl)
                        simp only [put_mk, List.set_cons_succ, List.set_cons_zero]
                        refine wpAnyH_take (i := 2) (oi := ?o1x2) (v := ?v1x2) ?hi1x2 (by kernel_rfl) ?hf1x2 ?hr1x2 (fun _ _ _ h => h) ?hy1x2 (by assumption) ?rest1x2
                        case hi1x2 => (simp only [List.getElem?_toArray, List.getElem?_cons_succ, List.getElem?_cons_zero]; exact rfl)
                        case hf1x2 => kernel_rfl
                        case hr1x2 => kernel_rfl
                        case hy1x2 => (refine Or.inl ⟨by rfl, ?_⟩; intro w hSw; (try dsimp only at hSw); go_simp; try with_reducible rfl)
                        simp only [put_mk, List.set_cons_succ, List.set_cons_zero]
                        refine wpAnyH_take (i := 3) (oi := ?o1x3) (v := ?v1x3) ?hi1x3 (by kernel_rfl) ?hf1x3 ?hr1x3 (fun _ _ _ h => h) ?hy1x3 (by assumption) ?rest1x3
                        case hi1x3 => (simp only [List.getElem?_toArray, List.getElem?_cons_succ, List.getElem?_cons_zero]; exact rfl)
                        case hf1x3 => kernel_rfl
                        case hr1x3 => kernel_rfl
                        case hy1x3 => (refine Or.inl ⟨by rfl, ?_⟩; intro w hSw; (try dsimp only at hSw); go_simp; try with_reducible rfl)
                        simp only [put_mk, List.set_cons_succ, List.set_cons_zero]
                        refine wpAnyH_take (i := 4) (oi := ?o1x4) (v := ?v1x4) ?hi1x4 (by kernel_rfl) ?hf1x4 ?hr1x4 (fun _ _ _ h => h) ?hy1x4 (by assumption) ?rest1x4
                        case hi1x4 => (simp only [List.getElem?_toArray, List.getElem?_cons_succ, List.getElem?_cons_zero]; exact rfl)
                        case hf1x4 => kernel_rfl
                        case hr1x4 => kernel_rfl
                        case hy1x4 => (refine Or.inl ⟨by rfl, ?_⟩; intro w hSw; (try dsimp only at hSw); go_simp; try with_reducible rfl)
                        simp only [put_mk, List.set_cons_succ, List.set_cons_zero]
                        refine wpAnyH_take (i := 5) (oi := ?o1x5) (v := ?v1x5) ?hi1x5 (by kernel_rfl) ?hf1x5 ?hr1x5 (fun _ _ _ h => h) ?hy1x5 (by assumption) ?rest1x5
                        case hi1x5 => (simp only [List.getElem?_toArray, List.getElem?_cons_succ, List.getElem?_cons_zero]; exact rfl)
                        case hf1x5 => kernel_rfl
                        case hr1x5 => kernel_rfl
                        case hy1x5 => (refine Or.inl ⟨by rfl, ?_⟩; intro w hSw; (try dsimp only at hSw); go_simp; try with_reducible rfl)
                        simp only [put_mk, List.set_cons_succ, List.set_cons_zero]
                        refine wpAnyH_take (i := 6) (oi := ?o1x6) (v := ?v1x6) ?hi1x6 (by kernel_rfl) ?hf1x6 ?hr1x6 (fun _ _ _ h => h) ?hy1x6 (by assumption) ?rest1x6
                        case hi1x6 => (simp only [List.getElem?_toArray, List.getElem?_cons_succ, List.getElem?_cons_zero]; exact rfl)
                        case hf1x6 => kernel_rfl
                        case hr1x6 => kernel_rfl
                        case hy1x6 => (refine Or.inl ⟨by rfl, ?_⟩; intro w hSw; (try dsimp only at hSw); go_simp; try with_reducible rfl)
                        simp only [put_mk, List.set_cons_succ, List.set_cons_zero]
                        refine wpAnyH_take (i := 7) (oi := ?o1x7) (v := ?v1x7) ?hi1x7 (by kernel_rfl) ?hf1x7 ?hr1x7 (fun _ _ _ h => h) ?hy1x7 (by assumption) ?rest1x7
                        case hi1x7 => (simp only [List.getElem?_toArray, List.getElem?_cons_succ, List.getElem?_cons_zero]; exact rfl)
                        case hf1x7 => kernel_rfl
                        case hr1x7 => kernel_rfl
                        case hy1x7 => (refine Or.inl ⟨by rfl, ?_⟩; intro w hSw; (try dsimp only at hSw); go_simp; try with_reducible rfl)
                        simp only [put_mk, List.set_cons_succ, List.set_cons_zero]
                        refine wpAnyH_take (i := 8) (oi := ?o1x8) (v := ?v1x8) ?hi1x8 (by kernel_rfl) ?hf1x8 ?hr1x8 (fun _ _ _ h => h) ?hy1x8 (by assumption) ?rest1x8
                        case hi1x8 => (simp only [List.getElem?_toArray, List.getElem?_cons_succ, List.getElem?_cons_zero]; exact rfl)
                        case hf1x8 => kernel_rfl
                        case hr1x8 => kernel_rfl
                        case hy1x8 => (refine Or.inl ⟨by rfl, ?_⟩; intro w hSw; (try dsimp only at hSw); go_simp; try with_reducible rfl)
                        simp only [put_mk, List.set_cons_succ, List.set_cons_zero]
                        refine wpAnyH_take (i := 9) (oi := ?o1x9) (v := ?v1x9) ?hi1x9 (by kernel_rfl) ?hf1x9 ?hr1x9 (fun _ _ _ h => h) ?hy1x9 (by assumption) ?rest1x9
                        case hi1x9 => (simp only [List.getElem?_toArray, List.getElem?_cons_succ, List.getElem?_cons_zero]; exact rfl)
                        case hf1x9 => kernel_rfl
                        case hr1x9 => kernel_rfl
                        case hy1x9 => (refine Or.inl ⟨by rfl, ?_⟩; intro w hSw; (try dsimp only at hSw); go_simp; try with_reducible rfl)
                        simp only [put_mk, List.set_cons_succ, List.set_cons_zero]
                        refine wpAnyH_take (i := 10) (oi := ?o1x10) (v := ?v1x10) ?hi1x10 (by kernel_rfl) ?hf1x10 ?hr1x10 (fun _ _ _ h => h) ?hy1x10 (by assumption) ?rest1x10
                        case hi1x10 => (simp only [List.getElem?_toArray, List.getElem?_cons_succ, List.getElem?_cons_zero]; exact rfl)
                        case hf1x10 => kernel_rfl
                        case hr1x10 => kernel_rfl
                        case hy1x10 => (refine Or.inl ⟨by rfl, ?_⟩; intro w hSw; (try dsimp only at hSw); go_simp; try with_reducible rfl)
                        simp only [put_mk, List.set_cons_succ, List.set_cons_zero]
                        refine wpAnyH_take (i := 11) (oi := ?o1x11) (v := ?v1x11) ?hi1x11 (by kernel_rfl) ?hf1x11 ?hr1x11 (fun _ _ _ h => h) ?hy1x11 (by assumption) ?rest1x11
                        case hi1x11 => (simp only [List.getElem?_toArray, List.getElem?_cons_succ, List.getElem?_cons_zero]; exact rfl)
                        case hf1x11 => kernel_rfl
                        case hr1x11 => kernel_rfl
                        case hy1x11 => (refine Or.inl ⟨by rfl, ?_⟩; intro w hSw; (try dsimp only at hSw); go_simp; try with_reducible rfl)
                        simp only [put_mk, List.set_cons_succ, List.set_cons_zero]
                        refine wpAnyH_take (i := 12) (oi := ?o1x12) (v := ?v1x12) ?hi1x12 (by kernel_rfl) ?hf1x12 ?hr1x12 (fun _ _ _ h => h) ?hy1x12 (by assumption) ?rest1x12
                        case hi1x12 => (simp only [List.getElem?_toArray, List.getElem?_cons_succ, List.getElem?_cons_zero]; exact rfl)
                        case hf1x12 => kernel_rfl
                        case hr1x12 => kernel_rfl
                        case hy1x12 => (refine Or.inl ⟨by rfl, ?_⟩; intro w hSw; (try dsimp only at hSw); go_simp; try with_reducible rfl)
                        simp only [put_mk, List.set_cons_succ, List.set_cons_zero]
                        refine wpAnyH_take (i := 13) (oi := ?o1x13) (v := ?v1x13) ?hi1x13 (by kernel_rfl) ?hf1x13 ?hr1x13 (fun _ _ _ h => h) ?hy1x13 (by assumption) ?rest1x13
                        case hi1x13 => (simp only [List.getElem?_toArray, List.getElem?_cons_succ, List.getElem?_cons_zero]; exact rfl)
                        case hf1x13 => kernel_rfl
                        case hr1x13 => kernel_rfl
                        case hy1x13 => (refine Or.inl ⟨by rfl, ?_⟩; intro w hSw; (try dsimp only at hSw); go_simp; try with_reducible rfl)
                        simp only [put_mk, List.set_cons_succ, List.set_cons_zero]
                        refine wpAnyH_take (i := 14) (oi := ?o1x14) (v := ?v1x14) ?hi1x14 (by kernel_rfl) ?hf1x14 ?hr1x14 (fun _ _ _ h => h) ?hy1x14 (by assumption) ?rest1x14
                        case hi1x14 => (simp only [List.getElem?_toArray, List.getElem?_cons_succ, List.getElem?_cons_zero]; exact rfl)
                        case hf1x14 => kernel_rfl
                        case hr1x14 => kernel_rfl
                        case hy1x14 => (refine Or.inl ⟨by rfl, ?_⟩; intro w hSw; (try dsimp only at hSw); go_simp; try with_reducible rfl)
                        simp only [put_mk, List.set_cons_succ, List.set_cons_zero]
                        refine wpAnyH_take (i := 15) (oi := ?o1x15) (v := ?v1x15) ?hi1x15 (by kernel_rfl) ?hf1x15 ?hr1x15 (fun _ _ _ h => h) ?hy1x15 (by assumption) ?rest1x15
                        case hi1x15 => (simp only [List.getElem?_toArray, List.getElem?_cons_succ, List.getElem?_cons_zero]; exact rfl)
                        case hf1x15 => kernel_rfl
                        case hr1x15 => kernel_rfl
                        case hy1x15 => (refine Or.inl ⟨by rfl, ?_⟩; intro w hSw; (try dsimp only at hSw); go_simp; try with_reducible rfl)
                        simp only [put_mk, List.set_cons_succ, List.set_cons_zero]
                        refine wpAnyH_take (i := 16) (oi := ?o1x16) (v := ?v1x16) ?hi1x16 (by kernel_rfl) ?hf1x16 ?hr1x16 (fun _ _ _ h => h) ?hy1x16 (by assumption) ?rest1x16
                        case hi1x16 => (simp only [List.getElem?_toArray, List.getElem?_cons_succ, List.getElem?_cons_zero]; exact rfl)
                        case hf1x16 => kernel_rfl
                        case hr1x16 => kernel_rfl
                        case hy1x16 => (refine Or.inl ⟨by rfl, ?_⟩; intro w hSw; (try dsimp only at hSw); go_simp; try with_reducible rfl)
                        simp only [put_mk, List.set_cons_succ, List.set_cons_zero]
                        refine wpAnyH_done (by kernel_rfl) ?_ _
                        refine NoPanic.normal ?_
                        clear u1 u2 u3 hHeld
                        go_wp2_with fail
                        go_roundw
                        case rel =>
                          refine ⟨k + 1, _, by omega, by go_num, HP.out, fun j hj => ?_, fun j h1 h2 => ?_⟩
                          · by_cases e : j = k
                            · subst e
                              rw [updF_same, rkV_some H0.out hd8 Hm.out He.out Hrm2.out]
                            · rw [updF_ne _ _ e]
                              exact HRa.out j (by omega)
                          · rw [updF_ne _ _ (by omega)]
                            exact HRb.out j (by omega) h2
                        case measure => simp [intOf]; omega
                      · have hb : (R m == (n : Int)) = false := by simp [hrm]
                        have Hno2 := hidA (show ∀ d' m, d' < d + 1 → nbr Wn Hn k d' = some m → ¬ (valI (v m) = valI (v k) ∧ rkV v Wn Hn n m = (n : Int)) from fun d' m' h1 h2 h3 => by
                          by_cases e : d' = d
                          · subst e
                            obtain rfl : m = m' := Option.some.inj (Hm.out.symm.trans h2)
                            exact hrm ((Hrm.out m hmN).2 h3.2)
                          · exact Hno.out d' m' (by omega) h2 h3)
                        clear hrm
                        generalize R m = z at u3 hb
                        generalize v m = va at u1 hfe
                        generalize v k = vb at u2 hfe
                        refine wp_region_noPanic ?_
                        refine wp_region_held_drew (S := fun w' => Ext w5 w') (by kernel_rfl) ?_ (fun hHeld => ?_)
                        · (repeat (first | exact Ext.refl _ | assumption | refine Ext.setCell ?_ (by first | (simp; done) | (simp; omega)) _ | refine Ext.drewN ?_ _ | refine Ext.alloc ?_ _ | refine Ext.drew ?_ | refine Ext.trans ?_ (by assumption)))
                        refine wpAnyH_take (i := 0) (oi := ?o2x0) (v := ?v2x0) ?hi2x0 (by kernel_rfl) ?hf2x0 ?hr2x0 (fun _ _ _ h => h) ?hy2x0 (by assumption) ?rest2x0
                        case hi2x0 => (simp only [List.getElem?_toArray, List.getElem?_cons_zero]; exact rfl)
                        case hf2x0 => kernel_rfl
                        case hr2x0 => kernel_rfl
                        case hy2x0 => (refine Or.inl ⟨by rfl, ?_⟩; intro w hSw; (try dsimp only at hSw); go_simp; try with_reducible rfl)
                        simp only [put_mk, List.set_cons_succ, List.set_cons_zero]
                        refine wpAnyH_take (i := 1) (oi := ?o2x1) (v := ?v2x1) ?hi2x1 (by kernel_rfl) ?hf2x1 ?hr2x1 (fun _ _ _ h => h) ?hy2x1 (by assumption) ?rest2x1
                        case hi2x1 => (simp only [List.getElem?_toArray, List.getElem?_cons_succ, List.getElem?_cons_zero]; exact rfl)
                        case hf2x1 => kernel_rfl
                        case hr2x1 => kernel_rfl
                        case hy2x1 => (refine Or.inl ⟨by rfl, ?_⟩; intro w hSw; (try dsimp only at hSw); go_simp; try with_reducible rfl)
                        simp only [put_mk, List.set_cons_succ, List.set_cons_zero]
                        refine wpAnyH_take (i := 2) (oi := ?o2x2) (v := ?v2x2) ?hi2x2 (by kernel_rfl) ?hf2x2 ?hr2x2 (fun _ _ _ h => h) ?hy2x2 (by assumption) ?rest2x2
                        case hi2x2 => (simp only [List.getElem?_toArray, List.getElem?_cons_succ, List.getElem?_cons_zero]; exact rfl)
                        case hf2x2 => kernel_rfl
                        case hr2x2 => kernel_rfl
                        case hy2x2 => (refine Or.inl ⟨by rfl, ?_⟩; intro w hSw; (try dsimp only at hSw); go_simp; try with_reducible rfl)
                        simp only [put_mk, List.set_cons_succ, List.set_cons_zero]
                        refine wpAnyH_take (i := 3) (oi := ?o2x3) (v := ?v2x3) ?hi2x3 (by kernel_rfl) ?hf2x3 ?hr2x3 (fun _ _ _ h => h) ?hy2x3 (by assumption) ?rest2x3
                        case hi2x3 => (simp only [List.getElem?_toArray, List.getElem?_cons_succ, List.getElem?_cons_zero]; exact rfl)
                        case hf2x3 => kernel_rfl
                        case hr2x3 => kernel_rfl
                        case hy2x3 => (refine Or.inl ⟨by rfl, ?_⟩; intro w hSw; (try dsimp only at hSw); go_simp; try with_reducible rfl)
                        simp only [put_mk, List.set_cons_succ, List.set_cons_zero]
                        refine wpAnyH_take (i := 4) (oi := ?o2x4) (v := ?v2x4) ?hi2x4 (by kernel_rfl) ?hf2x4 ?hr2x4 (fun _ _ _ h => h) ?hy2x4 (by assumption) ?rest2x4
                        case hi2x4 => (simp only [List.getElem?_toArray, List.getElem?_cons_succ, List.getElem?_cons_zero]; exact rfl)
                        case hf2x4 => kernel_rfl
                        case hr2x4 => kernel_rfl
                        case hy2x4 => (refine Or.inl ⟨by rfl, ?_⟩; intro w hSw; (try dsimp only at hSw); go_simp; try with_reducible rfl)
                        simp only [put_mk, List.set_cons_succ, List.set_cons_zero]
                        refine wpAnyH_take (i := 5) (oi := ?o2x5) (v := ?v2x5) ?hi2x5 (by kernel_rfl) ?hf2x5 ?hr2x5 (fun _ _ _ h => h) ?hy2x5 (by assumption) ?rest2x5
                        case hi2x5 => (simp only [List.getElem?_toArray, List.getElem?_cons_succ, List.getElem?_cons_zero]; exact rfl)
                        case hf2x5 => kernel_rfl
                        case hr2x5 => kernel_rfl
                        case hy2x5 => (refine Or.inl ⟨by rfl, ?_⟩; intro w hSw; (try dsimp only at hSw); go_simp; try with_reducible rfl)
                        simp only [put_mk, List.set_cons_succ, List.set_cons_zero]
                        refine wpAnyH_take (i := 6) (oi := ?o2x6) (v := ?v2x6) ?hi2x6 (by kernel_rfl) ?hf2x6 ?hr2x6 (fun _ _ _ h => h) ?hy2x6 (by assumption) ?rest2x6
                        case hi2x6 => (simp only [List.getElem?_toArray, List.getElem?_cons_succ, List.getElem?_cons_zero]; exact rfl)
                        case hf2x6 => kernel_rfl
                        case hr2x6 => kernel_rfl
                        case hy2x6 => (refine Or.inl ⟨by rfl, ?_⟩; intro w hSw; (try dsimp only at hSw); go_simp; try with_reducible rfl)
                        simp only [put_mk, List.set_cons_succ, List.set_cons_zero]
                        refine wpAnyH_take (i := 7) (oi := ?o2x7) (v := ?v2x7) ?hi2x7 (by kernel_rfl) ?hf2x7 ?hr2x7 (fun _ _ _ h => h) ?hy2x7 (by assumption) ?rest2x7
                        case hi2x7 => (simp only [List.getElem?_toArray, List.getElem?_cons_succ, List.getElem?_cons_zero]; exact rfl)
                        case hf2x7 => kernel_rfl
                        case hr2x7 => kernel_rfl
                        case hy2x7 => (refine Or.inl ⟨by rfl, ?_⟩; intro w hSw; (try dsimp only at hSw); go_simp; try with_reducible rfl)
                        simp only [put_mk, List.set_cons_succ, List.set_cons_zero]
                        refine wpAnyH_take (i := 8) (oi := ?o2x8) (v := ?v2x8) ?hi2x8 (by kernel_rfl) ?hf2x8 ?hr2x8 (fun _ _ _ h => h) ?hy2x8 (by assumption) ?rest2x8
                        case hi2x8 => (simp only [List.getElem?_toArray, List.getElem?_cons_succ, List.getElem?_cons_zero]; exact rfl)
                        case hf2x8 => kernel_rfl
                        case hr2x8 => kernel_rfl
                        case hy2x8 => (refine Or.inl ⟨by rfl, ?_⟩; intro w hSw; (try dsimp only at hSw); go_simp; try with_reducible rfl)
                        simp only [put_mk, List.set_cons_succ, List.set_cons_zero]
                        refine wpAnyH_take (i := 9) (oi := ?o2x9) (v := ?v2x9) ?hi2x9 (by kernel_rfl) ?hf2x9 ?hr2x9 (fun _ _ _ h => h) ?hy2x9 (by assumption) ?rest2x9
                        case hi2x9 => (simp only [List.getElem?_toArray, List.getElem?_cons_succ, List.getElem?_cons_zero]; exact rfl)
                        case hf2x9 => kernel_rfl
                        case hr2x9 => kernel_rfl
                        case hy2x9 => (refine Or.inl ⟨by rfl, ?_⟩; intro w hSw; (try dsimp only at hSw); go_simp; try with_reducible rfl)
                        simp only [put_mk, List.set_cons_succ, List.set_cons_zero]
                        refine wpAnyH_take (i := 10) (oi := ?o2x10) (v := ?v2x10) ?hi2x10 (by kernel_rfl) ?hf2x10 ?hr2x10 (fun _ _ _ h => h) ?hy2x10 (by assumption) ?rest2x10
                        case hi2x10 => (simp only [List.getElem?_toArray, List.getElem?_cons_succ, List.getElem?_cons_zero]; exact rfl)
                        case hf2x10 => kernel_rfl
                        case hr2x10 => kernel_rfl
                        case hy2x10 => (refine Or.inl ⟨by rfl, ?_⟩; intro w hSw; (try dsimp only at hSw); go_simp; try with_reducible rfl)
                        simp only [put_mk, List.set_cons_succ, List.set_cons_zero]
                        refine wpAnyH_take (i := 11) (oi := ?o2x11) (v := ?v2x11) ?hi2x11 (by kernel_rfl) ?hf2x11 ?hr2x11 (fun _ _ _ h => h) ?hy2x11 (by assumption) ?rest2x11
                        case hi2x11 => (simp only [List.getElem?_toArray, List.getElem?_cons_succ, List.getElem?_cons_zero]; exact rfl)
                        case hf2x11 => kernel_rfl
                        case hr2x11 => kernel_rfl
                        case hy2x11 => (refine Or.inl ⟨by rfl, ?_⟩; intro w hSw; (try dsimp only at hSw); go_simp; try with_reducible rfl)
                        simp only [put_mk, List.set_cons_succ, List.set_cons_zero]
                        refine wpAnyH_take (i := 12) (oi := ?o2x12) (v := ?v2x12) ?hi2x12 (by kernel_rfl) ?hf2x12 ?hr2x12 (fun _ _ _ h => h) ?hy2x12 (by assumption) ?rest2x12
                        case hi2x12 => (simp only [List.getElem?_toArray, List.getElem?_cons_succ, List.getElem?_cons_zero]; exact rfl)
                        case hf2x12 => kernel_rfl
                        case hr2x12 => kernel_rfl
                        case hy2x12 => (refine Or.inl ⟨by rfl, ?_⟩; intro w hSw; (try dsimp only at hSw); go_simp; try with_reducible rfl)
                        simp only [put_mk, List.set_cons_succ, List.set_cons_zero]
                        refine wpAnyH_take (i := 13) (oi := ?o2x13) (v := ?v2x13) ?hi2x13 (by kernel_rfl) ?hf2x13 ?hr2x13 (fun _ _ _ h => h) ?hy2x13 (by assumption) ?rest2x13
                        case hi2x13 => (simp only [List.getElem?_toArray, List.getElem?_cons_succ, List.getElem?_cons_zero]; exact rfl)
                        case hf2x13 => kernel_rfl
                        case hr2x13 => kernel_rfl
                        case hy2x13 => (refine Or.inl ⟨by rfl, ?_⟩; intro w hSw; (try dsimp only at hSw); go_simp; try with_reducible rfl)
                        simp only [put_mk, List.set_cons_succ, List.set_cons_zero]
                        refine wpAnyH_take (i := 14) (oi := ?o2x14) (v := ?v2x14) ?hi2x14 (by kernel_rfl) ?hf2x14 ?hr2x14 (fun _ _ _ h => h) ?hy2x14 (by assumption) ?rest2x14
                        case hi2x14 => (simp only [List.getElem?_toArray, List.getElem?_cons_succ, List.getElem?_cons_zero]; exact rfl)
                        case hf2x14 => kernel_rfl
                        case hr2x14 => kernel_rfl
                        case hy2x14 => (refine Or.inl ⟨by rfl, ?_⟩; intro w hSw; (try dsimp only at hSw); go_simp; try with_reducible rfl)
                        simp only [put_mk, List.set_cons_succ, List.set_cons_zero]
                        refine wpAnyH_take (i := 15) (oi := ?o2x15) (v := ?v2x15) ?hi2x15 (by kernel_rfl) ?hf2x15 ?hr2x15 (fun _ _ _ h => h) ?hy2x15 (by assumption) ?rest2x15
                        case hi2x15 => (simp only [List.getElem?_toArray, List.getElem?_cons_succ, List.getElem?_cons_zero]; exact rfl)
                        case hf2x15 => kernel_rfl
                        case hr2x15 => kernel_rfl
                        case hy2x15 => (refine Or.inl ⟨by rfl, ?_⟩; intro w hSw; (try dsimp only at hSw); go_simp; try with_reducible rfl)
                        simp only [put_mk, List.set_cons_succ, List.set_cons_zero]
                        refine wpAnyH_take (i := 16) (oi := ?o2x16) (v := ?v2x16) ?hi2x16 (by kernel_rfl) ?hf2x16 ?hr2x16 (fun _ _ _ h => h) ?hy2x16 (by assumption) ?rest2x16
                        case hi2x16 => (simp only [List.getElem?_toArray, List.getElem?_cons_succ, List.getElem?_cons_zero]; exact rfl)
                        case hf2x16 => kernel_rfl
                        case hr2x16 => kernel_rfl
                        case hy2x16 => (refine Or.inl ⟨by rfl, ?_⟩; intro w hSw; (try dsimp only at hSw); go_simp; try with_reducible rfl)
                        simp only [put_mk, List.set_cons_succ, List.set_cons_zero]
                        refine wpAnyH_done (by kernel_rfl) ?_ _
                        refine NoPanic.normal ?_
                        clear u1 u2 u3 hHeld
                        go_wp2_with fail
                        go_roundw
                        case rel => exact ⟨d + 1, by omega, by go_num, HS5.out.step (Ext.drew (Ext.refl _)), Hno2.out⟩
                        case measure => simp [intOf]; omega
                    · rw [decide_eq_false he] at hfe
                      have Hno2 := hidA (show ∀ d' m, d' < d + 1 → nbr Wn Hn k d' = some m → ¬ (valI (v m) = valI (v k) ∧ rkV v Wn Hn n m = (n : Int)) from fun d' m' h1 h2 h3 => by
                        by_cases e : d' = d
                        · subst e
                          obtain rfl : m = m' := Option.some.inj (Hm.out.symm.trans h2)
                          exact he h3.1
                        · exact Hno.out d' m' (by omega) h2 h3)
                      clear he
                      generalize v m = va at u1 hfe
                      generalize v k = vb at u2 hfe
                      refine wp_region_noPanic ?_
                      refine wp_region_held_drew (S := fun w' => Ext w5 w') (by kernel_rfl) ?_ (fun hHeld => ?_)
                      · (repeat (first | exact Ext.refl _ | assumption | refine Ext.setCell ?_ (by first | (simp; done) | (simp; omega)) _ | refine Ext.drewN ?_ _ | refine Ext.alloc ?_ _ | refine Ext.drew ?_ | refine Ext.trans ?_ (by assumption)))
                      refine wpAnyH_take (i := 0) (oi := ?o3x0) (v := ?v3x0) ?hi3x0 (by kernel_rfl) ?hf3x0 ?hr3x0 (fun _ _ _ h => h) ?hy3x0 (by assumption) ?rest3x0
                      case hi3x0 => (simp only [List.getElem?_toArray, List.getElem?_cons_zero]; exact rfl)
                      case hf3x0 => kernel_rfl
                      case hr3x0 => kernel_rfl
                      case hy3x0 => (refine Or.inl ⟨by rfl, ?_⟩; intro w hSw; (try dsimp only at hSw); go_simp; try with_reducible rfl)
                      simp only [put_mk, List.set_cons_succ, List.set_cons_zero]
                      refine wpAnyH_take (i := 1) (oi := ?o3x1) (v := ?v3x1) ?hi3x1 (by kernel_rfl) ?hf3x1 ?hr3x1 (fun _ _ _ h => h) ?hy3x1 (by assumption) ?rest3x1
                      case hi3x1 => (simp only [List.getElem?_toArray, List.getElem?_cons_succ, List.getElem?_cons_zero]; exact rfl)
                      case hf3x1 => kernel_rfl
                      case hr3x1 => kernel_rfl
                      case hy3x1 => (refine Or.inl ⟨by rfl, ?_⟩; intro w hSw; (try dsimp only at hSw); go_simp; try with_reducible rfl)
                      simp only [put_mk, List.set_cons_succ, List.set_cons_zero]
                      refine wpAnyH_take (i := 2) (oi := ?o3x2) (v := ?v3x2) ?hi3x2 (by kernel_rfl) ?hf3x2 ?hr3x2 (fun _ _ _ h => h) ?hy3x2 (by assumption) ?rest3x2
                      case hi3x2 => (simp only [List.getElem?_toArray, List.getElem?_cons_succ, List.getElem?_cons_zero]; exact rfl)
                      case hf3x2 => kernel_rfl
                      case hr3x2 => kernel_rfl
                      case hy3x2 => (refine Or.inl ⟨by rfl, ?_⟩; intro w hSw; (try dsimp only at hSw); go_simp; try with_reducible rfl)
                      simp only [put_mk, List.set_cons_succ, List.set_cons_zero]
                      refine wpAnyH_take (i := 3) (oi := ?o3x3) (v := ?v3x3) ?hi3x3 (by kernel_rfl) ?hf3x3 ?hr3x3 (fun _ _ _ h => h) ?hy3x3 (by assumption) ?rest3x3
                      case hi3x3 => (simp only [List.getElem?_toArray, List.getElem?_cons_succ, List.getElem?_cons_zero]; exact rfl)
                      case hf3x3 => kernel_rfl
                      case hr3x3 => kernel_rfl
                      case hy3x3 => (refine Or.inl ⟨by rfl, ?_⟩; intro w hSw; (try dsimp only at hSw); go_simp; try with_reducible rfl)
                      simp only [put_mk, List.set_cons_succ, List.set_cons_zero]
                      refine wpAnyH_take (i := 4) (oi := ?o3x4) (v := ?v3x4) ?hi3x4 (by kernel_rfl) ?hf3x4 ?hr3x4 (fun _ _ _ h => h) ?hy3x4 (by assumption) ?rest3x4
                      case hi3x4 => (simp only [List.getElem?_toArray, List.getElem?_cons_succ, List.getElem?_cons_zero]; exact rfl)
                      case hf3x4 => kernel_rfl
                      case hr3x4 => kernel_rfl
                      case hy3x4 => (refine Or.inl ⟨by rfl, ?_⟩; intro w hSw; (try dsimp only at hSw); go_simp; try with_reducible rfl)
                      simp only [put_mk, List.set_cons_succ, List.set_cons_zero]
                      refine wpAnyH_take (i := 5) (oi := ?o3x5) (v := ?v3x5) ?hi3x5 (by kernel_rfl) ?hf3x5 ?hr3x5 (fun _ _ _ h => h) ?hy3x5 (by assumption) ?rest3x5
                      case hi3x5 => (simp only [List.getElem?_toArray, List.getElem?_cons_succ, List.getElem?_cons_zero]; exact rfl)
                      case hf3x5 => kernel_rfl
                      case hr3x5 => kernel_rfl
                      case hy3x5 => (refine Or.inl ⟨by rfl, ?_⟩; intro w hSw; (try dsimp only at hSw); go_simp; try with_reducible rfl)
                      simp only [put_mk, List.set_cons_succ, List.set_cons_zero]
                      refine wpAnyH_take (i := 6) (oi := ?o3x6) (v := ?v3x6) ?hi3x6 (by kernel_rfl) ?hf3x6 ?hr3x6 (fun _ _ _ h => h) ?hy3x6 (by assumption) ?rest3x6
                      case hi3x6 => (simp only [List.getElem?_toArray, List.getElem?_cons_succ, List.getElem?_cons_zero]; exact rfl)
                      case hf3x6 => kernel_rfl
                      case hr3x6 => kernel_rfl
                      case hy3x6 => (refine Or.inl ⟨by rfl, ?_⟩; intro w hSw; (try dsimp only at hSw); go_simp; try with_reducible rfl)
                      simp only [put_mk, List.set_cons_succ, List.set_cons_zero]
                      refine wpAnyH_take (i := 7) (oi := ?o3x7) (v := ?v3x7) ?hi3x7 (by kernel_rfl) ?hf3x7 ?hr3x7 (fun _ _ _ h => h) ?hy3x7 (by assumption) ?rest3x7
                      case hi3x7 => (simp only [List.getElem?_toArray, List.getElem?_cons_succ, List.getElem?_cons_zero]; exact rfl)
                      case hf3x7 => kernel_rfl
                      case hr3x7 => kernel_rfl
                      case hy3x7 => (refine Or.inl ⟨by rfl, ?_⟩; intro w hSw; (try dsimp only at hSw); go_simp; try with_reducible rfl)
                      simp only [put_mk, List.set_cons_succ, List.set_cons_zero]
                      refine wpAnyH_take (i := 8) (oi := ?o3x8) (v := ?v3x8) ?hi3x8 (by kernel_rfl) ?hf3x8 ?hr3x8 (fun _ _ _ h => h) ?hy3x8 (by assumption) ?rest3x8
                      case hi3x8 => (simp only [List.getElem?_toArray, List.getElem?_cons_succ, List.getElem?_cons_zero]; exact rfl)
                      case hf3x8 => kernel_rfl
                      case hr3x8 => kernel_rfl
                      case hy3x8 => (refine Or.inl ⟨by rfl, ?_⟩; intro w hSw; (try dsimp only at hSw); go_simp; try with_reducible rfl)
                      simp only [put_mk, List.set_cons_succ, List.set_cons_zero]
                      refine wpAnyH_take (i := 9) (oi := ?o3x9) (v := ?v3x9) ?hi3x9 (by kernel_rfl) ?hf3x9 ?hr3x9 (fun _ _ _ h => h) ?hy3x9 (by assumption) ?rest3x9
                      case hi3x9 => (simp only [List.getElem?_toArray, List.getElem?_cons_succ, List.getElem?_cons_zero]; exact rfl)
                      case hf3x9 => kernel_rfl
                      case hr3x9 => kernel_rfl
                      case hy3x9 => (refine Or.inl ⟨by rfl, ?_⟩; intro w hSw; (try dsimp only at hSw); go_simp; try with_reducible rfl)
                      simp only [put_mk, List.set_cons_succ, List.set_cons_zero]
                      refine wpAnyH_take (i := 10) (oi := ?o3x10) (v := undef) ?hi3x10 (by kernel_rfl) ?hf3x10 ?hr3x10 (fun _ _ _ h => h) ?hy3x10 (by assumption) ?rest3x10
                      case hi3x10 => (simp only [List.getElem?_toArray, List.getElem?_cons_succ, List.getElem?_cons_zero]; exact rfl)
                      case hf3x10 => kernel_rfl
                      case hr3x10 => kernel_rfl
                      case hy3x10 => exact Or.inr ⟨by rfl, rfl⟩
                      simp only [put_mk, List.set_cons_succ, List.set_cons_zero]
                      refine wpAnyH_take (i := 11) (oi := ?o3x11) (v := undef) ?hi3x11 (by kernel_rfl) ?hf3x11 ?hr3x11 (fun _ _ _ h => h) ?hy3x11 (by assumption) ?rest3x11
                      case hi3x11 => (simp only [List.getElem?_toArray, List.getElem?_cons_succ, List.getElem?_cons_zero]; exact rfl)
                      case hf3x11 => kernel_rfl
                      case hr3x11 => kernel_rfl
                      case hy3x11 => exact Or.inr ⟨by rfl, rfl⟩
                      simp only [put_mk, List.set_cons_succ, List.set_cons_zero]
                      refine wpAnyH_take (i := 12) (oi := ?o3x12) (v := undef) ?hi3x12 (by kernel_rfl) ?hf3x12 ?hr3x12 (fun _ _ _ h => h) ?hy3x12 (by assumption) ?rest3x12
                      case hi3x12 => (simp only [List.getElem?_toArray, List.getElem?_cons_succ, List.getElem?_cons_zero]; exact rfl)
                      case hf3x12 => kernel_rfl
                      case hr3x12 => kernel_rfl
                      case hy3x12 => exact Or.inr ⟨by rfl, rfl⟩
                      simp only [put_mk, List.set_cons_succ, List.set_cons_zero]
                      refine wpAnyH_take (i := 13) (oi := ?o3x13) (v := undef) ?hi3x13 (by kernel_rfl) ?hf3x13 ?hr3x13 (fun _ _ _ h => h) ?hy3x13 (by assumption) ?rest3x13
                      case hi3x13 => (simp only [List.getElem?_toArray, List.getElem?_cons_succ, List.getElem?_cons_zero]; exact rfl)
                      case hf3x13 => kernel_rfl
                      case hr3x13 => kernel_rfl
                      case hy3x13 => exact Or.inr ⟨by rfl, rfl⟩
                      simp only [put_mk, List.set_cons_succ, List.set_cons_zero]
                      refine wpAnyH_take (i := 14) (oi := ?o3x14) (v := undef) ?hi3x14 (by kernel_rfl) ?hf3x14 ?hr3x14 (fun _ _ _ h => h) ?hy3x14 (by assumption) ?rest3x14
                      case hi3x14 => (simp only [List.getElem?_toArray, List.getElem?_cons_succ, List.getElem?_cons_zero]; exact rfl)
                      case hf3x14 => kernel_rfl
                      case hr3x14 => kernel_rfl
                      case hy3x14 => exact Or.inr ⟨by rfl, rfl⟩
                      simp only [put_mk, List.set_cons_succ, List.set_cons_zero]
                      refine wpAnyH_take (i := 15) (oi := ?o3x15) (v := undef) ?hi3x15 (by kernel_rfl) ?hf3x15 ?hr3x15 (fun _ _ _ h => h) ?hy3x15 (by assumption) ?rest3x15
                      case hi3x15 => (simp only [List.getElem?_toArray, List.getElem?_cons_succ, List.getElem?_cons_zero]; exact rfl)
                      case hf3x15 => kernel_rfl
                      case hr3x15 => kernel_rfl
                      case hy3x15 => exact Or.inr ⟨by rfl, rfl⟩
                      simp only [put_mk, List.set_cons_succ, List.set_cons_zero]
                      refine wpAnyH_take (i := 16) (oi := ?o3x16) (v := ?v3x16) ?hi3x16 (by kernel_rfl) ?hf3x16 ?hr3x16 (fun _ _ _ h => h) ?hy3x16 (by assumption) ?rest3x16
                      case hi3x16 => (simp only [List.getElem?_toArray, List.getElem?_cons_succ, List.getElem?_cons_zero]; exact rfl)
                      case hf3x16 => kernel_rfl
                      case hr3x16 => kernel_rfl
                      case hy3x16 => (refine Or.inl ⟨by rfl, ?_⟩; intro w hSw; (try dsimp only at hSw); go_simp; try with_reducible rfl)
                      simp only [put_mk, List.set_cons_succ, List.set_cons_zero]
                      refine wpAnyH_done (by kernel_rfl) ?_ _
                      refine NoPanic.normal ?_
                      clear u1 u2 u3 hHeld
                      go_wp2_with fail
                      go_roundw
                      case rel => exact ⟨d + 1, by omega, by go_num, HS5.out.step (Ext.drew (Ext.refl _)), Hno2.out⟩
                      case measure => simp [intOf]; omega
                  · obtain rfl : d = 8 := by omega
                    have Hv := hidA (show ∀ j, j < k + 1 → R j = rkV v Wn Hn (n + 1) j from fun j hj => by
                      by_cases e : j = k
                      · subst e
                        rw [rkV_none H0.out (fun d m h1 h2 => Hno.out d m h1 h2)]
                        have h1 := rk_range (Wn := Wn) (Hn := Hn) (V := fun k => valI (v k)) (S := srcB v Wn Hn) j n
                        have h2 : rkV v Wn Hn n j = rk Wn Hn (fun k => valI (v k)) (srcB v Wn Hn) n j := rfl
                        have h3 := H0.out
                        have h4 := HRk.out
                        omega
                      · exact HRa.out j (by omega))
                    have HSd := hidA hS
                    clear hS Hno
                    go_wp2_with fail
                    go_roundw
                    case rel => exact ⟨k + 1, R, by omega, by go_num, HSd.out, Hv.out, fun j h1 h2 => HRb.out j (by omega) h2⟩
                    case measure => simp [intOf]; omega
            · obtain rfl : N = k := by omega
              have HSd := hidA hS
              clear hS HRb
              go_wp2_with fail
              go_roundw
              case rel => exact ⟨n + 1, R, by omega, by go_num, HSd.out, HRa.out⟩
              case measure => simp [intOf]; omega
        · obtain rfl : N = n := by omega
          have HSe := hidA hS
          have hR0 : ∀ j, j < N → 0 ≤ R j := fun j hj => by
            have h1 := Hrkv.out j hj
            have h2 := rkV_old h1
            rw [show N - 1 + 1 = N by omega] at h2
            rw [HR.out j hj, h2]
            exact h1
          have HR0 := hidA hR0
          clear hS hR0 Hrkv
          go_wp2_with fail
          go_loopw [99] (fun s99 wr => ∃ (k : Nat) (I : Nat → Int), k ≤ N ∧ s99 = .int .i64 k ∧ DO w wr w.heap.size gw gi gr X Y Wn Hn N A c v I R ∧ (∀ j, j < k → I j = drnV v (rkV v Wn Hn N) Wn Hn j) ∧ (∀ j, k ≤ j → I j = (stp v Wn Hn j 8).1)) (fun s99 _ => N - (intOf s99).toNat)
          case atStart => exact ⟨0, _, Nat.zero_le _, rfl, HSe.out, fun j h => by omega, fun j _ => rfl⟩
          case round =>
            clear HSe
            obtain ⟨k, I, hk, rfl, hS, hIa, hIb⟩ := hrel
            have HIa := hidA hIa
            have HIb := hidA hIb
            clear hIa hIb
            by_cases hkN : k < N
            · have i0 : (0 : Int) ≤ k := by omega
              have i1 : (k : Int) < N := by omega
              have e0 := hS.icell hkN (Ext.refl _)
              have hIk := HIb.out k (Nat.le_refl _)
              have hdrn : drnV v (rkV v Wn Hn N) Wn Hn k = if 0 ≤ (stp v Wn Hn k 8).1 then (stp v Wn Hn k 8).1 else if brd Wn Hn k = true then -1 else (bstD v (rkV v Wn Hn N) Wn Hn k 8).2 := rfl
              have Hdrn := hidA hdrn
              have hng := stp_neg (v := v) (Wn := Wn) (Hn := Hn) (k := k) 8
              clear hdrn
              by_cases hd0 : 0 ≤ (stp v Wn Hn k 8).1
              · have hx : 0 ≤ I k := by rw [hIk]; exact hd0
                have Hv := hidA (show ∀ j, j < k + 1 → I j = drnV v (rkV v Wn Hn N) Wn Hn j from fun j hj => by
                  by_cases e : j = k
                  · subst e
                    rw [Hdrn.out, if_pos hd0, hIk]
                  · exact HIa.out j (by omega))
                clear hIk hd0 hng
                generalize I k = x at e0 hx
                go_wp2_with fail
                go_roundw
                case rel => exact ⟨k + 1, I, by omega, by go_num, hS, Hv.out, fun j h => HIb.out j (by omega)⟩
                case measure => simp [intOf]; omega
              · have hm1 : I k = -1 := by rw [hIk, hng (by omega)]
                have Hm1 := hidA hm1
                rw [hm1] at e0
                have f0 := hS.fb.cell 0
                have f1 := hS.fb.cell 1
                have f2 := hS.fb.cell 2
                have f3 := hS.fb.cell 3
                have HEk := fun w => HEd k w hkN
                have Hd0 := hidA hd0
                clear hIk hng hd0 hm1
                cases hb : brd Wn Hn k
                · have Hbk := hidA (Hbr.out k hkN hb)
                  have Hv := hidA (show drnV v (rkV v Wn Hn N) Wn Hn k = (bstD v (rkV v Wn Hn N) Wn Hn k 8).2 from by rw [Hdrn.out, if_neg Hd0.out, hb]; rfl)
                  rw [hb] at HEk
                  have HNk := fun d w hd => HNb k d w hkN hd
                  clear hb Hdrn Hd0
                  go_upto_region 29 with (go_at_call 84; refine ((HEk _).out).mono ?_; rintro e w5 ⟨rfl, hx5⟩)
                  have hI0 : updF I k (-1) = I := by
                    funext j
                    unfold updF
                    split
                    · rename_i e; rw [e, Hm1.out]
                    · rfl
                  have HSf := hidA (show DO w w5 w.heap.size gw gi gr X Y Wn Hn N A c v (updF I k (bstD v (rkV v Wn Hn N) Wn Hn k 0).2) R from by
                    show DO w w5 w.heap.size gw gi gr X Y Wn Hn N A c v (updF I k (-1)) R
                    rw [hI0]
                    exact hS.step hx5)
                  clear f0 f1 f2 f3 e0 hS hx5 hI0 HEk
                  go_wp2_with fail
                  go_loopw [13, 113] (fun s13 s113 wr => ∃ d : Nat, d ≤ 8 ∧ s113 = .int .i64 d ∧ s13 = .int .i64 (bstD v (rkV v Wn Hn N) Wn Hn k d).1 ∧ DO w wr w.heap.size gw gi gr X Y Wn Hn N A c v (updF I k (bstD v (rkV v Wn Hn N) Wn Hn k d).2) R) (fun _ s113 _ => 8 - (intOf s113).toNat)
                  case atStart => exact ⟨0, by omega, rfl, rfl, HSf.out⟩
                  case round =>
                    clear HSf
                    obtain ⟨d, hd, rfl, rfl, hS⟩ := hrel
                    by_cases hd8 : d < 8
                    · obtain ⟨m, hm⟩ := Hbk.out d hd8
                      have hmN := Hnl.out k d m hm
                      have HNd := fun w => HNk d w hd8
                      have Hbs := hidA (bst_some (v := v) (R := rkV v Wn Hn N) hm)
                      rw [hm] at HNd
                      unfold nbI at HNd
                      simp only [] at HNd
                      clear hm
                      have f0 := hS.fb.cell 0
                      have f1 := hS.fb.cell 1
                      have f2 := hS.fb.cell 2
                      have f3 := hS.fb.cell 3
                      have j0 : (0 : Int) ≤ m := by omega
                      have j1 : (m : Int) < N := by omega
                      go_upto_region 34 with (go_at_call 63; refine ((HNd _).out).mono ?_; rintro e w5 ⟨rfl, hx5⟩)
                      have HS5 := hidA (hS.step hx5)
                      clear f0 f1 f2 f3 HNd hx5 hS
                      have u1 : ∀ w', Ext w5 w' → w'.cell? ⟨gw, m, none⟩ = some (.float .f32 (v m)) := fun w' h => HS5.out.wcell hmN h
                      have u2 : ∀ w', Ext w5 w' → w'.cell? ⟨gw, k, none⟩ = some (.float .f32 (v k)) := fun w' h => HS5.out.wcell hkN h
                      have u3 : ∀ w', Ext w5 w' → w'.cell? ⟨gr, m, none⟩ = some (.int .i64 (R m)) := fun w' h => HS5.out.rcell hmN h
                      have hfe := feq_val (Hvb.out m hmN) (Hvb.out k hkN)
                      have hz0 := HR0.out m hmN
                      have hzr := HR.out m hmN
                      have hupd : updF (updF I k (bstD v (rkV v Wn Hn N) Wn Hn k d).2) k (d : Int) = updF I k (d : Int) := by
                        funext j
                        unfold updF
                        split <;> rfl
                      have HP0 := (HS5.out.step (Ext.drew (Ext.refl _))).putI k (d : Int)
                      rw [hupd] at HP0
                      have HP := hidA HP0
                      have r2 := HS5.out.icell hkN (Ext.drew (Ext.refl _))
                      have r3 := (HS5.out.ib.drew).frozen k
                      have r4 := HS5.out.rcell hmN (Ext.drew (Ext.refl _))
                      clear hupd HP0
                      by_cases he : valI (v m) = valI (v k)
                      · rw [decide_eq_true he] at hfe
                        rw [← hzr] at Hbs
                        by_cases hL : (bstD v (rkV v Wn Hn N) Wn Hn k d).1 < 0
                        · have Hb := hidA (show bstD v (rkV v Wn Hn N) Wn Hn k (d + 1) = (R m, (d : Int)) from by rw [Hbs.out, if_pos ⟨he, hz0, .inl hL⟩])
                          clear he hzr Hbs
                          generalize R m = z at *
                          generalize v m = va at u1 hfe
                          generalize v k = vb at u2 hfe
                          generalize (bstD v (rkV v Wn Hn N) Wn Hn k d).1 = bb at hL ⊢
                          refine wp_region_noPanic ?_
                          refine wp_region_held_drew (S := fun w' => Ext w5 w') (by kernel_rfl) ?_ (fun hHeld => ?_)
                          · (repeat (first | exact Ext.refl _ | assumption | refine Ext.setCell ?_ (by first | (simp; done) | (simp; omega)) _ | refine Ext.drewN ?_ _ | refine Ext.alloc ?_ _ | refine Ext.drew ?_ | refine Ext.trans ?_ (by assumption)))
                          refine wpAnyH_take (i := 0) (oi := ?o4x0) (v := ?v4x0) ?hi4x0 (by kernel_rfl) ?hf4x0 ?hr4x0 (fun _ _ _ h => h) ?hy4x0 (by assumption) ?rest4x0
                          case hi4x0 => (simp only [List.getElem?_toArray, List.getElem?_cons_zero]; exact rfl)
                          case hf4x0 => kernel_rfl
                          case hr4x0 => kernel_rfl
                          case hy4x0 => (refine Or.inl ⟨by rfl, ?_⟩; intro w hSw; (try dsimp only at hSw); go_simp; try with_reducible rfl)
                          simp only [put_mk, List.set_cons_succ, List.set_cons_zero]
                          refine wpAnyH_take (i := 1) (oi := ?o4x1) (v := ?v4x1) ?hi4x1 (by kernel_rfl) ?hf4x1 ?hr4x1 (fun _ _ _ h => h) ?hy4x1 (by assumption) ?rest4x1
                          case hi4x1 => (simp only [List.getElem?_toArray, List.getElem?_cons_succ, List.getElem?_cons_zero]; exact rfl)
                          case hf4x1 => kernel_rfl
                          case hr4x1 => kernel_rfl
                          case hy4x1 => (refine Or.inl ⟨by rfl, ?_⟩; intro w hSw; (try dsimp only at hSw); go_simp; try with_reducible rfl)
                          simp only [put_mk, List.set_cons_succ, List.set_cons_zero]
                          refine wpAnyH_take (i := 2) (oi := ?o4x2) (v := ?v4x2) ?hi4x2 (by kernel_rfl) ?hf4x2 ?hr4x2 (fun _ _ _ h => h) ?hy4x2 (by assumption) ?rest4x2
                          case hi4x2 => (simp only [List.getElem?_toArray, List.getElem?_cons_succ, List.getElem?_cons_zero]; exact rfl)
                          case hf4x2 => kernel_rfl
                          case hr4x2 => kernel_rfl
                          case hy4x2 => (refine Or.inl ⟨by rfl, ?_⟩; intro w hSw; (try dsimp only at hSw); go_simp; try with_reducible rfl)
                          simp only [put_mk, List.set_cons_succ, List.set_cons_zero]
                          refine wpAnyH_take (i := 3) (oi := ?o4x3) (v := ?v4x3) ?hi4x3 (by kernel_rfl) ?hf4x3 ?hr4x3 (fun _ _ _ h => h) ?hy4x3 (by assumption) ?rest4x3
                          case hi4x3 => (simp only [List.getElem?_toArray, List.getElem?_cons_succ, List.getElem?_cons_zero]; exact rfl)
                          case hf4x3 => kernel_rfl
                          case hr4x3 => kernel_rfl
                          case hy4x3 => (refine Or.inl ⟨by rfl, ?_⟩; intro w hSw; (try dsimp only at hSw); go_simp; try with_reducible rfl)
                          simp only [put_mk, List.set_cons_succ, List.set_cons_zero]
                          refine wpAnyH_take (i := 4) (oi := ?o4x4) (v := ?v4x4) ?hi4x4 (by kernel_rfl) ?hf4x4 ?hr4x4 (fun _ _ _ h => h) ?hy4x4 (by assumption) ?rest4x4
                          case hi4x4 => (simp only [List.getElem?_toArray, List.getElem?_cons_succ, List.getElem?_cons_zero]; exact rfl)
                          case hf4x4 => kernel_rfl
                          case hr4x4 => kernel_rfl
                          case hy4x4 => (refine Or.inl ⟨by rfl, ?_⟩; intro w hSw; (try dsimp only at hSw); go_simp; try with_reducible rfl)
                          simp only [put_mk, List.set_cons_succ, List.set_cons_zero]
                          refine wpAnyH_take (i := 5) (oi := ?o4x5) (v := ?v4x5) ?hi4x5 (by kernel_rfl) ?hf4x5 ?hr4x5 (fun _ _ _ h => h) ?hy4x5 (by assumption) ?rest4x5
                          case hi4x5 => (simp only [List.getElem?_toArray, List.getElem?_cons_succ, List.getElem?_cons_zero]; exact rfl)
                          case hf4x5 => kernel_rfl
                          case hr4x5 => kernel_rfl
                          case hy4x5 => (refine Or.inl ⟨by rfl, ?_⟩; intro w hSw; (try dsimp only at hSw); go_simp; try with_reducible rfl)
                          simp only [put_mk, List.set_cons_succ, List.set_cons_zero]
                          refine wpAnyH_take (i := 6) (oi := ?o4x6) (v := ?v4x6) ?hi4x6 (by kernel_rfl) ?hf4x6 ?hr4x6 (fun _ _ _ h => h) ?hy4x6 (by assumption) ?rest4x6
                          case hi4x6 => (simp only [List.getElem?_toArray, List.getElem?_cons_succ, List.getElem?_cons_zero]; exact rfl)
                          case hf4x6 => kernel_rfl
                          case hr4x6 => kernel_rfl
                          case hy4x6 => (refine Or.inl ⟨by rfl, ?_⟩; intro w hSw; (try dsimp only at hSw); go_simp; try with_reducible rfl)
                          simp only [put_mk, List.set_cons_succ, List.set_cons_zero]
                          refine wpAnyH_take (i := 7) (oi := ?o4x7) (v := ?v4x7) ?hi4x7 (by kernel_rfl) ?hf4x7 ?hr4x7 (fun _ _ _ h => h) ?hy4x7 (by assumption) ?rest4x7
                          case hi4x7 => (simp only [List.getElem?_toArray, List.getElem?_cons_succ, List.getElem?_cons_zero]; exact rfl)
                          case hf4x7 => kernel_rfl
                          case hr4x7 => kernel_rfl
                          case hy4x7 => (refine Or.inl ⟨by rfl, ?_⟩; intro w hSw; (try dsimp only at hSw); go_simp; try with_reducible rfl)
                          simp only [put_mk, List.set_cons_succ, List.set_cons_zero]
                          refine wpAnyH_take (i := 8) (oi := ?o4x8) (v := ?v4x8) ?hi4x8 (by kernel_rfl) ?hf4x8 ?hr4x8 (fun _ _ _ h => h) ?hy4x8 (by assumption) ?rest4x8
                          case hi4x8 => (simp only [List.getElem?_toArray, List.getElem?_cons_succ, List.getElem?_cons_zero]; exact rfl)
                          case hf4x8 => kernel_rfl
                          case hr4x8 => kernel_rfl
                          case hy4x8 => (refine Or.inl ⟨by rfl, ?_⟩; intro w hSw; (try dsimp only at hSw); go_simp; try with_reducible rfl)
                          simp only [put_mk, List.set_cons_succ, List.set_cons_zero]
                          refine wpAnyH_take (i := 9) (oi := ?o4x9) (v := ?v4x9) ?hi4x9 (by kernel_rfl) ?hf4x9 ?hr4x9 (fun _ _ _ h => h) ?hy4x9 (by assumption) ?rest4x9
                          case hi4x9 => (simp only [List.getElem?_toArray, List.getElem?_cons_succ, List.getElem?_cons_zero]; exact rfl)
                          case hf4x9 => kernel_rfl
                          case hr4x9 => kernel_rfl
                          case hy4x9 => (refine Or.inl ⟨by rfl, ?_⟩; intro w hSw; (try dsimp only at hSw); go_simp; try with_reducible rfl)
                          simp only [put_mk, List.set_cons_succ, List.set_cons_zero]
                          refine wpAnyH_take (i := 10) (oi := ?o4x10) (v := ?v4x10) ?hi4x10 (by kernel_rfl) ?hf4x10 ?hr4x10 (fun _ _ _ h => h) ?hy4x10 (by assumption) ?rest4x10
                          case hi4x10 => (simp only [List.getElem?_toArray, List.getElem?_cons_succ, List.getElem?_cons_zero]; exact rfl)
                          case hf4x10 => kernel_rfl
                          case hr4x10 => kernel_rfl
                          case hy4x10 => (refine Or.inl ⟨by rfl, ?_⟩; intro w hSw; (try dsimp only at hSw); go_simp; try with_reducible rfl)
                          simp only [put_mk, List.set_cons_succ, List.set_cons_zero]
                          refine wpAnyH_take (i := 11) (oi := ?o4x11) (v := ?v4x11) ?hi4x11 (by kernel_rfl) ?hf4x11 ?hr4x11 (fun _ _ _ h => h) ?hy4x11 (by assumption) ?rest4x11
                          case hi4x11 => (simp only [List.getElem?_toArray, List.getElem?_cons_succ, List.getElem?_cons_zero]; exact rfl)
                          case hf4x11 => kernel_rfl
                          case hr4x11 => kernel_rfl
                          case hy4x11 => (refine Or.inl ⟨by rfl, ?_⟩; intro w hSw; (try dsimp only at hSw); go_simp; try with_reducible rfl)
                          simp only [put_mk, List.set_cons_succ, List.set_cons_zero]
                          refine wpAnyH_take (i := 12) (oi := ?o4x12) (v := ?v4x12) ?hi4x12 (by kernel_rfl) ?hf4x12 ?hr4x12 (fun _ _ _ h => h) ?hy4x12 (by assumption) ?rest4x12
                          case hi4x12 => (simp only [List.getElem?_toArray, List.getElem?_cons_succ, List.getElem?_cons_zero]; exact rfl)
                          case hf4x12 => kernel_rfl
                          case hr4x12 => kernel_rfl
                          case hy4x12 => (refine Or.inl ⟨by rfl, ?_⟩; intro w hSw; (try dsimp only at hSw); go_simp; try with_reducible rfl)
                          simp only [put_mk, List.set_cons_succ, List.set_cons_zero]
                          refine wpAnyH_take (i := 13) (oi := ?o4x13) (v := ?v4x13) ?hi4x13 (by kernel_rfl) ?hf4x13 ?hr4x13 (fun _ _ _ h => h) ?hy4x13 (by assumption) ?rest4x13
                          case hi4x13 => (simp only [List.getElem?_toArray, List.getElem?_cons_succ, List.getElem?_cons_zero]; exact rfl)
                          case hf4x13 => kernel_rfl
                          case hr4x13 => kernel_rfl
                          case hy4x13 => (refine Or.inl ⟨by rfl, ?_⟩; intro w hSw; (try dsimp only at hSw); go_simp; try with_reducible rfl)
                          simp only [put_mk, List.set_cons_succ, List.set_cons_zero]
                          refine wpAnyH_take (i := 14) (oi := ?o4x14) (v := ?v4x14) ?hi4x14 (by kernel_rfl) ?hf4x14 ?hr4x14 (fun _ _ _ h => h) ?hy4x14 (by assumption) ?rest4x14
                          case hi4x14 => (simp only [List.getElem?_toArray, List.getElem?_cons_succ, List.getElem?_cons_zero]; exact rfl)
                          case hf4x14 => kernel_rfl
                          case hr4x14 => kernel_rfl
                          case hy4x14 => (refine Or.inl ⟨by rfl, ?_⟩; intro w hSw; (try dsimp only at hSw); go_simp; try with_reducible rfl)
                          simp only [put_mk, List.set_cons_succ, List.set_cons_zero]
                          refine wpAnyH_take (i := 15) (oi := ?o4x15) (v := ?v4x15) ?hi4x15 (by kernel_rfl) ?hf4x15 ?hr4x15 (fun _ _ _ h => h) ?hy4x15 (by assumption) ?rest4x15
                          case hi4x15 => (simp only [List.getElem?_toArray, List.getElem?_cons_succ, List.getElem?_cons_zero]; exact rfl)
                          case hf4x15 => kernel_rfl
                          case hr4x15 => kernel_rfl
                          case hy4x15 => (refine Or.inl ⟨by rfl, ?_⟩; intro w hSw; (try dsimp only at hSw); go_simp; try with_reducible rfl)
                          simp only [put_mk, List.set_cons_succ, List.set_cons_zero]
                          refine wpAnyH_take (i := 16) (oi := ?o4x16) (v := ?v4x16) ?hi4x16 (by kernel_rfl) ?hf4x16 ?hr4x16 (fun _ _ _ h => h) ?hy4x16 (by assumption) ?rest4x16
                          case hi4x16 => (simp only [List.getElem?_toArray, List.getElem?_cons_succ, List.getElem?_cons_zero]; exact rfl)
                          case hf4x16 => kernel_rfl
                          case hr4x16 => kernel_rfl
                          case hy4x16 => (refine Or.inl ⟨by rfl, ?_⟩; intro w hSw; (try dsimp only at hSw); go_simp; try with_reducible rfl)
                          simp only [put_mk, List.set_cons_succ, List.set_cons_zero]
                          refine wpAnyH_take (i := 17) (oi := ?o4x17) (v := ?v4x17) ?hi4x17 (by kernel_rfl) ?hf4x17 ?hr4x17 (fun _ _ _ h => h) ?hy4x17 (by assumption) ?rest4x17
                          case hi4x17 => (simp only [List.getElem?_toArray, List.getElem?_cons_succ, List.getElem?_cons_zero]; exact rfl)
                          case hf4x17 => kernel_rfl
                          case hr4x17 => kernel_rfl
                          case hy4x17 => (refine Or.inl ⟨by rfl, ?_⟩; intro w hSw; (try dsimp only at hSw); go_simp; try with_reducible rfl)
                          simp only [put_mk, List.set_cons_succ, List.set_cons_zero]
                          refine wpAnyH_take (i := 18) (oi := ?o4x18) (v := ?v4x18) ?hi4x18 (by kernel_rfl) ?hf4x18 ?hr4x18 (fun _ _ _ h => h) ?hy4x18 (by assumption) ?rest4x18
                          case hi4x18 => (simp only [List.getElem?_toArray, List.getElem?_cons_succ, List.getElem?_cons_zero]; exact rfl)
                          case hf4x18 => kernel_rfl
                          case hr4x18 => kernel_rfl
                          case hy4x18 => (refine Or.inl ⟨by rfl, ?_⟩; intro w hSw; (try dsimp only at hSw); go_simp; try with_reducible rfl)
                          simp only [put_mk, List.set_cons_succ, List.set_cons_zero]
                          refine wpAnyH_take (i := 19) (oi := ?o4x19) (v := ?v4x19) ?hi4x19 (by kernel_rfl) ?hf4x19 ?hr4x19 (fun _ _ _ h => h) ?hy4x19 (by assumption) ?rest4x19
                          case hi4x19 => (simp only [List.getElem?_toArray, List.getElem?_cons_succ, List.getElem?_cons_zero]; exact rfl)
                          case hf4x19 => kernel_rfl
                          case hr4x19 => kernel_rfl
                          case hy4x19 => (refine Or.inl ⟨by rfl, ?_⟩; intro w hSw; (try dsimp only at hSw); go_simp; try with_reducible rfl)
                          simp only [put_mk, List.set_cons_succ, List.set_cons_zero]
                          refine wpAnyH_take (i := 20) (oi := ?o4x20) (v := undef) ?hi4x20 (by kernel_rfl) ?hf4x20 ?hr4x20 (fun _ _ _ h => h) ?hy4x20 (by assumption) ?rest4x20
                          case hi4x20 => (simp only [List.getElem?_toArray, List.getElem?_cons_succ, List.getElem?_cons_zero]; exact rfl)
                          case hf4x20 => kernel_rfl
                          case hr4x20 => kernel_rfl
                          case hy4x20 => exact Or.inr ⟨by rfl, rfl⟩
                          simp only [put_mk, List.set_cons_succ, List.set_cons_zero]
                          refine wpAnyH_take (i := 21) (oi := ?o4x21) (v := undef) ?hi4x21 (by kernel_rfl) ?hf4x21 ?hr4x21 (fun _ _ _ h => h) ?hy4x21 (by assumption) ?rest4x21
                          case hi4x21 => (simp only [List.getElem?_toArray, List.getElem?_cons_succ, List.getElem?_cons_zero]; exact rfl)
                          case hf4x21 => kernel_rfl
                          case hr4x21 => kernel_rfl
                          case hy4x21 => exact Or.inr ⟨by rfl, rfl⟩
                          simp only [put_mk, List.set_cons_succ, List.set_cons_zero]
                          refine wpAnyH_take (i := 22) (oi := ?o4x22) (v := undef) ?hi4x22 (by kernel_rfl) ?hf4x22 ?hr4x22 (fun _ _ _ h => h) ?hy4x22 (by assumption) ?rest4x22
                          case hi4x22 => (simp only [List.getElem?_toArray, List.getElem?_cons_succ, List.getElem?_cons_zero]; exact rfl)
                          case hf4x22 => kernel_rfl
                          case hr4x22 => kernel_rfl
                          case hy4x22 => exact Or.inr ⟨by rfl, rfl⟩
                          simp only [put_mk, List.set_cons_succ, List.set_cons_zero]
                          refine wpAnyH_take (i := 23) (oi := ?o4x23) (v := undef) ?hi4x23 (by kernel_rfl) ?hf4x23 ?hr4x23 (fun _ _ _ h => h) ?hy4x23 (by assumption) ?rest4x23
                          case hi4x23 => (simp only [List.getElem?_toArray, List.getElem?_cons_succ, List.getElem?_cons_zero]; exact rfl)
                          case hf4x23 => kernel_rfl
                          case hr4x23 => kernel_rfl
                          case hy4x23 => exact Or.inr ⟨by rfl, rfl⟩
                          simp only [put_mk, List.set_cons_succ, List.set_cons_zero]
                          refine wpAnyH_take (i := 24) (oi := ?o4x24) (v := undef) ?hi4x24 (by kernel_rfl) ?hf4x24 ?hr4x24 (fun _ _ _ h => h) ?hy4x24 (by assumption) ?rest4x24
                          case hi4x24 => (simp only [List.getElem?_toArray, List.getElem?_cons_succ, List.getElem?_cons_zero]; exact rfl)
                          case hf4x24 => kernel_rfl
                          case hr4x24 => kernel_rfl
                          case hy4x24 => exact Or.inr ⟨by rfl, rfl⟩
                          simp only [put_mk, List.set_cons_succ, List.set_cons_zero]
                          refine wpAnyH_take (i := 25) (oi := ?o4x25) (v := undef) ?hi4x25 (by kernel_rfl) ?hf4x25 ?hr4x25 (fun _ _ _ h => h) ?hy4x25 (by assumption) ?rest4x25
                          case hi4x25 => (simp only [List.getElem?_toArray, List.getElem?_cons_succ, List.getElem?_cons_zero]; exact rfl)
                          case hf4x25 => kernel_rfl
                          case hr4x25 => kernel_rfl
                          case hy4x25 => exact Or.inr ⟨by rfl, rfl⟩
                          simp only [put_mk, List.set_cons_succ, List.set_cons_zero]
                          refine wpAnyH_take (i := 26) (oi := ?o4x26) (v := ?v4x26) ?hi4x26 (by kernel_rfl) ?hf4x26 ?hr4x26 (fun _ _ _ h => h) ?hy4x26 (by assumption) ?rest4x26
                          case hi4x26 => (simp only [List.getElem?_toArray, List.getElem?_cons_succ, List.getElem?_cons_zero]; exact rfl)
                          case hf4x26 => kernel_rfl
                          case hr4x26 => kernel_rfl
                          case hy4x26 => (refine Or.inl ⟨by rfl, ?_⟩; intro w hSw; (try dsimp only at hSw); go_simp; try with_reducible rfl)
                          simp only [put_mk, List.set_cons_succ, List.set_cons_zero]
                          refine wpAnyH_take (i := 27) (oi := ?o4x27) (v := ?v4x27) ?hi4x27 (by kernel_rfl) ?hf4x27 ?hr4x27 (fun _ _ _ h => h) ?hy4x27 (by assumption) ?rest4x27
                          case hi4x27 => (simp only [List.getElem?_toArray, List.getElem?_cons_succ, List.getElem?_cons_zero]; exact rfl)
                          case hf4x27 => kernel_rfl
                          case hr4x27 => kernel_rfl
                          case hy4x27 => (refine Or.inl ⟨by rfl, ?_⟩; intro w hSw; (try dsimp only at hSw); go_simp; try with_reducible rfl)
                          simp only [put_mk, List.set_cons_succ, List.set_cons_zero]
                          refine wpAnyH_done (by kernel_rfl) ?_ _
                          refine NoPanic.normal ?_
                          clear u1 u2 u3 hHeld
                          go_wp2_with fail
                          go_roundw
                          case rel => exact ⟨d + 1, by omega, by go_num, by rw [Hb.out], by rw [Hb.out]; exact HP.out⟩
                          case measure => simp [intOf]; omega
                        · by_cases hzb : R m < (bstD v (rkV v Wn Hn N) Wn Hn k d).1
                          · have Hb := hidA (show bstD v (rkV v Wn Hn N) Wn Hn k (d + 1) = (R m, (d : Int)) from by rw [Hbs.out, if_pos ⟨he, hz0, .inr hzb⟩])
                            clear he hzr Hbs
                            generalize R m = z at *
                            generalize v m = va at u1 hfe
                            generalize v k = vb at u2 hfe
                            generalize (bstD v (rkV v Wn Hn N) Wn Hn k d).1 = bb at hL hzb ⊢
                            refine wp_region_noPanic ?_
                            refine wp_region_held_drew (S := fun w' => Ext w5 w') (by kernel_rfl) ?_ (fun hHeld => ?_)
                            · (repeat (first | exact Ext.refl _ | assumption | refine Ext.setCell ?_ (by first | (simp; done) | (simp; omega)) _ | refine Ext.drewN ?_ _ | refine Ext.alloc ?_ _ | refine Ext.drew ?_ | refine Ext.trans ?_ (by assumption)))
                            refine wpAnyH_take (i := 0) (oi := ?o5x0) (v := ?v5x0) ?hi5x0 (by kernel_rfl) ?hf5x0 ?hr5x0 (fun _ _ _ h => h) ?hy5x0 (by assumption) ?rest5x0
                            case hi5x0 => (simp only [List.getElem?_toArray, List.getElem?_cons_zero]; exact rfl)
                            case hf5x0 => kernel_rfl
                            case hr5x0 => kernel_rfl
                            case hy5x0 => (refine Or.inl ⟨by rfl, ?_⟩; intro w hSw; (try dsimp only at hSw); go_simp; try with_reducible rfl)
                            simp only [put_mk, List.set_cons_succ, List.set_cons_zero]
                            refine wpAnyH_take (i := 1) (oi := ?o5x1) (v := ?v5x1) ?hi5x1 (by kernel_rfl) ?hf5x1 ?hr5x1 (fun _ _ _ h => h) ?hy5x1 (by assumption) ?rest5x1
                            case hi5x1 => (simp only [List.getElem?_toArray, List.getElem?_cons_succ, List.getElem?_cons_zero]; exact rfl)
                            case hf5x1 => kernel_rfl
                            case hr5x1 => kernel_rfl
                            case hy5x1 => (refine Or.inl ⟨by rfl, ?_⟩; intro w hSw; (try dsimp only at hSw); go_simp; try with_reducible rfl)
                            simp only [put_mk, List.set_cons_succ, List.set_cons_zero]
                            refine wpAnyH_take (i := 2) (oi := ?o5x2) (v := ?v5x2) ?hi5x2 (by kernel_rfl) ?hf5x2 ?hr5x2 (fun _ _ _ h => h) ?hy5x2 (by assumption) ?rest5x2
                            case hi5x2 => (simp only [List.getElem?_toArray, List.getElem?_cons_succ, List.getElem?_cons_zero]; exact rfl)
                            case hf5x2 => kernel_rfl
                            case hr5x2 => kernel_rfl
                            case hy5x2 => (refine Or.inl ⟨by rfl, ?_⟩; intro w hSw; (try dsimp only at hSw); go_simp; try with_reducible rfl)
                            simp only [put_mk, List.set_cons_succ, List.set_cons_zero]
                            refine wpAnyH_take (i := 3) (oi := ?o5x3) (v := ?v5x3) ?hi5x3 (by kernel_rfl) ?hf5x3 ?hr5x3 (fun _ _ _ h => h) ?hy5x3 (by assumption) ?rest5x3
                            case hi5x3 => (simp only [List.getElem?_toArray, List.getElem?_cons_succ, List.getElem?_cons_zero]; exact rfl)
                            case hf5x3 => kernel_rfl
                            case hr5x3 => kernel_rfl
                            case hy5x3 => (refine Or.inl ⟨by rfl, ?_⟩; intro w hSw; (try dsimp only at hSw); go_simp; try with_reducible rfl)
                            simp only [put_mk, List.set_cons_succ, List.set_cons_zero]
                            refine wpAnyH_take (i := 4) (oi := ?o5x4) (v := ?v5x4) ?hi5x4 (by kernel_rfl) ?hf5x4 ?hr5x4 (fun _ _ _ h => h) ?hy5x4 (by assumption) ?rest5x4
                            case hi5x4 => (simp only [List.getElem?_toArray, List.getElem?_cons_succ, List.getElem?_cons_zero]; exact rfl)
                            case hf5x4 => kernel_rfl
                            case hr5x4 => kernel_rfl
                            case hy5x4 => (refine Or.inl ⟨by rfl, ?_⟩; intro w hSw; (try dsimp only at hSw); go_simp; try with_reducible rfl)
                            simp only [put_mk, List.set_cons_succ, List.set_cons_zero]
                            refine wpAnyH_take (i := 5) (oi := ?o5x5) (v := ?v5x5) ?hi5x5 (by kernel_rfl) ?hf5x5 ?hr5x5 (fun _ _ _ h => h) ?hy5x5 (by assumption) ?rest5x5
                            case hi5x5 => (simp only [List.getElem?_toArray, List.getElem?_cons_succ, List.getElem?_cons_zero]; exact rfl)
                            case hf5x5 => kernel_rfl
                            case hr5x5 => kernel_rfl
                            case hy5x5 => (refine Or.inl ⟨by rfl, ?_⟩; intro w hSw; (try dsimp only at hSw); go_simp; try with_reducible rfl)
                            simp only [put_mk, List.set_cons_succ, List.set_cons_zero]
                            refine wpAnyH_take (i := 6) (oi := ?o5x6) (v := ?v5x6) ?hi5x6 (by kernel_rfl) ?hf5x6 ?hr5x6 (fun _ _ _ h => h) ?hy5x6 (by assumption) ?rest5x6
                            case hi5x6 => (simp only [List.getElem?_toArray, List.getElem?_cons_succ, List.getElem?_cons_zero]; exact rfl)
                            case hf5x6 => kernel_rfl
                            case hr5x6 => kernel_rfl
                            case hy5x6 => (refine Or.inl ⟨by rfl, ?_⟩; intro w hSw; (try dsimp only at hSw); go_simp; try with_reducible rfl)
                            simp only [put_mk, List.set_cons_succ, List.set_cons_zero]
                            refine wpAnyH_take (i := 7) (oi := ?o5x7) (v := ?v5x7) ?hi5x7 (by kernel_rfl) ?hf5x7 ?hr5x7 (fun _ _ _ h => h) ?hy5x7 (by assumption) ?rest5x7
                            case hi5x7 => (simp only [List.getElem?_toArray, List.getElem?_cons_succ, List.getElem?_cons_zero]; exact rfl)
                            case hf5x7 => kernel_rfl
                            case hr5x7 => kernel_rfl
                            case hy5x7 => (refine Or.inl ⟨by rfl, ?_⟩; intro w hSw; (try dsimp only at hSw); go_simp; try with_reducible rfl)
                            simp only [put_mk, List.set_cons_succ, List.set_cons_zero]
                            refine wpAnyH_take (i := 8) (oi := ?o5x8) (v := ?v5x8) ?hi5x8 (by kernel_rfl) ?hf5x8 ?hr5x8 (fun _ _ _ h => h) ?hy5x8 (by assumption) ?rest5x8
                            case hi5x8 => (simp only [List.getElem?_toArray, List.getElem?_cons_succ, List.getElem?_cons_zero]; exact rfl)
                            case hf5x8 => kernel_rfl
                            case hr5x8 => kernel_rfl
                            case hy5x8 => (refine Or.inl ⟨by rfl, ?_⟩; intro w hSw; (try dsimp only at hSw); go_simp; try with_reducible rfl)
                            simp only [put_mk, List.set_cons_succ, List.set_cons_zero]
                            refine wpAnyH_take (i := 9) (oi := ?o5x9) (v := ?v5x9) ?hi5x9 (by kernel_rfl) ?hf5x9 ?hr5x9 (fun _ _ _ h => h) ?hy5x9 (by assumption) ?rest5x9
                            case hi5x9 => (simp only [List.getElem?_toArray, List.getElem?_cons_succ, List.getElem?_cons_zero]; exact rfl)
                            case hf5x9 => kernel_rfl
                            case hr5x9 => kernel_rfl
                            case hy5x9 => (refine Or.inl ⟨by rfl, ?_⟩; intro w hSw; (try dsimp only at hSw); go_simp; try with_reducible rfl)
                            simp only [put_mk, List.set_cons_succ, List.set_cons_zero]
                            refine wpAnyH_take (i := 10) (oi := ?o5x10) (v := ?v5x10) ?hi5x10 (by kernel_rfl) ?hf5x10 ?hr5x10 (fun _ _ _ h => h) ?hy5x10 (by assumption) ?rest5x10
                            case hi5x10 => (simp only [List.getElem?_toArray, List.getElem?_cons_succ, List.getElem?_cons_zero]; exact rfl)
                            case hf5x10 => kernel_rfl
                            case hr5x10 => kernel_rfl
                            case hy5x10 => (refine Or.inl ⟨by rfl, ?_⟩; intro w hSw; (try dsimp only at hSw); go_simp; try with_reducible rfl)
                            simp only [put_mk, List.set_cons_succ, List.set_cons_zero]
                            refine wpAnyH_take (i := 11) (oi := ?o5x11) (v := ?v5x11) ?hi5x11 (by kernel_rfl) ?hf5x11 ?hr5x11 (fun _ _ _ h => h) ?hy5x11 (by assumption) ?rest5x11
                            case hi5x11 => (simp only [List.getElem?_toArray, List.getElem?_cons_succ, List.getElem?_cons_zero]; exact rfl)
                            case hf5x11 => kernel_rfl
                            case hr5x11 => kernel_rfl
                            case hy5x11 => (refine Or.inl ⟨by rfl, ?_⟩; intro w hSw; (try dsimp only at hSw); go_simp; try with_reducible rfl)
                            simp only [put_mk, List.set_cons_succ, List.set_cons_zero]
                            refine wpAnyH_take (i := 12) (oi := ?o5x12) (v := ?v5x12) ?hi5x12 (by kernel_rfl) ?hf5x12 ?hr5x12 (fun _ _ _ h => h) ?hy5x12 (by assumption) ?rest5x12
                            case hi5x12 => (simp only [List.getElem?_toArray, List.getElem?_cons_succ, List.getElem?_cons_zero]; exact rfl)
                            case hf5x12 => kernel_rfl
                            case hr5x12 => kernel_rfl
                            case hy5x12 => (refine Or.inl ⟨by rfl, ?_⟩; intro w hSw; (try dsimp only at hSw); go_simp; try with_reducible rfl)
                            simp only [put_mk, List.set_cons_succ, List.set_cons_zero]
                            refine wpAnyH_take (i := 13) (oi := ?o5x13) (v := ?v5x13) ?hi5x13 (by kernel_rfl) ?hf5x13 ?hr5x13 (fun _ _ _ h => h) ?hy5x13 (by assumption) ?rest5x13
                            case hi5x13 => (simp only [List.getElem?_toArray, List.getElem?_cons_succ, List.getElem?_cons_zero]; exact rfl)
                            case hf5x13 => kernel_rfl
                            case hr5x13 => kernel_rfl
                            case hy5x13 => (refine Or.inl ⟨by rfl, ?_⟩; intro w hSw; (try dsimp only at hSw); go_simp; try with_reducible rfl)
                            simp only [put_mk, List.set_cons_succ, List.set_cons_zero]
                            refine wpAnyH_take (i := 14) (oi := ?o5x14) (v := ?v5x14) ?hi5x14 (by kernel_rfl) ?hf5x14 ?hr5x14 (fun _ _ _ h => h) ?hy5x14 (by assumption) ?rest5x14
                            case hi5x14 => (simp only [List.getElem?_toArray, List.getElem?_cons_succ, List.getElem?_cons_zero]; exact rfl)
                            case hf5x14 => kernel_rfl
                            case hr5x14 => kernel_rfl
                            case hy5x14 => (refine Or.inl ⟨by rfl, ?_⟩; intro w hSw; (try dsimp only at hSw); go_simp; try with_reducible rfl)
                            simp only [put_mk, List.set_cons_succ, List.set_cons_zero]
                            refine wpAnyH_take (i := 15) (oi := ?o5x15) (v := ?v5x15) ?hi5x15 (by kernel_rfl) ?hf5x15 ?hr5x15 (fun _ _ _ h => h) ?hy5x15 (by assumption) ?rest5x15
                            case hi5x15 => (simp only [List.getElem?_toArray, List.getElem?_cons_succ, List.getElem?_cons_zero]; exact rfl)
                            case hf5x15 => kernel_rfl
                            case hr5x15 => kernel_rfl
                            case hy5x15 => (refine Or.inl ⟨by rfl, ?_⟩; intro w hSw; (try dsimp only at hSw); go_simp; try with_reducible rfl)
                            simp only [put_mk, List.set_cons_succ, List.set_cons_zero]
                            refine wpAnyH_take (i := 16) (oi := ?o5x16) (v := ?v5x16) ?hi5x16 (by kernel_rfl) ?hf5x16 ?hr5x16 (fun _ _ _ h => h) ?hy5x16 (by assumption) ?rest5x16
                            case hi5x16 => (simp only [List.getElem?_toArray, List.getElem?_cons_succ, List.getElem?_cons_zero]; exact rfl)
                            case hf5x16 => kernel_rfl
                            case hr5x16 => kernel_rfl
                            case hy5x16 => (refine Or.inl ⟨by rfl, ?_⟩; intro w hSw; (try dsimp only at hSw); go_simp; try with_reducible rfl)
                            simp only [put_mk, List.set_cons_succ, List.set_cons_zero]
                            refine wpAnyH_take (i := 17) (oi := ?o5x17) (v := ?v5x17) ?hi5x17 (by kernel_rfl) ?hf5x17 ?hr5x17 (fun _ _ _ h => h) ?hy5x17 (by assumption) ?rest5x17
                            case hi5x17 => (simp only [List.getElem?_toArray, List.getElem?_cons_succ, List.getElem?_cons_zero]; exact rfl)
                            case hf5x17 => kernel_rfl
                            case hr5x17 => kernel_rfl
                            case hy5x17 => (refine Or.inl ⟨by rfl, ?_⟩; intro w hSw; (try dsimp only at hSw); go_simp; try with_reducible rfl)
                            simp only [put_mk, List.set_cons_succ, List.set_cons_zero]
                            refine wpAnyH_take (i := 18) (oi := ?o5x18) (v := ?v5x18) ?hi5x18 (by kernel_rfl) ?hf5x18 ?hr5x18 (fun _ _ _ h => h) ?hy5x18 (by assumption) ?rest5x18
                            case hi5x18 => (simp only [List.getElem?_toArray, List.getElem?_cons_succ, List.getElem?_cons_zero]; exact rfl)
                            case hf5x18 => kernel_rfl
                            case hr5x18 => kernel_rfl
                            case hy5x18 => (refine Or.inl ⟨by rfl, ?_⟩; intro w hSw; (try dsimp only at hSw); go_simp; try with_reducible rfl)
                            simp only [put_mk, List.set_cons_succ, List.set_cons_zero]
                            refine wpAnyH_take (i := 19) (oi := ?o5x19) (v := ?v5x19) ?hi5x19 (by kernel_rfl) ?hf5x19 ?hr5x19 (fun _ _ _ h => h) ?hy5x19 (by assumption) ?rest5x19
                            case hi5x19 => (simp only [List.getElem?_toArray, List.getElem?_cons_succ, List.getElem?_cons_zero]; exact rfl)
                            case hf5x19 => kernel_rfl
                            case hr5x19 => kernel_rfl
                            case hy5x19 => (refine Or.inl ⟨by rfl, ?_⟩; intro w hSw; (try dsimp only at hSw); go_simp; try with_reducible rfl)
                            simp only [put_mk, List.set_cons_succ, List.set_cons_zero]
                            refine wpAnyH_take (i := 20) (oi := ?o5x20) (v := ?v5x20) ?hi5x20 (by kernel_rfl) ?hf5x20 ?hr5x20 (fun _ _ _ h => h) ?hy5x20 (by assumption) ?rest5x20
                            case hi5x20 => (simp only [List.getElem?_toArray, List.getElem?_cons_succ, List.getElem?_cons_zero]; exact rfl)
                            case hf5x20 => kernel_rfl
                            case hr5x20 => kernel_rfl
                            case hy5x20 => (refine Or.inl ⟨by rfl, ?_⟩; intro w hSw; (try dsimp only at hSw); go_simp; try with_reducible rfl)
                            simp only [put_mk, List.set_cons_succ, List.set_cons_zero]
                            refine wpAnyH_take (i := 21) (oi := ?o5x21) (v := ?v5x21) ?hi5x21 (by kernel_rfl) ?hf5x21 ?hr5x21 (fun _ _ _ h => h) ?hy5x21 (by assumption) ?rest5x21
                            case hi5x21 => (simp only [List.getElem?_toArray, List.getElem?_cons_succ, List.getElem?_cons_zero]; exact rfl)
                            case hf5x21 => kernel_rfl
                            case hr5x21 => kernel_rfl
                            case hy5x21 => (refine Or.inl ⟨by rfl, ?_⟩; intro w hSw; (try dsimp only at hSw); go_simp; try with_reducible rfl)
                            simp only [put_mk, List.set_cons_succ, List.set_cons_zero]
                            refine wpAnyH_take (i := 22) (oi := ?o5x22) (v := ?v5x22) ?hi5x22 (by kernel_rfl) ?hf5x22 ?hr5x22 (fun _ _ _ h => h) ?hy5x22 (by assumption) ?rest5x22
                            case hi5x22 => (simp only [List.getElem?_toArray, List.getElem?_cons_succ, List.getElem?_cons_zero]; exact rfl)
                            case hf5x22 => kernel_rfl
                            case hr5x22 => kernel_rfl
                            case hy5x22 => (refine Or.inl ⟨by rfl, ?_⟩; intro w hSw; (try dsimp only at hSw); go_simp; try with_reducible rfl)
                            simp only [put_mk, List.set_cons_succ, List.set_cons_zero]
                            refine wpAnyH_take (i := 23) (oi := ?o5x23) (v := ?v5x23) ?hi5x23 (by kernel_rfl) ?hf5x23 ?hr5x23 (fun _ _ _ h => h) ?hy5x23 (by assumption) ?rest5x23
                            case hi5x23 => (simp only [List.getElem?_toArray, List.getElem?_cons_succ, List.getElem?_cons_zero]; exact rfl)
                            case hf5x23 => kernel_rfl
                            case hr5x23 => kernel_rfl
                            case hy5x23 => (refine Or.inl ⟨by rfl, ?_⟩; intro w hSw; (try dsimp only at hSw); go_simp; try with_reducible rfl)
                            simp only [put_mk, List.set_cons_succ, List.set_cons_zero]
                            refine wpAnyH_take (i := 24) (oi := ?o5x24) (v := ?v5x24) ?hi5x24 (by kernel_rfl) ?hf5x24 ?hr5x24 (fun _ _ _ h => h) ?hy5x24 (by assumption) ?rest5x24
                            case hi5x24 => (simp only [List.getElem?_toArray, List.getElem?_cons_succ, List.getElem?_cons_zero]; exact rfl)
                            case hf5x24 => kernel_rfl
                            case hr5x24 => kernel_rfl
                            case hy5x24 => (refine Or.inl ⟨by rfl, ?_⟩; intro w hSw; (try dsimp only at hSw); go_simp; try with_reducible rfl)
                            simp only [put_mk, List.set_cons_succ, List.set_cons_zero]
                            refine wpAnyH_take (i := 25) (oi := ?o5x25) (v := ?v5x25) ?hi5x25 (by kernel_rfl) ?hf5x25 ?hr5x25 (fun _ _ _ h => h) ?hy5x25 (by assumption) ?rest5x25
                            case hi5x25 => (simp only [List.getElem?_toArray, List.getElem?_cons_succ, List.getElem?_cons_zero]; exact rfl)
                            case hf5x25 => kernel_rfl
                            case hr5x25 => kernel_rfl
                            case hy5x25 => (refine Or.inl ⟨by rfl, ?_⟩; intro w hSw; (try dsimp only at hSw); go_simp; try with_reducible rfl)
                            simp only [put_mk, List.set_cons_succ, List.set_cons_zero]
                            refine wpAnyH_take (i := 26) (oi := ?o5x26) (v := ?v5x26) ?hi5x26 (by kernel_rfl) ?hf5x26 ?hr5x26 (fun _ _ _ h => h) ?hy5x26 (by assumption) ?rest5x26
                            case hi5x26 => (simp only [List.getElem?_toArray, List.getElem?_cons_succ, List.getElem?_cons_zero]; exact rfl)
                            case hf5x26 => kernel_rfl
                            case hr5x26 => kernel_rfl
                            case hy5x26 => (refine Or.inl ⟨by rfl, ?_⟩; intro w hSw; (try dsimp only at hSw); go_simp; try with_reducible rfl)
                            simp only [put_mk, List.set_cons_succ, List.set_cons_zero]
                            refine wpAnyH_take (i := 27) (oi := ?o5x27) (v := ?v5x27) ?hi5x27 (by kernel_rfl) ?hf5x27 ?hr5x27 (fun _ _ _ h => h) ?hy5x27 (by assumption) ?rest5x27
                            case hi5x27 => (simp only [List.getElem?_toArray, List.getElem?_cons_succ, List.getElem?_cons_zero]; exact rfl)
                            case hf5x27 => kernel_rfl
                            case hr5x27 => kernel_rfl
                            case hy5x27 => (refine Or.inl ⟨by rfl, ?_⟩; intro w hSw; (try dsimp only at hSw); go_simp; try with_reducible rfl)
                            simp only [put_mk, List.set_cons_succ, List.set_cons_zero]
                            refine wpAnyH_done (by kernel_rfl) ?_ _
                            refine NoPanic.normal ?_
                            clear u1 u2 u3 hHeld
                            go_wp2_with fail
                            go_roundw
                            case rel => exact ⟨d + 1, by omega, by go_num, by rw [Hb.out], by rw [Hb.out]; exact HP.out⟩
                            case measure => simp [intOf]; omega
                          · have Hb := hidA (show bstD v (rkV v Wn Hn N) Wn Hn k (d + 1) = bstD v (rkV v Wn Hn N) Wn Hn k d from by rw [Hbs.out, if_neg (by rintro ⟨_, _, h | h⟩ <;> omega)])
                            clear he hzr Hbs HP
                            generalize R m = z at u3 hz0 r4 hzb
                            generalize v m = va at u1 hfe
                            generalize v k = vb at u2 hfe
                            have Hb2 := hidA (rfl : (bstD v (rkV v Wn Hn N) Wn Hn k d).1 = (bstD v (rkV v Wn Hn N) Wn Hn k d).1)
                            generalize hbb : (bstD v (rkV v Wn Hn N) Wn Hn k d).1 = bb at hL hzb ⊢
                            have Hbb := hidA hbb
                            clear hbb Hb2
                            refine wp_region_noPanic ?_
                            refine wp_region_held_drew (S := fun w' => Ext w5 w') (by kernel_rfl) ?_ (fun hHeld => ?_)
                            · (repeat (first | exact Ext.refl _ | assumption | refine Ext.setCell ?_ (by first | (simp; done) | (simp; omega)) _ | refine Ext.drewN ?_ _ | refine Ext.alloc ?_ _ | refine Ext.drew ?_ | refine Ext.trans ?_ (by assumption)))
                            refine wpAnyH_take (i := 0) (oi := ?o6x0) (v := ?v6x0) ?hi6x0 (by kernel_rfl) ?hf6x0 ?hr6x0 (fun _ _ _ h => h) ?hy6x0 (by assumption) ?rest6x0
                            case hi6x0 => (simp only [List.getElem?_toArray, List.getElem?_cons_zero]; exact rfl)
                            case hf6x0 => kernel_rfl
                            case hr6x0 => kernel_rfl
                            case hy6x0 => (refine Or.inl ⟨by rfl, ?_⟩; intro w hSw; (try dsimp only at hSw); go_simp; try with_reducible rfl)
                            simp only [put_mk, List.set_cons_succ, List.set_cons_zero]
                            refine wpAnyH_take (i := 1) (oi := ?o6x1) (v := ?v6x1) ?hi6x1 (by kernel_rfl) ?hf6x1 ?hr6x1 (fun _ _ _ h => h) ?hy6x1 (by assumption) ?rest6x1
                            case hi6x1 => (simp only [List.getElem?_toArray, List.getElem?_cons_succ, List.getElem?_cons_zero]; exact rfl)
                            case hf6x1 => kernel_rfl
                            case hr6x1 => kernel_rfl
                            case hy6x1 => (refine Or.inl ⟨by rfl, ?_⟩; intro w hSw; (try dsimp only at hSw); go_simp; try with_reducible rfl)
                            simp only [put_mk, List.set_cons_succ, List.set_cons_zero]
                            refine wpAnyH_take (i := 2) (oi := ?o6x2) (v := ?v6x2) ?hi6x2 (by kernel_rfl) ?hf6x2 ?hr6x2 (fun _ _ _ h => h) ?hy6x2 (by assumption) ?rest6x2
                            case hi6x2 => (simp only [List.getElem?_toArray, List.getElem?_cons_succ, List.getElem?_cons_zero]; exact rfl)
                            case hf6x2 => kernel_rfl
                            case hr6x2 => kernel_rfl
                            case hy6x2 => (refine Or.inl ⟨by rfl, ?_⟩; intro w hSw; (try dsimp only at hSw); go_simp; try with_reducible rfl)
                            simp only [put_mk, List.set_cons_succ, List.set_cons_zero]
                            refine wpAnyH_take (i := 3) (oi := ?o6x3) (v := ?v6x3) ?hi6x3 (by kernel_rfl) ?hf6x3 ?hr6x3 (fun _ _ _ h => h) ?hy6x3 (by assumption) ?rest6x3
                            case hi6x3 => (simp only [List.getElem?_toArray, List.getElem?_cons_succ, List.getElem?_cons_zero]; exact rfl)
                            case hf6x3 => kernel_rfl
                            case hr6x3 => kernel_rfl
                            case hy6x3 => (refine Or.inl ⟨by rfl, ?_⟩; intro w hSw; (try dsimp only at hSw); go_simp; try with_reducible rfl)
                            simp only [put_mk, List.set_cons_succ, List.set_cons_zero]
                            refine wpAnyH_take (i := 4) (oi := ?o6x4) (v := ?v6x4) ?hi6x4 (by kernel_rfl) ?hf6x4 ?hr6x4 (fun _ _ _ h => h) ?hy6x4 (by assumption) ?rest6x4
                            case hi6x4 => (simp only [List.getElem?_toArray, List.getElem?_cons_succ, List.getElem?_cons_zero]; exact rfl)
                            case hf6x4 => kernel_rfl
                            case hr6x4 => kernel_rfl
                            case hy6x4 => (refine Or.inl ⟨by rfl, ?_⟩; intro w hSw; (try dsimp only at hSw); go_simp; try with_reducible rfl)
                            simp only [put_mk, List.set_cons_succ, List.set_cons_zero]
                            refine wpAnyH_take (i := 5) (oi := ?o6x5) (v := ?v6x5) ?hi6x5 (by kernel_rfl) ?hf6x5 ?hr6x5 (fun _ _ _ h => h) ?hy6x5 (by assumption) ?rest6x5
                            case hi6x5 => (simp only [List.getElem?_toArray, List.getElem?_cons_succ, List.getElem?_cons_zero]; exact rfl)
                            case hf6x5 => kernel_rfl
                            case hr6x5 => kernel_rfl
                            case hy6x5 => (refine Or.inl ⟨by rfl, ?_⟩; intro w hSw; (try dsimp only at hSw); go_simp; try with_reducible rfl)
                            simp only [put_mk, List.set_cons_succ, List.set_cons_zero]
                            refine wpAnyH_take (i := 6) (oi := ?o6x6) (v := ?v6x6) ?hi6x6 (by kernel_rfl) ?hf6x6 ?hr6x6 (fun _ _ _ h => h) ?hy6x6 (by assumption) ?rest6x6
                            case hi6x6 => (simp only [List.getElem?_toArray, List.getElem?_cons_succ, List.getElem?_cons_zero]; exact rfl)
                            case hf6x6 => kernel_rfl
                            case hr6x6 => kernel_rfl
                            case hy6x6 => (refine Or.inl ⟨by rfl, ?_⟩; intro w hSw; (try dsimp only at hSw); go_simp; try with_reducible rfl)
                            simp only [put_mk, List.set_cons_succ, List.set_cons_zero]
                            refine wpAnyH_take (i := 7) (oi := ?o6x7) (v := ?v6x7) ?hi6x7 (by kernel_rfl) ?hf6x7 ?hr6x7 (fun _ _ _ h => h) ?hy6x7 (by assumption) ?rest6x7
                            case hi6x7 => (simp only [List.getElem?_toArray, List.getElem?_cons_succ, List.getElem?_cons_zero]; exact rfl)
                            case hf6x7 => kernel_rfl
                            case hr6x7 => kernel_rfl
                            case hy6x7 => (refine Or.inl ⟨by rfl, ?_⟩; intro w hSw; (try dsimp only at hSw); go_simp; try with_reducible rfl)
                            simp only [put_mk, List.set_cons_succ, List.set_cons_zero]
                            refine wpAnyH_take (i := 8) (oi := ?o6x8) (v := ?v6x8) ?hi6x8 (by kernel_rfl) ?hf6x8 ?hr6x8 (fun _ _ _ h => h) ?hy6x8 (by assumption) ?rest6x8
                            case hi6x8 => (simp only [List.getElem?_toArray, List.getElem?_cons_succ, List.getElem?_cons_zero]; exact rfl)
                            case hf6x8 => kernel_rfl
                            case hr6x8 => kernel_rfl
                            case hy6x8 => (refine Or.inl ⟨by rfl, ?_⟩; intro w hSw; (try dsimp only at hSw); go_simp; try with_reducible rfl)
                            simp only [put_mk, List.set_cons_succ, List.set_cons_zero]
                            refine wpAnyH_take (i := 9) (oi := ?o6x9) (v := ?v6x9) ?hi6x9 (by kernel_rfl) ?hf6x9 ?hr6x9 (fun _ _ _ h => h) ?hy6x9 (by assumption) ?rest6x9
                            case hi6x9 => (simp only [List.getElem?_toArray, List.getElem?_cons_succ, List.getElem?_cons_zero]; exact rfl)
                            case hf6x9 => kernel_rfl
                            case hr6x9 => kernel_rfl
                            case hy6x9 => (refine Or.inl ⟨by rfl, ?_⟩; intro w hSw; (try dsimp only at hSw); go_simp; try with_reducible rfl)
                            simp only [put_mk, List.set_cons_succ, List.set_cons_zero]
                            refine wpAnyH_take (i := 10) (oi := ?o6x10) (v := ?v6x10) ?hi6x10 (by kernel_rfl) ?hf6x10 ?hr6x10 (fun _ _ _ h => h) ?hy6x10 (by assumption) ?rest6x10
                            case hi6x10 => (simp only [List.getElem?_toArray, List.getElem?_cons_succ, List.getElem?_cons_zero]; exact rfl)
                            case hf6x10 => kernel_rfl
                            case hr6x10 => kernel_rfl
                            case hy6x10 => (refine Or.inl ⟨by rfl, ?_⟩; intro w hSw; (try dsimp only at hSw); go_simp; try with_reducible rfl)
                            simp only [put_mk, List.set_cons_succ, List.set_cons_zero]
                            refine wpAnyH_take (i := 11) (oi := ?o6x11) (v := ?v6x11) ?hi6x11 (by kernel_rfl) ?hf6x11 ?hr6x11 (fun _ _ _ h => h) ?hy6x11 (by assumption) ?rest6x11
                            case hi6x11 => (simp only [List.getElem?_toArray, List.getElem?_cons_succ, List.getElem?_cons_zero]; exact rfl)
                            case hf6x11 => kernel_rfl
                            case hr6x11 => kernel_rfl
                            case hy6x11 => (refine Or.inl ⟨by rfl, ?_⟩; intro w hSw; (try dsimp only at hSw); go_simp; try with_reducible rfl)
                            simp only [put_mk, List.set_cons_succ, List.set_cons_zero]
                            refine wpAnyH_take (i := 12) (oi := ?o6x12) (v := ?v6x12) ?hi6x12 (by kernel_rfl) ?hf6x12 ?hr6x12 (fun _ _ _ h => h) ?hy6x12 (by assumption) ?rest6x12
                            case hi6x12 => (simp only [List.getElem?_toArray, List.getElem?_cons_succ, List.getElem?_cons_zero]; exact rfl)
                            case hf6x12 => kernel_rfl
                            case hr6x12 => kernel_rfl
                            case hy6x12 => (refine Or.inl ⟨by rfl, ?_⟩; intro w hSw; (try dsimp only at hSw); go_simp; try with_reducible rfl)
                            simp only [put_mk, List.set_cons_succ, List.set_cons_zero]
                            refine wpAnyH_take (i := 13) (oi := ?o6x13) (v := ?v6x13) ?hi6x13 (by kernel_rfl) ?hf6x13 ?hr6x13 (fun _ _ _ h => h) ?hy6x13 (by assumption) ?rest6x13
                            case hi6x13 => (simp only [List.getElem?_toArray, List.getElem?_cons_succ, List.getElem?_cons_zero]; exact rfl)
                            case hf6x13 => kernel_rfl
                            case hr6x13 => kernel_rfl
                            case hy6x13 => (refine Or.inl ⟨by rfl, ?_⟩; intro w hSw; (try dsimp only at hSw); go_simp; try with_reducible rfl)
                            simp only [put_mk, List.set_cons_succ, List.set_cons_zero]
                            refine wpAnyH_take (i := 14) (oi := ?o6x14) (v := ?v6x14) ?hi6x14 (by kernel_rfl) ?hf6x14 ?hr6x14 (fun _ _ _ h => h) ?hy6x14 (by assumption) ?rest6x14
                            case hi6x14 => (simp only [List.getElem?_toArray, List.getElem?_cons_succ, List.getElem?_cons_zero]; exact rfl)
                            case hf6x14 => kernel_rfl
                            case hr6x14 => kernel_rfl
                            case hy6x14 => (refine Or.inl ⟨by rfl, ?_⟩; intro w hSw; (try dsimp only at hSw); go_simp; try with_reducible rfl)
                            simp only [put_mk, List.set_cons_succ, List.set_cons_zero]
                            refine wpAnyH_take (i := 15) (oi := ?o6x15) (v := ?v6x15) ?hi6x15 (by kernel_rfl) ?hf6x15 ?hr6x15 (fun _ _ _ h => h) ?hy6x15 (by assumption) ?rest6x15
                            case hi6x15 => (simp only [List.getElem?_toArray, List.getElem?_cons_succ, List.getElem?_cons_zero]; exact rfl)
                            case hf6x15 => kernel_rfl
                            case hr6x15 => kernel_rfl
                            case hy6x15 => (refine Or.inl ⟨by rfl, ?_⟩; intro w hSw; (try dsimp only at hSw); go_simp; try with_reducible rfl)
                            simp only [put_mk, List.set_cons_succ, List.set_cons_zero]
                            refine wpAnyH_take (i := 16) (oi := ?o6x16) (v := ?v6x16) ?hi6x16 (by kernel_rfl) ?hf6x16 ?hr6x16 (fun _ _ _ h => h) ?hy6x16 (by assumption) ?rest6x16
                            case hi6x16 => (simp only [List.getElem?_toArray, List.getElem?_cons_succ, List.getElem?_cons_zero]; exact rfl)
                            case hf6x16 => kernel_rfl
                            case hr6x16 => kernel_rfl
                            case hy6x16 => (refine Or.inl ⟨by rfl, ?_⟩; intro w hSw; (try dsimp only at hSw); go_simp; try with_reducible rfl)
                            simp only [put_mk, List.set_cons_succ, List.set_cons_zero]
                            refine wpAnyH_take (i := 17) (oi := ?o6x17) (v := ?v6x17) ?hi6x17 (by kernel_rfl) ?hf6x17 ?hr6x17 (fun _ _ _ h => h) ?hy6x17 (by assumption) ?rest6x17
                            case hi6x17 => (simp only [List.getElem?_toArray, List.getElem?_cons_succ, List.getElem?_cons_zero]; exact rfl)
                            case hf6x17 => kernel_rfl
                            case hr6x17 => kernel_rfl
                            case hy6x17 => (refine Or.inl ⟨by rfl, ?_⟩; intro w hSw; (try dsimp only at hSw); go_simp; try with_reducible rfl)
                            simp only [put_mk, List.set_cons_succ, List.set_cons_zero]
                            refine wpAnyH_take (i := 18) (oi := ?o6x18) (v := ?v6x18) ?hi6x18 (by kernel_rfl) ?hf6x18 ?hr6x18 (fun _ _ _ h => h) ?hy6x18 (by assumption) ?rest6x18
                            case hi6x18 => (simp only [List.getElem?_toArray, List.getElem?_cons_succ, List.getElem?_cons_zero]; exact rfl)
                            case hf6x18 => kernel_rfl
                            case hr6x18 => kernel_rfl
                            case hy6x18 => (refine Or.inl ⟨by rfl, ?_⟩; intro w hSw; (try dsimp only at hSw); go_simp; try with_reducible rfl)
                            simp only [put_mk, List.set_cons_succ, List.set_cons_zero]
                            refine wpAnyH_take (i := 19) (oi := ?o6x19) (v := ?v6x19) ?hi6x19 (by kernel_rfl) ?hf6x19 ?hr6x19 (fun _ _ _ h => h) ?hy6x19 (by assumption) ?rest6x19
                            case hi6x19 => (simp only [List.getElem?_toArray, List.getElem?_cons_succ, List.getElem?_cons_zero]; exact rfl)
                            case hf6x19 => kernel_rfl
                            case hr6x19 => kernel_rfl
                            case hy6x19 => (refine Or.inl ⟨by rfl, ?_⟩; intro w hSw; (try dsimp only at hSw); go_simp; try with_reducible rfl)
                            simp only [put_mk, List.set_cons_succ, List.set_cons_zero]
                            refine wpAnyH_take (i := 20) (oi := ?o6x20) (v := ?v6x20) ?hi6x20 (by kernel_rfl) ?hf6x20 ?hr6x20 (fun _ _ _ h => h) ?hy6x20 (by assumption) ?rest6x20
                            case hi6x20 => (simp only [List.getElem?_toArray, List.getElem?_cons_succ, List.getElem?_cons_zero]; exact rfl)
                            case hf6x20 => kernel_rfl
                            case hr6x20 => kernel_rfl
                            case hy6x20 => (refine Or.inl ⟨by rfl, ?_⟩; intro w hSw; (try dsimp only at hSw); go_simp; try with_reducible rfl)
                            simp only [put_mk, List.set_cons_succ, List.set_cons_zero]
                            refine wpAnyH_take (i := 21) (oi := ?o6x21) (v := ?v6x21) ?hi6x21 (by kernel_rfl) ?hf6x21 ?hr6x21 (fun _ _ _ h => h) ?hy6x21 (by assumption) ?rest6x21
                            case hi6x21 => (simp only [List.getElem?_toArray, List.getElem?_cons_succ, List.getElem?_cons_zero]; exact rfl)
                            case hf6x21 => kernel_rfl
                            case hr6x21 => kernel_rfl
                            case hy6x21 => (refine Or.inl ⟨by rfl, ?_⟩; intro w hSw; (try dsimp only at hSw); go_simp; try with_reducible rfl)
                            simp only [put_mk, List.set_cons_succ, List.set_cons_zero]
                            refine wpAnyH_take (i := 22) (oi := ?o6x22) (v := ?v6x22) ?hi6x22 (by kernel_rfl) ?hf6x22 ?hr6x22 (fun _ _ _ h => h) ?hy6x22 (by assumption) ?rest6x22
                            case hi6x22 => (simp only [List.getElem?_toArray, List.getElem?_cons_succ, List.getElem?_cons_zero]; exact rfl)
                            case hf6x22 => kernel_rfl
                            case hr6x22 => kernel_rfl
                            case hy6x22 => (refine Or.inl ⟨by rfl, ?_⟩; intro w hSw; (try dsimp only at hSw); go_simp; try with_reducible rfl)
                            simp only [put_mk, List.set_cons_succ, List.set_cons_zero]
                            refine wpAnyH_take (i := 23) (oi := ?o6x23) (v := ?v6x23) ?hi6x23 (by kernel_rfl) ?hf6x23 ?hr6x23 (fun _ _ _ h => h) ?hy6x23 (by assumption) ?rest6x23
                            case hi6x23 => (simp only [List.getElem?_toArray, List.getElem?_cons_succ, List.getElem?_cons_zero]; exact rfl)
                            case hf6x23 => kernel_rfl
                            case hr6x23 => kernel_rfl
                            case hy6x23 => (refine Or.inl ⟨by rfl, ?_⟩; intro w hSw; (try dsimp only at hSw); go_simp; try with_reducible rfl)
                            simp only [put_mk, List.set_cons_succ, List.set_cons_zero]
                            refine wpAnyH_take (i := 24) (oi := ?o6x24) (v := ?v6x24) ?hi6x24 (by kernel_rfl) ?hf6x24 ?hr6x24 (fun _ _ _ h => h) ?hy6x24 (by assumption) ?rest6x24
                            case hi6x24 => (simp only [List.getElem?_toArray, List.getElem?_cons_succ, List.getElem?_cons_zero]; exact rfl)
                            case hf6x24 => kernel_rfl
                            case hr6x24 => kernel_rfl
                            case hy6x24 => (refine Or.inl ⟨by rfl, ?_⟩; intro w hSw; (try dsimp only at hSw); go_simp; try with_reducible rfl)
                            simp only [put_mk, List.set_cons_succ, List.set_cons_zero]
                            refine wpAnyH_take (i := 25) (oi := ?o6x25) (v := ?v6x25) ?hi6x25 (by kernel_rfl) ?hf6x25 ?hr6x25 (fun _ _ _ h => h) ?hy6x25 (by assumption) ?rest6x25
                            case hi6x25 => (simp only [List.getElem?_toArray, List.getElem?_cons_succ, List.getElem?_cons_zero]; exact rfl)
                            case hf6x25 => kernel_rfl
                            case hr6x25 => kernel_rfl
                            case hy6x25 => (refine Or.inl ⟨by rfl, ?_⟩; intro w hSw; (try dsimp only at hSw); go_simp; try with_reducible rfl)
                            simp only [put_mk, List.set_cons_succ, List.set_cons_zero]
                            refine wpAnyH_take (i := 26) (oi := ?o6x26) (v := ?v6x26) ?hi6x26 (by kernel_rfl) ?hf6x26 ?hr6x26 (fun _ _ _ h => h) ?hy6x26 (by assumption) ?rest6x26
                            case hi6x26 => (simp only [List.getElem?_toArray, List.getElem?_cons_succ, List.getElem?_cons_zero]; exact rfl)
                            case hf6x26 => kernel_rfl
                            case hr6x26 => kernel_rfl
                            case hy6x26 => (refine Or.inl ⟨by rfl, ?_⟩; intro w hSw; (try dsimp only at hSw); go_simp; try with_reducible rfl)
                            simp only [put_mk, List.set_cons_succ, List.set_cons_zero]
                            refine wpAnyH_take (i := 27) (oi := ?o6x27) (v := ?v6x27) ?hi6x27 (by kernel_rfl) ?hf6x27 ?hr6x27 (fun _ _ _ h => h) ?hy6x27 (by assumption) ?rest6x27
                            case hi6x27 => (simp only [List.getElem?_toArray, List.getElem?_cons_succ, List.getElem?_cons_zero]; exact rfl)
                            case hf6x27 => kernel_rfl
                            case hr6x27 => kernel_rfl
                            case hy6x27 => (refine Or.inl ⟨by rfl, ?_⟩; intro w hSw; (try dsimp only at hSw); go_simp; try with_reducible rfl)
                            simp only [put_mk, List.set_cons_succ, List.set_cons_zero]
                            refine wpAnyH_done (by kernel_rfl) ?_ _
                            refine NoPanic.normal ?_
                            clear u1 u2 u3 hHeld
                            go_wp2_with fail
                            go_roundw
                            case rel => exact ⟨d + 1, by omega, by go_num, by rw [Hb.out, Hbb.out], by rw [Hb.out]; exact HS5.out.step (Ext.drew (Ext.refl _))⟩
                            case measure => simp [intOf]; omega
                      · rw [decide_eq_false he] at hfe
                        have Hb := hidA (show bstD v (rkV v Wn Hn N) Wn Hn k (d + 1) = bstD v (rkV v Wn Hn N) Wn Hn k d from by rw [Hbs.out, if_neg (by rintro ⟨h, _⟩; exact he h)])
                        clear he hzr Hbs HP
                        generalize v m = va at u1 hfe
                        generalize v k = vb at u2 hfe
                        generalize hbb : (bstD v (rkV v Wn Hn N) Wn Hn k d).1 = bb
                        have Hbb := hidA hbb
                        clear hbb
                        refine wp_region_noPanic ?_
                        refine wp_region_held_drew (S := fun w' => Ext w5 w') (by kernel_rfl) ?_ (fun hHeld => ?_)
                        · (repeat (first | exact Ext.refl _ | assumption | refine Ext.setCell ?_ (by first | (simp; done) | (simp; omega)) _ | refine Ext.drewN ?_ _ | refine Ext.alloc ?_ _ | refine Ext.drew ?_ | refine Ext.trans ?_ (by assumption)))
                        refine wpAnyH_take (i := 0) (oi := ?o7x0) (v := ?v7x0) ?hi7x0 (by kernel_rfl) ?hf7x0 ?hr7x0 (fun _ _ _ h => h) ?hy7x0 (by assumption) ?rest7x0
                        case hi7x0 => (simp only [List.getElem?_toArray, List.getElem?_cons_zero]; exact rfl)
                        case hf7x0 => kernel_rfl
                        case hr7x0 => kernel_rfl
                        case hy7x0 => (refine Or.inl ⟨by rfl, ?_⟩; intro w hSw; (try dsimp only at hSw); go_simp; try with_reducible rfl)
                        simp only [put_mk, List.set_cons_succ, List.set_cons_zero]
                        refine wpAnyH_take (i := 1) (oi := ?o7x1) (v := ?v7x1) ?hi7x1 (by kernel_rfl) ?hf7x1 ?hr7x1 (fun _ _ _ h => h) ?hy7x1 (by assumption) ?rest7x1
                        case hi7x1 => (simp only [List.getElem?_toArray, List.getElem?_cons_succ, List.getElem?_cons_zero]; exact rfl)
                        case hf7x1 => kernel_rfl
                        case hr7x1 => kernel_rfl
                        case hy7x1 => (refine Or.inl ⟨by rfl, ?_⟩; intro w hSw; (try dsimp only at hSw); go_simp; try with_reducible rfl)
                        simp only [put_mk, List.set_cons_succ, List.set_cons_zero]
                        refine wpAnyH_take (i := 2) (oi := ?o7x2) (v := ?v7x2) ?hi7x2 (by kernel_rfl) ?hf7x2 ?hr7x2 (fun _ _ _ h => h) ?hy7x2 (by assumption) ?rest7x2
                        case hi7x2 => (simp only [List.getElem?_toArray, List.getElem?_cons_succ, List.getElem?_cons_zero]; exact rfl)
                        case hf7x2 => kernel_rfl
                        case hr7x2 => kernel_rfl
                        case hy7x2 => (refine Or.inl ⟨by rfl, ?_⟩; intro w hSw; (try dsimp only at hSw); go_simp; try with_reducible rfl)
                        simp only [put_mk, List.set_cons_succ, List.set_cons_zero]
                        refine wpAnyH_take (i := 3) (oi := ?o7x3) (v := ?v7x3) ?hi7x3 (by kernel_rfl) ?hf7x3 ?hr7x3 (fun _ _ _ h => h) ?hy7x3 (by assumption) ?rest7x3
                        case hi7x3 => (simp only [List.getElem?_toArray, List.getElem?_cons_succ, List.getElem?_cons_zero]; exact rfl)
                        case hf7x3 => kernel_rfl
                        case hr7x3 => kernel_rfl
                        case hy7x3 => (refine Or.inl ⟨by rfl, ?_⟩; intro w hSw; (try dsimp only at hSw); go_simp; try with_reducible rfl)
                        simp only [put_mk, List.set_cons_succ, List.set_cons_zero]
                        refine wpAnyH_take (i := 4) (oi := ?o7x4) (v := ?v7x4) ?hi7x4 (by kernel_rfl) ?hf7x4 ?hr7x4 (fun _ _ _ h => h) ?hy7x4 (by assumption) ?rest7x4
                        case hi7x4 => (simp only [List.getElem?_toArray, List.getElem?_cons_succ, List.getElem?_cons_zero]; exact rfl)
                        case hf7x4 => kernel_rfl
                        case hr7x4 => kernel_rfl
                        case hy7x4 => (refine Or.inl ⟨by rfl, ?_⟩; intro w hSw; (try dsimp only at hSw); go_simp; try with_reducible rfl)
                        simp only [put_mk, List.set_cons_succ, List.set_cons_zero]
                        refine wpAnyH_take (i := 5) (oi := ?o7x5) (v := ?v7x5) ?hi7x5 (by kernel_rfl) ?hf7x5 ?hr7x5 (fun _ _ _ h => h) ?hy7x5 (by assumption) ?rest7x5
                        case hi7x5 => (simp only [List.getElem?_toArray, List.getElem?_cons_succ, List.getElem?_cons_zero]; exact rfl)
                        case hf7x5 => kernel_rfl
                        case hr7x5 => kernel_rfl
                        case hy7x5 => (refine Or.inl ⟨by rfl, ?_⟩; intro w hSw; (try dsimp only at hSw); go_simp; try with_reducible rfl)
                        simp only [put_mk, List.set_cons_succ, List.set_cons_zero]
                        refine wpAnyH_take (i := 6) (oi := ?o7x6) (v := ?v7x6) ?hi7x6 (by kernel_rfl) ?hf7x6 ?hr7x6 (fun _ _ _ h => h) ?hy7x6 (by assumption) ?rest7x6
                        case hi7x6 => (simp only [List.getElem?_toArray, List.getElem?_cons_succ, List.getElem?_cons_zero]; exact rfl)
                        case hf7x6 => kernel_rfl
                        case hr7x6 => kernel_rfl
                        case hy7x6 => (refine Or.inl ⟨by rfl, ?_⟩; intro w hSw; (try dsimp only at hSw); go_simp; try with_reducible rfl)
                        simp only [put_mk, List.set_cons_succ, List.set_cons_zero]
                        refine wpAnyH_take (i := 7) (oi := ?o7x7) (v := ?v7x7) ?hi7x7 (by kernel_rfl) ?hf7x7 ?hr7x7 (fun _ _ _ h => h) ?hy7x7 (by assumption) ?rest7x7
                        case hi7x7 => (simp only [List.getElem?_toArray, List.getElem?_cons_succ, List.getElem?_cons_zero]; exact rfl)
                        case hf7x7 => kernel_rfl
                        case hr7x7 => kernel_rfl
                        case hy7x7 => (refine Or.inl ⟨by rfl, ?_⟩; intro w hSw; (try dsimp only at hSw); go_simp; try with_reducible rfl)
                        simp only [put_mk, List.set_cons_succ, List.set_cons_zero]
                        refine wpAnyH_take (i := 8) (oi := ?o7x8) (v := ?v7x8) ?hi7x8 (by kernel_rfl) ?hf7x8 ?hr7x8 (fun _ _ _ h => h) ?hy7x8 (by assumption) ?rest7x8
                        case hi7x8 => (simp only [List.getElem?_toArray, List.getElem?_cons_succ, List.getElem?_cons_zero]; exact rfl)
                        case hf7x8 => kernel_rfl
                        case hr7x8 => kernel_rfl
                        case hy7x8 => (refine Or.inl ⟨by rfl, ?_⟩; intro w hSw; (try dsimp only at hSw); go_simp; try with_reducible rfl)
                        simp only [put_mk, List.set_cons_succ, List.set_cons_zero]
                        refine wpAnyH_take (i := 9) (oi := ?o7x9) (v := ?v7x9) ?hi7x9 (by kernel_rfl) ?hf7x9 ?hr7x9 (fun _ _ _ h => h) ?hy7x9 (by assumption) ?rest7x9
                        case hi7x9 => (simp only [List.getElem?_toArray, List.getElem?_cons_succ, List.getElem?_cons_zero]; exact rfl)
                        case hf7x9 => kernel_rfl
                        case hr7x9 => kernel_rfl
                        case hy7x9 => (refine Or.inl ⟨by rfl, ?_⟩; intro w hSw; (try dsimp only at hSw); go_simp; try with_reducible rfl)
                        simp only [put_mk, List.set_cons_succ, List.set_cons_zero]
                        refine wpAnyH_take (i := 10) (oi := ?o7x10) (v := undef) ?hi7x10 (by kernel_rfl) ?hf7x10 ?hr7x10 (fun _ _ _ h => h) ?hy7x10 (by assumption) ?rest7x10
                        case hi7x10 => (simp only [List.getElem?_toArray, List.getElem?_cons_succ, List.getElem?_cons_zero]; exact rfl)
                        case hf7x10 => kernel_rfl
                        case hr7x10 => kernel_rfl
                        case hy7x10 => exact Or.inr ⟨by rfl, rfl⟩
                        simp only [put_mk, List.set_cons_succ, List.set_cons_zero]
                        refine wpAnyH_take (i := 11) (oi := ?o7x11) (v := undef) ?hi7x11 (by kernel_rfl) ?hf7x11 ?hr7x11 (fun _ _ _ h => h) ?hy7x11 (by assumption) ?rest7x11
                        case hi7x11 => (simp only [List.getElem?_toArray, List.getElem?_cons_succ, List.getElem?_cons_zero]; exact rfl)
                        case hf7x11 => kernel_rfl
                        case hr7x11 => kernel_rfl
                        case hy7x11 => exact Or.inr ⟨by rfl, rfl⟩
                        simp only [put_mk, List.set_cons_succ, List.set_cons_zero]
                        refine wpAnyH_take (i := 12) (oi := ?o7x12) (v := undef) ?hi7x12 (by kernel_rfl) ?hf7x12 ?hr7x12 (fun _ _ _ h => h) ?hy7x12 (by assumption) ?rest7x12
                        case hi7x12 => (simp only [List.getElem?_toArray, List.getElem?_cons_succ, List.getElem?_cons_zero]; exact rfl)
                        case hf7x12 => kernel_rfl
                        case hr7x12 => kernel_rfl
                        case hy7x12 => exact Or.inr ⟨by rfl, rfl⟩
                        simp only [put_mk, List.set_cons_succ, List.set_cons_zero]
                        refine wpAnyH_take (i := 13) (oi := ?o7x13) (v := undef) ?hi7x13 (by kernel_rfl) ?hf7x13 ?hr7x13 (fun _ _ _ h => h) ?hy7x13 (by assumption) ?rest7x13
                        case hi7x13 => (simp only [List.getElem?_toArray, List.getElem?_cons_succ, List.getElem?_cons_zero]; exact rfl)
                        case hf7x13 => kernel_rfl
                        case hr7x13 => kernel_rfl
                        case hy7x13 => exact Or.inr ⟨by rfl, rfl⟩
                        simp only [put_mk, List.set_cons_succ, List.set_cons_zero]
                        refine wpAnyH_take (i := 14) (oi := ?o7x14) (v := undef) ?hi7x14 (by kernel_rfl) ?hf7x14 ?hr7x14 (fun _ _ _ h => h) ?hy7x14 (by assumption) ?rest7x14
                        case hi7x14 => (simp only [List.getElem?_toArray, List.getElem?_cons_succ, List.getElem?_cons_zero]; exact rfl)
                        case hf7x14 => kernel_rfl
                        case hr7x14 => kernel_rfl
                        case hy7x14 => exact Or.inr ⟨by rfl, rfl⟩
                        simp only [put_mk, List.set_cons_succ, List.set_cons_zero]
                        refine wpAnyH_take (i := 15) (oi := ?o7x15) (v := ?v7x15) ?hi7x15 (by kernel_rfl) ?hf7x15 ?hr7x15 (fun _ _ _ h => h) ?hy7x15 (by assumption) ?rest7x15
                        case hi7x15 => (simp only [List.getElem?_toArray, List.getElem?_cons_succ, List.getElem?_cons_zero]; exact rfl)
                        case hf7x15 => kernel_rfl
                        case hr7x15 => kernel_rfl
                        case hy7x15 => (refine Or.inl ⟨by rfl, ?_⟩; intro w hSw; (try dsimp only at hSw); go_simp; try with_reducible rfl)
                        simp only [put_mk, List.set_cons_succ, List.set_cons_zero]
                        refine wpAnyH_take (i := 16) (oi := ?o7x16) (v := ?v7x16) ?hi7x16 (by kernel_rfl) ?hf7x16 ?hr7x16 (fun _ _ _ h => h) ?hy7x16 (by assumption) ?rest7x16
                        case hi7x16 => (simp only [List.getElem?_toArray, List.getElem?_cons_succ, List.getElem?_cons_zero]; exact rfl)
                        case hf7x16 => kernel_rfl
                        case hr7x16 => kernel_rfl
                        case hy7x16 => (refine Or.inl ⟨by rfl, ?_⟩; intro w hSw; (try dsimp only at hSw); go_simp; try with_reducible rfl)
                        simp only [put_mk, List.set_cons_succ, List.set_cons_zero]
                        refine wpAnyH_take (i := 17) (oi := ?o7x17) (v := undef) ?hi7x17 (by kernel_rfl) ?hf7x17 ?hr7x17 (fun _ _ _ h => h) ?hy7x17 (by assumption) ?rest7x17
                        case hi7x17 => (simp only [List.getElem?_toArray, List.getElem?_cons_succ, List.getElem?_cons_zero]; exact rfl)
                        case hf7x17 => kernel_rfl
                        case hr7x17 => kernel_rfl
                        case hy7x17 => exact Or.inr ⟨by rfl, rfl⟩
                        simp only [put_mk, List.set_cons_succ, List.set_cons_zero]
                        refine wpAnyH_take (i := 18) (oi := ?o7x18) (v := undef) ?hi7x18 (by kernel_rfl) ?hf7x18 ?hr7x18 (fun _ _ _ h => h) ?hy7x18 (by assumption) ?rest7x18
                        case hi7x18 => (simp only [List.getElem?_toArray, List.getElem?_cons_succ, List.getElem?_cons_zero]; exact rfl)
                        case hf7x18 => kernel_rfl
                        case hr7x18 => kernel_rfl
                        case hy7x18 => exact Or.inr ⟨by rfl, rfl⟩
                        simp only [put_mk, List.set_cons_succ, List.set_cons_zero]
                        refine wpAnyH_take (i := 19) (oi := ?o7x19) (v := undef) ?hi7x19 (by kernel_rfl) ?hf7x19 ?hr7x19 (fun _ _ _ h => h) ?hy7x19 (by assumption) ?rest7x19
                        case hi7x19 => (simp only [List.getElem?_toArray, List.getElem?_cons_succ, List.getElem?_cons_zero]; exact rfl)
                        case hf7x19 => kernel_rfl
                        case hr7x19 => kernel_rfl
                        case hy7x19 => exact Or.inr ⟨by rfl, rfl⟩
                        simp only [put_mk, List.set_cons_succ, List.set_cons_zero]
                        refine wpAnyH_take (i := 20) (oi := ?o7x20) (v := undef) ?hi7x20 (by kernel_rfl) ?hf7x20 ?hr7x20 (fun _ _ _ h => h) ?hy7x20 (by assumption) ?rest7x20
                        case hi7x20 => (simp only [List.getElem?_toArray, List.getElem?_cons_succ, List.getElem?_cons_zero]; exact rfl)
                        case hf7x20 => kernel_rfl
                        case hr7x20 => kernel_rfl
                        case hy7x20 => exact Or.inr ⟨by rfl, rfl⟩
                        simp only [put_mk, List.set_cons_succ, List.set_cons_zero]
                        refine wpAnyH_take (i := 21) (oi := ?o7x21) (v := undef) ?hi7x21 (by kernel_rfl) ?hf7x21 ?hr7x21 (fun _ _ _ h => h) ?hy7x21 (by assumption) ?rest7x21
                        case hi7x21 => (simp only [List.getElem?_toArray, List.getElem?_cons_succ, List.getElem?_cons_zero]; exact rfl)
                        case hf7x21 => kernel_rfl
                        case hr7x21 => kernel_rfl
                        case hy7x21 => exact Or.inr ⟨by rfl, rfl⟩
                        simp only [put_mk, List.set_cons_succ, List.set_cons_zero]
                        refine wpAnyH_take (i := 22) (oi := ?o7x22) (v := undef) ?hi7x22 (by kernel_rfl) ?hf7x22 ?hr7x22 (fun _ _ _ h => h) ?hy7x22 (by assumption) ?rest7x22
                        case hi7x22 => (simp only [List.getElem?_toArray, List.getElem?_cons_succ, List.getElem?_cons_zero]; exact rfl)
                        case hf7x22 => kernel_rfl
                        case hr7x22 => kernel_rfl
                        case hy7x22 => exact Or.inr ⟨by rfl, rfl⟩
                        simp only [put_mk, List.set_cons_succ, List.set_cons_zero]
                        refine wpAnyH_take (i := 23) (oi := ?o7x23) (v := undef) ?hi7x23 (by kernel_rfl) ?hf7x23 ?hr7x23 (fun _ _ _ h => h) ?hy7x23 (by assumption) ?rest7x23
                        case hi7x23 => (simp only [List.getElem?_toArray, List.getElem?_cons_succ, List.getElem?_cons_zero]; exact rfl)
                        case hf7x23 => kernel_rfl
                        case hr7x23 => kernel_rfl
                        case hy7x23 => exact Or.inr ⟨by rfl, rfl⟩
                        simp only [put_mk, List.set_cons_succ, List.set_cons_zero]
                        refine wpAnyH_take (i := 24) (oi := ?o7x24) (v := undef) ?hi7x24 (by kernel_rfl) ?hf7x24 ?hr7x24 (fun _ _ _ h => h) ?hy7x24 (by assumption) ?rest7x24
                        case hi7x24 => (simp only [List.getElem?_toArray, List.getElem?_cons_succ, List.getElem?_cons_zero]; exact rfl)
                        case hf7x24 => kernel_rfl
                        case hr7x24 => kernel_rfl
                        case hy7x24 => exact Or.inr ⟨by rfl, rfl⟩
                        simp only [put_mk, List.set_cons_succ, List.set_cons_zero]
                        refine wpAnyH_take (i := 25) (oi := ?o7x25) (v := undef) ?hi7x25 (by kernel_rfl) ?hf7x25 ?hr7x25 (fun _ _ _ h => h) ?hy7x25 (by assumption) ?rest7x25
                        case hi7x25 => (simp only [List.getElem?_toArray, List.getElem?_cons_succ, List.getElem?_cons_zero]; exact rfl)
                        case hf7x25 => kernel_rfl
                        case hr7x25 => kernel_rfl
                        case hy7x25 => exact Or.inr ⟨by rfl, rfl⟩
                        simp only [put_mk, List.set_cons_succ, List.set_cons_zero]
                        refine wpAnyH_take (i := 26) (oi := ?o7x26) (v := undef) ?hi7x26 (by kernel_rfl) ?hf7x26 ?hr7x26 (fun _ _ _ h => h) ?hy7x26 (by assumption) ?rest7x26
                        case hi7x26 => (simp only [List.getElem?_toArray, List.getElem?_cons_succ, List.getElem?_cons_zero]; exact rfl)
                        case hf7x26 => kernel_rfl
                        case hr7x26 => kernel_rfl
                        case hy7x26 => exact Or.inr ⟨by rfl, rfl⟩
                        simp only [put_mk, List.set_cons_succ, List.set_cons_zero]
                        refine wpAnyH_take (i := 27) (oi := ?o7x27) (v := ?v7x27) ?hi7x27 (by kernel_rfl) ?hf7x27 ?hr7x27 (fun _ _ _ h => h) ?hy7x27 (by assumption) ?rest7x27
                        case hi7x27 => (simp only [List.getElem?_toArray, List.getElem?_cons_succ, List.getElem?_cons_zero]; exact rfl)
                        case hf7x27 => kernel_rfl
                        case hr7x27 => kernel_rfl
                        case hy7x27 => (refine Or.inl ⟨by rfl, ?_⟩; intro w hSw; (try dsimp only at hSw); go_simp; try with_reducible rfl)
                        simp only [put_mk, List.set_cons_succ, List.set_cons_zero]
                        refine wpAnyH_done (by kernel_rfl) ?_ _
                        refine NoPanic.normal ?_
                        clear u1 u2 u3 hHeld
                        go_wp2_with fail
                        go_roundw
                        case rel => exact ⟨d + 1, by omega, by go_num, by rw [Hb.out, Hbb.out], by rw [Hb.out]; exact HS5.out.step (Ext.drew (Ext.refl _))⟩
                        case measure => simp [intOf]; omega
                    · obtain rfl : d = 8 := by omega
                      have HSg := hidA hS
                      clear hS
                      go_wp2_with fail
                      go_roundw
                      case rel =>
                        refine ⟨k + 1, _, by omega, by go_num, HSg.out, fun j hj => ?_, fun j hj => ?_⟩
                        · by_cases e : j = k
                          · subst e
                            rw [updF_same, Hv.out]
                          · rw [updF_ne _ _ e]
                            exact HIa.out j (by omega)
                        · rw [updF_ne _ _ (by omega)]
                          exact HIb.out j (by omega)
                      case measure => simp [intOf]; omega
                · have Hv := hidA (show ∀ j, j < k + 1 → I j = drnV v (rkV v Wn Hn N) Wn Hn j from fun j hj => by
                    by_cases e : j = k
                    · subst e
                      rw [Hdrn.out, if_neg Hd0.out, if_pos hb, Hm1.out]
                    · exact HIa.out j (by omega))
                  rw [hb] at HEk
                  clear hb Hdrn Hd0 Hm1
                  go_wp2_with (go_at_call 84; refine ((HEk _).out).mono ?_; rintro e w5 ⟨rfl, hx5⟩)
                  go_roundw
                  case rel => exact ⟨k + 1, I, by omega, by go_num, hS.step hx5, Hv.out, fun j h => HIb.out j (by omega)⟩
                  case measure => simp [intOf]; omega
            · obtain rfl : N = k := by omega
              have HSh := hidA hS
              clear hS HIb
              go_wp2_with fail
              go_ret
              refine ⟨gi, v, rfl, HLv.out, ?_, HSh.out.ext⟩
              rw [← intB_congr fun j hj => HIa.out j hj]
              exact HSh.out.ib
end Go.Proofs.Ytinohfgokpbcdaa

namespace Go.Proofs.Ytinohfgokpbcdaa
open Go.RowKit
attribute [local go_sem ↓] Go.wp_at_zero Go.wp_at_succ
attribute [local go_sem] run_store_float

/-- a block of one cell, as a slice -/
theorem Qs.one (w : World) (base : Nat) (e : TypeId) (v : Value) (hb : base ≤ w.heap.size) : Qs (w.alloc (.cells #[v] e)) base e (some ⟨w.heap.size, 0, none⟩) 1 1 [v] :=
  ⟨rfl, Nat.le_refl _, by unfold maxLen; omega, .inr ⟨_, 0, _, rfl, hb, heap_alloc_new w _, by simp, fun j u hu => by
    cases j with
    | zero => simpa using hu
    | succ j => simp at hu⟩⟩
theorem Qs.ext {w w' : World} {base : Nat} {e : TypeId} {A : Option Addr} {n cap : Nat} {xs : List Value} (h : Qs w base e A n cap xs) (hx : Ext w w') : Qs w' base e A n cap xs := h.kept fun _ _ hl => hx.block _ hl
set_option maxRecDepth 100000 in
set_option maxHeartbeats 3200000 in
theorem Trail_any (X Y : Int) (Wn Hn N k c : Nat) (A : Option Addr) (D : Nat → Int) (m : Nat → Nat) (t : List Nat) (w : World) (hr : Reg X Y Wn Hn) (hN : N = Wn * Hn) (hD : DirsAt w A N D) (hL : Lead Wn Hn N D m) (hk : k < N) (ht : IsTr D Wn Hn k t) (hl : t.length ≤ N) :
    Calls Try.prog 53 #[rgv X Y Wn Hn, .slice A N c, .int .i64 k] w fun e w' => ∃ Q cap, e = .returned (.slice (some Q) (t.length + 1) cap) ∧ Qs w' w.heap.size 3 (some Q) (t.length + 1) cap (inq (k :: t)) ∧ Ext w w' := by
  have HNb := hidA (fun (k d : Nat) (w : World) (hk : k < N) (hd : d < 8) => nb_any X Y Wn Hn k d w hr (by rw [← hN]; exact hk) hd)
  have hN6 : N ≤ 65536 := by rw [hN]; exact hr.n
  unfold rgv at HNb ⊢
  have HL := hidA hL
  have HN := hidA hN
  have Hl := hidA hl
  have Ht := hidA ht
  have HD := hidA hD
  obtain ⟨i0, hi0, hz0, hz1, hz2⟩ := info_parts infoIntW
  clear hr hN hD hL hl ht
  have hQ : Qs ((w.alloc (.cells #[.int .i64 X, .int .i64 Y, .int .i64 (Wn : Int), .int .i64 (Hn : Int)] 23)).alloc (.cells #[.int .i64 (k : Int)] 3)) w.heap.size 3 (some ⟨w.heap.size + 1, 0, none⟩) 1 1 (inq [k]) := by
    have h := Qs.one (w.alloc (.cells #[.int .i64 X, .int .i64 Y, .int .i64 (Wn : Int), .int .i64 (Hn : Int)] 23)) w.heap.size 3 (.int .i64 (k : Int)) (by simp)
    rwa [show (w.alloc (.cells #[.int .i64 X, .int .i64 Y, .int .i64 (Wn : Int), .int .i64 (Hn : Int)] 23)).heap.size = w.heap.size + 1 by simp] at h
  have kR : Bk ((w.alloc (.cells #[.int .i64 X, .int .i64 Y, .int .i64 (Wn : Int), .int .i64 (Hn : Int)] 23)).alloc (.cells #[.int .i64 (k : Int)] 3)) w.heap.size 23 #[.int .i64 X, .int .i64 Y, .int .i64 (Wn : Int), .int .i64 (Hn : Int)] := (Bk.new' rfl).alloc _
  have hx1 : Ext w ((w.alloc (.cells #[.int .i64 X, .int .i64 Y, .int .i64 (Wn : Int), .int .i64 (Hn : Int)] 23)).alloc (.cells #[.int .i64 (k : Int)] 3)) := ((Ext.refl w).alloc _).alloc _
  go_enter Try.func53, Try.ntmps53
  go_upto_region 2 with fail
  generalize hw1 : (w.alloc (.cells #[.int .i64 X, .int .i64 Y, .int .i64 (Wn : Int), .int .i64 (Hn : Int)] 23)).alloc (.cells #[.int .i64 (k : Int)] 3) = w1 at *
  clear hw1
  have hs1 := hx1.size
  go_loopg [2, 7] t.length (fun gk s2 s7 wr => ∃ (p : Nat) (L t' : List Nat) (Q : Addr) (cap : Nat), p < N ∧ s2 = .int .i64 (p : Int) ∧ s7 = .slice (some Q) L.length cap ∧ Qs wr w.heap.size 3 (some Q) L.length cap (inq L) ∧ IsTr D Wn Hn p t' ∧ k :: t = L ++ t' ∧ Bk wr w.heap.size 23 #[.int .i64 X, .int .i64 Y, .int .i64 (Wn : Int), .int .i64 (Hn : Int)] ∧ Ext w wr ∧ t'.length ≤ gk)
  case atStart => exact ⟨k, [k], t, _, _, hk, rfl, rfl, hQ, Ht.out, rfl, kR, hx1, Nat.le_refl _⟩
  case round =>
    clear hQ kR hx1 hs1
    obtain ⟨p, L, t', Q, cap, hp, rfl, rfl, hQ, htr, hkt, kR, hx, hgk⟩ := hrel
    obtain ⟨ad, rfl, hb, hc⟩ := HD.out.cell hp
    have j0 : (0 : Int) ≤ p := by omega
    have j1 : (p : Int) < N := by omega
    have hcx : ∀ w', Ext wr w' → w'.cell? (ad.add p) = some (.int .i64 (D p)) := fun w' h => by
      rw [(hx.trans h).cell _ (by rw [add_block]; exact hb)]
      exact hc
    have Hgk := hidA hgk
    have Hkt := hidA hkt
    clear hgk hkt hc hb
    cases t' with
    | nil =>
      have hn := HL.out.nxt_none hp htr
      have hcw := hcx wr (Ext.refl _)
      have eL : L = k :: t := by have := Hkt.out; rw [List.append_nil] at this; exact this.symm
      subst eL
      have HQ := hidA hQ
      have hge : ¬ (0 ≤ D p) := by omega
      clear hn htr hcx hQ
      generalize D p = z at *
      go_wp2_with fail
      go_ret
      exact ⟨Q, cap, by simp, by have := HQ.out; simpa using this, hx⟩
    | cons q t2 =>
      have hn := htr.1
      have hq : q < N := by rw [HN.out]; exact nxt_lt hn
      have Htr := hidA htr.2
      have h0 : 0 ≤ D p := by
        by_cases h : D p < 0
        · unfold nxtD at hn
          rw [if_pos h] at hn
          cases hn
        · omega
      have hnb : nbr Wn Hn p (D p).toNat = some q := by
        unfold nxtD at hn
        rw [if_neg (by omega)] at hn
        exact hn
      have HNq := fun (w : World) => HNb.out p (D p).toNat w hp (by have := (HL.out.rng p hp).2; omega)
      rw [hnb, show nbI (some q) = (q : Int) from rfl, Int.toNat_of_nonneg h0] at HNq
      clear hn htr hnb
      have hcw := hcx wr (Ext.refl _)
      generalize D p = z at *
      have HQ := hidA hQ
      have hlen : L.length + t2.length ≤ N := by have := Hl.out; have e := congrArg List.length Hkt.out; simp at e; omega
      clear hQ
      go_upto_region 3 with fail
      have e0 : ∀ w', Ext wr w' → w'.cell? ⟨w.heap.size, 0, none⟩ = some (.int .i64 X) := fun w' h => (kR.ext h).cell 0
      have e1 : ∀ w', Ext wr w' → w'.cell? ⟨w.heap.size, 1, none⟩ = some (.int .i64 Y) := fun w' h => (kR.ext h).cell 1
      have e2 : ∀ w', Ext wr w' → w'.cell? ⟨w.heap.size, 2, none⟩ = some (.int .i64 (Wn : Int)) := fun w' h => (kR.ext h).cell 2
      have e3 : ∀ w', Ext wr w' → w'.cell? ⟨w.heap.size, 3, none⟩ = some (.int .i64 (Hn : Int)) := fun w' h => (kR.ext h).cell 3
      clear hcw
      refine wp_region_noPanic ?_
      refine wp_region_held_drew (S := fun w' => Ext wr w') (by kernel_rfl) ?_ (fun hHeld => ?_)
      · (repeat (first | exact Ext.refl _ | assumption | refine Ext.setCell ?_ (by first | (simp; done) | (simp; omega)) _ | refine Ext.drewN ?_ _ | refine Ext.alloc ?_ _ | refine Ext.drew ?_ | refine Ext.trans ?_ (by assumption)))
      refine wpAnyH_take (i := 0) (oi := ?o1x0) (v := ?v1x0) ?hi1x0 (by kernel_rfl) ?hf1x0 ?hr1x0 (fun _ _ _ h => h) ?hy1x0 (by assumption) ?rest1x0
      case hi1x0 => (simp only [List.getElem?_toArray, List.getElem?_cons_zero]; exact rfl)
      case hf1x0 => kernel_rfl
      case hr1x0 => kernel_rfl
      case hy1x0 => (refine Or.inl ⟨by rfl, ?_⟩; intro w hSw; (try dsimp only at hSw); go_simp; try with_reducible rfl)
      simp only [put_mk, List.set_cons_succ, List.set_cons_zero]
      refine wpAnyH_take (i := 1) (oi := ?o1x1) (v := ?v1x1) ?hi1x1 (by kernel_rfl) ?hf1x1 ?hr1x1 (fun _ _ _ h => h) ?hy1x1 (by assumption) ?rest1x1
      case hi1x1 => (simp only [List.getElem?_toArray, List.getElem?_cons_succ, List.getElem?_cons_zero]; exact rfl)
      case hf1x1 => kernel_rfl
      case hr1x1 => kernel_rfl
      case hy1x1 => (refine Or.inl ⟨by rfl, ?_⟩; intro w hSw; (try dsimp only at hSw); go_simp; try with_reducible rfl)
      simp only [put_mk, List.set_cons_succ, List.set_cons_zero]
      refine wpAnyH_take (i := 2) (oi := ?o1x2) (v := ?v1x2) ?hi1x2 (by kernel_rfl) ?hf1x2 ?hr1x2 (fun _ _ _ h => h) ?hy1x2 (by assumption) ?rest1x2
      case hi1x2 => (simp only [List.getElem?_toArray, List.getElem?_cons_succ, List.getElem?_cons_zero]; exact rfl)
      case hf1x2 => kernel_rfl
      case hr1x2 => kernel_rfl
      case hy1x2 => (refine Or.inl ⟨by rfl, ?_⟩; intro w hSw; (try dsimp only at hSw); go_simp; try with_reducible rfl)
      simp only [put_mk, List.set_cons_succ, List.set_cons_zero]
      refine wpAnyH_take (i := 3) (oi := ?o1x3) (v := ?v1x3) ?hi1x3 (by kernel_rfl) ?hf1x3 ?hr1x3 (fun _ _ _ h => h) ?hy1x3 (by assumption) ?rest1x3
      case hi1x3 => (simp only [List.getElem?_toArray, List.getElem?_cons_succ, List.getElem?_cons_zero]; exact rfl)
      case hf1x3 => kernel_rfl
      case hr1x3 => kernel_rfl
      case hy1x3 => (refine Or.inl ⟨by rfl, ?_⟩; intro w hSw; (try dsimp only at hSw); go_simp; try with_reducible rfl)
      simp only [put_mk, List.set_cons_succ, List.set_cons_zero]
      refine wpAnyH_take (i := 4) (oi := ?o1x4) (v := ?v1x4) ?hi1x4 (by kernel_rfl) ?hf1x4 ?hr1x4 (fun _ _ _ h => h) ?hy1x4 (by assumption) ?rest1x4
      case hi1x4 => (simp only [List.getElem?_toArray, List.getElem?_cons_succ, List.getElem?_cons_zero]; exact rfl)
      case hf1x4 => kernel_rfl
      case hr1x4 => kernel_rfl
      case hy1x4 => (refine Or.inl ⟨by rfl, ?_⟩; intro w hSw; (try dsimp only at hSw); go_simp; try with_reducible rfl)
      simp only [put_mk, List.set_cons_succ, List.set_cons_zero]
      refine wpAnyH_take (i := 5) (oi := ?o1x5) (v := ?v1x5) ?hi1x5 (by kernel_rfl) ?hf1x5 ?hr1x5 (fun _ _ _ h => h) ?hy1x5 (by assumption) ?rest1x5
      case hi1x5 => (simp only [List.getElem?_toArray, List.getElem?_cons_succ, List.getElem?_cons_zero]; exact rfl)
      case hf1x5 => kernel_rfl
      case hr1x5 => kernel_rfl
      case hy1x5 => (refine Or.inl ⟨by rfl, ?_⟩; intro w hSw; (try dsimp only at hSw); go_simp; try with_reducible rfl)
      simp only [put_mk, List.set_cons_succ, List.set_cons_zero]
      refine wpAnyH_ready (rs := [6]) (by kernel_rfl) (by simp) ?_
      refine AllReadyH.cons (o := ?o1x6) ?hi1x6 (fun K hK => ?_) AllReadyH.nil
      case hi1x6 => (simp only [List.getElem?_toArray, List.getElem?_cons_succ, List.getElem?_cons_zero]; exact rfl)
      go_simp
      refine (HNq _).mono ?_
      rintro e w2 ⟨rfl, hx2⟩
      refine hK.out _ _ ?_ (fun hHeld => ?_)
      · (repeat (first | exact Ext.refl _ | assumption | refine Ext.setCell ?_ (by first | (simp; done) | (simp; omega)) _ | refine Ext.drewN ?_ _ | refine Ext.alloc ?_ _ | refine Ext.drew ?_ | refine Ext.trans ?_ (by assumption)))
      clear hK K
      refine wpAnyH_take (i := 7) (oi := ?o1x7) (v := ?v1x7) ?hi1x7 (by kernel_rfl) ?hf1x7 ?hr1x7 (fun _ _ _ h => h) ?hy1x7 (by assumption) ?rest1x7
      case hi1x7 => (simp only [List.getElem?_toArray, List.getElem?_cons_succ, List.getElem?_cons_zero]; exact rfl)
      case hf1x7 => kernel_rfl
      case hr1x7 => kernel_rfl
      case hy1x7 => (refine Or.inl ⟨by rfl, ?_⟩; intro w hSw; (try dsimp only at hSw); go_simp; try with_reducible rfl)
      simp only [put_mk, List.set_cons_succ, List.set_cons_zero]
      refine wpAnyH_done (by kernel_rfl) ?_ _
      refine NoPanic.normal ?_
      have hx2' : Ext wr w2 := (Ext.drew (Ext.refl wr)).trans hx2
      have kR2 := kR.ext hx2'
      have HQ2 := hidA ((HQ.out.ext hx2').ext ((Ext.refl w2).alloc (.cells #[.int .i64 (q : Int)] 3)))
      have hxw := (hx.trans hx2').alloc (.cells #[.int .i64 (q : Int)] 3)
      have hA3 := hidA (show w.heap.size ≤ (w2.alloc (.cells #[.int .i64 (q : Int)] 3)).heap.size from hxw.size)
      have hC3 := hidA (show (w2.alloc (.cells #[.int .i64 (q : Int)] 3)).cell? ⟨w2.heap.size, 0, none⟩ = some (.int .i64 (q : Int)) from by rw [cell_new_row]; rfl)
      have kR3 := kR2.alloc (.cells #[.int .i64 (q : Int)] 3)
      have hqn := hidA (HQ2.out.ne kR3 (by decide))
      clear hcx e0 e1 e2 e3 HQ kR HNq hx2 hx2' kR2
      go_wp2_with (at_builtin; (refine wpList_append_q _ (by rfl) _ _ 41 (by rfl) w.heap.size 3 i0 (.int .i64 0) 8 Try.underlying41 hi0 hz0 hz1 hz2 rfl (some Q) L.length cap (inq L) (by rfl) HQ2.out hA3.out ⟨w2.heap.size, 0, none⟩ 1 (.int .i64 (q : Int)) (by rfl) hC3.out rfl (by unfold maxLen; omega) (by omega) ?_; intro Q' cap' w4 hq4 hg4 ho4))
      have kR4 := kR3.grown hg4 hqn.out
      have hx4 : Ext w w4 := Ext.grown hxw hg4 (fun b hb => by
        simp only [Option.map_some, Option.some.injEq] at hb
        subst hb
        exact (HQ2.out.lt rfl).1)
      obtain ⟨Q2, rfl⟩ : ∃ Q2, Q' = some Q2 := by
        rcases hq4.own with ⟨_, h0⟩ | ⟨g, off, cur, hA, _⟩
        · have := hq4.le; omega
        · exact ⟨_, hA⟩
      have HQ4 := hidA (show Qs w4 w.heap.size 3 (some Q2) (L ++ [q]).length cap' (inq (L ++ [q])) from by rw [inq_snoc, List.length_append]; exact hq4)
      have eL : (Value.slice (some Q2) (L.length + 1) cap') = .slice (some Q2) (L ++ [q]).length cap' := by rw [List.length_append]; rfl
      clear hq4 hg4 ho4 kR3 hxw HQ2 hA3 hC3 hqn
      go_wp2_with fail
      go_roundg t2.length
      case measure => have := Hgk.out; simp only [List.length_cons] at this; omega
      case rel => exact ⟨q, L ++ [q], t2, Q2, cap', hq, rfl, eL, HQ4.out, Htr.out, by rw [Hkt.out, List.append_assoc]; rfl, kR4, hx4, Nat.le_refl _⟩
end Go.Proofs.Ytinohfgokpbcdaa

namespace Go.Proofs.Ytinohfgokpbcdaa
open Go.RowKit
attribute [local go_sem ↓] Go.wp_at_zero Go.wp_at_succ
attribute [local go_sem] run_store_float

/-- what the first n cells bring to a cell -/
def gatK (tr : Nat → List Nat) (rain : Nat → Int) (n c : Nat) : Int := sumI (fun k => if c ∈ k :: tr k then rain k else 0) n
/-- and the first i cells of a way -/
def gatI (tr : Nat → List Nat) (rain : Nat → Int) (k i c : Nat) : Int := gatK tr rain k c + if c ∈ (k :: tr k).take i then rain k else 0
theorem gatI_zero {tr : Nat → List Nat} {rain : Nat → Int} {k c : Nat} : gatI tr rain k 0 c = gatK tr rain k c := by
  unfold gatI
  rw [List.take_zero, if_neg (by simp)]
  omega
theorem gatI_end {tr : Nat → List Nat} {rain : Nat → Int} {k c : Nat} : gatI tr rain k (k :: tr k).length c = gatK tr rain (k + 1) c := by
  unfold gatI
  rw [List.take_length]
  rfl
theorem gatI_step {tr : Nat → List Nat} {rain : Nat → Int} {k i : Nat} (hn : (k :: tr k).Nodup) (hi : i < (k :: tr k).length) (c : Nat) : gatI tr rain k (i + 1) c = updF (gatI tr rain k i) (k :: tr k)[i] (gatI tr rain k i (k :: tr k)[i] + rain k) c := by
  have h1 := nd_take hn hi
  by_cases e : c = (k :: tr k)[i]
  · subst e
    rw [updF_same]
    unfold gatI
    rw [if_neg h1, if_pos ((take_more hi _).2 (.inr rfl))]
    omega
  · rw [updF_ne _ _ e]
    unfold gatI
    by_cases h2 : c ∈ (k :: tr k).take i
    · rw [if_pos h2, if_pos ((take_more hi _).2 (.inl h2))]
    · rw [if_neg h2, if_neg (fun h => by rcases (take_more hi _).1 h with h | h <;> contradiction)]
theorem gatI_bd {tr : Nat → List Nat} {rain : Nat → Int} {N k i : Nat} {M : Int} (h0 : 0 ≤ M) (hr : ∀ k, k < N → 0 ≤ rain k ∧ rain k ≤ M) (hk : k < N) (c : Nat) : 0 ≤ gatI tr rain k i c ∧ gatI tr rain k i c ≤ k * M + M := by
  unfold gatI gatK
  obtain ⟨h1, h2⟩ := sumI_bd (f := fun k => if c ∈ k :: tr k then rain k else 0) (M := M) k fun j hj => by
    have := hr j (by omega)
    split <;> omega
  have := hr k hk
  split <;> omega
structure GB (W0 w : World) (hr go : Nat) (X Y : Int) (Wn Hn N : Nat) (O : Nat → Int) : Prop where
  rb : Bk w hr 23 #[.int .i64 X, .int .i64 Y, .int .i64 (Wn : Int), .int .i64 (Hn : Int)]
  ob : CI w go N N O
  ext : Ext W0 w
  b1 : W0.heap.size ≤ go
theorem GB.step {W0 w : World} {hr go : Nat} {X Y : Int} {Wn Hn N : Nat} {O : Nat → Int} (h : GB W0 w hr go X Y Wn Hn N O) {w' : World} (hx : Ext w w') : GB W0 w' hr go X Y Wn Hn N O := ⟨h.rb.ext hx, h.ob.ext hx, h.ext.trans hx, h.b1⟩
theorem GB.put {W0 w : World} {hr go : Nat} {X Y : Int} {Wn Hn N : Nat} {O : Nat → Int} (h : GB W0 w hr go X Y Wn Hn N O) (n : Nat) (x : Int) : GB W0 (w.setCell ⟨go, n, none⟩ (.int .i64 x)) hr go X Y Wn Hn N (updF O n x) :=
  ⟨h.rb.far (h.ob.ne h.rb (by decide)) _, h.ob.put n x, h.ext.setCell (p := ⟨go, n, none⟩) h.b1 _, h.b1⟩
theorem GB.congr {W0 w : World} {hr go : Nat} {X Y : Int} {Wn Hn N : Nat} {O O' : Nat → Int} (h : GB W0 w hr go X Y Wn Hn N O) (e : ∀ k, k < N → O k = O' k) : GB W0 w hr go X Y Wn Hn N O' := ⟨h.rb, h.ob.congr e, h.ext, h.b1⟩
set_option maxRecDepth 100000 in
set_option maxHeartbeats 6400000 in
theorem GatherOf_any (X Y : Int) (Wn Hn N c cR : Nat) (A R : Option Addr) (D : Nat → Int) (m : Nat → Nat) (tr : Nat → List Nat) (rain : Nat → Int) (w : World) (hr : Reg X Y Wn Hn) (hN : N = Wn * Hn) (hD : DirsAt w A N D) (hL : Lead Wn Hn N D m) (hm : ∀ k, k < N → m k ≤ N) (htr : ∀ k, k < N → IsTr D Wn Hn k (tr k))
    (hR : DirsAt w R N rain) (hb : ∀ k, k < N → 0 ≤ rain k ∧ rain k ≤ 1073741824) :
    Calls Try.prog 110 #[rgv X Y Wn Hn, .slice A N c, .slice R N cR] w fun e w' => ∃ g, e = .returned (.slice (some ⟨g, 0, none⟩) N N) ∧ CI w' g N N (gatV tr rain N) ∧ w.heap.size ≤ g ∧ Ext w w' := by
  have hN6 : N ≤ 65536 := by rw [hN]; exact hr.n
  have HTr := hidA (fun (k : Nat) (w' : World) (hk : k < N) (h : Ext w w') => Trail_any X Y Wn Hn N k c A D m (tr k) w' hr hN (hD.ext h) hL hk (htr k hk) (by
    obtain ⟨t, h1, h2⟩ := hL.tr hN (m k + 1) k (Nat.lt_succ_self _) hk
    rw [tr_one (htr k hk) h1]
    exact Nat.le_trans h2 (hm k hk)))
  unfold rgv at HTr ⊢
  have mi := mk_int N (by omega)
  have Hnd := hidA (fun (k : Nat) (hk : k < N) => tr_nodup hL hN (tr k) k hk (htr k hk))
  have Hin := hidA (fun (k : Nat) (hk : k < N) => (fun c hc => by
    rcases List.mem_cons.1 hc with rfl | hc
    · exact hk
    · rw [hN]; exact tr_lt (htr k hk) c hc : ∀ c ∈ k :: tr k, c < N))
  have Hbd := hidA (fun (k i c : Nat) (hk : k < N) => gatI_bd (tr := tr) (i := i) (show (0 : Int) ≤ 1073741824 by omega) hb hk c)
  have HR := hidA hR
  have hrb := hidA hb
  clear hr hN hD hL hm htr hR hb
  obtain ⟨w1, hw1⟩ : ∃ w1, w1 = (w.alloc (.cells #[.int .i64 X, .int .i64 Y, .int .i64 (Wn : Int), .int .i64 (Hn : Int)] 23)).alloc (.cells (intB N fun _ => 0) 3) := ⟨_, rfl⟩
  have hS : GB w w1 w.heap.size (w.heap.size + 1) X Y Wn Hn N (gatK tr rain 0) := by
    rw [hw1]
    refine ⟨(Bk.new' rfl).alloc _, CI.of_bk ?_, ((Ext.refl w).alloc _).alloc _, by omega⟩
    have h : Bk ((w.alloc (.cells #[.int .i64 X, .int .i64 Y, .int .i64 (Wn : Int), .int .i64 (Hn : Int)] 23)).alloc (.cells (intB N fun _ => 0) 3)) (w.heap.size + 1) 3 (intB N fun _ => 0) := Bk.new' (by simp)
    exact h
  go_enter Try.func110, Try.ntmps110
  go_upto_region 2 with fail
  rw [← hw1]
  clear hw1 mi
  generalize w.heap.size + 1 = go at *
  generalize hhr : w.heap.size = hr at hS ⊢
  have Hhr := hidA hhr
  clear hhr
  go_wp2_with fail
  go_loopw [16] (fun s16 wr => ∃ (k : Nat), k ≤ N ∧ s16 = .int .i64 k ∧ GB w wr hr go X Y Wn Hn N (gatK tr rain k)) (fun s16 _ => N - (intOf s16).toNat)
  case atStart => exact ⟨0, Nat.zero_le _, rfl, hS⟩
  case round =>
    clear hS
    obtain ⟨k, hk, rfl, hS⟩ := hrel
    by_cases hkN : k < N
    · have i1 : (0 : Int) ≤ k := by omega
      have i2 : (k : Int) < N := by omega
      have HTk := fun w' h => HTr.out k w' hkN h
      have c0 := hS.rb.cell 0
      have c1 := hS.rb.cell 1
      have c2 := hS.rb.cell 2
      have c3 := hS.rb.cell 3
      have hgl := hS.ob.lt
      go_upto_region 6 with (go_at_call 53; refine (HTk _ (hS.ext.trans (by repeat (first | exact Ext.refl _ | assumption | refine Ext.setCell ?_ (by first | (simp; done) | (simp; omega)) _ | refine Ext.drewN ?_ _ | refine Ext.alloc ?_ _ | refine Ext.drew ?_ | refine Ext.trans ?_ (by assumption))))).mono ?_; rintro e w5 ⟨Q, cap, rfl, hQ, hx5⟩)
      have hS5 := (hS.step hx5).congr (O' := gatI tr rain k 0) fun c _ => gatI_zero.symm
      clear c0 c1 c2 c3 hS hx5 HTk
      generalize wr.heap.size = bs at *
      have Hnk := hidA (Hnd.out k hkN)
      have Hik := hidA (Hin.out k hkN)
      have Hst := hidA (fun i hi c => gatI_step (rain := rain) (i := i) Hnk.out hi c)
      have Hen := hidA (fun c => gatI_end (tr := tr) (rain := rain) (k := k) (c := c))
      have Hbk := hidA (fun i c => Hbd.out k i c hkN)
      have hlen : (k :: tr k).length = (tr k).length + 1 := rfl
      have hwl := nodup_le (Hnd.out k hkN) (Hin.out k hkN)
      obtain ⟨rv, hrv⟩ : ∃ rv, rv = rain k := ⟨_, rfl⟩
      obtain ⟨hr0, hr1⟩ := hrb.out k hkN
      have hrc := fun w' (h : Ext w w') => (HR.out.ext h).cell hkN
      rw [← hrv] at Hst hr0 hr1 hrc
      clear hrv
      generalize k :: tr k = way at *
      generalize gatI tr rain k = O at *
      obtain ⟨wo, hwo⟩ : ∃ wo, wo = w5 := ⟨_, rfl⟩
      go_loopw [24] (fun s24 wy => ∃ (i : Nat), i ≤ way.length ∧ s24 = .int .i64 i ∧ GB w wy hr go X Y Wn Hn N (O i) ∧ Qs wy bs 3 (some Q) way.length cap (inq way)) (fun s24 _ => way.length - (intOf s24).toNat)
      case atStart => exact ⟨0, Nat.zero_le _, rfl, hS5, by rw [hlen]; exact hQ⟩
      case round =>
        clear hS5 hQ hwo
        obtain ⟨i, hi, rfl, hS, hQ⟩ := hrel
        by_cases hiw : i < way.length
        · have j1 : (0 : Int) ≤ i := by omega
          have j2 : (i : Int) < (tr k).length + 1 := by omega
          have hq := Hik.out _ (List.getElem_mem hiw)
          have Hsi := hidA (Hst.out i hiw)
          obtain ⟨aq, e, _, hcq⟩ := hQ.rd.at (k := i) (by rw [inq_length]; exact hiw)
          cases e
          have q0 := hcq i _ (inq_get hiw)
          clear hcq
          generalize way[i] = q at *
          have j3 : (0 : Int) ≤ q := by omega
          have j4 : (q : Int) < N := by omega
          obtain ⟨b1, b2⟩ := Hbk.out i q
          have q1 := hS.ob.cell hq
          have q2 := hS.ob.frozen q
          obtain ⟨ar, rfl, _, r0⟩ := hrc wr hS.ext
          have hS7 := hidA ((hS.put q (O i q + rv)).congr (O' := O (i + 1)) fun c _ => (Hsi.out c).symm)
          have hQ7 := hidA (hQ.kept (w' := wr.setCell ⟨go, q, none⟩ (.int .i64 (O i q + rv))) (fun a ha _ => Below.heap_setCell wr _ _ _ (fun e => by
            have := (hQ.lt ha).1
            have e2 : a.block = go := e
            omega)))
          clear hS hQ Hsi
          generalize O i q = y at *
          have hy : y ≤ 140737488355328 := by omega
          clear b2
          go_upto_region 8 with fail
          go_region
          go_wp2_with fail
          go_roundw
          case rel => exact ⟨i + 1, by omega, by go_num, hS7.out.step (Ext.drew (Ext.refl _)), Qs.ext hQ7.out (Ext.drew (Ext.refl _))⟩
          case measure => simp [intOf]; omega
        · obtain rfl : i = way.length := by omega
          have hS7 := hidA (hS.congr (O' := gatK tr rain (k + 1)) fun c _ => Hen.out c)
          clear hS hQ
          go_wp2_with fail
          go_roundw
          case rel => exact ⟨k + 1, by omega, by go_num, hS7.out⟩
          case measure => simp [intOf]; omega
    · obtain rfl : N = k := by omega
      go_wp2_with fail
      go_ret
      exact ⟨go, rfl, hS.ob, by have := hS.b1; have := Hhr.out; omega, hS.ext⟩
end Go.Proofs.Ytinohfgokpbcdaa
