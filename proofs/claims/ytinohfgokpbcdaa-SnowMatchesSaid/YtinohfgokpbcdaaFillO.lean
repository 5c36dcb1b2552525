/- Contract: tarnref2.FilledOf: the least spills. -/
import Derived.Test.YtinohfgokpbcdaaFillS
import Derived.Test.YtinohfgokpbcdaaFillB
import Derived.LoopTactic
namespace Go.Proofs.Ytinohfgokpbcdaa
open Go.RowKit
attribute [local go_sem ↓] Go.wp_at_zero Go.wp_at_succ
attribute [local go_sem] run_store_float

/-- what the reference holds in memory -/
structure OM (W0 w : World) (hf g1 g2 : Nat) (X Y : Int) (Wn Hn N : Nat) (A : Option Addr) (c : Nat) (known : Nat → Bool) (out : Nat → Nat) : Prop where
  fb : Bk w hf 26 #[.int .i64 X, .int .i64 Y, .int .i64 (Wn : Int), .int .i64 (Hn : Int), .slice A N c]
  ob : Bk w g1 27 (flo N out)
  kb : Bk w g2 4 (bools N known)
  ext : Ext W0 w
  b1 : W0.heap.size ≤ g1
  b2 : W0.heap.size ≤ g2
section
variable {W0 w : World} {hf g1 g2 : Nat} {X Y : Int} {Wn Hn N : Nat} {A : Option Addr} {c : Nat} {known : Nat → Bool} {out : Nat → Nat}
theorem OM.step (h : OM W0 w hf g1 g2 X Y Wn Hn N A c known out) {w' : World} (hx : Ext w w') : OM W0 w' hf g1 g2 X Y Wn Hn N A c known out := ⟨h.fb.ext hx, h.ob.ext hx, h.kb.ext hx, h.ext.trans hx, h.b1, h.b2⟩
theorem OM.put (h : OM W0 w hf g1 g2 X Y Wn Hn N A c known out) (k x : Nat) : OM W0 ((w.setCell ⟨g1, k, none⟩ (.float .f32 x)).setCell ⟨g2, k, none⟩ (.bool true)) hf g1 g2 X Y Wn Hn N A c (updF known k true) (updF out k x) := by
  have e1 := Bk.set h.ob k (.float .f32 x)
  rw [flo_set] at e1
  have f1 : ∀ {g : Nat} {t : TypeId} {cs : Array Value}, Bk w g t cs → g ≠ g1 → Bk (w.setCell ⟨g1, k, none⟩ (.float .f32 x)) g t cs := fun hb hn => hb.far hn _
  have eg := f1 h.kb (Bk.ne h.kb h.ob (by decide))
  have e2 := Bk.set eg k (.bool true)
  rw [bools_set] at e2
  have f2 : ∀ {g : Nat} {t : TypeId} {cs : Array Value}, Bk (w.setCell ⟨g1, k, none⟩ (.float .f32 x)) g t cs → g ≠ g2 → Bk ((w.setCell ⟨g1, k, none⟩ (.float .f32 x)).setCell ⟨g2, k, none⟩ (.bool true)) g t cs := fun hb hn => hb.far hn _
  exact ⟨f2 (f1 h.fb (Bk.ne h.fb h.ob (by decide))) (Bk.ne h.fb h.kb (by decide)), f2 e1 (Bk.ne h.ob h.kb (by decide)), e2, (h.ext.setCell h.b1 _).setCell h.b2 _, h.b1, h.b2⟩
end

set_option maxRecDepth 100000 in
set_option maxHeartbeats 6400000 in
theorem filledOf_any (X Y : Int) (Wn Hn N : Nat) (A : Option Addr) (c slope : Nat) (l : List Nat) (w : World) (hr : Reg X Y Wn Hn) (hN : N = Wn * Hn) (hl : l.length = N) (hV : Rd w A (flt l)) (hh : ∀ x ∈ l, Bd 20 x) (hs : Bd 10 slope) (h0 : 0 ≤ valI slope) :
    Calls Try.prog 23 #[.agg #[.int .i64 X, .int .i64 Y, .int .i64 (Wn : Int), .int .i64 (Hn : Int), .slice A N c], .float .f32 slope] w fun e w' => FillPost Wn Hn N slope l w e w' := by
  have hN6 : N ≤ 65536 := by rw [hN]; exact hr.n
  have mb := mk_bool N (by omega)
  have mf := mk_flo N (by omega)
  have hlk : ∀ j, j < N → Bd 20 (l.getD j 0) := fun j hj => by
    have hjl : j < l.length := by omega
    have e : l.getD j 0 = l[j] := by simp [List.getD_eq_getElem?_getD, hjl]
    rw [e]
    exact hh _ (List.getElem_mem hjl)
  have Hr := hidA hr
  have HN := hidA hN
  have Hl := hidA hl
  have Hh := hidA hlk
  have Hs := hidA hs
  have H0 := hidA h0
  clear hr hN hl hh hlk hs h0
  obtain ⟨w1, hw1⟩ : ∃ w1, w1 = ((w.alloc (.cells #[.int .i64 X, .int .i64 Y, .int .i64 (Wn : Int), .int .i64 (Hn : Int), .slice A N c] 26)).alloc (.cells (flo N fun _ => 0) 27)).alloc (.cells (bools N fun _ => false) 4) := ⟨_, rfl⟩
  have hO1 : OM w w1 w.heap.size (w.heap.size + 1) (w.heap.size + 1 + 1) X Y Wn Hn N A c (fun _ => false) (fun _ => 0) := by
    rw [hw1]
    refine ⟨?_, ?_, ?_, ?_, by omega, by omega⟩
    · exact ((Bk.new' rfl).alloc _).alloc _
    · refine (Bk.new' ?_).alloc _
      simp
    · refine Bk.new' ?_
      simp
    · exact (((Ext.refl w).alloc _).alloc _).alloc _
  go_enter Try.func23, Try.ntmps23
  go_upto_region 3 with fail
  rw [← hw1]
  clear hw1 mb mf
  generalize w.heap.size + 1 + 1 = g2 at *
  generalize w.heap.size + 1 = g1 at *
  generalize hfe : w.heap.size = hf at hO1 ⊢
  have Hfe := hidA hfe
  clear hfe
  have c4 := hO1.fb.cell 4
  go_wp2
  clear c4
  go_loopw [26] (fun s26 wr => ∃ (k : Nat) (known : Nat → Bool) (out : Nat → Nat) (xs : List SpR), k ≤ N ∧ s26 = .int .i64 k ∧ OM w wr hf g1 g2 X Y Wn Hn N A c known out ∧ BI Wn Hn k l known out xs) (fun s26 _ => N - (intOf s26).toNat)
  case atStart => exact ⟨0, _, _, _, Nat.zero_le _, rfl, hO1, BI.zero Wn Hn l⟩
  case round =>
    clear hO1
    obtain ⟨k, known, out, xs, hk, rfl, hO, hB⟩ := hrel
    have HB := hidA hB
    clear hB
    by_cases hkN : k < N
    · have hkl : k < l.length := by have := Hl.out; omega
      obtain ⟨ad, rfl, hbk, hcv⟩ := (hV.ext hO.ext).at (k := k) (by rw [flt_length]; exact hkl)
      have ck := hcv k _ (flt_get hkl)
      have el : l.getD k 0 = l[k] := by simp [List.getD_eq_getElem?_getD, hkl]
      obtain ⟨x0, hx0⟩ : ∃ x0, x0 = l.getD k 0 := ⟨_, rfl⟩
      rw [← el, ← hx0] at ck
      have Hx0 := hidA hx0
      clear hcv el hx0
      have c0 := hO.fb.cell 0
      have c1 := hO.fb.cell 1
      have c2 := hO.fb.cell 2
      have c3 := hO.fb.cell 3
      have HBo := fun (w : World) => hidA (edge_any X Y Wn Hn k w Hr.out (by rw [← HN.out]; exact hkN))
      unfold rgv at HBo
      cases hb : brd Wn Hn k
      · have Hb := hidA hb
        rw [hb] at HBo
        clear hb
        go_wp2_with (go_at_call 84; refine ((HBo _).out).mono ?_; rintro e w2 ⟨rfl, hx2⟩)
        go_roundw
        case rel => exact ⟨k + 1, known, out, xs, by omega, by go_num, hO.step hx2, HB.out.pass Hb.out⟩
        case measure => simp [intOf]; omega
      · have Hb := hidA hb
        rw [hb] at HBo
        clear hb
        go_upto_region 7 with (go_at_call 84; refine ((HBo _).out).mono ?_; rintro e w2 ⟨rfl, hx2⟩)
        have hO2 := hO.step hx2
        clear c0 c1 c2 c3 ck
        have o1 : w2.cell? ⟨g1, k, none⟩ = some (.float .f32 (out k)) := by rw [hO2.ob.cell]; exact flo_get _ hkN
        have o2 : w2.cell? ⟨g2, k, none⟩ = some (.bool (known k)) := by rw [hO2.kb.cell]; exact bools_get _ hkN
        have f1 := hO2.ob.frozen k
        have f2 := hO2.kb.frozen k
        have j0 : (0 : Int) ≤ k := by omega
        have j1 : (k : Int) < N := by omega
        have hgo : g1 ≠ g2 := Bk.ne hO2.ob hO2.kb (by decide)
        have q1 : (w2.setCell ⟨g1, k, none⟩ (.float .f32 x0)).cell? ⟨g2, k, none⟩ = some (.bool (known k)) := by rw [(hO2.kb.far (p := ⟨g1, k, none⟩) (Ne.symm hgo) (.float .f32 x0)).cell]; exact bools_get _ hkN
        have HO3 := hidA (hO2.put k x0)
        have hB3 := HB.out.next Hb.out
        rw [← Hx0.out] at hB3
        have HB3 := hidA hB3
        clear hB3 hO2 hgo
        go_wp2
        go_roundw
        case rel => exact ⟨k + 1, _, _, _, by omega, by go_num, HO3.out.step (by first | exact Ext.refl _ | exact Ext.drew (Ext.refl _)), HB3.out⟩
        case measure => simp [intOf]; omega
    · have hkN' : N = k := by omega
      subst hkN'
      have hR : RS Wn Hn N slope l known out := ⟨fun j hj hkj => by
          obtain ⟨a, b⟩ := HB.out.s2 j hkj
          rw [(HB.out.s1 j a b).2.1]
          exact Way.start (H := fun k => valI (l.getD k 0)) (by rw [← HN.out]; exact hj) b, fun j hj hkj => by
          obtain ⟨a, b⟩ := HB.out.s2 j hkj
          rw [(HB.out.s1 j a b).2.1]
          exact (Hh.out j hj).mono (by omega), fun j hj hbj => ⟨(HB.out.s1 j hj hbj).1, (HB.out.s1 j hj hbj).2.1⟩⟩
      have HR := hidA hR
      have HO := hidA hO
      clear hR hO HB
      go_wp2
      go_loopg [9] (2 * rankN known out N + 1) (fun gk s9 wr => ∃ (ag : Bool) (known : Nat → Bool) (out : Nat → Nat), s9 = .bool ag ∧ OM w wr hf g1 g2 X Y Wn Hn N A c known out ∧ RS Wn Hn N slope l known out ∧ (ag = false → CalmTo Wn Hn slope l known out N) ∧ 2 * rankN known out N + ag.toNat ≤ gk)
      case atStart => exact ⟨true, known, out, rfl, HO.out, HR.out, (fun h => by cases h), Nat.le_refl _⟩
      case round =>
        clear HR HO
        obtain ⟨ag, known, out, rfl, hO, hR, hC, hg⟩ := hrel
        have HR := hidA hR
        have HC := hidA hC
        have Hg := hidA hg
        clear hR hC hg
        cases ag
        · have hend := HR.out.least HN.out Hr.out.w1 (HC.out rfl)
          have Hend := hidA hend
          clear hend
          go_wp2
          go_ret
          exact ⟨g1, out, rfl, hO.b1, hO.ob, Hend.out.1, Hend.out.2, hO.ext⟩
        · have c4 := hO.fb.cell 4
          have Hg2 := hidA (show 2 * rankN known out N + 1 ≤ gk from Hg.out)
          obtain ⟨M0, hM0⟩ : ∃ M0, M0 = rankN known out N := ⟨_, rfl⟩
          rw [← hM0] at Hg2
          go_wp2
          clear c4
          go_loopw [9, 47] (fun s9 s47 wr => ∃ (ag : Bool) (k : Nat) (known : Nat → Bool) (out : Nat → Nat), s9 = .bool ag ∧ s47 = .int .i64 k ∧ k ≤ N ∧ OM w wr hf g1 g2 X Y Wn Hn N A c known out ∧ RS Wn Hn N slope l known out ∧ (ag = false → CalmTo Wn Hn slope l known out k) ∧ rankN known out N ≤ M0 ∧ (ag = true → rankN known out N < M0)) (fun _ s47 _ => N - (intOf s47).toNat)
          case atStart => exact ⟨false, 0, known, out, rfl, rfl, Nat.zero_le _, hO, HR.out, (fun _ j hj => by omega), Nat.le_of_eq hM0.symm, (fun h => by cases h)⟩
          case round =>
            clear hM0 hO HR HC Hg
            obtain ⟨ag, k, known, out, rfl, rfl, hk, hO, hR, hC, hM, hT⟩ := hrel
            have HR := hidA hR
            have HC := hidA hC
            have HM := hidA hM
            have HT := hidA hT
            clear hR hC hM hT
            by_cases hkN : k < N
            · have hkl : k < l.length := by have := Hl.out; omega
              obtain ⟨ad, rfl, hbk, hcv⟩ := (hV.ext hO.ext).at (k := k) (by rw [flt_length]; exact hkl)
              have ck := hcv k _ (flt_get hkl)
              have el : l.getD k 0 = l[k] := by simp [List.getD_eq_getElem?_getD, hkl]
              obtain ⟨x0, hx0⟩ : ∃ x0, x0 = l.getD k 0 := ⟨_, rfl⟩
              rw [← el, ← hx0] at ck
              have Hx0 := hidA hx0
              clear hcv el hx0
              have c0 := hO.fb.cell 0
              have c1 := hO.fb.cell 1
              have c2 := hO.fb.cell 2
              have c3 := hO.fb.cell 3
              have HBo := fun (w : World) => hidA (edge_any X Y Wn Hn k w Hr.out (by rw [← HN.out]; exact hkN))
              unfold rgv at HBo
              cases hb : brd Wn Hn k
              · have Hb := hidA hb
                rw [hb] at HBo
                clear hb
                go_upto_region 16 with (go_at_call 84; refine ((HBo _).out).mono ?_; rintro e w2 ⟨rfl, hx2⟩)
                have hO2 := hO.step hx2
                clear c0 c1 c2 c3 ck hO hx2 HBo
                go_wp2
                go_loopw [9, 56] (fun s9 s56 wr => ∃ (ag : Bool) (d : Nat) (known : Nat → Bool) (out : Nat → Nat), s9 = .bool ag ∧ s56 = .int .i64 d ∧ d ≤ 8 ∧ OM w wr hf g1 g2 X Y Wn Hn N (some ad) c known out ∧ RS Wn Hn N slope l known out ∧ (ag = false → CalmTo Wn Hn slope l known out k) ∧ (ag = false → ∀ d', d' < d → Calm Wn Hn slope l known out k d') ∧ rankN known out N ≤ M0 ∧ (ag = true → rankN known out N < M0)) (fun _ s56 _ => 8 - (intOf s56).toNat)
                case atStart => exact ⟨ag, 0, known, out, rfl, rfl, Nat.zero_le _, hO2, HR.out, HC.out, (fun _ d' h => by omega), HM.out, HT.out⟩
                case round =>
                  clear HR HC HM HT hO2
                  obtain ⟨ag, d, known, out, rfl, rfl, hd, hO, hR, hC, hD, hM, hT⟩ := hrel
                  have HR := hidA hR
                  have HC := hidA hC
                  have HD := hidA hD
                  have HM := hidA hM
                  have HT := hidA hT
                  clear hR hC hD hM hT
                  by_cases hd8 : d < 8
                  · have HNb := fun (w : World) => hidA (nb_any X Y Wn Hn k d w Hr.out (by rw [← HN.out]; exact hkN) hd8)
                    unfold rgv at HNb
                    obtain ⟨n, hnb⟩ : ∃ n, nbr Wn Hn k d = some n := by
                      cases h : nbr Wn Hn k d with
                      | some n => exact ⟨n, rfl⟩
                      | none =>
                        have h2 := (brd_nbr Hr.out.w1 (by rw [← HN.out]; exact hkN)).2 ⟨d, hd8, h⟩
                        rw [Hb.out] at h2
                        cases h2
                    have Hnb := hidA hnb
                    have hnN : n < N := by rw [HN.out]; exact nbr_lt hnb
                    rw [hnb] at HNb
                    simp only [nbI] at HNb
                    have c0 := hO.fb.cell 0
                    have c1 := hO.fb.cell 1
                    have c2 := hO.fb.cell 2
                    have c3 := hO.fb.cell 3
                    clear hnb
                    go_upto_region 20 with (go_at_call 63; refine ((HNb _).out).mono ?_; rintro e w4 ⟨rfl, hx4⟩)
                    have hO3 := hO.step hx4
                    clear c0 c1 c2 c3 hO hx4 HNb
                    have d1 : w4.cell? ⟨g2, n, none⟩ = some (.bool (known n)) := by rw [hO3.kb.cell]; exact bools_get _ hnN
                    have d2 : w4.cell? ⟨g2, k, none⟩ = some (.bool (known k)) := by rw [hO3.kb.cell]; exact bools_get _ hkN
                    have d3 : w4.cell? ⟨g1, n, none⟩ = some (.float .f32 (out n)) := by rw [hO3.ob.cell]; exact flo_get _ hnN
                    have i0 : (0 : Int) ≤ n := by omega
                    have i1 : (n : Int) < N := by omega
                    have j0 : (0 : Int) ≤ k := by omega
                    have j1 : (k : Int) < N := by omega
                    cases hkn : known n
                    · rw [hkn] at d1
                      have Hkn := hidA hkn
                      clear hkn
                      go_wp2
                      go_roundw
                      case rel =>
                        refine ⟨ag, d + 1, known, out, rfl, by go_num, by omega, hO3, HR.out, HC.out, fun hh d' hd' => ?_, HM.out, HT.out⟩
                        rcases Nat.lt_or_eq_of_le (Nat.le_of_lt_succ hd') with h1 | rfl
                        · exact HD.out hh d' h1
                        · intro n' hn' hk'
                          rw [Hnb.out] at hn'
                          injection hn' with hn'
                          subst hn'
                          rw [Hkn.out] at hk'
                          cases hk'
                      case measure => simp [intOf]; omega
                    · rw [hkn] at d1
                      have Hkn := hidA hkn
                      clear hkn
                      obtain ⟨x, hx⟩ : ∃ x, x = relR x0 slope (out n) := ⟨_, rfl⟩
                      have Hx := hidA hx
                      have hadd := (fadd_ok (HR.out.r2 n hnN Hkn.out) (Hs.out.mono (by omega : 10 ≤ 36)) (by omega)).1
                      have hrun := fun (w : World) => run_float_arith (P := Try.prog) w .add 27 .f32 _ _ _ hadd
                      clear hadd
                      cases hg : gt x0 (fadd (out n) slope)
                      · have hxe : x = fadd (out n) slope := by rw [hx]; unfold relR; rw [if_neg (by rw [hg]; decide)]
                        have hg' : (FloatKind.f32.format.order x0 (fadd (out n) slope) == some .gt) = false := hg
                        clear hg hx
                        rw [← hxe] at hrun hg'
                        clear hxe
                        go_upto_region 24 with fail
                        clear hg'
                        clear hrun
                        cases hkk : known k
                        · rw [hkk] at d2
                          have Hkk := hidA hkk
                          have o1 : w4.cell? ⟨g1, k, none⟩ = some (.float .f32 (out k)) := by rw [hO3.ob.cell]; exact flo_get _ hkN
                          have f1 := hO3.ob.frozen k
                          have f2 := hO3.kb.frozen k
                          have hgo : g1 ≠ g2 := Bk.ne hO3.ob hO3.kb (by decide)
                          have q1 : (w4.setCell ⟨g1, k, none⟩ (.float .f32 x)).cell? ⟨g2, k, none⟩ = some (.bool (known k)) := by rw [(hO3.kb.far (p := ⟨g1, k, none⟩) (Ne.symm hgo) (.float .f32 x)).cell]; exact bools_get _ hkN
                          have HO4 := hidA (hO3.put k x)
                          have HU := hidA (HR.out.upd HN.out Hr.out.w1 hkN Hb.out hd8 Hnb.out Hkn.out (Hh.out k hkN) Hs.out H0.out (by rw [← Hx0.out, ← Hx.out]; exact .inl Hkk.out))
                          rw [← Hx0.out, ← Hx.out] at HU
                          have HM2 := hidA (show rankN (updF known k true) (updF out k x) N < M0 from by have h1 := HU.out.2; have h2 := HM.out; omega)
                          clear hO3 hgo
                          go_wp2
                          go_roundw
                          case rel => exact ⟨true, d + 1, _, _, rfl, by go_num, by omega, HO4.out.step (by first | exact Ext.refl _ | exact Ext.drew (Ext.refl _)), HU.out.1, (fun h => by cases h), (fun h => by cases h), Nat.le_of_lt HM2.out, fun _ => HM2.out⟩
                          case measure => simp [intOf]; omega
                        · rw [hkk] at d2
                          have Hkk := hidA hkk
                          cases hlt : lt x (out k)
                          · have hlt' : (FloatKind.f32.format.order x (out k) == some .lt) = false := hlt
                            have Hlt := hidA hlt
                            have o1 : w4.cell? ⟨g1, k, none⟩ = some (.float .f32 (out k)) := by rw [hO3.ob.cell]; exact flo_get _ hkN
                            clear hlt
                            have HCk := hidA (show Calm Wn Hn slope l known out k d from fun n' hn' _ => by
                              have e : n' = n := by rw [Hnb.out] at hn'; injection hn' with hn'; exact hn'.symm
                              subst e
                              refine ⟨Hkk.out, ?_⟩
                              have h9 := relR_val (Hh.out k hkN) (HR.out.r2 n' hnN Hkn.out) Hs.out H0.out
                              rw [← Hx0.out] at h9
                              have h10 := Hlt.out
                              have hbx := relR_bd (Hh.out k hkN) (HR.out.r2 n' hnN Hkn.out) Hs.out H0.out
                              rw [← Hx0.out] at hbx
                              rw [lt_val (bd_Fin (by rw [Hx.out]; exact hbx) (by omega)) (bd_Fin (HR.out.r2 k hkN Hkk.out) (by omega)), Hx.out, h9] at h10
                              rw [Hx0.out] at h10
                              simpa using h10)
                            go_wp2
                            go_roundw
                            case rel =>
                              refine ⟨ag, d + 1, known, out, rfl, by go_num, by omega, hO3, HR.out, HC.out, fun hh d' hd' => ?_, HM.out, HT.out⟩
                              rcases Nat.lt_or_eq_of_le (Nat.le_of_lt_succ hd') with h1 | rfl
                              · exact HD.out hh d' h1
                              · exact HCk.out
                            case measure => simp [intOf]; omega
                          · have hlt' : (FloatKind.f32.format.order x (out k) == some .lt) = true := hlt
                            have Hlt := hidA hlt
                            clear hlt
                            have o1 : w4.cell? ⟨g1, k, none⟩ = some (.float .f32 (out k)) := by rw [hO3.ob.cell]; exact flo_get _ hkN
                            have f1 := hO3.ob.frozen k
                            have f2 := hO3.kb.frozen k
                            have hgo : g1 ≠ g2 := Bk.ne hO3.ob hO3.kb (by decide)
                            have q1 : (w4.setCell ⟨g1, k, none⟩ (.float .f32 x)).cell? ⟨g2, k, none⟩ = some (.bool (known k)) := by rw [(hO3.kb.far (p := ⟨g1, k, none⟩) (Ne.symm hgo) (.float .f32 x)).cell]; exact bools_get _ hkN
                            have HO4 := hidA (hO3.put k x)
                            have HU := hidA (HR.out.upd HN.out Hr.out.w1 hkN Hb.out hd8 Hnb.out Hkn.out (Hh.out k hkN) Hs.out H0.out (by rw [← Hx0.out, ← Hx.out]; exact .inr (by have h10 := Hlt.out; have hbx := relR_bd (Hh.out k hkN) (HR.out.r2 n hnN Hkn.out) Hs.out H0.out; rw [← Hx0.out, ← Hx.out] at hbx; rw [lt_val (bd_Fin hbx (by omega)) (bd_Fin (HR.out.r2 k hkN Hkk.out) (by omega))] at h10; simpa using h10)))
                            rw [← Hx0.out, ← Hx.out] at HU
                            have HM2 := hidA (show rankN (updF known k true) (updF out k x) N < M0 from by have h1 := HU.out.2; have h2 := HM.out; omega)
                            clear hO3 hgo
                            go_wp2
                            go_roundw
                            case rel => exact ⟨true, d + 1, _, _, rfl, by go_num, by omega, HO4.out.step (by first | exact Ext.refl _ | exact Ext.drew (Ext.refl _)), HU.out.1, (fun h => by cases h), (fun h => by cases h), Nat.le_of_lt HM2.out, fun _ => HM2.out⟩
                            case measure => simp [intOf]; omega
                      · have hxe : x = x0 := by rw [hx]; unfold relR; rw [if_pos hg]
                        have hg' : (FloatKind.f32.format.order x0 (fadd (out n) slope) == some .gt) = true := hg
                        clear hg hx
                        subst hxe
                        go_upto_region 24 with fail
                        clear hg'
                        clear hrun
                        cases hkk : known k
                        · rw [hkk] at d2
                          have Hkk := hidA hkk
                          have o1 : w4.cell? ⟨g1, k, none⟩ = some (.float .f32 (out k)) := by rw [hO3.ob.cell]; exact flo_get _ hkN
                          have f1 := hO3.ob.frozen k
                          have f2 := hO3.kb.frozen k
                          have hgo : g1 ≠ g2 := Bk.ne hO3.ob hO3.kb (by decide)
                          have q1 : (w4.setCell ⟨g1, k, none⟩ (.float .f32 x)).cell? ⟨g2, k, none⟩ = some (.bool (known k)) := by rw [(hO3.kb.far (p := ⟨g1, k, none⟩) (Ne.symm hgo) (.float .f32 x)).cell]; exact bools_get _ hkN
                          have HO4 := hidA (hO3.put k x)
                          have HU := hidA (HR.out.upd HN.out Hr.out.w1 hkN Hb.out hd8 Hnb.out Hkn.out (Hh.out k hkN) Hs.out H0.out (by rw [← Hx0.out, ← Hx.out]; exact .inl Hkk.out))
                          rw [← Hx0.out, ← Hx.out] at HU
                          have HM2 := hidA (show rankN (updF known k true) (updF out k x) N < M0 from by have h1 := HU.out.2; have h2 := HM.out; omega)
                          clear hO3 hgo
                          go_wp2
                          go_roundw
                          case rel => exact ⟨true, d + 1, _, _, rfl, by go_num, by omega, HO4.out.step (by first | exact Ext.refl _ | exact Ext.drew (Ext.refl _)), HU.out.1, (fun h => by cases h), (fun h => by cases h), Nat.le_of_lt HM2.out, fun _ => HM2.out⟩
                          case measure => simp [intOf]; omega
                        · rw [hkk] at d2
                          have Hkk := hidA hkk
                          cases hlt : lt x (out k)
                          · have hlt' : (FloatKind.f32.format.order x (out k) == some .lt) = false := hlt
                            have Hlt := hidA hlt
                            have o1 : w4.cell? ⟨g1, k, none⟩ = some (.float .f32 (out k)) := by rw [hO3.ob.cell]; exact flo_get _ hkN
                            clear hlt
                            have HCk := hidA (show Calm Wn Hn slope l known out k d from fun n' hn' _ => by
                              have e : n' = n := by rw [Hnb.out] at hn'; injection hn' with hn'; exact hn'.symm
                              subst e
                              refine ⟨Hkk.out, ?_⟩
                              have h9 := relR_val (Hh.out k hkN) (HR.out.r2 n' hnN Hkn.out) Hs.out H0.out
                              rw [← Hx0.out] at h9
                              have h10 := Hlt.out
                              have hbx := relR_bd (Hh.out k hkN) (HR.out.r2 n' hnN Hkn.out) Hs.out H0.out
                              rw [← Hx0.out] at hbx
                              rw [lt_val (bd_Fin (by rw [Hx.out]; exact hbx) (by omega)) (bd_Fin (HR.out.r2 k hkN Hkk.out) (by omega)), Hx.out, h9] at h10
                              rw [Hx0.out] at h10
                              simpa using h10)
                            go_wp2
                            go_roundw
                            case rel =>
                              refine ⟨ag, d + 1, known, out, rfl, by go_num, by omega, hO3, HR.out, HC.out, fun hh d' hd' => ?_, HM.out, HT.out⟩
                              rcases Nat.lt_or_eq_of_le (Nat.le_of_lt_succ hd') with h1 | rfl
                              · exact HD.out hh d' h1
                              · exact HCk.out
                            case measure => simp [intOf]; omega
                          · have hlt' : (FloatKind.f32.format.order x (out k) == some .lt) = true := hlt
                            have Hlt := hidA hlt
                            clear hlt
                            have o1 : w4.cell? ⟨g1, k, none⟩ = some (.float .f32 (out k)) := by rw [hO3.ob.cell]; exact flo_get _ hkN
                            have f1 := hO3.ob.frozen k
                            have f2 := hO3.kb.frozen k
                            have hgo : g1 ≠ g2 := Bk.ne hO3.ob hO3.kb (by decide)
                            have q1 : (w4.setCell ⟨g1, k, none⟩ (.float .f32 x)).cell? ⟨g2, k, none⟩ = some (.bool (known k)) := by rw [(hO3.kb.far (p := ⟨g1, k, none⟩) (Ne.symm hgo) (.float .f32 x)).cell]; exact bools_get _ hkN
                            have HO4 := hidA (hO3.put k x)
                            have HU := hidA (HR.out.upd HN.out Hr.out.w1 hkN Hb.out hd8 Hnb.out Hkn.out (Hh.out k hkN) Hs.out H0.out (by rw [← Hx0.out, ← Hx.out]; exact .inr (by have h10 := Hlt.out; have hbx := relR_bd (Hh.out k hkN) (HR.out.r2 n hnN Hkn.out) Hs.out H0.out; rw [← Hx0.out, ← Hx.out] at hbx; rw [lt_val (bd_Fin hbx (by omega)) (bd_Fin (HR.out.r2 k hkN Hkk.out) (by omega))] at h10; simpa using h10)))
                            rw [← Hx0.out, ← Hx.out] at HU
                            have HM2 := hidA (show rankN (updF known k true) (updF out k x) N < M0 from by have h1 := HU.out.2; have h2 := HM.out; omega)
                            clear hO3 hgo
                            go_wp2
                            go_roundw
                            case rel => exact ⟨true, d + 1, _, _, rfl, by go_num, by omega, HO4.out.step (by first | exact Ext.refl _ | exact Ext.drew (Ext.refl _)), HU.out.1, (fun h => by cases h), (fun h => by cases h), Nat.le_of_lt HM2.out, fun _ => HM2.out⟩
                            case measure => simp [intOf]; omega
                  · obtain rfl : d = 8 := by omega
                    go_wp2
                    go_roundw
                    case rel =>
                      refine ⟨ag, k + 1, known, out, rfl, by go_num, by omega, hO, HR.out, fun hh j hj hbj d' hd' => ?_, HM.out, HT.out⟩
                      rcases Nat.lt_or_eq_of_le (Nat.le_of_lt_succ hj) with h1 | rfl
                      · exact HC.out hh j h1 hbj d' hd'
                      · exact HD.out hh d' hd'
                    case measure => simp [intOf]; omega
              · have Hb := hidA hb
                rw [hb] at HBo
                clear hb
                go_wp2_with (go_at_call 84; refine ((HBo _).out).mono ?_; rintro e w2 ⟨rfl, hx2⟩)
                go_roundw
                case rel =>
                  refine ⟨ag, k + 1, known, out, rfl, by go_num, by omega, hO.step hx2, HR.out, fun hh j hj hbj d' hd' => ?_, HM.out, HT.out⟩
                  rcases Nat.lt_or_eq_of_le (Nat.le_of_lt_succ hj) with h1 | rfl
                  · exact HC.out hh j h1 hbj d' hd'
                  · rw [Hb.out] at hbj; cases hbj
                case measure => simp [intOf]; omega
            · obtain rfl : N = k := by omega
              go_wp2
              go_roundg (2 * rankN known out N + ag.toNat)
              case measure =>
                have h1 := Hg2.out
                have h2 := HM.out
                cases ag
                · simp; omega
                · have h3 := HT.out rfl
                  simp; omega
              case rel => exact ⟨ag, known, out, rfl, hO, HR.out, HC.out, Nat.le_refl _⟩
end Go.Proofs.Ytinohfgokpbcdaa
