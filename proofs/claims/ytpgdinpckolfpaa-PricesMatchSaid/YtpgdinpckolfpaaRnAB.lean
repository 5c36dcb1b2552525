/- Contracts: road.Price. -/
import Derived.Test.YtpgdinpckolfpaaRdV
import Derived.Test.YtpgdinpckolfpaaRdS
import Derived.Test.YtpgdinpckolfpaaRdT
import Derived.Test.YtpgdinpckolfpaaRnAA
namespace Go.Proofs.Ytpgdinpckolfpaa
open Go.RowKit
attribute [local go_sem ↓] Go.wp_at_zero Go.wp_at_succ
attribute [local go_sem] run_store_float

set_option maxRecDepth 100000 in
set_option maxHeartbeats 6400000 in
theorem RulesError_any (gr wt br de : Nat) (sp : Int) (C : Option Addr) (m cc : Nat) (X' Y' W' H' : Int) (l : List Nat) (w : World) (hC : CoP w C m X' Y' W' H' l) (hm : m ≤ 140737488351232) :
    Calls Try.prog 16 #[.agg #[.float .f32 gr, .float .f32 wt, .float .f32 br, .float .f32 de, .int .i64 sp, .slice C m cc]] w fun e w' => e = .returned (.int .i64 (rulesE gr wt br de sp m X' Y' W' H' l)) ∧ Ext w w' := by
  have HHe := fun (w' : World) (A : Option Addr) (h : Rd w' A (flt [gr, wt, br, de])) => hidA (numberError_any A 4 4 [gr, wt, br, de] w' rfl h (by omega))
  have HC := hidA hC
  have hE : Hid (rulesE gr wt br de sp m X' Y' W' H' l = if numE [gr, wt, br, de] ≠ 0 then numE [gr, wt, br, de]
    else if outB gr = true ∨ outB wt = true ∨ outB de = true then 3
    else if lt br 1065353216 = true ∨ gt br 1149239296 = true ∨ spanB sp = true then 3
    else coE m X' Y' W' H' l) := rfl
  generalize rulesE gr wt br de sp m X' Y' W' H' l = E at *
  generalize numE [gr, wt, br, de] = ne at *
  clear hC
  go_enter Try.func16, Try.ntmps16
  go_upto_region 1 with fail
  have kR : Bk (w.alloc (.cells #[.float .f32 gr, .float .f32 wt, .float .f32 br, .float .f32 de, .int .i64 sp, .slice C m cc] 30)) w.heap.size 30 #[.float .f32 gr, .float .f32 wt, .float .f32 br, .float .f32 de, .int .i64 sp, .slice C m cc] := Bk.new' rfl
  have hx0 : Ext w (w.alloc (.cells #[.float .f32 gr, .float .f32 wt, .float .f32 br, .float .f32 de, .int .i64 sp, .slice C m cc] 30)) := (Ext.refl w).alloc _
  generalize w.alloc (.cells #[.float .f32 gr, .float .f32 wt, .float .f32 br, .float .f32 de, .int .i64 sp, .slice C m cc] 30) = w0 at *
  generalize w.heap.size = hr at *
  have r0 := kR.cell 0
  have r1 := kR.cell 1
  have r2 := kR.cell 2
  have r3 := kR.cell 3
  go_upto_region 2 with (go_at_call 32; refine ((HHe _ _ (Rd.new rfl rfl)).out).mono ?_; rintro e w1 ⟨rfl, hw1⟩)
  have hx1 : Ext w w1 := by rw [← hw1]; exact hx0.alloc _
  have kR1 : Bk w1 hr 30 #[.float .f32 gr, .float .f32 wt, .float .f32 br, .float .f32 de, .int .i64 sp, .slice C m cc] := by rw [← hw1]; exact kR.alloc _
  clear hw1 HHe kR hx0 r0 r1 r2 r3
  have r0 := kR1.cell 0
  have r1 := kR1.cell 1
  have r2 := kR1.cell 2
  have r3 := kR1.cell 3
  have r4 := kR1.cell 4
  have r5 := kR1.cell 5
  by_cases hne : ne = 0
  · have bne : (ne != 0) = false := by simpa using hne
    have hE2 := hE.out
    rw [if_neg (by simpa using hne)] at hE2
    have HE2 := hidA hE2
    clear hE hE2 hne
    go_upto_region 5 with fail
    obtain ⟨w2, hw2⟩ : ∃ w2, w2 = w1.alloc (.cells #[.float .f32 gr, .float .f32 wt, .float .f32 de] 27) := ⟨_, rfl⟩
    have kT : Bk w2 w1.heap.size 27 #[.float .f32 gr, .float .f32 wt, .float .f32 de] := by rw [hw2]; exact Bk.new' rfl
    have kR2 : Bk w2 hr 30 #[.float .f32 gr, .float .f32 wt, .float .f32 br, .float .f32 de, .int .i64 sp, .slice C m cc] := by rw [hw2]; exact kR1.alloc _
    have hx2 : Ext w w2 := by rw [hw2]; exact hx1.alloc _
    rw [← hw2]
    clear hw2 r0 r1 r2 r3 r4 r5 kR1 hx1
    have r2 := kR2.cell 2
    have r4 := kR2.cell 4
    have r5 := kR2.cell 5
    have t0 := kT.cell 0
    have t1 := kT.cell 1
    have t2 := kT.cell 2
    have kR1 := kR2
    have hx1 := hx2
    go_loopw [32, 5] (fun s29 _ wr => ∃ k : Nat, k ≤ 3 ∧ s29 = .int .i64 k ∧ (1 ≤ k → outB gr = false) ∧ (2 ≤ k → outB wt = false) ∧ (3 ≤ k → outB de = false) ∧ wr = w2) (fun s29 _ _ => 3 - (intOf s29).toNat)
    case atStart => exact ⟨0, by omega, rfl, fun h => by omega, fun h => by omega, fun h => by omega, rfl⟩
    case round =>
      obtain ⟨k, hk, rfl, h1, h2, h3, rfl⟩ := hrel
      rcases (by omega : k = 0 ∨ k = 1 ∨ k = 2 ∨ k = 3) with rfl | rfl | rfl | rfl
      · obtain ⟨p, hp⟩ : ∃ p, lt gr 0 = p := ⟨_, rfl⟩
        obtain ⟨q, hq⟩ : ∃ q, gt gr 1149239296 = q := ⟨_, rfl⟩
        have ho : Hid (outB gr = (p || q)) := by show _ = _; unfold outB; rw [hp, hq]
        have g1 : (FloatKind.f32.format.order gr 0 == some .lt) = p := hp
        have g2 : (FloatKind.f32.format.order gr 1149239296 == some .gt) = q := hq
        have H1 := hidA h1
        have H2 := hidA h2
        have H3 := hidA h3
        have HEt := hidA (show outB gr = true → E = 3 from fun h => by rw [HE2.out, if_pos (by simp [h])])
        clear hp hq h1 h2 h3
        cases p
        · cases q
          · have Ho := hidA (show outB gr = false from ho.out)
            go_wp2
            go_roundw
            case rel => exact ⟨0+1, by omega, rfl, fun _ => Ho.out, fun h => by omega, fun h => by omega, trivial⟩
            case measure => decide
          · have hE9 := HEt.out ho.out
            subst hE9
            go_wp2
            go_ret
            exact ⟨rfl, hx1⟩
        · have hE9 := HEt.out (by rw [ho.out]; rfl)
          subst hE9
          go_wp2
          go_ret
          exact ⟨rfl, hx1⟩
      · obtain ⟨p, hp⟩ : ∃ p, lt wt 0 = p := ⟨_, rfl⟩
        obtain ⟨q, hq⟩ : ∃ q, gt wt 1149239296 = q := ⟨_, rfl⟩
        have ho : Hid (outB wt = (p || q)) := by show _ = _; unfold outB; rw [hp, hq]
        have g1 : (FloatKind.f32.format.order wt 0 == some .lt) = p := hp
        have g2 : (FloatKind.f32.format.order wt 1149239296 == some .gt) = q := hq
        have H1 := hidA h1
        have H2 := hidA h2
        have H3 := hidA h3
        have HEt := hidA (show outB wt = true → E = 3 from fun h => by rw [HE2.out, if_pos (by simp [h])])
        clear hp hq h1 h2 h3
        cases p
        · cases q
          · have Ho := hidA (show outB wt = false from ho.out)
            go_wp2
            go_roundw
            case rel => exact ⟨1+1, by omega, rfl, fun _ => H1.out (by omega), fun _ => Ho.out, fun h => by omega, trivial⟩
            case measure => decide
          · have hE9 := HEt.out ho.out
            subst hE9
            go_wp2
            go_ret
            exact ⟨rfl, hx1⟩
        · have hE9 := HEt.out (by rw [ho.out]; rfl)
          subst hE9
          go_wp2
          go_ret
          exact ⟨rfl, hx1⟩
      · obtain ⟨p, hp⟩ : ∃ p, lt de 0 = p := ⟨_, rfl⟩
        obtain ⟨q, hq⟩ : ∃ q, gt de 1149239296 = q := ⟨_, rfl⟩
        have ho : Hid (outB de = (p || q)) := by show _ = _; unfold outB; rw [hp, hq]
        have g1 : (FloatKind.f32.format.order de 0 == some .lt) = p := hp
        have g2 : (FloatKind.f32.format.order de 1149239296 == some .gt) = q := hq
        have H1 := hidA h1
        have H2 := hidA h2
        have H3 := hidA h3
        have HEt := hidA (show outB de = true → E = 3 from fun h => by rw [HE2.out, if_pos (by simp [h])])
        clear hp hq h1 h2 h3
        cases p
        · cases q
          · have Ho := hidA (show outB de = false from ho.out)
            go_wp2
            go_roundw
            case rel => exact ⟨2+1, by omega, rfl, fun _ => H1.out (by omega), fun _ => H2.out (by omega), fun _ => Ho.out, trivial⟩
            case measure => decide
          · have hE9 := HEt.out ho.out
            subst hE9
            go_wp2
            go_ret
            exact ⟨rfl, hx1⟩
        · have hE9 := HEt.out (by rw [ho.out]; rfl)
          subst hE9
          go_wp2
          go_ret
          exact ⟨rfl, hx1⟩
      · have o1 := h1 (by omega)
        have o2 := h2 (by omega)
        have o3 := h3 (by omega)
        have hE3 := HE2.out
        rw [if_neg (by simp [o1, o2, o3])] at hE3
        have HE3 := hidA hE3
        clear hE3 HE2 h1 h2 h3 o1 o2 o3
        obtain ⟨p, hp⟩ : ∃ p, lt br 1065353216 = p := ⟨_, rfl⟩
        obtain ⟨q, hq⟩ : ∃ q, gt br 1149239296 = q := ⟨_, rfl⟩
        have g1 : (FloatKind.f32.format.order br 1065353216 == some .lt) = p := hp
        have g2 : (FloatKind.f32.format.order br 1149239296 == some .gt) = q := hq
        have HEt := hidA (show (p = true ∨ q = true ∨ spanB sp = true) → E = 3 from fun h => by rw [HE3.out, hp, hq, if_pos h])
        have HE4 := hidA (show p = false → q = false → spanB sp = false → E = coE m X' Y' W' H' l from fun h1 h2 h3 => by rw [HE3.out, hp, hq, if_neg (by simp [h1, h2, h3])])
        clear hp hq
        cases p
        case true =>
          have hE9 := HEt.out (.inl rfl)
          subst hE9
          go_wp2
          go_ret
          exact ⟨rfl, hx1⟩
        cases q
        case true =>
          have hE9 := HEt.out (.inr (.inl rfl))
          subst hE9
          go_wp2
          go_ret
          exact ⟨rfl, hx1⟩
        have HE4 := hidA (HE4.out rfl rfl)
        rcases (by omega : sp = 0 ∨ (¬ sp = 0 ∧ sp < 2) ∨ (¬ sp = 0 ∧ ¬ sp < 2 ∧ 12 < sp) ∨ (¬ sp = 0 ∧ ¬ sp < 2 ∧ ¬ 12 < sp)) with rfl | ⟨e1, e2⟩ | ⟨e1, e2, e3⟩ | ⟨e1, e2, e3⟩
        · have b1 : ((0 : Int) != 0) = false := rfl
          have HE5 := hidA (HE4.out (by first | (unfold spanB; simp; done) | (unfold spanB; simp; omega)))
          go_upto_region 12 with fail
          clear g1 g2 HE3 HE4 HEt
          by_cases hm1 : 1 < m
          · have hm2 : (1 : Int) < m := by omega
            have HE6 := hidA (show E = 4 from by rw [HE5.out]; unfold coE; rw [if_pos hm1])
            clear hm1 HE5
            go_wp2
            go_ret
            exact ⟨ret_i HE6.out.symm, hx1⟩
          · have hm2 : ¬ (1 : Int) < m := by omega
            have hmle : m ≤ 1 := by omega
            have HE6 := hidA (show E = if m = 0 then 0 else if fieldE X' Y' W' H' l ≠ 0 then fieldE X' Y' W' H' l else if l.any outB = true then 3 else 0 from by rw [HE5.out]; unfold coE; rw [if_neg hm1])
            rcases (by omega : m = 0 ∨ m = 1) with rfl | rfl
            · have HE7 := hidA (HE6.out.trans (if_pos rfl))
              clear hm1 HE5 HE6
              go_upto_region 15 with fail
              have hx5 := Ext.refl wr
              go_loopw [73] (fun s75 wx => s75 = .int .i64 0 ∧ Ext wr wx) (fun _ _ => 0)
              case atStart => exact ⟨rfl, Ext.refl _⟩
              case round =>
                obtain ⟨rfl, hx⟩ := hrel
                go_wp2
                go_ret
                exact ⟨ret_i HE7.out.symm, (hx1.trans hx5).trans hx⟩
            · have HE7 := hidA (HE6.out.trans (if_neg (by omega)))
              clear hm1 HE5 HE6
              obtain ⟨B, c', q1, q2, q3⟩ := HC.out.one rfl
              have HFE := fun (w' : World) (h : Ext w w') => hidA (fieldError_any X' Y' W' H' B l.length c' l w' rfl (q2.ext h) q3)
              go_upto_region 15 with fail
              have hx5 := Ext.refl wr
              obtain ⟨ad, rfl, hbk, hc⟩ := q1 (by simp)
              have d0 := hc 0 _ rfl
              have d1 := hc 1 _ rfl
              have d2 := hc 2 _ rfl
              have d3 := hc 3 _ rfl
              have d4 := hc 4 _ rfl
              rw [show ad.add 0 = ad from rfl] at d0
              rw [add_pos _ (by omega)] at d1 d2 d3 d4
              go_loopw [73] (fun s75 wx => ∃ k : Nat, k ≤ 1 ∧ s75 = .int .i64 k ∧ (k = 1 → E = 0) ∧ Ext w wx) (fun s75 _ => 1 - (intOf s75).toNat)
              case atStart => exact ⟨0, by omega, rfl, fun h => by omega, hx1⟩
              case round =>
                obtain ⟨k, hk, rfl, hz, hx⟩ := hrel
                rcases (by omega : k = 0 ∨ k = 1) with rfl | rfl
                · have D0 := (hx.cell ad hbk).trans d0
                  have D1 := (hx.cell ⟨ad.block, ad.off + 1, none⟩ hbk).trans d1
                  have D2 := (hx.cell ⟨ad.block, ad.off + 2, none⟩ hbk).trans d2
                  have D3 := (hx.cell ⟨ad.block, ad.off + 3, none⟩ hbk).trans d3
                  have D4 := (hx.cell ⟨ad.block, ad.off + 4, none⟩ hbk).trans d4
                  clear d0 d1 d2 d3 d4 hz
                  go_upto_region 17 with fail
                  have kF : Bk (wr.alloc (.cells #[.int .i64 X', .int .i64 Y', .int .i64 W', .int .i64 H', .slice B l.length c'] 26)) wr.heap.size 26 #[.int .i64 X', .int .i64 Y', .int .i64 W', .int .i64 H', .slice B l.length c'] := Bk.new' rfl
                  have f0 := kF.cell 0
                  have f1 := kF.cell 1
                  have f2 := kF.cell 2
                  have f3 := kF.cell 3
                  have f4 := kF.cell 4
                  have HFE2 := fun (w' : World) (h : Ext wr w') => HFE w' (hx.trans h)
                  by_cases hfe : fieldE X' Y' W' H' l = 0
                  · have HE8 := hidA (HE7.out.trans (if_neg (by simp [hfe])))
                    have hlen := fieldE_len0 hfe
                    simp only [hfe] at HFE2
                    clear HE7 hfe HFE
                    go_upto_region 18 with (go_at_call 49; refine ((HFE2 _ (by repeat (first | exact Ext.refl _ | assumption | refine Ext.setCell ?_ (by first | (simp; done) | (simp; omega)) _ | refine Ext.drewN ?_ _ | refine Ext.alloc ?_ _ | refine Ext.drew ?_ | refine Ext.trans ?_ (by assumption)))).out).mono ?_; rintro e w7 ⟨rfl, hx7⟩)
                    have kF7 := kF.ext hx7
                    have f4 := kF7.cell 4
                    have hx8 : Ext w w7 := (by repeat (first | exact Ext.refl _ | assumption | refine Ext.setCell ?_ (by first | (simp; done) | (simp; omega)) _ | refine Ext.drewN ?_ _ | refine Ext.alloc ?_ _ | refine Ext.drew ?_ | refine Ext.trans ?_ (by assumption)))
                    have hB := q2.ext hx8
                    clear f0 f1 f2 f3 D0 D1 D2 D3 D4 HFE2
                    go_upto_region 21 with fail
                    go_loopw [85] (fun s85 wx => ∃ j : Nat, j ≤ l.length ∧ s85 = .int .i64 j ∧ (∀ i, i < j → outB (l.getD i 0) = false) ∧ wx = w7) (fun s85 _ => l.length - (intOf s85).toNat)
                    case atStart => exact ⟨0, Nat.zero_le _, rfl, fun i hi => by omega, rfl⟩
                    case round =>
                      obtain ⟨j, hj, rfl, hall, rfl⟩ := hrel
                      have Hall := hidA hall
                      clear hall
                      by_cases hjl : j < l.length
                      · obtain ⟨ad2, hB2, hb2, hcell⟩ := flt_at hB hjl
                        subst hB2
                        obtain ⟨b, hb⟩ : ∃ b, l.getD j 0 = b := ⟨_, rfl⟩
                        rw [hb] at hcell
                        obtain ⟨p, hp⟩ : ∃ p, lt b 0 = p := ⟨_, rfl⟩
                        obtain ⟨q, hq⟩ : ∃ q, gt b 1149239296 = q := ⟨_, rfl⟩
                        have Ho : Hid (outB b = (p || q)) := by show _ = _; unfold outB; rw [hp, hq]
                        have g1 : (FloatKind.f32.format.order b 0 == some .lt) = p := hp
                        have g2 : (FloatKind.f32.format.order b 1149239296 == some .gt) = q := hq
                        have Hb := hidA hb
                        clear hp hq hb
                        by_cases hpq : p = false ∧ q = false
                        · obtain ⟨rfl, rfl⟩ := hpq
                          go_wp2_with fail
                          go_roundw
                          case rel => exact ⟨j + 1, by omega, by go_num, fun i hi => by
                            rcases (by omega : i < j ∨ i = j) with h | rfl
                            · exact Hall.out i h
                            · rw [Hb.out, Ho.out]; rfl, by trivial⟩
                          case measure => simp [intOf]; omega
                        · have Hpq : Hid (l.any outB = true) := hidA (by
                            refine List.any_eq_true.mpr ⟨b, ?_, by rw [Ho.out]; cases p <;> cases q <;> simp_all⟩
                            have h1 := Hb.out
                            rw [show l.getD j 0 = l[j] by simp [List.getD_eq_getElem?_getD, hjl]] at h1
                            rw [← h1]; exact List.getElem_mem hjl)
                          have HE9 := hidA (HE8.out.trans (if_pos Hpq.out))
                          clear HE8
                          cases p
                          · cases q
                            · exact absurd ⟨rfl, rfl⟩ hpq
                            · clear hpq
                              go_wp2_with fail
                              go_ret
                              exact ⟨ret_i HE9.out.symm, hx8⟩
                          · clear hpq
                            go_wp2_with fail
                            go_ret
                            exact ⟨ret_i HE9.out.symm, hx8⟩
                      · have Hno : Hid (l.any outB = false) := hidA (by
                          rw [List.any_eq_false]
                          intro v hv
                          obtain ⟨i, hi, rfl⟩ := List.getElem_of_mem hv
                          have := Hall.out i (by omega)
                          rw [show l.getD i 0 = l[i] by simp [List.getD_eq_getElem?_getD, hi]] at this
                          simp [this])
                        have HE9 := hidA (HE8.out.trans (if_neg (by rw [Hno.out]; decide)))
                        clear HE8
                        go_wp2_with fail
                        go_roundw
                        case rel => exact ⟨1, by omega, rfl, fun _ => HE9.out, hx8⟩
                        case measure => decide
                  · have bfe : (fieldE X' Y' W' H' l != 0) = true := by simpa using hfe
                    have HE8 := hidA (HE7.out.trans (if_pos hfe))
                    clear HE7 hfe HFE
                    go_wp2_with (go_at_call 49; refine ((HFE2 _ (by repeat (first | exact Ext.refl _ | assumption | refine Ext.setCell ?_ (by first | (simp; done) | (simp; omega)) _ | refine Ext.drewN ?_ _ | refine Ext.alloc ?_ _ | refine Ext.drew ?_ | refine Ext.trans ?_ (by assumption)))).out).mono ?_; rintro e w7 ⟨rfl, hx7⟩)
                    go_ret
                    exact ⟨ret_i HE8.out.symm, (by repeat (first | exact Ext.refl _ | assumption | refine Ext.setCell ?_ (by first | (simp; done) | (simp; omega)) _ | refine Ext.drewN ?_ _ | refine Ext.alloc ?_ _ | refine Ext.drew ?_ | refine Ext.trans ?_ (by assumption)))⟩
                · have hz0 := hz rfl
                  subst hz0
                  clear hz
                  go_wp2
                  go_ret
                  exact ⟨rfl, hx⟩
        · have b1 : (sp != 0) = true := by simpa using e1
          have hE9 := HEt.out (.inr (.inr (by unfold spanB; simp; omega)))
          subst hE9
          go_wp2
          go_ret
          exact ⟨rfl, hx1⟩
        · have b1 : (sp != 0) = true := by simpa using e1
          have hE9 := HEt.out (.inr (.inr (by unfold spanB; simp; omega)))
          subst hE9
          go_wp2
          go_ret
          exact ⟨rfl, hx1⟩
        · have b1 : (sp != 0) = true := by simpa using e1
          have HE5 := hidA (HE4.out (by first | (unfold spanB; simp; done) | (unfold spanB; simp; omega)))
          go_upto_region 12 with fail
          clear g1 g2 HE3 HE4 HEt
          by_cases hm1 : 1 < m
          · have hm2 : (1 : Int) < m := by omega
            have HE6 := hidA (show E = 4 from by rw [HE5.out]; unfold coE; rw [if_pos hm1])
            clear hm1 HE5
            go_wp2
            go_ret
            exact ⟨ret_i HE6.out.symm, hx1⟩
          · have hm2 : ¬ (1 : Int) < m := by omega
            have hmle : m ≤ 1 := by omega
            have HE6 := hidA (show E = if m = 0 then 0 else if fieldE X' Y' W' H' l ≠ 0 then fieldE X' Y' W' H' l else if l.any outB = true then 3 else 0 from by rw [HE5.out]; unfold coE; rw [if_neg hm1])
            rcases (by omega : m = 0 ∨ m = 1) with rfl | rfl
            · have HE7 := hidA (HE6.out.trans (if_pos rfl))
              clear hm1 HE5 HE6
              go_upto_region 15 with fail
              have hx5 := Ext.refl wr
              go_loopw [73] (fun s75 wx => s75 = .int .i64 0 ∧ Ext wr wx) (fun _ _ => 0)
              case atStart => exact ⟨rfl, Ext.refl _⟩
              case round =>
                obtain ⟨rfl, hx⟩ := hrel
                go_wp2
                go_ret
                exact ⟨ret_i HE7.out.symm, (hx1.trans hx5).trans hx⟩
            · have HE7 := hidA (HE6.out.trans (if_neg (by omega)))
              clear hm1 HE5 HE6
              obtain ⟨B, c', q1, q2, q3⟩ := HC.out.one rfl
              have HFE := fun (w' : World) (h : Ext w w') => hidA (fieldError_any X' Y' W' H' B l.length c' l w' rfl (q2.ext h) q3)
              go_upto_region 15 with fail
              have hx5 := Ext.refl wr
              obtain ⟨ad, rfl, hbk, hc⟩ := q1 (by simp)
              have d0 := hc 0 _ rfl
              have d1 := hc 1 _ rfl
              have d2 := hc 2 _ rfl
              have d3 := hc 3 _ rfl
              have d4 := hc 4 _ rfl
              rw [show ad.add 0 = ad from rfl] at d0
              rw [add_pos _ (by omega)] at d1 d2 d3 d4
              go_loopw [73] (fun s75 wx => ∃ k : Nat, k ≤ 1 ∧ s75 = .int .i64 k ∧ (k = 1 → E = 0) ∧ Ext w wx) (fun s75 _ => 1 - (intOf s75).toNat)
              case atStart => exact ⟨0, by omega, rfl, fun h => by omega, hx1⟩
              case round =>
                obtain ⟨k, hk, rfl, hz, hx⟩ := hrel
                rcases (by omega : k = 0 ∨ k = 1) with rfl | rfl
                · have D0 := (hx.cell ad hbk).trans d0
                  have D1 := (hx.cell ⟨ad.block, ad.off + 1, none⟩ hbk).trans d1
                  have D2 := (hx.cell ⟨ad.block, ad.off + 2, none⟩ hbk).trans d2
                  have D3 := (hx.cell ⟨ad.block, ad.off + 3, none⟩ hbk).trans d3
                  have D4 := (hx.cell ⟨ad.block, ad.off + 4, none⟩ hbk).trans d4
                  clear d0 d1 d2 d3 d4 hz
                  go_upto_region 17 with fail
                  have kF : Bk (wr.alloc (.cells #[.int .i64 X', .int .i64 Y', .int .i64 W', .int .i64 H', .slice B l.length c'] 26)) wr.heap.size 26 #[.int .i64 X', .int .i64 Y', .int .i64 W', .int .i64 H', .slice B l.length c'] := Bk.new' rfl
                  have f0 := kF.cell 0
                  have f1 := kF.cell 1
                  have f2 := kF.cell 2
                  have f3 := kF.cell 3
                  have f4 := kF.cell 4
                  have HFE2 := fun (w' : World) (h : Ext wr w') => HFE w' (hx.trans h)
                  by_cases hfe : fieldE X' Y' W' H' l = 0
                  · have HE8 := hidA (HE7.out.trans (if_neg (by simp [hfe])))
                    have hlen := fieldE_len0 hfe
                    simp only [hfe] at HFE2
                    clear HE7 hfe HFE
                    go_upto_region 18 with (go_at_call 49; refine ((HFE2 _ (by repeat (first | exact Ext.refl _ | assumption | refine Ext.setCell ?_ (by first | (simp; done) | (simp; omega)) _ | refine Ext.drewN ?_ _ | refine Ext.alloc ?_ _ | refine Ext.drew ?_ | refine Ext.trans ?_ (by assumption)))).out).mono ?_; rintro e w7 ⟨rfl, hx7⟩)
                    have kF7 := kF.ext hx7
                    have f4 := kF7.cell 4
                    have hx8 : Ext w w7 := (by repeat (first | exact Ext.refl _ | assumption | refine Ext.setCell ?_ (by first | (simp; done) | (simp; omega)) _ | refine Ext.drewN ?_ _ | refine Ext.alloc ?_ _ | refine Ext.drew ?_ | refine Ext.trans ?_ (by assumption)))
                    have hB := q2.ext hx8
                    clear f0 f1 f2 f3 D0 D1 D2 D3 D4 HFE2
                    go_upto_region 21 with fail
                    go_loopw [85] (fun s85 wx => ∃ j : Nat, j ≤ l.length ∧ s85 = .int .i64 j ∧ (∀ i, i < j → outB (l.getD i 0) = false) ∧ wx = w7) (fun s85 _ => l.length - (intOf s85).toNat)
                    case atStart => exact ⟨0, Nat.zero_le _, rfl, fun i hi => by omega, rfl⟩
                    case round =>
                      obtain ⟨j, hj, rfl, hall, rfl⟩ := hrel
                      have Hall := hidA hall
                      clear hall
                      by_cases hjl : j < l.length
                      · obtain ⟨ad2, hB2, hb2, hcell⟩ := flt_at hB hjl
                        subst hB2
                        obtain ⟨b, hb⟩ : ∃ b, l.getD j 0 = b := ⟨_, rfl⟩
                        rw [hb] at hcell
                        obtain ⟨p, hp⟩ : ∃ p, lt b 0 = p := ⟨_, rfl⟩
                        obtain ⟨q, hq⟩ : ∃ q, gt b 1149239296 = q := ⟨_, rfl⟩
                        have Ho : Hid (outB b = (p || q)) := by show _ = _; unfold outB; rw [hp, hq]
                        have g1 : (FloatKind.f32.format.order b 0 == some .lt) = p := hp
                        have g2 : (FloatKind.f32.format.order b 1149239296 == some .gt) = q := hq
                        have Hb := hidA hb
                        clear hp hq hb
                        by_cases hpq : p = false ∧ q = false
                        · obtain ⟨rfl, rfl⟩ := hpq
                          go_wp2_with fail
                          go_roundw
                          case rel => exact ⟨j + 1, by omega, by go_num, fun i hi => by
                            rcases (by omega : i < j ∨ i = j) with h | rfl
                            · exact Hall.out i h
                            · rw [Hb.out, Ho.out]; rfl, by trivial⟩
                          case measure => simp [intOf]; omega
                        · have Hpq : Hid (l.any outB = true) := hidA (by
                            refine List.any_eq_true.mpr ⟨b, ?_, by rw [Ho.out]; cases p <;> cases q <;> simp_all⟩
                            have h1 := Hb.out
                            rw [show l.getD j 0 = l[j] by simp [List.getD_eq_getElem?_getD, hjl]] at h1
                            rw [← h1]; exact List.getElem_mem hjl)
                          have HE9 := hidA (HE8.out.trans (if_pos Hpq.out))
                          clear HE8
                          cases p
                          · cases q
                            · exact absurd ⟨rfl, rfl⟩ hpq
                            · clear hpq
                              go_wp2_with fail
                              go_ret
                              exact ⟨ret_i HE9.out.symm, hx8⟩
                          · clear hpq
                            go_wp2_with fail
                            go_ret
                            exact ⟨ret_i HE9.out.symm, hx8⟩
                      · have Hno : Hid (l.any outB = false) := hidA (by
                          rw [List.any_eq_false]
                          intro v hv
                          obtain ⟨i, hi, rfl⟩ := List.getElem_of_mem hv
                          have := Hall.out i (by omega)
                          rw [show l.getD i 0 = l[i] by simp [List.getD_eq_getElem?_getD, hi]] at this
                          simp [this])
                        have HE9 := hidA (HE8.out.trans (if_neg (by rw [Hno.out]; decide)))
                        clear HE8
                        go_wp2_with fail
                        go_roundw
                        case rel => exact ⟨1, by omega, rfl, fun _ => HE9.out, hx8⟩
                        case measure => decide
                  · have bfe : (fieldE X' Y' W' H' l != 0) = true := by simpa using hfe
                    have HE8 := hidA (HE7.out.trans (if_pos hfe))
                    clear HE7 hfe HFE
                    go_wp2_with (go_at_call 49; refine ((HFE2 _ (by repeat (first | exact Ext.refl _ | assumption | refine Ext.setCell ?_ (by first | (simp; done) | (simp; omega)) _ | refine Ext.drewN ?_ _ | refine Ext.alloc ?_ _ | refine Ext.drew ?_ | refine Ext.trans ?_ (by assumption)))).out).mono ?_; rintro e w7 ⟨rfl, hx7⟩)
                    go_ret
                    exact ⟨ret_i HE8.out.symm, (by repeat (first | exact Ext.refl _ | assumption | refine Ext.setCell ?_ (by first | (simp; done) | (simp; omega)) _ | refine Ext.drewN ?_ _ | refine Ext.alloc ?_ _ | refine Ext.drew ?_ | refine Ext.trans ?_ (by assumption)))⟩
                · have hz0 := hz rfl
                  subst hz0
                  clear hz
                  go_wp2
                  go_ret
                  exact ⟨rfl, hx⟩
  · have bne : (ne != 0) = true := by simpa using hne
    have HE2 := hidA (hE.out.trans (if_pos hne))
    clear hE hne
    go_wp2
    go_ret
    exact ⟨ret_i (by rw [HE2.out]), hx1⟩
end Go.Proofs.Ytpgdinpckolfpaa

namespace Go.Proofs.Ytpgdinpckolfpaa
open Go.RowKit
attribute [local go_sem ↓] Go.wp_at_zero Go.wp_at_succ

set_option maxRecDepth 100000 in
set_option maxHeartbeats 6400000 in
theorem GroundError_any (X Y W H : Int) (A : Option Addr) (n c : Nat) (lf : List Nat) (gr wt br de : Nat) (sp : Int) (C : Option Addr) (m cc : Nat) (X' Y' W' H' : Int) (l : List Nat) (w : World) (hn : lf.length = n) (hV : Rd w A (flt lf)) (hb : n ≤ 140737488351232) (hC : CoP w C m X' Y' W' H' l) (hm : m ≤ 140737488351232) :
    Calls Try.prog 18 #[.agg #[.int .i64 X, .int .i64 Y, .int .i64 W, .int .i64 H, .slice A n c], .agg #[.float .f32 gr, .float .f32 wt, .float .f32 br, .float .f32 de, .int .i64 sp, .slice C m cc]] w fun e w' => e = .returned (.int .i64 (grndE X Y W H lf gr wt br de sp m X' Y' W' H' l)) ∧ Ext w w' := by
  have HF := fun (w' : World) (h : Ext w w') => hidA (fieldError_any X Y W H A n c lf w' hn (hV.ext h) hb)
  have HR := fun (w' : World) (h : Ext w w') => hidA (RulesError_any gr wt br de sp C m cc X' Y' W' H' l w' (hC.ext h) hm)
  have hE : Hid (grndE X Y W H lf gr wt br de sp m X' Y' W' H' l = if fieldE X Y W H lf ≠ 0 then fieldE X Y W H lf else if rulesE gr wt br de sp m X' Y' W' H' l ≠ 0 then rulesE gr wt br de sp m X' Y' W' H' l
    else if m = 1 ∧ ¬ (X' = X ∧ Y' = Y ∧ W' = W ∧ H' = H) then 5 else 0) := rfl
  have Hm1 := hidA (fun h => rulesE_m (gr := gr) (wt := wt) (br := br) (de := de) (sp := sp) (m := m) (X' := X') (Y' := Y') (W' := W') (H' := H') (l := l) h)
  generalize grndE X Y W H lf gr wt br de sp m X' Y' W' H' l = E at *
  generalize rulesE gr wt br de sp m X' Y' W' H' l = re at *
  generalize fieldE X Y W H lf = fe at *
  have HC := hidA hC
  clear hC hn hV hb hm
  go_enter Try.func18, Try.ntmps18
  go_upto_region 1 with fail
  have kF : Bk ((w.alloc (.cells #[.int .i64 X, .int .i64 Y, .int .i64 W, .int .i64 H, .slice A n c] 26)).alloc (.cells #[.float .f32 gr, .float .f32 wt, .float .f32 br, .float .f32 de, .int .i64 sp, .slice C m cc] 30)) w.heap.size 26 #[.int .i64 X, .int .i64 Y, .int .i64 W, .int .i64 H, .slice A n c] := (Bk.new' rfl).alloc _
  have kR : Bk ((w.alloc (.cells #[.int .i64 X, .int .i64 Y, .int .i64 W, .int .i64 H, .slice A n c] 26)).alloc (.cells #[.float .f32 gr, .float .f32 wt, .float .f32 br, .float .f32 de, .int .i64 sp, .slice C m cc] 30)) (w.heap.size + 1) 30 #[.float .f32 gr, .float .f32 wt, .float .f32 br, .float .f32 de, .int .i64 sp, .slice C m cc] := Bk.new' (by simp)
  have hx0 : Ext w ((w.alloc (.cells #[.int .i64 X, .int .i64 Y, .int .i64 W, .int .i64 H, .slice A n c] 26)).alloc (.cells #[.float .f32 gr, .float .f32 wt, .float .f32 br, .float .f32 de, .int .i64 sp, .slice C m cc] 30)) := ((Ext.refl w).alloc _).alloc _
  generalize (w.alloc (.cells #[.int .i64 X, .int .i64 Y, .int .i64 W, .int .i64 H, .slice A n c] 26)).alloc (.cells #[.float .f32 gr, .float .f32 wt, .float .f32 br, .float .f32 de, .int .i64 sp, .slice C m cc] 30) = w0 at *
  generalize w.heap.size + 1 = hr at *
  generalize w.heap.size = hf at *
  have f0 := kF.cell 0
  have f1 := kF.cell 1
  have f2 := kF.cell 2
  have f3 := kF.cell 3
  have f4 := kF.cell 4
  by_cases hfe : fe = 0
  · have b0 : (fe != 0) = false := by simpa using hfe
    have HE2 := hidA (hE.out.trans (if_neg (by simpa using hfe)))
    clear hE hfe
    go_upto_region 4 with (go_at_call 49; refine ((HF _ hx0).out).mono ?_; rintro e w1 ⟨rfl, hx1⟩)
    have kR1 := kR.ext hx1
    have kF1 := kF.ext hx1
    clear f0 f1 f2 f3 f4 kR kF b0 HF
    have r0 := kR1.cell 0
    have r1 := kR1.cell 1
    have r2 := kR1.cell 2
    have r3 := kR1.cell 3
    have r4 := kR1.cell 4
    have r5 := kR1.cell 5
    by_cases hre : re = 0
    · have b1 : (re != 0) = false := by simpa using hre
      have HE3 := hidA (HE2.out.trans (if_neg (by simpa using hre)))
      have hm1 := Hm1.out hre
      clear HE2 hre Hm1
      go_upto_region 7 with (go_at_call 16; refine ((HR _ (hx0.trans hx1)).out).mono ?_; rintro e w2 ⟨rfl, hx2⟩)
      have kF2 := kF1.ext hx2
      have r5' := (kR1.ext hx2).cell 5
      have hxx := (hx0.trans hx1).trans hx2
      clear r0 r1 r2 r3 r4 r5 kR1 kF1 b1 HR hx0 hx1 hx2
      have f0 := kF2.cell 0
      have f1 := kF2.cell 1
      have f2 := kF2.cell 2
      have f3 := kF2.cell 3
      have f4 := kF2.cell 4
      rcases (by omega : m = 0 ∨ m = 1) with rfl | rfl
      · have HE4 := hidA (HE3.out.trans (if_neg (by omega)))
        clear HE3
        go_upto_region 7 with fail
        refine wp_region_noPanic ?_
        refine wp_region_held_drew (S := fun w' => Ext w w' ∧ w'.cell? ⟨hr, 5, none⟩ = some (.slice C 0 cc)) (by kernel_rfl) ?_ (fun hHeld => ?_)
        · exact ⟨(by repeat (first | exact Ext.refl _ | assumption | refine Ext.setCell ?_ (by first | (simp; done) | (simp; omega)) _ | refine Ext.drewN ?_ _ | refine Ext.alloc ?_ _ | refine Ext.drew ?_ | refine Ext.trans ?_ (by assumption))), r5'⟩
        refine wpAnyH_take (i := 0) (oi := ?o1x0) (v := ?v1x0) ?hi1x0 (by kernel_rfl) ?hf1x0 ?hr1x0 (fun _ _ _ h => h) ?hy1x0 (by assumption) ?rest1x0
        case hi1x0 => (simp only [List.getElem?_toArray, List.getElem?_cons_zero]; exact rfl)
        case hf1x0 => kernel_rfl
        case hr1x0 => kernel_rfl
        case hy1x0 => (refine Or.inl ⟨by rfl, ?_⟩; intro w hSw; (try dsimp only at hSw); go_simp; try with_reducible rfl)
        simp only [put_mk, List.set_cons_succ, List.set_cons_zero]
        refine wpAnyH_take (i := 1) (oi := ?o1x1) (v := ?v1x1) ?hi1x1 (by kernel_rfl) ?hf1x1 ?hr1x1 (fun _ _ _ h => h) ?hy1x1 (by assumption) ?rest1x1
        case hi1x1 => (simp only [List.getElem?_toArray, List.getElem?_cons_succ, List.getElem?_cons_zero]; exact rfl)
        case hf1x1 => kernel_rfl
        case hr1x1 => kernel_rfl
        case hy1x1 => (refine Or.inl ⟨by rfl, ?_⟩; intro w hSw; (try dsimp only at hSw); go_simp; try with_reducible rfl)
        simp only [put_mk, List.set_cons_succ, List.set_cons_zero]
        refine wpAnyH_take (i := 2) (oi := ?o1x2) (v := ?v1x2) ?hi1x2 (by kernel_rfl) ?hf1x2 ?hr1x2 (fun _ _ _ h => h) ?hy1x2 (by assumption) ?rest1x2
        case hi1x2 => (simp only [List.getElem?_toArray, List.getElem?_cons_succ, List.getElem?_cons_zero]; exact rfl)
        case hf1x2 => kernel_rfl
        case hr1x2 => kernel_rfl
        case hy1x2 => (refine Or.inl ⟨by rfl, ?_⟩; intro w hSw; (try dsimp only at hSw); go_simp; try with_reducible rfl)
        simp only [put_mk, List.set_cons_succ, List.set_cons_zero]
        refine wpAnyH_take (i := 3) (oi := ?o1x3) (v := ?v1x3) ?hi1x3 (by kernel_rfl) ?hf1x3 ?hr1x3 (fun _ _ _ h => h) ?hy1x3 (by assumption) ?rest1x3
        case hi1x3 => (simp only [List.getElem?_toArray, List.getElem?_cons_succ, List.getElem?_cons_zero]; exact rfl)
        case hf1x3 => kernel_rfl
        case hr1x3 => kernel_rfl
        case hy1x3 => (refine Or.inl ⟨by rfl, ?_⟩; intro w hSw; (try dsimp only at hSw); go_simp; try with_reducible rfl)
        simp only [put_mk, List.set_cons_succ, List.set_cons_zero]
        refine wpAnyH_take (i := 4) (oi := ?o1x4) (v := ?v1x4) ?hi1x4 (by kernel_rfl) ?hf1x4 ?hr1x4 (fun _ _ _ h => h) ?hy1x4 (by assumption) ?rest1x4
        case hi1x4 => (simp only [List.getElem?_toArray, List.getElem?_cons_succ, List.getElem?_cons_zero]; exact rfl)
        case hf1x4 => kernel_rfl
        case hr1x4 => kernel_rfl
        case hy1x4 => (refine Or.inl ⟨by rfl, ?_⟩; intro w hSw; (try dsimp only at hSw); go_simp; try with_reducible rfl)
        simp only [put_mk, List.set_cons_succ, List.set_cons_zero]
        refine wpAnyH_take (i := 5) (oi := ?o1x5) (v := undef) ?hi1x5 (by kernel_rfl) ?hf1x5 ?hr1x5 (fun _ _ _ h => h) ?hy1x5 (by assumption) ?rest1x5
        case hi1x5 => (simp only [List.getElem?_toArray, List.getElem?_cons_succ, List.getElem?_cons_zero]; exact rfl)
        case hf1x5 => kernel_rfl
        case hr1x5 => kernel_rfl
        case hy1x5 => exact Or.inr ⟨by rfl, rfl⟩
        simp only [put_mk, List.set_cons_succ, List.set_cons_zero]
        refine wpAnyH_take (i := 6) (oi := ?o1x6) (v := undef) ?hi1x6 (by kernel_rfl) ?hf1x6 ?hr1x6 (fun _ _ _ h => h) ?hy1x6 (by assumption) ?rest1x6
        case hi1x6 => (simp only [List.getElem?_toArray, List.getElem?_cons_succ, List.getElem?_cons_zero]; exact rfl)
        case hf1x6 => kernel_rfl
        case hr1x6 => kernel_rfl
        case hy1x6 => exact Or.inr ⟨by rfl, rfl⟩
        simp only [put_mk, List.set_cons_succ, List.set_cons_zero]
        refine wpAnyH_take (i := 7) (oi := ?o1x7) (v := undef) ?hi1x7 (by kernel_rfl) ?hf1x7 ?hr1x7 (fun _ _ _ h => h) ?hy1x7 (by assumption) ?rest1x7
        case hi1x7 => (simp only [List.getElem?_toArray, List.getElem?_cons_succ, List.getElem?_cons_zero]; exact rfl)
        case hf1x7 => kernel_rfl
        case hr1x7 => kernel_rfl
        case hy1x7 => exact Or.inr ⟨by rfl, rfl⟩
        simp only [put_mk, List.set_cons_succ, List.set_cons_zero]
        refine wpAnyH_take (i := 8) (oi := ?o1x8) (v := undef) ?hi1x8 (by kernel_rfl) ?hf1x8 ?hr1x8 (fun _ _ _ h => h) ?hy1x8 (by assumption) ?rest1x8
        case hi1x8 => (simp only [List.getElem?_toArray, List.getElem?_cons_succ, List.getElem?_cons_zero]; exact rfl)
        case hf1x8 => kernel_rfl
        case hr1x8 => kernel_rfl
        case hy1x8 => exact Or.inr ⟨by rfl, rfl⟩
        simp only [put_mk, List.set_cons_succ, List.set_cons_zero]
        refine wpAnyH_take (i := 9) (oi := ?o1x9) (v := undef) ?hi1x9 (by kernel_rfl) ?hf1x9 ?hr1x9 (fun _ _ _ h => h) ?hy1x9 (by assumption) ?rest1x9
        case hi1x9 => (simp only [List.getElem?_toArray, List.getElem?_cons_succ, List.getElem?_cons_zero]; exact rfl)
        case hf1x9 => kernel_rfl
        case hr1x9 => kernel_rfl
        case hy1x9 => exact Or.inr ⟨by rfl, rfl⟩
        simp only [put_mk, List.set_cons_succ, List.set_cons_zero]
        refine wpAnyH_take (i := 10) (oi := ?o1x10) (v := undef) ?hi1x10 (by kernel_rfl) ?hf1x10 ?hr1x10 (fun _ _ _ h => h) ?hy1x10 (by assumption) ?rest1x10
        case hi1x10 => (simp only [List.getElem?_toArray, List.getElem?_cons_succ, List.getElem?_cons_zero]; exact rfl)
        case hf1x10 => kernel_rfl
        case hr1x10 => kernel_rfl
        case hy1x10 => exact Or.inr ⟨by rfl, rfl⟩
        simp only [put_mk, List.set_cons_succ, List.set_cons_zero]
        refine wpAnyH_take (i := 11) (oi := ?o1x11) (v := undef) ?hi1x11 (by kernel_rfl) ?hf1x11 ?hr1x11 (fun _ _ _ h => h) ?hy1x11 (by assumption) ?rest1x11
        case hi1x11 => (simp only [List.getElem?_toArray, List.getElem?_cons_succ, List.getElem?_cons_zero]; exact rfl)
        case hf1x11 => kernel_rfl
        case hr1x11 => kernel_rfl
        case hy1x11 => exact Or.inr ⟨by rfl, rfl⟩
        simp only [put_mk, List.set_cons_succ, List.set_cons_zero]
        refine wpAnyH_take (i := 12) (oi := ?o1x12) (v := undef) ?hi1x12 (by kernel_rfl) ?hf1x12 ?hr1x12 (fun _ _ _ h => h) ?hy1x12 (by assumption) ?rest1x12
        case hi1x12 => (simp only [List.getElem?_toArray, List.getElem?_cons_succ, List.getElem?_cons_zero]; exact rfl)
        case hf1x12 => kernel_rfl
        case hr1x12 => kernel_rfl
        case hy1x12 => exact Or.inr ⟨by rfl, rfl⟩
        simp only [put_mk, List.set_cons_succ, List.set_cons_zero]
        refine wpAnyH_take (i := 13) (oi := ?o1x13) (v := ?v1x13) ?hi1x13 (by kernel_rfl) ?hf1x13 ?hr1x13 (fun _ _ _ h => h) ?hy1x13 (by assumption) ?rest1x13
        case hi1x13 => (simp only [List.getElem?_toArray, List.getElem?_cons_succ, List.getElem?_cons_zero]; exact rfl)
        case hf1x13 => kernel_rfl
        case hr1x13 => kernel_rfl
        case hy1x13 => (refine Or.inl ⟨by rfl, ?_⟩; intro w hSw; (try dsimp only at hSw); go_simp; try with_reducible rfl)
        simp only [put_mk, List.set_cons_succ, List.set_cons_zero]
        refine wpAnyH_done (by kernel_rfl) ?_ _
        refine NoPanic.normal ?_
        go_wp2
        go_ret
        exact ⟨ret_i HE4.out.symm, hHeld.1⟩
      · obtain ⟨B, c', q1, q2, q3⟩ := HC.out.one rfl
        obtain ⟨ad, rfl, hbk, hc⟩ := q1 (by simp)
        have d0 := hc 0 _ rfl
        have d1 := hc 1 _ rfl
        have d2 := hc 2 _ rfl
        have d3 := hc 3 _ rfl
        have d4 := hc 4 _ rfl
        rw [show ad.add 0 = ad from rfl] at d0
        rw [add_pos _ (by omega)] at d1 d2 d3 d4
        have D0 := (hxx.cell ad hbk).trans d0
        have D1 := (hxx.cell ⟨ad.block, ad.off + 1, none⟩ hbk).trans d1
        have D2 := (hxx.cell ⟨ad.block, ad.off + 2, none⟩ hbk).trans d2
        have D3 := (hxx.cell ⟨ad.block, ad.off + 3, none⟩ hbk).trans d3
        have D4 := (hxx.cell ⟨ad.block, ad.off + 4, none⟩ hbk).trans d4
        clear d0 d1 d2 d3 d4
        go_upto_region 7 with fail
        by_cases hx : X' = X
        · by_cases hy : Y' = Y
          · by_cases hw : W' = W
            · by_cases hh : H' = H
              · have HE4 := hidA (HE3.out.trans (if_neg (by simp [hx, hy, hw, hh])))
                subst hx hy hw hh
                clear HE3
                go_region_held3 (fun w' => Ext w w' ∧ w'.cell? ⟨hr, 5, none⟩ = some (.slice (some ad) 1 cc) ∧ w'.cell? ad = some (.int .i64 X') ∧ w'.cell? ⟨ad.block, ad.off + 1, none⟩ = some (.int .i64 Y') ∧ w'.cell? ⟨ad.block, ad.off + 2, none⟩ = some (.int .i64 W') ∧ w'.cell? ⟨ad.block, ad.off + 3, none⟩ = some (.int .i64 H') ∧ w'.cell? ⟨hf, 0, none⟩ = some (.int .i64 X') ∧ w'.cell? ⟨hf, 1, none⟩ = some (.int .i64 Y') ∧ w'.cell? ⟨hf, 2, none⟩ = some (.int .i64 W') ∧ w'.cell? ⟨hf, 3, none⟩ = some (.int .i64 H')) (first | (go_keep; done) | (exact ⟨(by repeat (first | exact Ext.refl _ | assumption | refine Ext.setCell ?_ (by first | (simp; done) | (simp; omega)) _ | refine Ext.drewN ?_ _ | refine Ext.alloc ?_ _ | refine Ext.drew ?_ | refine Ext.trans ?_ (by assumption))), r5', D0, D1, D2, D3, f0, f1, f2, f3⟩)) (first | fail)
                go_wp2
                all_goals first
                  | (go_ret; go_split_ands; exact ⟨ret_i HE4.out.symm, (by assumption)⟩)
                  | (exfalso; simp_all; done)
              · have HE4 := hidA (HE3.out.trans (if_pos ⟨rfl, by simp [hh]⟩))
                subst hx hy hw
                have bh : (H' == H) = false := by simpa using hh
                clear HE3
                go_region_held3 (fun w' => Ext w w' ∧ w'.cell? ⟨hr, 5, none⟩ = some (.slice (some ad) 1 cc) ∧ w'.cell? ad = some (.int .i64 X') ∧ w'.cell? ⟨ad.block, ad.off + 1, none⟩ = some (.int .i64 Y') ∧ w'.cell? ⟨ad.block, ad.off + 2, none⟩ = some (.int .i64 W') ∧ w'.cell? ⟨ad.block, ad.off + 3, none⟩ = some (.int .i64 H') ∧ w'.cell? ⟨hf, 0, none⟩ = some (.int .i64 X') ∧ w'.cell? ⟨hf, 1, none⟩ = some (.int .i64 Y') ∧ w'.cell? ⟨hf, 2, none⟩ = some (.int .i64 W') ∧ w'.cell? ⟨hf, 3, none⟩ = some (.int .i64 H)) (first | (go_keep; done) | (exact ⟨(by repeat (first | exact Ext.refl _ | assumption | refine Ext.setCell ?_ (by first | (simp; done) | (simp; omega)) _ | refine Ext.drewN ?_ _ | refine Ext.alloc ?_ _ | refine Ext.drew ?_ | refine Ext.trans ?_ (by assumption))), r5', D0, D1, D2, D3, f0, f1, f2, f3⟩)) (first | fail)
                go_wp2
                all_goals first
                  | (go_ret; go_split_ands; exact ⟨ret_i HE4.out.symm, (by assumption)⟩)
                  | (exfalso; simp_all; done)
            · have HE4 := hidA (HE3.out.trans (if_pos ⟨rfl, by simp [hw]⟩))
              subst hx hy
              have bh : (W' == W) = false := by simpa using hw
              clear HE3
              go_region_held3 (fun w' => Ext w w' ∧ w'.cell? ⟨hr, 5, none⟩ = some (.slice (some ad) 1 cc) ∧ w'.cell? ad = some (.int .i64 X') ∧ w'.cell? ⟨ad.block, ad.off + 1, none⟩ = some (.int .i64 Y') ∧ w'.cell? ⟨ad.block, ad.off + 2, none⟩ = some (.int .i64 W') ∧ w'.cell? ⟨ad.block, ad.off + 3, none⟩ = some (.int .i64 H') ∧ w'.cell? ⟨hf, 0, none⟩ = some (.int .i64 X') ∧ w'.cell? ⟨hf, 1, none⟩ = some (.int .i64 Y') ∧ w'.cell? ⟨hf, 2, none⟩ = some (.int .i64 W) ∧ w'.cell? ⟨hf, 3, none⟩ = some (.int .i64 H)) (first | (go_keep; done) | (exact ⟨(by repeat (first | exact Ext.refl _ | assumption | refine Ext.setCell ?_ (by first | (simp; done) | (simp; omega)) _ | refine Ext.drewN ?_ _ | refine Ext.alloc ?_ _ | refine Ext.drew ?_ | refine Ext.trans ?_ (by assumption))), r5', D0, D1, D2, D3, f0, f1, f2, f3⟩)) (first | fail)
              go_wp2
              all_goals first
                | (go_ret; go_split_ands; exact ⟨ret_i HE4.out.symm, (by assumption)⟩)
                | (exfalso; simp_all; done)
          · have HE4 := hidA (HE3.out.trans (if_pos ⟨rfl, by simp [hy]⟩))
            subst hx
            have bh : (Y' == Y) = false := by simpa using hy
            clear HE3
            go_region_held3 (fun w' => Ext w w' ∧ w'.cell? ⟨hr, 5, none⟩ = some (.slice (some ad) 1 cc) ∧ w'.cell? ad = some (.int .i64 X') ∧ w'.cell? ⟨ad.block, ad.off + 1, none⟩ = some (.int .i64 Y') ∧ w'.cell? ⟨ad.block, ad.off + 2, none⟩ = some (.int .i64 W') ∧ w'.cell? ⟨ad.block, ad.off + 3, none⟩ = some (.int .i64 H') ∧ w'.cell? ⟨hf, 0, none⟩ = some (.int .i64 X') ∧ w'.cell? ⟨hf, 1, none⟩ = some (.int .i64 Y) ∧ w'.cell? ⟨hf, 2, none⟩ = some (.int .i64 W) ∧ w'.cell? ⟨hf, 3, none⟩ = some (.int .i64 H)) (first | (go_keep; done) | (exact ⟨(by repeat (first | exact Ext.refl _ | assumption | refine Ext.setCell ?_ (by first | (simp; done) | (simp; omega)) _ | refine Ext.drewN ?_ _ | refine Ext.alloc ?_ _ | refine Ext.drew ?_ | refine Ext.trans ?_ (by assumption))), r5', D0, D1, D2, D3, f0, f1, f2, f3⟩)) (first | fail)
            go_wp2
            all_goals first
              | (go_ret; go_split_ands; exact ⟨ret_i HE4.out.symm, (by assumption)⟩)
              | (exfalso; simp_all; done)
        · have HE4 := hidA (HE3.out.trans (if_pos ⟨rfl, by simp [hx]⟩))
          have bh : (X' == X) = false := by simpa using hx
          clear HE3
          go_region_held3 (fun w' => Ext w w' ∧ w'.cell? ⟨hr, 5, none⟩ = some (.slice (some ad) 1 cc) ∧ w'.cell? ad = some (.int .i64 X') ∧ w'.cell? ⟨ad.block, ad.off + 1, none⟩ = some (.int .i64 Y') ∧ w'.cell? ⟨ad.block, ad.off + 2, none⟩ = some (.int .i64 W') ∧ w'.cell? ⟨ad.block, ad.off + 3, none⟩ = some (.int .i64 H') ∧ w'.cell? ⟨hf, 0, none⟩ = some (.int .i64 X) ∧ w'.cell? ⟨hf, 1, none⟩ = some (.int .i64 Y) ∧ w'.cell? ⟨hf, 2, none⟩ = some (.int .i64 W) ∧ w'.cell? ⟨hf, 3, none⟩ = some (.int .i64 H)) (first | (go_keep; done) | (exact ⟨(by repeat (first | exact Ext.refl _ | assumption | refine Ext.setCell ?_ (by first | (simp; done) | (simp; omega)) _ | refine Ext.drewN ?_ _ | refine Ext.alloc ?_ _ | refine Ext.drew ?_ | refine Ext.trans ?_ (by assumption))), r5', D0, D1, D2, D3, f0, f1, f2, f3⟩)) (first | fail)
          go_wp2
          all_goals first
            | (go_ret; go_split_ands; exact ⟨ret_i HE4.out.symm, (by assumption)⟩)
            | (exfalso; simp_all; done)
    · have b1 : (re != 0) = true := by simpa using hre
      have HE3 := hidA (HE2.out.trans (if_pos (by simpa using hre)))
      clear HE2 hre Hm1
      go_wp2_with (go_at_call 16; refine ((HR _ (hx0.trans hx1)).out).mono ?_; rintro e w2 ⟨rfl, hx2⟩)
      go_ret
      exact ⟨ret_i HE3.out.symm, (hx0.trans hx1).trans hx2⟩
  · have b0 : (fe != 0) = true := by simpa using hfe
    have HE2 := hidA (hE.out.trans (if_pos (by simpa using hfe)))
    clear hE hfe
    go_wp2_with (go_at_call 49; refine ((HF _ hx0).out).mono ?_; rintro e w1 ⟨rfl, hx1⟩)
    go_ret
    exact ⟨ret_i HE2.out.symm, hx0.trans hx1⟩
end Go.Proofs.Ytpgdinpckolfpaa

namespace Go.Proofs.Ytpgdinpckolfpaa
open Go.RowKit

theorem field_zero {x y w h : Int} {l : List Nat} (e : fieldE x y w h l = 0) : regE x y w h = 0 ∧ (l.length : Int) = w * h ∧ numE l = 0 := by
  unfold fieldE at e
  split at e
  · rename_i h1; exact absurd e h1
  · rename_i h1
    split at e
    · cases e
    · rename_i h2
      exact ⟨by simpa using h1, by simpa using h2, e⟩
theorem zero_f : valI 0 = 0 := by decide +kernel
theorem k10_f : valI 1149239296 = 2 ^ 159 := by decide +kernel
theorem outB_no {b : Nat} (hb : Fin b) (h : outB b = false) : Bd 10 b ∧ 0 ≤ valI b ∧ valI b ≤ 2 ^ 159 := by
  unfold outB at h
  rw [lt_val hb (by unfold Fin; omega), gt_val hb (by unfold Fin; omega), zero_f, k10_f] at h
  simp only [Bool.or_eq_false_iff, decide_eq_false_iff_not] at h
  refine ⟨?_, by omega, by omega⟩
  rw [bd_valI (by omega)]
  omega
set_option maxRecDepth 10000 in
theorem grnd_ok {X Y W H : Int} {lf : List Nat} {gr wt br de : Nat} {sp : Int} {m : Nat} {X' Y' W' H' : Int} {l : List Nat} {C : Option Addr} {w : World} (h : grndE X Y W H lf gr wt br de sp m X' Y' W' H' l = 0) (hC : CoP w C m X' Y' W' H' l) :
    ∃ (Wn Hn : Nat) (R : RlR), W = Wn ∧ H = Hn ∧ Reg X Y Wn Hn ∧ lf.length = Wn * Hn ∧ (∀ j, j < Wn * Hn → Bd 20 (lf.getD j 0)) ∧ R.gr = gr ∧ R.wt = wt ∧ R.br = br ∧ R.de = de ∧ (R.sp : Int) = sp ∧ RlOk R (Wn * Hn) ∧ CoR w C m R.co ∧ m ≤ 1 := by
  have hm := grnd_m h
  unfold grndE at h
  split at h
  · rename_i h1; exact absurd h h1
  · rename_i hf
    have hf' : fieldE X Y W H lf = 0 := by simpa using hf
    split at h
    · rename_i h1; exact absurd h h1
    · rename_i hr
      have hr' : rulesE gr wt br de sp m X' Y' W' H' l = 0 := by simpa using hr
      split at h
      · cases h
      · rename_i hp
        obtain ⟨f1, f2, f3⟩ := field_zero hf'
        obtain ⟨Wn, Hn, rfl, rfl, hg⟩ := Reg.of_zero f1
        have hlen : lf.length = Wn * Hn := by have h9 : (lf.length : Int) = ((Wn * Hn : Nat) : Int) := by rw [f2, Int.natCast_mul]
                                              omega
        have hn4 : ∀ b ∈ lf, Bd 20 b := fun b hb => hgt_bd ((numE_zero f3).2 b hb)
        unfold rulesE at hr'
        split at hr'
        · rename_i h1; exact absurd hr' h1
        · rename_i hnm
          have hnm' : numE [gr, wt, br, de] = 0 := by simpa using hnm
          have hb4 := fun b hb => hgt_bd ((numE_zero hnm').2 b hb)
          have b1 := hb4 gr (by simp)
          have b2 := hb4 wt (by simp)
          have b3 := hb4 br (by simp)
          have b4 := hb4 de (by simp)
          split at hr'
          · cases hr'
          · rename_i ho
            split at hr'
            · cases hr'
            · rename_i hbr
              have o1 := outB_no (bd_Fin b1 (by omega)) (by simpa using fun e => ho (.inl e))
              have o2 := outB_no (bd_Fin b2 (by omega)) (by simpa using fun e => ho (.inr (.inl e)))
              have o4 := outB_no (bd_Fin b4 (by omega)) (by simpa using fun e => ho (.inr (.inr e)))
              have hlt : lt br 1065353216 = false := by simpa using fun e => hbr (.inl e)
              have hgt : gt br 1149239296 = false := by simpa using fun e => hbr (.inr (.inl e))
              have hsp : spanB sp = false := by simpa using fun e => hbr (.inr (.inr e))
              rw [lt_val (bd_Fin b3 (by omega)) (by unfold Fin; omega), one_val] at hlt
              rw [gt_val (bd_Fin b3 (by omega)) (by unfold Fin; omega), k10_f] at hgt
              simp only [decide_eq_false_iff_not] at hlt hgt
              have hs : 0 ≤ sp ∧ sp ≤ 12 := by
                unfold spanB at hsp
                simp at hsp
                omega
              have hco : m = 1 → l.length = Wn * Hn ∧ ∀ j, j < Wn * Hn → Bd 10 (l.getD j 0) ∧ 0 ≤ valI (l.getD j 0) := fun hm1 => by
                unfold coE at hr'
                rw [if_neg (by omega), if_neg (by omega)] at hr'
                split at hr'
                · rename_i h1; exact absurd hr' h1
                · rename_i hf2
                  split at hr'
                  · cases hr'
                  · rename_i hany
                    obtain ⟨g1, g2, g3⟩ := field_zero (show fieldE X' Y' W' H' l = 0 by simpa using hf2)
                    have hreg : X' = X ∧ Y' = Y ∧ W' = (Wn : Int) ∧ H' = (Hn : Int) := by
                      rcases Classical.em (X' = X ∧ Y' = Y ∧ W' = (Wn : Int) ∧ H' = (Hn : Int)) with h8 | h8
                      · exact h8
                      · exact absurd ⟨hm1, h8⟩ hp
                    obtain ⟨_, _, e3, e4⟩ := hreg
                    have hl2 : l.length = Wn * Hn := by
                      have h9 : (l.length : Int) = ((Wn * Hn : Nat) : Int) := by rw [g2, e3, e4, Int.natCast_mul]
                      omega
                    refine ⟨hl2, fun j hj => ?_⟩
                    have hjl : j < l.length := by rw [hl2]; exact hj
                    have hmem : l.getD j 0 ∈ l := by
                      rw [show l.getD j 0 = l[j] by simp [List.getD_eq_getElem?_getD, hjl]]
                      exact List.getElem_mem hjl
                    have hb5 := hgt_bd ((numE_zero g3).2 _ hmem)
                    have h9 := outB_no (bd_Fin hb5 (by omega)) (by
                      cases he : outB (l.getD j 0) with
                      | false => rfl
                      | true => exact absurd (List.any_eq_true.2 ⟨_, hmem, he⟩) hany)
                    exact ⟨h9.1, h9.2.1⟩
              refine ⟨Wn, Hn, ⟨gr, wt, br, de, sp.toNat, if m = 1 then some l else none⟩, rfl, rfl, hg, hlen, fun j hj => ?_, rfl, rfl, rfl, rfl, by show ((sp.toNat : Nat) : Int) = sp; omega, ?_, ?_, hm⟩
              · have hjl : j < lf.length := by rw [hlen]; exact hj
                refine hn4 _ ?_
                rw [show lf.getD j 0 = lf[j] by simp [List.getD_eq_getElem?_getD, hjl]]
                exact List.getElem_mem hjl
              · constructor
                · exact b1
                · exact o1.2.2
                · exact o2.1
                · exact o2.2.1
                · show Bd 10 br
                  rw [bd_valI (by omega)]
                  omega
                · show 2 ^ 149 ≤ valI br
                  omega
                · exact o4.1
                · exact o4.2.1
                · show sp.toNat ≤ 12
                  omega
                · intro l' hl'
                  dsimp only at hl'
                  split at hl'
                  · rename_i hm1
                    injection hl' with e
                    rw [← e]
                    exact (hco hm1).1
                  · cases hl'
                · intro l' hl'
                  dsimp only at hl'
                  split at hl'
                  · rename_i hm1
                    injection hl' with e
                    rw [← e]
                    exact (hco hm1).2
                  · cases hl'
              · show CoR w C m (if m = 1 then some l else none)
                by_cases hm1 : m = 1
                · rw [if_pos hm1]
                  obtain ⟨B, c', q1, q2, _⟩ := hC.one hm1
                  exact ⟨hm1, X', Y', W', H', B, c', q1, q2⟩
                · rw [if_neg hm1]
                  show m = 0
                  omega
end Go.Proofs.Ytpgdinpckolfpaa

namespace Go.Proofs.Ytpgdinpckolfpaa
open Go.RowKit
attribute [local go_sem ↓] Go.wp_at_zero Go.wp_at_succ
attribute [local go_sem] run_store_float

theorem inR_cell {X Y x y : Int} {Wn Hn : Nat} (h : InR X Y Wn Hn x y) : ∃ k, k < Wn * Hn ∧ x = X + ((k % Wn : Nat) : Int) ∧ y = Y + ((k / Wn : Nat) : Int) := by
  unfold InR at h
  obtain ⟨a, ha⟩ := Int.eq_ofNat_of_zero_le (show 0 ≤ x - X by omega)
  obtain ⟨b, hb⟩ := Int.eq_ofNat_of_zero_le (show 0 ≤ y - Y by omega)
  have h1 : a < Wn := by omega
  have h2 : b < Hn := by omega
  refine ⟨b * Wn + a, ?_, ?_, ?_⟩
  · calc b * Wn + a < b * Wn + Wn := by omega
      _ = (b + 1) * Wn := by rw [Nat.add_mul, Nat.one_mul]
      _ ≤ Hn * Wn := Nat.mul_le_mul_right _ h2
      _ = Wn * Hn := Nat.mul_comm _ _
  · rw [Nat.mul_comm, Nat.mul_add_mod, Nat.mod_eq_of_lt h1]; omega
  · rw [Nat.mul_comm, Nat.mul_add_div (by omega), Nat.div_eq_of_lt h1]; omega
set_option maxRecDepth 100000 in
set_option maxHeartbeats 6400000 in
theorem StepCost_bad (X Y W H : Int) (A : Option Addr) (n c : Nat) (lf : List Nat) (gr wt br de : Nat) (sp : Int) (C : Option Addr) (m cc : Nat) (X' Y' W' H' : Int) (l : List Nat) (ax ay bx by' : Int) (w : World) (hn : lf.length = n) (hV : Rd w A (flt lf)) (hb : n ≤ 140737488351232) (hC : CoP w C m X' Y' W' H' l) (hm : m ≤ 140737488351232) (hE : grndE X Y W H lf gr wt br de sp m X' Y' W' H' l ≠ 0) :
    Calls Try.prog 14 #[.agg #[.int .i64 X, .int .i64 Y, .int .i64 W, .int .i64 H, .slice A n c], .agg #[.float .f32 gr, .float .f32 wt, .float .f32 br, .float .f32 de, .int .i64 sp, .slice C m cc], .agg #[.int .i64 ax, .int .i64 ay], .agg #[.int .i64 bx, .int .i64 by']] w fun e w' => e = .returned (.tuple #[.float .f32 0, .bool false, .int .i64 (grndE X Y W H lf gr wt br de sp m X' Y' W' H' l)]) ∧ Ext w w' := by
  have HC := fun (w' : World) (h : Ext w w') => hidA (chk_any X Y W H A n c lf gr wt br de sp C m cc X' Y' W' H' l w' hn (hV.ext h) hb (hC.ext h) hm)
  have hne : (grndE X Y W H lf gr wt br de sp m X' Y' W' H' l != 0) = true := by simpa using hE
  generalize grndE X Y W H lf gr wt br de sp m X' Y' W' H' l = E at *
  clear hn hV hb hC hm hE
  go_enter Try.func14, Try.ntmps14
  go_upto_region 1 with fail
  obtain ⟨w0, hw0⟩ : ∃ w0, w0 = (((w.alloc (.cells #[.int .i64 X, .int .i64 Y, .int .i64 W, .int .i64 H, .slice A n c] 26)).alloc (.cells #[.float .f32 gr, .float .f32 wt, .float .f32 br, .float .f32 de, .int .i64 sp, .slice C m cc] 30)).alloc (.cells #[.int .i64 ax, .int .i64 ay] 32)).alloc (.cells #[.int .i64 bx, .int .i64 by'] 32) := ⟨_, rfl⟩
  have kF : Bk w0 w.heap.size 26 #[.int .i64 X, .int .i64 Y, .int .i64 W, .int .i64 H, .slice A n c] := by rw [hw0]; exact (((Bk.new' rfl).alloc _).alloc _).alloc _
  have kR : Bk w0 (w.heap.size + 1) 30 #[.float .f32 gr, .float .f32 wt, .float .f32 br, .float .f32 de, .int .i64 sp, .slice C m cc] := by rw [hw0]; exact ((Bk.new' (by simp)).alloc _).alloc _
  have kA : Bk w0 (w.heap.size + 1 + 1) 32 #[.int .i64 ax, .int .i64 ay] := by rw [hw0]; exact (Bk.new' (by simp)).alloc _
  have kB : Bk w0 (w.heap.size + 1 + 1 + 1) 32 #[.int .i64 bx, .int .i64 by'] := by rw [hw0]; exact Bk.new' (by simp)
  have hx0 : Ext w w0 := by rw [hw0]; exact ((((Ext.refl w).alloc _).alloc _).alloc _).alloc _
  rw [← hw0]
  clear hw0
  generalize w.heap.size + 1 + 1 + 1 = hb at *
  generalize w.heap.size + 1 + 1 = ha at *
  generalize w.heap.size + 1 = hr at *
  generalize hfe : w.heap.size = hf at *
  clear hfe
  have f0 := kF.cell 0
  have f1 := kF.cell 1
  have f2 := kF.cell 2
  have f3 := kF.cell 3
  have f4 := kF.cell 4
  have r0 := kR.cell 0
  have r1 := kR.cell 1
  have r2 := kR.cell 2
  have r3 := kR.cell 3
  have r4 := kR.cell 4
  have r5 := kR.cell 5
  clear kF kR kA kB
  go_wp2_with (go_at_call 63; refine ((HC _ hx0).out).mono ?_; rintro e w1 ⟨rfl, hx1⟩)
  go_ret3
  exact ⟨rfl, hx0.trans hx1⟩
set_option maxRecDepth 100000 in
set_option maxHeartbeats 6400000 in
theorem StepCost_out (X Y : Int) (Wn Hn : Nat) (A : Option Addr) (N c : Nat) (lf : List Nat) (gr wt br de : Nat) (sp : Int) (C : Option Addr) (m cc : Nat) (X' Y' W' H' : Int) (l : List Nat) (ax ay bx by' : Int) (w : World) (hr : Reg X Y Wn Hn) (hn : lf.length = N) (hV : Rd w A (flt lf)) (hb : N ≤ 140737488351232) (hC : CoP w C m X' Y' W' H' l) (hm : m ≤ 140737488351232) (hE : grndE X Y Wn Hn lf gr wt br de sp m X' Y' W' H' l = 0) (hi : insE X Y Wn Hn [(ax, ay), (bx, by')] ≠ 0) :
    Calls Try.prog 14 #[.agg #[.int .i64 X, .int .i64 Y, .int .i64 (Wn : Int), .int .i64 (Hn : Int), .slice A N c], .agg #[.float .f32 gr, .float .f32 wt, .float .f32 br, .float .f32 de, .int .i64 sp, .slice C m cc], .agg #[.int .i64 ax, .int .i64 ay], .agg #[.int .i64 bx, .int .i64 by']] w fun e w' => e = .returned (.tuple #[.float .f32 0, .bool false, .int .i64 (insE X Y Wn Hn [(ax, ay), (bx, by')])]) ∧ Ext w w' := by
  have HC := fun (w' : World) (h : Ext w w') => hidA (chk_any X Y Wn Hn A N c lf gr wt br de sp C m cc X' Y' W' H' l w' hn (hV.ext h) hb (hC.ext h) hm)
  rw [hE] at HC
  have HI := fun (w' : World) (B : Option Addr) (h : Rd w' B (ptv [(ax, ay), (bx, by')])) => hidA (inside_any X Y Wn Hn A B N c 2 2 [(ax, ay), (bx, by')] w' hr.ok rfl h (by omega))
  have hne : (insE X Y Wn Hn [(ax, ay), (bx, by')] != 0) = true := by simpa using hi
  generalize insE X Y Wn Hn [(ax, ay), (bx, by')] = E at *
  clear hn hV hb hC hm hE hi hr
  go_enter Try.func14, Try.ntmps14
  go_upto_region 1 with fail
  obtain ⟨w0, hw0⟩ : ∃ w0, w0 = (((w.alloc (.cells #[.int .i64 X, .int .i64 Y, .int .i64 (Wn : Int), .int .i64 (Hn : Int), .slice A N c] 26)).alloc (.cells #[.float .f32 gr, .float .f32 wt, .float .f32 br, .float .f32 de, .int .i64 sp, .slice C m cc] 30)).alloc (.cells #[.int .i64 ax, .int .i64 ay] 32)).alloc (.cells #[.int .i64 bx, .int .i64 by'] 32) := ⟨_, rfl⟩
  have kF : Bk w0 w.heap.size 26 #[.int .i64 X, .int .i64 Y, .int .i64 (Wn : Int), .int .i64 (Hn : Int), .slice A N c] := by rw [hw0]; exact (((Bk.new' rfl).alloc _).alloc _).alloc _
  have kR : Bk w0 (w.heap.size + 1) 30 #[.float .f32 gr, .float .f32 wt, .float .f32 br, .float .f32 de, .int .i64 sp, .slice C m cc] := by rw [hw0]; exact ((Bk.new' (by simp)).alloc _).alloc _
  have kA : Bk w0 (w.heap.size + 1 + 1) 32 #[.int .i64 ax, .int .i64 ay] := by rw [hw0]; exact (Bk.new' (by simp)).alloc _
  have kB : Bk w0 (w.heap.size + 1 + 1 + 1) 32 #[.int .i64 bx, .int .i64 by'] := by rw [hw0]; exact Bk.new' (by simp)
  have hx0 : Ext w w0 := by rw [hw0]; exact ((((Ext.refl w).alloc _).alloc _).alloc _).alloc _
  rw [← hw0]
  clear hw0
  generalize w.heap.size + 1 + 1 + 1 = hb at *
  generalize w.heap.size + 1 + 1 = ha at *
  generalize w.heap.size + 1 = hr at *
  generalize hfe : w.heap.size = hf at *
  clear hfe
  have f0 := kF.cell 0
  have f1 := kF.cell 1
  have f2 := kF.cell 2
  have f3 := kF.cell 3
  have f4 := kF.cell 4
  have r0 := kR.cell 0
  have r1 := kR.cell 1
  have r2 := kR.cell 2
  have r3 := kR.cell 3
  have r4 := kR.cell 4
  have r5 := kR.cell 5
  go_upto_region 4 with (go_at_call 63; refine ((HC _ hx0).out).mono ?_; rintro e w1 ⟨rfl, hx1⟩)
  have kF1 := kF.ext hx1
  have kA1 := kA.ext hx1
  have kB1 := kB.ext hx1
  have hxa := hx0.trans hx1
  clear f0 f1 f2 f3 f4 r0 r1 r2 r3 r4 r5 kF kR kA kB hx0 hx1 HC
  have f0 := kF1.cell 0
  have f1 := kF1.cell 1
  have f2 := kF1.cell 2
  have f3 := kF1.cell 3
  have f4 := kF1.cell 4
  have a0 := kA1.cell 0
  have a1 := kA1.cell 1
  have b0 := kB1.cell 0
  have b1 := kB1.cell 1
  go_wp2_with (go_at_call 64; refine ((HI _ _ (Rd.new rfl rfl)).out).mono ?_; rintro e w2 ⟨rfl, hx2⟩)
  go_ret3
  exact ⟨rfl, hxa.trans (by repeat (first | exact Ext.refl _ | assumption | refine Ext.setCell ?_ (by first | (simp; done) | (simp; omega)) _ | refine Ext.drewN ?_ _ | refine Ext.alloc ?_ _ | refine Ext.drew ?_ | refine Ext.trans ?_ (by assumption)))⟩
set_option maxRecDepth 100000 in
set_option maxHeartbeats 6400000 in
theorem StepCost_ok (X Y : Int) (Wn Hn : Nat) (A : Option Addr) (N c : Nat) (R : RlR) (C : Option Addr) (m cc k t : Nat) (l : List Nat) (X' Y' W' H' : Int) (lc : List Nat) (w : World)
    (hr : Reg X Y Wn Hn) (hN : N = Wn * Hn) (hR : RlOk R N) (hl : l.length = N) (hh : ∀ j, j < N → Bd 20 (l.getD j 0)) (hk : k < N) (ht : t < N) (hV : Rd w A (flt l)) (hC : CoR w C m R.co) (hP : CoP w C m X' Y' W' H' lc) (hg : grndE X Y Wn Hn l R.gr R.wt R.br R.de R.sp m X' Y' W' H' lc = 0) :
    Calls Try.prog 14 #[.agg #[.int .i64 X, .int .i64 Y, .int .i64 (Wn : Int), .int .i64 (Hn : Int), .slice A N c], .agg #[.float .f32 R.gr, .float .f32 R.wt, .float .f32 R.br, .float .f32 R.de, .int .i64 (R.sp : Int), .slice C m cc], .agg #[.int .i64 (X + ((k % Wn : Nat) : Int)), .int .i64 (Y + ((k / Wn : Nat) : Int))], .agg #[.int .i64 (X + ((t % Wn : Nat) : Int)), .int .i64 (Y + ((t / Wn : Nat) : Int))]] w fun e w' => e = .returned (.tuple #[.float .f32 ((stepF R (fun j => l.getD j 0) Wn Hn k t).getD 0), .bool (stepF R (fun j => l.getD j 0) Wn Hn k t).isSome, .int .i64 0]) ∧ Ext w w' := by
  have hm := grnd_m hg
  have hN6 : N ≤ 65536 := by rw [hN]; exact hr.n
  have HC := fun (w' : World) (h : Ext w w') => hidA (chk_any X Y Wn Hn A N c l R.gr R.wt R.br R.de R.sp C m cc X' Y' W' H' lc w' hl (hV.ext h) (by omega) (hP.ext h) (by omega))
  rw [hg] at HC
  have hi1 := cpt_in hr hN hk
  have hi2 := cpt_in hr hN ht
  have HS := fun (w' : World) (h : Ext w w') => hidA (gstep_any X Y Wn Hn A N c R C m cc k t l w' hr hN hR hl hh hk ht (hV.ext h) (hC.ext h))
  unfold gcells stV at HS
  generalize (stepF R (fun j => l.getD j 0) Wn Hn k t).getD 0 = sv at *
  generalize (stepF R (fun j => l.getD j 0) Wn Hn k t).isSome = sb at *
  generalize X + ((k % Wn : Nat) : Int) = ax at *
  generalize Y + ((k / Wn : Nat) : Int) = ay at *
  generalize X + ((t % Wn : Nat) : Int) = bx at *
  generalize Y + ((t / Wn : Nat) : Int) = by' at *
  have HI := fun (w' : World) (B : Option Addr) (h : Rd w' B (ptv [(ax, ay), (bx, by')])) => hidA (inside_any X Y Wn Hn A B N c 2 2 [(ax, ay), (bx, by')] w' hr.ok rfl h (by omega))
  have hi0 : insE X Y Wn Hn [(ax, ay), (bx, by')] = 0 := by
    unfold insE
    rw [if_pos]
    simpa using And.intro hi1 hi2
  rw [hi0] at HI
  clear hm hN6 hi1 hi2 hi0 hr hN hR hl hh hk ht hV hC hP hg
  go_enter Try.func14, Try.ntmps14
  go_upto_region 1 with fail
  obtain ⟨w0, hw0⟩ : ∃ w0, w0 = (((w.alloc (.cells #[.int .i64 X, .int .i64 Y, .int .i64 (Wn : Int), .int .i64 (Hn : Int), .slice A N c] 26)).alloc (.cells #[.float .f32 R.gr, .float .f32 R.wt, .float .f32 R.br, .float .f32 R.de, .int .i64 (R.sp : Int), .slice C m cc] 30)).alloc (.cells #[.int .i64 ax, .int .i64 ay] 32)).alloc (.cells #[.int .i64 bx, .int .i64 by'] 32) := ⟨_, rfl⟩
  have kF : Bk w0 w.heap.size 26 #[.int .i64 X, .int .i64 Y, .int .i64 (Wn : Int), .int .i64 (Hn : Int), .slice A N c] := by rw [hw0]; exact (((Bk.new' rfl).alloc _).alloc _).alloc _
  have kR : Bk w0 (w.heap.size + 1) 30 #[.float .f32 R.gr, .float .f32 R.wt, .float .f32 R.br, .float .f32 R.de, .int .i64 (R.sp : Int), .slice C m cc] := by rw [hw0]; exact ((Bk.new' (by simp)).alloc _).alloc _
  have kA : Bk w0 (w.heap.size + 1 + 1) 32 #[.int .i64 ax, .int .i64 ay] := by rw [hw0]; exact (Bk.new' (by simp)).alloc _
  have kB : Bk w0 (w.heap.size + 1 + 1 + 1) 32 #[.int .i64 bx, .int .i64 by'] := by rw [hw0]; exact Bk.new' (by simp)
  have hx0 : Ext w w0 := by rw [hw0]; exact ((((Ext.refl w).alloc _).alloc _).alloc _).alloc _
  rw [← hw0]
  clear hw0
  generalize w.heap.size + 1 + 1 + 1 = hb at *
  generalize w.heap.size + 1 + 1 = ha at *
  generalize w.heap.size + 1 = hr at *
  generalize hfe : w.heap.size = hf at *
  clear hfe
  have f0 := kF.cell 0
  have f1 := kF.cell 1
  have f2 := kF.cell 2
  have f3 := kF.cell 3
  have f4 := kF.cell 4
  have r0 := kR.cell 0
  have r1 := kR.cell 1
  have r2 := kR.cell 2
  have r3 := kR.cell 3
  have r4 := kR.cell 4
  have r5 := kR.cell 5
  go_upto_region 4 with (go_at_call 63; refine ((HC _ hx0).out).mono ?_; rintro e w1 ⟨rfl, hx1⟩)
  have kF1 := kF.ext hx1
  have kR1 := kR.ext hx1
  have kA1 := kA.ext hx1
  have kB1 := kB.ext hx1
  have hxa := hx0.trans hx1
  clear f0 f1 f2 f3 f4 r0 r1 r2 r3 r4 r5 kF kR kA kB hx0 hx1 HC
  have f0 := kF1.cell 0
  have f1 := kF1.cell 1
  have f2 := kF1.cell 2
  have f3 := kF1.cell 3
  have f4 := kF1.cell 4
  have a0 := kA1.cell 0
  have a1 := kA1.cell 1
  have b0 := kB1.cell 0
  have b1 := kB1.cell 1
  go_upto_region 7 with (go_at_call 64; refine ((HI _ _ (Rd.new rfl rfl)).out).mono ?_; rintro e w2 ⟨rfl, hx2⟩)
  have kF2 := (kF1.alloc (.cells #[.int .i64 ax, .int .i64 ay, .int .i64 bx, .int .i64 by'] 32)).ext hx2
  have kR2 := (kR1.alloc (.cells #[.int .i64 ax, .int .i64 ay, .int .i64 bx, .int .i64 by'] 32)).ext hx2
  have kA2 := (kA1.alloc (.cells #[.int .i64 ax, .int .i64 ay, .int .i64 bx, .int .i64 by'] 32)).ext hx2
  have kB2 := (kB1.alloc (.cells #[.int .i64 ax, .int .i64 ay, .int .i64 bx, .int .i64 by'] 32)).ext hx2
  have hxb := (hxa.alloc (.cells #[.int .i64 ax, .int .i64 ay, .int .i64 bx, .int .i64 by'] 32)).trans hx2
  clear f0 f1 f2 f3 f4 a0 a1 b0 b1 kF1 kR1 kA1 kB1 hxa hx2 HI
  have f0 := kF2.cell 0
  have f1 := kF2.cell 1
  have f2 := kF2.cell 2
  have f3 := kF2.cell 3
  have f4 := kF2.cell 4
  have r0 := kR2.cell 0
  have r1 := kR2.cell 1
  have r2 := kR2.cell 2
  have r3 := kR2.cell 3
  have r4 := kR2.cell 4
  have r5 := kR2.cell 5
  have a0 := kA2.cell 0
  have a1 := kA2.cell 1
  have b0 := kB2.cell 0
  have b1 := kB2.cell 1
  have HSq := HS w2 hxb
  clear HS
  go_wp2_with (go_at_call 65; refine (HSq.out).mono ?_; rintro e w3 ⟨rfl, hx3⟩)
  go_ret3
  exact ⟨rfl, hxb.trans hx3⟩
end Go.Proofs.Ytpgdinpckolfpaa

namespace Go.Proofs.Ytpgdinpckolfpaa
open Go.RowKit
attribute [local go_sem ↓] Go.wp_at_zero Go.wp_at_succ
attribute [local go_sem] run_store_float

theorem bit_same (a : Nat) (w : World) : Calls Try.prog 22 #[.float .f32 a, .float .f32 a] w fun e w' => e = .returned (.bool true) ∧ w = w' := by
  have h1 := to_bits32 a
  go_enter Try.func22, Try.ntmps22
  go_wp2
  go_ret
  exact ⟨by first | rfl | simp, rfl⟩
theorem zero_eq : (FloatKind.f32.format.order 0 0 == some .eq) = true := by decide +kernel
/-- 5 where one of two places is outside -/
def twoE (a b : Bool) : Int := if a then (if b then 0 else 5) else 5
set_option maxRecDepth 100000 in
set_option maxHeartbeats 6400000 in
theorem rules_bad (X Y W H : Int) (A : Option Addr) (n c : Nat) (lf : List Nat) (gr wt br de : Nat) (sp : Int) (C : Option Addr) (m cc : Nat) (X' Y' W' H' : Int) (l : List Nat) (ax ay bx by' : Int) (w : World) (hn : lf.length = n) (hV : Rd w A (flt lf)) (hb : n ≤ 140737488351232) (hC : CoP w C m X' Y' W' H' l) (hm : m ≤ 140737488351232)
    (E : Int) (hE : E ≠ 0) (hF : firstE [grndE X Y W H lf gr wt br de sp m X' Y' W' H' l, twoE (hasB X Y W H ax ay) (hasB X Y W H bx by')] = E)
    (HSC : ∀ w', Ext w w' → Hid (Calls Try.prog 14 #[.agg #[.int .i64 X, .int .i64 Y, .int .i64 W, .int .i64 H, .slice A n c], .agg #[.float .f32 gr, .float .f32 wt, .float .f32 br, .float .f32 de, .int .i64 sp, .slice C m cc], .agg #[.int .i64 ax, .int .i64 ay], .agg #[.int .i64 bx, .int .i64 by']] w' fun e w'' => e = .returned (.tuple #[.float .f32 0, .bool false, .int .i64 E]) ∧ Ext w' w'')) :
    Calls Try.prog 3 #[.agg #[.int .i64 X, .int .i64 Y, .int .i64 W, .int .i64 H, .slice A n c], .agg #[.float .f32 gr, .float .f32 wt, .float .f32 br, .float .f32 de, .int .i64 sp, .slice C m cc], .agg #[.int .i64 ax, .int .i64 ay], .agg #[.int .i64 bx, .int .i64 by']] w fun e w' => e = .returned (.bool true) ∧ Ext w w' := by
  have HCR := fun (w' : World) (h : Ext w w') => hidA (CheckRules_any gr wt br de sp C m cc X' Y' W' H' l w' (hC.ext h) hm)
  have HRE := fun (w' : World) (h : Ext w w') => hidA (RulesError_any gr wt br de sp C m cc X' Y' W' H' l w' (hC.ext h) hm)
  have HGE := fun (w' : World) (h : Ext w w') => hidA (GroundError_any X Y W H A n c lf gr wt br de sp C m cc X' Y' W' H' l w' hn (hV.ext h) hb (hC.ext h) hm)
  have HL := fun (w : World) => hidA (leads_any w)
  have HWh := fun (b : Bool) (w : World) => hidA (when_any b 5 w)
  have HHa := fun (w : World) => hidA (has_any X Y W H ax ay w)
  have HHb := fun (w : World) => hidA (has_any X Y W H bx by' w)
  have HS := fun (B : Option Addr) (w : World) (h : Rd w B ([grndE X Y W H lf gr wt br de sp m X' Y' W' H' l, twoE (hasB X Y W H ax ay) (hasB X Y W H bx by')].map (.int .i64))) => hidA (first_any B 2 2 _ w rfl h (by omega))
  rw [hF] at HS
  have hne : (E != 0) = true := by simpa using hE
  have hz := zero_eq
  clear hn hV hb hC hm hE hF
  generalize grndE X Y W H lf gr wt br de sp m X' Y' W' H' l = ge at *
  generalize rulesE gr wt br de sp m X' Y' W' H' l = re at *
  generalize hasB X Y W H ax ay = ba at *
  generalize hasB X Y W H bx by' = bb at *
  go_enter Try.func3, Try.ntmps3
  go_upto_region 1 with fail
  obtain ⟨w0, hw0⟩ : ∃ w0, w0 = (((w.alloc (.cells #[.int .i64 X, .int .i64 Y, .int .i64 W, .int .i64 H, .slice A n c] 26)).alloc (.cells #[.float .f32 gr, .float .f32 wt, .float .f32 br, .float .f32 de, .int .i64 sp, .slice C m cc] 30)).alloc (.cells #[.int .i64 ax, .int .i64 ay] 32)).alloc (.cells #[.int .i64 bx, .int .i64 by'] 32) := ⟨_, rfl⟩
  have kF : Bk w0 w.heap.size 26 #[.int .i64 X, .int .i64 Y, .int .i64 W, .int .i64 H, .slice A n c] := by rw [hw0]; exact (((Bk.new' rfl).alloc _).alloc _).alloc _
  have kR : Bk w0 (w.heap.size + 1) 30 #[.float .f32 gr, .float .f32 wt, .float .f32 br, .float .f32 de, .int .i64 sp, .slice C m cc] := by rw [hw0]; exact ((Bk.new' (by simp)).alloc _).alloc _
  have kA : Bk w0 (w.heap.size + 1 + 1) 32 #[.int .i64 ax, .int .i64 ay] := by rw [hw0]; exact (Bk.new' (by simp)).alloc _
  have kB : Bk w0 (w.heap.size + 1 + 1 + 1) 32 #[.int .i64 bx, .int .i64 by'] := by rw [hw0]; exact Bk.new' (by simp)
  have hx0 : Ext w w0 := by rw [hw0]; exact ((((Ext.refl w).alloc _).alloc _).alloc _).alloc _
  rw [← hw0]
  clear hw0
  generalize w.heap.size + 1 + 1 + 1 = hb' at *
  generalize w.heap.size + 1 + 1 = ha' at *
  generalize w.heap.size + 1 = hr' at *
  generalize hfe : w.heap.size = hf at *
  clear hfe
  have f0 : ∀ w', Ext w0 w' → w'.cell? ⟨hf, 0, none⟩ = some (.int .i64 X) := fun w' h => (kF.ext h).cell 0
  have f1 : ∀ w', Ext w0 w' → w'.cell? ⟨hf, 1, none⟩ = some (.int .i64 Y) := fun w' h => (kF.ext h).cell 1
  have f2 : ∀ w', Ext w0 w' → w'.cell? ⟨hf, 2, none⟩ = some (.int .i64 W) := fun w' h => (kF.ext h).cell 2
  have f3 : ∀ w', Ext w0 w' → w'.cell? ⟨hf, 3, none⟩ = some (.int .i64 H) := fun w' h => (kF.ext h).cell 3
  have f4 : ∀ w', Ext w0 w' → w'.cell? ⟨hf, 4, none⟩ = some (.slice A n c) := fun w' h => (kF.ext h).cell 4
  have r0 : ∀ w', Ext w0 w' → w'.cell? ⟨hr', 0, none⟩ = some (.float .f32 gr) := fun w' h => (kR.ext h).cell 0
  have r1 : ∀ w', Ext w0 w' → w'.cell? ⟨hr', 1, none⟩ = some (.float .f32 wt) := fun w' h => (kR.ext h).cell 1
  have r2 : ∀ w', Ext w0 w' → w'.cell? ⟨hr', 2, none⟩ = some (.float .f32 br) := fun w' h => (kR.ext h).cell 2
  have r3 : ∀ w', Ext w0 w' → w'.cell? ⟨hr', 3, none⟩ = some (.float .f32 de) := fun w' h => (kR.ext h).cell 3
  have r4 : ∀ w', Ext w0 w' → w'.cell? ⟨hr', 4, none⟩ = some (.int .i64 sp) := fun w' h => (kR.ext h).cell 4
  have r5 : ∀ w', Ext w0 w' → w'.cell? ⟨hr', 5, none⟩ = some (.slice C m cc) := fun w' h => (kR.ext h).cell 5
  have a0 : ∀ w', Ext w0 w' → w'.cell? ⟨ha', 0, none⟩ = some (.int .i64 ax) := fun w' h => (kA.ext h).cell 0
  have a1 : ∀ w', Ext w0 w' → w'.cell? ⟨ha', 1, none⟩ = some (.int .i64 ay) := fun w' h => (kA.ext h).cell 1
  have b0 : ∀ w', Ext w0 w' → w'.cell? ⟨hb', 0, none⟩ = some (.int .i64 bx) := fun w' h => (kB.ext h).cell 0
  have b1 : ∀ w', Ext w0 w' → w'.cell? ⟨hb', 1, none⟩ = some (.int .i64 by') := fun w' h => (kB.ext h).cell 1
  have y0 := kR.cell 0
  have y1 := kR.cell 1
  have y2 := kR.cell 2
  have y3 := kR.cell 3
  have y4 := kR.cell 4
  have y5 := kR.cell 5
  go_upto_region 2 with (go_at_call 13; refine ((HCR _ hx0).out).mono ?_; rintro e w1 ⟨rfl, hx1⟩)
  clear y0 y1 y2 y3 y4 y5 HCR
  have x0 := (kF.ext hx1).cell 0
  have x1 := (kF.ext hx1).cell 1
  have x2 := (kF.ext hx1).cell 2
  have x3 := (kF.ext hx1).cell 3
  have x4 := (kF.ext hx1).cell 4
  have y0 := (kR.ext hx1).cell 0
  have y1 := (kR.ext hx1).cell 1
  have y2 := (kR.ext hx1).cell 2
  have y3 := (kR.ext hx1).cell 3
  have y4 := (kR.ext hx1).cell 4
  have y5 := (kR.ext hx1).cell 5
  have u0 := (kA.ext hx1).cell 0
  have u1 := (kA.ext hx1).cell 1
  have v0 := (kB.ext hx1).cell 0
  have v1 := (kB.ext hx1).cell 1
  go_upto_region 3 with (go_at_call 14; refine ((HSC _ (hx0.trans hx1)).out).mono ?_; rintro e w2 ⟨rfl, hx2⟩)
  clear x0 x1 x2 x3 x4 y0 y1 y2 y3 y4 y5 u0 u1 v0 v1 HSC
  go_upto_region 5 with (first | (go_at_call 15; refine ((HL _).out).mono ?_; rintro e w3 ⟨rfl, hx3⟩; have y0 := (kR.ext (hx1.trans (hx2.trans hx3))).cell 0; have y1 := (kR.ext (hx1.trans (hx2.trans hx3))).cell 1; have y2 := (kR.ext (hx1.trans (hx2.trans hx3))).cell 2; have y3 := (kR.ext (hx1.trans (hx2.trans hx3))).cell 3; have y4 := (kR.ext (hx1.trans (hx2.trans hx3))).cell 4; have y5 := (kR.ext (hx1.trans (hx2.trans hx3))).cell 5) | (go_at_call 16; refine ((HRE _ (hx0.trans (hx1.trans (hx2.trans hx3)))).out).mono ?_; rintro e w4 ⟨rfl, hx4⟩))
  clear y0 y1 y2 y3 y4 y5 HL HRE
  have hx4' : Ext w0 w4 := hx1.trans (hx2.trans (hx3.trans hx4))
  cases ba
  · have HS : ∀ (B : Option Addr) (w : World), Rd w B ([ge, 5].map (.int .i64)) → Hid (Calls Try.prog 17 #[.slice B 2 2] w fun e w' => e = .returned (.int .i64 E) ∧ w = w') := HS
    refine wp_region_noPanic ?_
    refine wp_region_held_drew (S := fun w' => Ext w0 w') (by kernel_rfl) ?_ (fun hHeld => ?_)
    · (repeat (first | exact Ext.refl _ | assumption | refine Ext.setCell ?_ (by first | (simp; done) | (simp; omega)) _ | refine Ext.drewN ?_ _ | refine Ext.alloc ?_ _ | refine Ext.drew ?_ | refine Ext.trans ?_ (by assumption)))
    refine wpAnyH_take (i := 0) (oi := ?o1x0) (v := ?v1x0) ?hi1x0 (by kernel_rfl) ?hf1x0 ?hr1x0 (fun _ _ _ h => h) ?hy1x0 (by assumption) ?rest1x0
    case hi1x0 => (simp only [List.getElem?_toArray, List.getElem?_cons_zero]; exact rfl)
    case hf1x0 => kernel_rfl
    case hr1x0 => kernel_rfl
    case hy1x0 => (refine Or.inl ⟨by rfl, ?_⟩; intro w hSw; (try dsimp only at hSw); go_simp; try with_reducible rfl)
    simp only [put_mk, List.set_cons_succ, List.set_cons_zero]
    refine wpAnyH_take (i := 1) (oi := ?o1x1) (v := ?v1x1) ?hi1x1 (by kernel_rfl) ?hf1x1 ?hr1x1 (fun _ _ _ h => h) ?hy1x1 (by assumption) ?rest1x1
    case hi1x1 => (simp only [List.getElem?_toArray, List.getElem?_cons_succ, List.getElem?_cons_zero]; exact rfl)
    case hf1x1 => kernel_rfl
    case hr1x1 => kernel_rfl
    case hy1x1 => (refine Or.inl ⟨by rfl, ?_⟩; intro w hSw; (try dsimp only at hSw); go_simp; try with_reducible rfl)
    simp only [put_mk, List.set_cons_succ, List.set_cons_zero]
    refine wpAnyH_take (i := 3) (oi := ?o1x3) (v := ?v1x3) ?hi1x3 (by kernel_rfl) ?hf1x3 ?hr1x3 (fun _ _ _ h => h) ?hy1x3 (by assumption) ?rest1x3
    case hi1x3 => (simp only [List.getElem?_toArray, List.getElem?_cons_succ, List.getElem?_cons_zero]; exact rfl)
    case hf1x3 => kernel_rfl
    case hr1x3 => kernel_rfl
    case hy1x3 => (refine Or.inl ⟨by rfl, ?_⟩; intro w hSw; (try dsimp only at hSw); go_simp; try with_reducible rfl)
    simp only [put_mk, List.set_cons_succ, List.set_cons_zero]
    refine wpAnyH_take (i := 4) (oi := ?o1x4) (v := ?v1x4) ?hi1x4 (by kernel_rfl) ?hf1x4 ?hr1x4 (fun _ _ _ h => h) ?hy1x4 (by assumption) ?rest1x4
    case hi1x4 => (simp only [List.getElem?_toArray, List.getElem?_cons_succ, List.getElem?_cons_zero]; exact rfl)
    case hf1x4 => kernel_rfl
    case hr1x4 => kernel_rfl
    case hy1x4 => (refine Or.inl ⟨by rfl, ?_⟩; intro w hSw; (try dsimp only at hSw); go_simp; try with_reducible rfl)
    simp only [put_mk, List.set_cons_succ, List.set_cons_zero]
    refine wpAnyH_take (i := 5) (oi := ?o1x5) (v := ?v1x5) ?hi1x5 (by kernel_rfl) ?hf1x5 ?hr1x5 (fun _ _ _ h => h) ?hy1x5 (by assumption) ?rest1x5
    case hi1x5 => (simp only [List.getElem?_toArray, List.getElem?_cons_succ, List.getElem?_cons_zero]; exact rfl)
    case hf1x5 => kernel_rfl
    case hr1x5 => kernel_rfl
    case hy1x5 => (refine Or.inl ⟨by rfl, ?_⟩; intro w hSw; (try dsimp only at hSw); go_simp; try with_reducible rfl)
    simp only [put_mk, List.set_cons_succ, List.set_cons_zero]
    refine wpAnyH_take (i := 6) (oi := ?o1x6) (v := ?v1x6) ?hi1x6 (by kernel_rfl) ?hf1x6 ?hr1x6 (fun _ _ _ h => h) ?hy1x6 (by assumption) ?rest1x6
    case hi1x6 => (simp only [List.getElem?_toArray, List.getElem?_cons_succ, List.getElem?_cons_zero]; exact rfl)
    case hf1x6 => kernel_rfl
    case hr1x6 => kernel_rfl
    case hy1x6 => (refine Or.inl ⟨by rfl, ?_⟩; intro w hSw; (try dsimp only at hSw); go_simp; try with_reducible rfl)
    simp only [put_mk, List.set_cons_succ, List.set_cons_zero]
    refine wpAnyH_take (i := 7) (oi := ?o1x7) (v := ?v1x7) ?hi1x7 (by kernel_rfl) ?hf1x7 ?hr1x7 (fun _ _ _ h => h) ?hy1x7 (by assumption) ?rest1x7
    case hi1x7 => (simp only [List.getElem?_toArray, List.getElem?_cons_succ, List.getElem?_cons_zero]; exact rfl)
    case hf1x7 => kernel_rfl
    case hr1x7 => kernel_rfl
    case hy1x7 => (refine Or.inl ⟨by rfl, ?_⟩; intro w hSw; (try dsimp only at hSw); go_simp; try with_reducible rfl)
    simp only [put_mk, List.set_cons_succ, List.set_cons_zero]
    refine wpAnyH_take (i := 8) (oi := ?o1x8) (v := ?v1x8) ?hi1x8 (by kernel_rfl) ?hf1x8 ?hr1x8 (fun _ _ _ h => h) ?hy1x8 (by assumption) ?rest1x8
    case hi1x8 => (simp only [List.getElem?_toArray, List.getElem?_cons_succ, List.getElem?_cons_zero]; exact rfl)
    case hf1x8 => kernel_rfl
    case hr1x8 => kernel_rfl
    case hy1x8 => (refine Or.inl ⟨by rfl, ?_⟩; intro w hSw; (try dsimp only at hSw); go_simp; try with_reducible rfl)
    simp only [put_mk, List.set_cons_succ, List.set_cons_zero]
    refine wpAnyH_ready (rs := [2]) (by kernel_rfl) (by simp) ?_
    refine AllReadyH.cons (o := ?o1x2) ?hi1x2 (fun K hK => ?_) AllReadyH.nil
    case hi1x2 => (simp only [List.getElem?_toArray, List.getElem?_cons_succ, List.getElem?_cons_zero]; exact rfl)
    go_simp
    refine ((HGE _ (hx0.trans hHeld)).out).mono ?_
    rintro e w7 ⟨rfl, hx7⟩
    refine hK.out _ _ ?_ (fun hHeld => ?_)
    · (repeat (first | exact Ext.refl _ | assumption | refine Ext.setCell ?_ (by first | (simp; done) | (simp; omega)) _ | refine Ext.drewN ?_ _ | refine Ext.alloc ?_ _ | refine Ext.drew ?_ | refine Ext.trans ?_ (by assumption)))
    clear hK K
    refine wpAnyH_ready (rs := [9]) (by kernel_rfl) (by simp) ?_
    refine AllReadyH.cons (o := ?o1x9) ?hi1x9 (fun K hK => ?_) AllReadyH.nil
    case hi1x9 => (simp only [List.getElem?_toArray, List.getElem?_cons_succ, List.getElem?_cons_zero]; exact rfl)
    go_simp
    refine ((HHa _).out).mono ?_
    rintro e w7 ⟨rfl, hx7⟩
    refine hK.out _ _ ?_ (fun hHeld => ?_)
    · (repeat (first | exact Ext.refl _ | assumption | refine Ext.setCell ?_ (by first | (simp; done) | (simp; omega)) _ | refine Ext.drewN ?_ _ | refine Ext.alloc ?_ _ | refine Ext.drew ?_ | refine Ext.trans ?_ (by assumption)))
    clear hK K
    refine wpAnyH_take (i := 10) (oi := ?o1x10) (v := ?v1x10) ?hi1x10 (by kernel_rfl) ?hf1x10 ?hr1x10 (fun _ _ _ h => h) ?hy1x10 (by assumption) ?rest1x10
    case hi1x10 => (simp only [List.getElem?_toArray, List.getElem?_cons_succ, List.getElem?_cons_zero]; exact rfl)
    case hf1x10 => kernel_rfl
    case hr1x10 => kernel_rfl
    case hy1x10 => (refine Or.inl ⟨by rfl, ?_⟩; intro w hSw; (try dsimp only at hSw); go_simp; try with_reducible rfl)
    simp only [put_mk, List.set_cons_succ, List.set_cons_zero]
    refine wpAnyH_take (i := 11) (oi := ?o1x11) (v := ?v1x11) ?hi1x11 (by kernel_rfl) ?hf1x11 ?hr1x11 (fun _ _ _ h => h) ?hy1x11 (by assumption) ?rest1x11
    case hi1x11 => (simp only [List.getElem?_toArray, List.getElem?_cons_succ, List.getElem?_cons_zero]; exact rfl)
    case hf1x11 => kernel_rfl
    case hr1x11 => kernel_rfl
    case hy1x11 => (refine Or.inl ⟨by rfl, ?_⟩; intro w hSw; (try dsimp only at hSw); go_simp; try with_reducible rfl)
    simp only [put_mk, List.set_cons_succ, List.set_cons_zero]
    refine wpAnyH_take (i := 12) (oi := ?o1x12) (v := undef) ?hi1x12 (by kernel_rfl) ?hf1x12 ?hr1x12 (fun _ _ _ h => h) ?hy1x12 (by assumption) ?rest1x12
    case hi1x12 => (simp only [List.getElem?_toArray, List.getElem?_cons_succ, List.getElem?_cons_zero]; exact rfl)
    case hf1x12 => kernel_rfl
    case hr1x12 => kernel_rfl
    case hy1x12 => exact Or.inr ⟨by rfl, rfl⟩
    simp only [put_mk, List.set_cons_succ, List.set_cons_zero]
    refine wpAnyH_take (i := 13) (oi := ?o1x13) (v := undef) ?hi1x13 (by kernel_rfl) ?hf1x13 ?hr1x13 (fun _ _ _ h => h) ?hy1x13 (by assumption) ?rest1x13
    case hi1x13 => (simp only [List.getElem?_toArray, List.getElem?_cons_succ, List.getElem?_cons_zero]; exact rfl)
    case hf1x13 => kernel_rfl
    case hr1x13 => kernel_rfl
    case hy1x13 => exact Or.inr ⟨by rfl, rfl⟩
    simp only [put_mk, List.set_cons_succ, List.set_cons_zero]
    refine wpAnyH_take (i := 14) (oi := ?o1x14) (v := undef) ?hi1x14 (by kernel_rfl) ?hf1x14 ?hr1x14 (fun _ _ _ h => h) ?hy1x14 (by assumption) ?rest1x14
    case hi1x14 => (simp only [List.getElem?_toArray, List.getElem?_cons_succ, List.getElem?_cons_zero]; exact rfl)
    case hf1x14 => kernel_rfl
    case hr1x14 => kernel_rfl
    case hy1x14 => exact Or.inr ⟨by rfl, rfl⟩
    simp only [put_mk, List.set_cons_succ, List.set_cons_zero]
    refine wpAnyH_take (i := 15) (oi := ?o1x15) (v := undef) ?hi1x15 (by kernel_rfl) ?hf1x15 ?hr1x15 (fun _ _ _ h => h) ?hy1x15 (by assumption) ?rest1x15
    case hi1x15 => (simp only [List.getElem?_toArray, List.getElem?_cons_succ, List.getElem?_cons_zero]; exact rfl)
    case hf1x15 => kernel_rfl
    case hr1x15 => kernel_rfl
    case hy1x15 => exact Or.inr ⟨by rfl, rfl⟩
    simp only [put_mk, List.set_cons_succ, List.set_cons_zero]
    refine wpAnyH_take (i := 16) (oi := ?o1x16) (v := undef) ?hi1x16 (by kernel_rfl) ?hf1x16 ?hr1x16 (fun _ _ _ h => h) ?hy1x16 (by assumption) ?rest1x16
    case hi1x16 => (simp only [List.getElem?_toArray, List.getElem?_cons_succ, List.getElem?_cons_zero]; exact rfl)
    case hf1x16 => kernel_rfl
    case hr1x16 => kernel_rfl
    case hy1x16 => exact Or.inr ⟨by rfl, rfl⟩
    simp only [put_mk, List.set_cons_succ, List.set_cons_zero]
    refine wpAnyH_take (i := 17) (oi := ?o1x17) (v := undef) ?hi1x17 (by kernel_rfl) ?hf1x17 ?hr1x17 (fun _ _ _ h => h) ?hy1x17 (by assumption) ?rest1x17
    case hi1x17 => (simp only [List.getElem?_toArray, List.getElem?_cons_succ, List.getElem?_cons_zero]; exact rfl)
    case hf1x17 => kernel_rfl
    case hr1x17 => kernel_rfl
    case hy1x17 => exact Or.inr ⟨by rfl, rfl⟩
    simp only [put_mk, List.set_cons_succ, List.set_cons_zero]
    refine wpAnyH_take (i := 18) (oi := ?o1x18) (v := undef) ?hi1x18 (by kernel_rfl) ?hf1x18 ?hr1x18 (fun _ _ _ h => h) ?hy1x18 (by assumption) ?rest1x18
    case hi1x18 => (simp only [List.getElem?_toArray, List.getElem?_cons_succ, List.getElem?_cons_zero]; exact rfl)
    case hf1x18 => kernel_rfl
    case hr1x18 => kernel_rfl
    case hy1x18 => exact Or.inr ⟨by rfl, rfl⟩
    simp only [put_mk, List.set_cons_succ, List.set_cons_zero]
    refine wpAnyH_take (i := 19) (oi := ?o1x19) (v := undef) ?hi1x19 (by kernel_rfl) ?hf1x19 ?hr1x19 (fun _ _ _ h => h) ?hy1x19 (by assumption) ?rest1x19
    case hi1x19 => (simp only [List.getElem?_toArray, List.getElem?_cons_succ, List.getElem?_cons_zero]; exact rfl)
    case hf1x19 => kernel_rfl
    case hr1x19 => kernel_rfl
    case hy1x19 => exact Or.inr ⟨by rfl, rfl⟩
    simp only [put_mk, List.set_cons_succ, List.set_cons_zero]
    refine wpAnyH_take (i := 20) (oi := ?o1x20) (v := ?v1x20) ?hi1x20 (by kernel_rfl) ?hf1x20 ?hr1x20 (fun _ _ _ h => h) ?hy1x20 (by assumption) ?rest1x20
    case hi1x20 => (simp only [List.getElem?_toArray, List.getElem?_cons_succ, List.getElem?_cons_zero]; exact rfl)
    case hf1x20 => kernel_rfl
    case hr1x20 => kernel_rfl
    case hy1x20 => (refine Or.inl ⟨by rfl, ?_⟩; intro w hSw; (try dsimp only at hSw); go_simp; try with_reducible rfl)
    simp only [put_mk, List.set_cons_succ, List.set_cons_zero]
    refine wpAnyH_ready (rs := [21]) (by kernel_rfl) (by simp) ?_
    refine AllReadyH.cons (o := ?o1x21) ?hi1x21 (fun K hK => ?_) AllReadyH.nil
    case hi1x21 => (simp only [List.getElem?_toArray, List.getElem?_cons_succ, List.getElem?_cons_zero]; exact rfl)
    go_simp
    refine ((HWh _ _).out).mono ?_
    rintro e w7 ⟨rfl, hw7⟩
    subst hw7
    refine hK.out _ _ ?_ (fun hHeld => ?_)
    · (repeat (first | exact Ext.refl _ | assumption | refine Ext.setCell ?_ (by first | (simp; done) | (simp; omega)) _ | refine Ext.drewN ?_ _ | refine Ext.alloc ?_ _ | refine Ext.drew ?_ | refine Ext.trans ?_ (by assumption)))
    clear hK K
    refine wpAnyH_ready (rs := [22]) (by kernel_rfl) (by simp) ?_
    refine AllReadyH.cons (o := ?o1x22) ?hi1x22 (fun K hK => ?_) AllReadyH.nil
    case hi1x22 => (simp only [List.getElem?_toArray, List.getElem?_cons_succ, List.getElem?_cons_zero]; exact rfl)
    go_simp
    refine hK.out _ _ ?_ (fun hHeld => ?_)
    · (repeat (first | exact Ext.refl _ | assumption | refine Ext.setCell ?_ (by first | (simp; done) | (simp; omega)) _ | refine Ext.drewN ?_ _ | refine Ext.alloc ?_ _ | refine Ext.drew ?_ | refine Ext.trans ?_ (by assumption)))
    clear hK K
    refine wpAnyH_ready (rs := [23]) (by kernel_rfl) (by simp) ?_
    refine AllReadyH.cons (o := ?o1x23) ?hi1x23 (fun K hK => ?_) AllReadyH.nil
    case hi1x23 => (simp only [List.getElem?_toArray, List.getElem?_cons_succ, List.getElem?_cons_zero]; exact rfl)
    go_simp
    refine ((HS _ _ (Rd.new (by first | rfl | simp) (by first | rfl | simp))).out).mono ?_
    rintro e w7 ⟨rfl, hw7⟩
    subst hw7
    refine hK.out _ _ ?_ (fun hHeld => ?_)
    · (repeat (first | exact Ext.refl _ | assumption | refine Ext.setCell ?_ (by first | (simp; done) | (simp; omega)) _ | refine Ext.drewN ?_ _ | refine Ext.alloc ?_ _ | refine Ext.drew ?_ | refine Ext.trans ?_ (by assumption)))
    clear hK K
    refine wpAnyH_take (i := 24) (oi := ?o1x24) (v := ?v1x24) ?hi1x24 (by kernel_rfl) ?hf1x24 ?hr1x24 (fun _ _ _ h => h) ?hy1x24 (by assumption) ?rest1x24
    case hi1x24 => (simp only [List.getElem?_toArray, List.getElem?_cons_succ, List.getElem?_cons_zero]; exact rfl)
    case hf1x24 => kernel_rfl
    case hr1x24 => kernel_rfl
    case hy1x24 => (refine Or.inl ⟨by rfl, ?_⟩; intro w hSw; (try dsimp only at hSw); go_simp; try with_reducible rfl)
    simp only [put_mk, List.set_cons_succ, List.set_cons_zero]
    refine wpAnyH_done (by kernel_rfl) ?_ _
    refine NoPanic.normal ?_
    go_wp2
    go_ret
    exact ⟨by first | rfl | simp, hx0.trans hHeld⟩
  · cases bb
    · have HS : ∀ (B : Option Addr) (w : World), Rd w B ([ge, 5].map (.int .i64)) → Hid (Calls Try.prog 17 #[.slice B 2 2] w fun e w' => e = .returned (.int .i64 E) ∧ w = w') := HS
      refine wp_region_noPanic ?_
      refine wp_region_held_drew (S := fun w' => Ext w0 w') (by kernel_rfl) ?_ (fun hHeld => ?_)
      · (repeat (first | exact Ext.refl _ | assumption | refine Ext.setCell ?_ (by first | (simp; done) | (simp; omega)) _ | refine Ext.drewN ?_ _ | refine Ext.alloc ?_ _ | refine Ext.drew ?_ | refine Ext.trans ?_ (by assumption)))
      refine wpAnyH_take (i := 0) (oi := ?o2x0) (v := ?v2x0) ?hi2x0 (by kernel_rfl) ?hf2x0 ?hr2x0 (fun _ _ _ h => h) ?hy2x0 (by assumption) ?rest2x0
      case hi2x0 => (simp only [List.getElem?_toArray, List.getElem?_cons_zero]; exact rfl)
      case hf2x0 => kernel_rfl
      case hr2x0 => kernel_rfl
      case hy2x0 => (refine Or.inl ⟨by rfl, ?_⟩; intro w hSw; (try dsimp only at hSw); go_simp; try with_reducible rfl)
      simp only [put_mk, List.set_cons_succ, List.set_cons_zero]
      refine wpAnyH_take (i := 1) (oi := ?o2x1) (v := ?v2x1) ?hi2x1 (by kernel_rfl) ?hf2x1 ?hr2x1 (fun _ _ _ h => h) ?hy2x1 (by assumption) ?rest2x1
      case hi2x1 => (simp only [List.getElem?_toArray, List.getElem?_cons_succ, List.getElem?_cons_zero]; exact rfl)
      case hf2x1 => kernel_rfl
      case hr2x1 => kernel_rfl
      case hy2x1 => (refine Or.inl ⟨by rfl, ?_⟩; intro w hSw; (try dsimp only at hSw); go_simp; try with_reducible rfl)
      simp only [put_mk, List.set_cons_succ, List.set_cons_zero]
      refine wpAnyH_take (i := 3) (oi := ?o2x3) (v := ?v2x3) ?hi2x3 (by kernel_rfl) ?hf2x3 ?hr2x3 (fun _ _ _ h => h) ?hy2x3 (by assumption) ?rest2x3
      case hi2x3 => (simp only [List.getElem?_toArray, List.getElem?_cons_succ, List.getElem?_cons_zero]; exact rfl)
      case hf2x3 => kernel_rfl
      case hr2x3 => kernel_rfl
      case hy2x3 => (refine Or.inl ⟨by rfl, ?_⟩; intro w hSw; (try dsimp only at hSw); go_simp; try with_reducible rfl)
      simp only [put_mk, List.set_cons_succ, List.set_cons_zero]
      refine wpAnyH_take (i := 4) (oi := ?o2x4) (v := ?v2x4) ?hi2x4 (by kernel_rfl) ?hf2x4 ?hr2x4 (fun _ _ _ h => h) ?hy2x4 (by assumption) ?rest2x4
      case hi2x4 => (simp only [List.getElem?_toArray, List.getElem?_cons_succ, List.getElem?_cons_zero]; exact rfl)
      case hf2x4 => kernel_rfl
      case hr2x4 => kernel_rfl
      case hy2x4 => (refine Or.inl ⟨by rfl, ?_⟩; intro w hSw; (try dsimp only at hSw); go_simp; try with_reducible rfl)
      simp only [put_mk, List.set_cons_succ, List.set_cons_zero]
      refine wpAnyH_take (i := 5) (oi := ?o2x5) (v := ?v2x5) ?hi2x5 (by kernel_rfl) ?hf2x5 ?hr2x5 (fun _ _ _ h => h) ?hy2x5 (by assumption) ?rest2x5
      case hi2x5 => (simp only [List.getElem?_toArray, List.getElem?_cons_succ, List.getElem?_cons_zero]; exact rfl)
      case hf2x5 => kernel_rfl
      case hr2x5 => kernel_rfl
      case hy2x5 => (refine Or.inl ⟨by rfl, ?_⟩; intro w hSw; (try dsimp only at hSw); go_simp; try with_reducible rfl)
      simp only [put_mk, List.set_cons_succ, List.set_cons_zero]
      refine wpAnyH_take (i := 6) (oi := ?o2x6) (v := ?v2x6) ?hi2x6 (by kernel_rfl) ?hf2x6 ?hr2x6 (fun _ _ _ h => h) ?hy2x6 (by assumption) ?rest2x6
      case hi2x6 => (simp only [List.getElem?_toArray, List.getElem?_cons_succ, List.getElem?_cons_zero]; exact rfl)
      case hf2x6 => kernel_rfl
      case hr2x6 => kernel_rfl
      case hy2x6 => (refine Or.inl ⟨by rfl, ?_⟩; intro w hSw; (try dsimp only at hSw); go_simp; try with_reducible rfl)
      simp only [put_mk, List.set_cons_succ, List.set_cons_zero]
      refine wpAnyH_take (i := 7) (oi := ?o2x7) (v := ?v2x7) ?hi2x7 (by kernel_rfl) ?hf2x7 ?hr2x7 (fun _ _ _ h => h) ?hy2x7 (by assumption) ?rest2x7
      case hi2x7 => (simp only [List.getElem?_toArray, List.getElem?_cons_succ, List.getElem?_cons_zero]; exact rfl)
      case hf2x7 => kernel_rfl
      case hr2x7 => kernel_rfl
      case hy2x7 => (refine Or.inl ⟨by rfl, ?_⟩; intro w hSw; (try dsimp only at hSw); go_simp; try with_reducible rfl)
      simp only [put_mk, List.set_cons_succ, List.set_cons_zero]
      refine wpAnyH_take (i := 8) (oi := ?o2x8) (v := ?v2x8) ?hi2x8 (by kernel_rfl) ?hf2x8 ?hr2x8 (fun _ _ _ h => h) ?hy2x8 (by assumption) ?rest2x8
      case hi2x8 => (simp only [List.getElem?_toArray, List.getElem?_cons_succ, List.getElem?_cons_zero]; exact rfl)
      case hf2x8 => kernel_rfl
      case hr2x8 => kernel_rfl
      case hy2x8 => (refine Or.inl ⟨by rfl, ?_⟩; intro w hSw; (try dsimp only at hSw); go_simp; try with_reducible rfl)
      simp only [put_mk, List.set_cons_succ, List.set_cons_zero]
      refine wpAnyH_ready (rs := [2]) (by kernel_rfl) (by simp) ?_
      refine AllReadyH.cons (o := ?o2x2) ?hi2x2 (fun K hK => ?_) AllReadyH.nil
      case hi2x2 => (simp only [List.getElem?_toArray, List.getElem?_cons_succ, List.getElem?_cons_zero]; exact rfl)
      go_simp
      refine ((HGE _ (hx0.trans hHeld)).out).mono ?_
      rintro e w7 ⟨rfl, hx7⟩
      refine hK.out _ _ ?_ (fun hHeld => ?_)
      · (repeat (first | exact Ext.refl _ | assumption | refine Ext.setCell ?_ (by first | (simp; done) | (simp; omega)) _ | refine Ext.drewN ?_ _ | refine Ext.alloc ?_ _ | refine Ext.drew ?_ | refine Ext.trans ?_ (by assumption)))
      clear hK K
      refine wpAnyH_ready (rs := [9]) (by kernel_rfl) (by simp) ?_
      refine AllReadyH.cons (o := ?o2x9) ?hi2x9 (fun K hK => ?_) AllReadyH.nil
      case hi2x9 => (simp only [List.getElem?_toArray, List.getElem?_cons_succ, List.getElem?_cons_zero]; exact rfl)
      go_simp
      refine ((HHa _).out).mono ?_
      rintro e w7 ⟨rfl, hx7⟩
      refine hK.out _ _ ?_ (fun hHeld => ?_)
      · (repeat (first | exact Ext.refl _ | assumption | refine Ext.setCell ?_ (by first | (simp; done) | (simp; omega)) _ | refine Ext.drewN ?_ _ | refine Ext.alloc ?_ _ | refine Ext.drew ?_ | refine Ext.trans ?_ (by assumption)))
      clear hK K
      refine wpAnyH_take (i := 10) (oi := ?o2x10) (v := ?v2x10) ?hi2x10 (by kernel_rfl) ?hf2x10 ?hr2x10 (fun _ _ _ h => h) ?hy2x10 (by assumption) ?rest2x10
      case hi2x10 => (simp only [List.getElem?_toArray, List.getElem?_cons_succ, List.getElem?_cons_zero]; exact rfl)
      case hf2x10 => kernel_rfl
      case hr2x10 => kernel_rfl
      case hy2x10 => (refine Or.inl ⟨by rfl, ?_⟩; intro w hSw; (try dsimp only at hSw); go_simp; try with_reducible rfl)
      simp only [put_mk, List.set_cons_succ, List.set_cons_zero]
      refine wpAnyH_take (i := 11) (oi := ?o2x11) (v := ?v2x11) ?hi2x11 (by kernel_rfl) ?hf2x11 ?hr2x11 (fun _ _ _ h => h) ?hy2x11 (by assumption) ?rest2x11
      case hi2x11 => (simp only [List.getElem?_toArray, List.getElem?_cons_succ, List.getElem?_cons_zero]; exact rfl)
      case hf2x11 => kernel_rfl
      case hr2x11 => kernel_rfl
      case hy2x11 => (refine Or.inl ⟨by rfl, ?_⟩; intro w hSw; (try dsimp only at hSw); go_simp; try with_reducible rfl)
      simp only [put_mk, List.set_cons_succ, List.set_cons_zero]
      refine wpAnyH_take (i := 12) (oi := ?o2x12) (v := ?v2x12) ?hi2x12 (by kernel_rfl) ?hf2x12 ?hr2x12 (fun _ _ _ h => h) ?hy2x12 (by assumption) ?rest2x12
      case hi2x12 => (simp only [List.getElem?_toArray, List.getElem?_cons_succ, List.getElem?_cons_zero]; exact rfl)
      case hf2x12 => kernel_rfl
      case hr2x12 => kernel_rfl
      case hy2x12 => (refine Or.inl ⟨by rfl, ?_⟩; intro w hSw; (try dsimp only at hSw); go_simp; try with_reducible rfl)
      simp only [put_mk, List.set_cons_succ, List.set_cons_zero]
      refine wpAnyH_take (i := 13) (oi := ?o2x13) (v := ?v2x13) ?hi2x13 (by kernel_rfl) ?hf2x13 ?hr2x13 (fun _ _ _ h => h) ?hy2x13 (by assumption) ?rest2x13
      case hi2x13 => (simp only [List.getElem?_toArray, List.getElem?_cons_succ, List.getElem?_cons_zero]; exact rfl)
      case hf2x13 => kernel_rfl
      case hr2x13 => kernel_rfl
      case hy2x13 => (refine Or.inl ⟨by rfl, ?_⟩; intro w hSw; (try dsimp only at hSw); go_simp; try with_reducible rfl)
      simp only [put_mk, List.set_cons_succ, List.set_cons_zero]
      refine wpAnyH_take (i := 14) (oi := ?o2x14) (v := ?v2x14) ?hi2x14 (by kernel_rfl) ?hf2x14 ?hr2x14 (fun _ _ _ h => h) ?hy2x14 (by assumption) ?rest2x14
      case hi2x14 => (simp only [List.getElem?_toArray, List.getElem?_cons_succ, List.getElem?_cons_zero]; exact rfl)
      case hf2x14 => kernel_rfl
      case hr2x14 => kernel_rfl
      case hy2x14 => (refine Or.inl ⟨by rfl, ?_⟩; intro w hSw; (try dsimp only at hSw); go_simp; try with_reducible rfl)
      simp only [put_mk, List.set_cons_succ, List.set_cons_zero]
      refine wpAnyH_take (i := 15) (oi := ?o2x15) (v := ?v2x15) ?hi2x15 (by kernel_rfl) ?hf2x15 ?hr2x15 (fun _ _ _ h => h) ?hy2x15 (by assumption) ?rest2x15
      case hi2x15 => (simp only [List.getElem?_toArray, List.getElem?_cons_succ, List.getElem?_cons_zero]; exact rfl)
      case hf2x15 => kernel_rfl
      case hr2x15 => kernel_rfl
      case hy2x15 => (refine Or.inl ⟨by rfl, ?_⟩; intro w hSw; (try dsimp only at hSw); go_simp; try with_reducible rfl)
      simp only [put_mk, List.set_cons_succ, List.set_cons_zero]
      refine wpAnyH_take (i := 16) (oi := ?o2x16) (v := ?v2x16) ?hi2x16 (by kernel_rfl) ?hf2x16 ?hr2x16 (fun _ _ _ h => h) ?hy2x16 (by assumption) ?rest2x16
      case hi2x16 => (simp only [List.getElem?_toArray, List.getElem?_cons_succ, List.getElem?_cons_zero]; exact rfl)
      case hf2x16 => kernel_rfl
      case hr2x16 => kernel_rfl
      case hy2x16 => (refine Or.inl ⟨by rfl, ?_⟩; intro w hSw; (try dsimp only at hSw); go_simp; try with_reducible rfl)
      simp only [put_mk, List.set_cons_succ, List.set_cons_zero]
      refine wpAnyH_take (i := 17) (oi := ?o2x17) (v := ?v2x17) ?hi2x17 (by kernel_rfl) ?hf2x17 ?hr2x17 (fun _ _ _ h => h) ?hy2x17 (by assumption) ?rest2x17
      case hi2x17 => (simp only [List.getElem?_toArray, List.getElem?_cons_succ, List.getElem?_cons_zero]; exact rfl)
      case hf2x17 => kernel_rfl
      case hr2x17 => kernel_rfl
      case hy2x17 => (refine Or.inl ⟨by rfl, ?_⟩; intro w hSw; (try dsimp only at hSw); go_simp; try with_reducible rfl)
      simp only [put_mk, List.set_cons_succ, List.set_cons_zero]
      refine wpAnyH_ready (rs := [18]) (by kernel_rfl) (by simp) ?_
      refine AllReadyH.cons (o := ?o2x18) ?hi2x18 (fun K hK => ?_) AllReadyH.nil
      case hi2x18 => (simp only [List.getElem?_toArray, List.getElem?_cons_succ, List.getElem?_cons_zero]; exact rfl)
      go_simp
      refine ((HHb _).out).mono ?_
      rintro e w7 ⟨rfl, hx7⟩
      refine hK.out _ _ ?_ (fun hHeld => ?_)
      · (repeat (first | exact Ext.refl _ | assumption | refine Ext.setCell ?_ (by first | (simp; done) | (simp; omega)) _ | refine Ext.drewN ?_ _ | refine Ext.alloc ?_ _ | refine Ext.drew ?_ | refine Ext.trans ?_ (by assumption)))
      clear hK K
      refine wpAnyH_take (i := 19) (oi := ?o2x19) (v := ?v2x19) ?hi2x19 (by kernel_rfl) ?hf2x19 ?hr2x19 (fun _ _ _ h => h) ?hy2x19 (by assumption) ?rest2x19
      case hi2x19 => (simp only [List.getElem?_toArray, List.getElem?_cons_succ, List.getElem?_cons_zero]; exact rfl)
      case hf2x19 => kernel_rfl
      case hr2x19 => kernel_rfl
      case hy2x19 => (refine Or.inl ⟨by rfl, ?_⟩; intro w hSw; (try dsimp only at hSw); go_simp; try with_reducible rfl)
      simp only [put_mk, List.set_cons_succ, List.set_cons_zero]
      refine wpAnyH_take (i := 20) (oi := ?o2x20) (v := ?v2x20) ?hi2x20 (by kernel_rfl) ?hf2x20 ?hr2x20 (fun _ _ _ h => h) ?hy2x20 (by assumption) ?rest2x20
      case hi2x20 => (simp only [List.getElem?_toArray, List.getElem?_cons_succ, List.getElem?_cons_zero]; exact rfl)
      case hf2x20 => kernel_rfl
      case hr2x20 => kernel_rfl
      case hy2x20 => (refine Or.inl ⟨by rfl, ?_⟩; intro w hSw; (try dsimp only at hSw); go_simp; try with_reducible rfl)
      simp only [put_mk, List.set_cons_succ, List.set_cons_zero]
      refine wpAnyH_ready (rs := [21]) (by kernel_rfl) (by simp) ?_
      refine AllReadyH.cons (o := ?o2x21) ?hi2x21 (fun K hK => ?_) AllReadyH.nil
      case hi2x21 => (simp only [List.getElem?_toArray, List.getElem?_cons_succ, List.getElem?_cons_zero]; exact rfl)
      go_simp
      refine ((HWh _ _).out).mono ?_
      rintro e w7 ⟨rfl, hw7⟩
      subst hw7
      refine hK.out _ _ ?_ (fun hHeld => ?_)
      · (repeat (first | exact Ext.refl _ | assumption | refine Ext.setCell ?_ (by first | (simp; done) | (simp; omega)) _ | refine Ext.drewN ?_ _ | refine Ext.alloc ?_ _ | refine Ext.drew ?_ | refine Ext.trans ?_ (by assumption)))
      clear hK K
      refine wpAnyH_ready (rs := [22]) (by kernel_rfl) (by simp) ?_
      refine AllReadyH.cons (o := ?o2x22) ?hi2x22 (fun K hK => ?_) AllReadyH.nil
      case hi2x22 => (simp only [List.getElem?_toArray, List.getElem?_cons_succ, List.getElem?_cons_zero]; exact rfl)
      go_simp
      refine hK.out _ _ ?_ (fun hHeld => ?_)
      · (repeat (first | exact Ext.refl _ | assumption | refine Ext.setCell ?_ (by first | (simp; done) | (simp; omega)) _ | refine Ext.drewN ?_ _ | refine Ext.alloc ?_ _ | refine Ext.drew ?_ | refine Ext.trans ?_ (by assumption)))
      clear hK K
      refine wpAnyH_ready (rs := [23]) (by kernel_rfl) (by simp) ?_
      refine AllReadyH.cons (o := ?o2x23) ?hi2x23 (fun K hK => ?_) AllReadyH.nil
      case hi2x23 => (simp only [List.getElem?_toArray, List.getElem?_cons_succ, List.getElem?_cons_zero]; exact rfl)
      go_simp
      refine ((HS _ _ (Rd.new (by first | rfl | simp) (by first | rfl | simp))).out).mono ?_
      rintro e w7 ⟨rfl, hw7⟩
      subst hw7
      refine hK.out _ _ ?_ (fun hHeld => ?_)
      · (repeat (first | exact Ext.refl _ | assumption | refine Ext.setCell ?_ (by first | (simp; done) | (simp; omega)) _ | refine Ext.drewN ?_ _ | refine Ext.alloc ?_ _ | refine Ext.drew ?_ | refine Ext.trans ?_ (by assumption)))
      clear hK K
      refine wpAnyH_take (i := 24) (oi := ?o2x24) (v := ?v2x24) ?hi2x24 (by kernel_rfl) ?hf2x24 ?hr2x24 (fun _ _ _ h => h) ?hy2x24 (by assumption) ?rest2x24
      case hi2x24 => (simp only [List.getElem?_toArray, List.getElem?_cons_succ, List.getElem?_cons_zero]; exact rfl)
      case hf2x24 => kernel_rfl
      case hr2x24 => kernel_rfl
      case hy2x24 => (refine Or.inl ⟨by rfl, ?_⟩; intro w hSw; (try dsimp only at hSw); go_simp; try with_reducible rfl)
      simp only [put_mk, List.set_cons_succ, List.set_cons_zero]
      refine wpAnyH_done (by kernel_rfl) ?_ _
      refine NoPanic.normal ?_
      go_wp2
      go_ret
      exact ⟨by first | rfl | simp, hx0.trans hHeld⟩
    · have HS : ∀ (B : Option Addr) (w : World), Rd w B ([ge, 0].map (.int .i64)) → Hid (Calls Try.prog 17 #[.slice B 2 2] w fun e w' => e = .returned (.int .i64 E) ∧ w = w') := HS
      refine wp_region_noPanic ?_
      refine wp_region_held_drew (S := fun w' => Ext w0 w') (by kernel_rfl) ?_ (fun hHeld => ?_)
      · (repeat (first | exact Ext.refl _ | assumption | refine Ext.setCell ?_ (by first | (simp; done) | (simp; omega)) _ | refine Ext.drewN ?_ _ | refine Ext.alloc ?_ _ | refine Ext.drew ?_ | refine Ext.trans ?_ (by assumption)))
      refine wpAnyH_take (i := 0) (oi := ?o3x0) (v := ?v3x0) ?hi3x0 (by kernel_rfl) ?hf3x0 ?hr3x0 (fun _ _ _ h => h) ?hy3x0 (by assumption) ?rest3x0
      case hi3x0 => (simp only [List.getElem?_toArray, List.getElem?_cons_zero]; exact rfl)
      case hf3x0 => kernel_rfl
      case hr3x0 => kernel_rfl
      case hy3x0 => (refine Or.inl ⟨by rfl, ?_⟩; intro w hSw; (try dsimp only at hSw); go_simp; try with_reducible rfl)
      simp only [put_mk, List.set_cons_succ, List.set_cons_zero]
      refine wpAnyH_take (i := 1) (oi := ?o3x1) (v := ?v3x1) ?hi3x1 (by kernel_rfl) ?hf3x1 ?hr3x1 (fun _ _ _ h => h) ?hy3x1 (by assumption) ?rest3x1
      case hi3x1 => (simp only [List.getElem?_toArray, List.getElem?_cons_succ, List.getElem?_cons_zero]; exact rfl)
      case hf3x1 => kernel_rfl
      case hr3x1 => kernel_rfl
      case hy3x1 => (refine Or.inl ⟨by rfl, ?_⟩; intro w hSw; (try dsimp only at hSw); go_simp; try with_reducible rfl)
      simp only [put_mk, List.set_cons_succ, List.set_cons_zero]
      refine wpAnyH_take (i := 3) (oi := ?o3x3) (v := ?v3x3) ?hi3x3 (by kernel_rfl) ?hf3x3 ?hr3x3 (fun _ _ _ h => h) ?hy3x3 (by assumption) ?rest3x3
      case hi3x3 => (simp only [List.getElem?_toArray, List.getElem?_cons_succ, List.getElem?_cons_zero]; exact rfl)
      case hf3x3 => kernel_rfl
      case hr3x3 => kernel_rfl
      case hy3x3 => (refine Or.inl ⟨by rfl, ?_⟩; intro w hSw; (try dsimp only at hSw); go_simp; try with_reducible rfl)
      simp only [put_mk, List.set_cons_succ, List.set_cons_zero]
      refine wpAnyH_take (i := 4) (oi := ?o3x4) (v := ?v3x4) ?hi3x4 (by kernel_rfl) ?hf3x4 ?hr3x4 (fun _ _ _ h => h) ?hy3x4 (by assumption) ?rest3x4
      case hi3x4 => (simp only [List.getElem?_toArray, List.getElem?_cons_succ, List.getElem?_cons_zero]; exact rfl)
      case hf3x4 => kernel_rfl
      case hr3x4 => kernel_rfl
      case hy3x4 => (refine Or.inl ⟨by rfl, ?_⟩; intro w hSw; (try dsimp only at hSw); go_simp; try with_reducible rfl)
      simp only [put_mk, List.set_cons_succ, List.set_cons_zero]
      refine wpAnyH_take (i := 5) (oi := ?o3x5) (v := ?v3x5) ?hi3x5 (by kernel_rfl) ?hf3x5 ?hr3x5 (fun _ _ _ h => h) ?hy3x5 (by assumption) ?rest3x5
      case hi3x5 => (simp only [List.getElem?_toArray, List.getElem?_cons_succ, List.getElem?_cons_zero]; exact rfl)
      case hf3x5 => kernel_rfl
      case hr3x5 => kernel_rfl
      case hy3x5 => (refine Or.inl ⟨by rfl, ?_⟩; intro w hSw; (try dsimp only at hSw); go_simp; try with_reducible rfl)
      simp only [put_mk, List.set_cons_succ, List.set_cons_zero]
      refine wpAnyH_take (i := 6) (oi := ?o3x6) (v := ?v3x6) ?hi3x6 (by kernel_rfl) ?hf3x6 ?hr3x6 (fun _ _ _ h => h) ?hy3x6 (by assumption) ?rest3x6
      case hi3x6 => (simp only [List.getElem?_toArray, List.getElem?_cons_succ, List.getElem?_cons_zero]; exact rfl)
      case hf3x6 => kernel_rfl
      case hr3x6 => kernel_rfl
      case hy3x6 => (refine Or.inl ⟨by rfl, ?_⟩; intro w hSw; (try dsimp only at hSw); go_simp; try with_reducible rfl)
      simp only [put_mk, List.set_cons_succ, List.set_cons_zero]
      refine wpAnyH_take (i := 7) (oi := ?o3x7) (v := ?v3x7) ?hi3x7 (by kernel_rfl) ?hf3x7 ?hr3x7 (fun _ _ _ h => h) ?hy3x7 (by assumption) ?rest3x7
      case hi3x7 => (simp only [List.getElem?_toArray, List.getElem?_cons_succ, List.getElem?_cons_zero]; exact rfl)
      case hf3x7 => kernel_rfl
      case hr3x7 => kernel_rfl
      case hy3x7 => (refine Or.inl ⟨by rfl, ?_⟩; intro w hSw; (try dsimp only at hSw); go_simp; try with_reducible rfl)
      simp only [put_mk, List.set_cons_succ, List.set_cons_zero]
      refine wpAnyH_take (i := 8) (oi := ?o3x8) (v := ?v3x8) ?hi3x8 (by kernel_rfl) ?hf3x8 ?hr3x8 (fun _ _ _ h => h) ?hy3x8 (by assumption) ?rest3x8
      case hi3x8 => (simp only [List.getElem?_toArray, List.getElem?_cons_succ, List.getElem?_cons_zero]; exact rfl)
      case hf3x8 => kernel_rfl
      case hr3x8 => kernel_rfl
      case hy3x8 => (refine Or.inl ⟨by rfl, ?_⟩; intro w hSw; (try dsimp only at hSw); go_simp; try with_reducible rfl)
      simp only [put_mk, List.set_cons_succ, List.set_cons_zero]
      refine wpAnyH_ready (rs := [2]) (by kernel_rfl) (by simp) ?_
      refine AllReadyH.cons (o := ?o3x2) ?hi3x2 (fun K hK => ?_) AllReadyH.nil
      case hi3x2 => (simp only [List.getElem?_toArray, List.getElem?_cons_succ, List.getElem?_cons_zero]; exact rfl)
      go_simp
      refine ((HGE _ (hx0.trans hHeld)).out).mono ?_
      rintro e w7 ⟨rfl, hx7⟩
      refine hK.out _ _ ?_ (fun hHeld => ?_)
      · (repeat (first | exact Ext.refl _ | assumption | refine Ext.setCell ?_ (by first | (simp; done) | (simp; omega)) _ | refine Ext.drewN ?_ _ | refine Ext.alloc ?_ _ | refine Ext.drew ?_ | refine Ext.trans ?_ (by assumption)))
      clear hK K
      refine wpAnyH_ready (rs := [9]) (by kernel_rfl) (by simp) ?_
      refine AllReadyH.cons (o := ?o3x9) ?hi3x9 (fun K hK => ?_) AllReadyH.nil
      case hi3x9 => (simp only [List.getElem?_toArray, List.getElem?_cons_succ, List.getElem?_cons_zero]; exact rfl)
      go_simp
      refine ((HHa _).out).mono ?_
      rintro e w7 ⟨rfl, hx7⟩
      refine hK.out _ _ ?_ (fun hHeld => ?_)
      · (repeat (first | exact Ext.refl _ | assumption | refine Ext.setCell ?_ (by first | (simp; done) | (simp; omega)) _ | refine Ext.drewN ?_ _ | refine Ext.alloc ?_ _ | refine Ext.drew ?_ | refine Ext.trans ?_ (by assumption)))
      clear hK K
      refine wpAnyH_take (i := 10) (oi := ?o3x10) (v := ?v3x10) ?hi3x10 (by kernel_rfl) ?hf3x10 ?hr3x10 (fun _ _ _ h => h) ?hy3x10 (by assumption) ?rest3x10
      case hi3x10 => (simp only [List.getElem?_toArray, List.getElem?_cons_succ, List.getElem?_cons_zero]; exact rfl)
      case hf3x10 => kernel_rfl
      case hr3x10 => kernel_rfl
      case hy3x10 => (refine Or.inl ⟨by rfl, ?_⟩; intro w hSw; (try dsimp only at hSw); go_simp; try with_reducible rfl)
      simp only [put_mk, List.set_cons_succ, List.set_cons_zero]
      refine wpAnyH_take (i := 11) (oi := ?o3x11) (v := ?v3x11) ?hi3x11 (by kernel_rfl) ?hf3x11 ?hr3x11 (fun _ _ _ h => h) ?hy3x11 (by assumption) ?rest3x11
      case hi3x11 => (simp only [List.getElem?_toArray, List.getElem?_cons_succ, List.getElem?_cons_zero]; exact rfl)
      case hf3x11 => kernel_rfl
      case hr3x11 => kernel_rfl
      case hy3x11 => (refine Or.inl ⟨by rfl, ?_⟩; intro w hSw; (try dsimp only at hSw); go_simp; try with_reducible rfl)
      simp only [put_mk, List.set_cons_succ, List.set_cons_zero]
      refine wpAnyH_take (i := 12) (oi := ?o3x12) (v := ?v3x12) ?hi3x12 (by kernel_rfl) ?hf3x12 ?hr3x12 (fun _ _ _ h => h) ?hy3x12 (by assumption) ?rest3x12
      case hi3x12 => (simp only [List.getElem?_toArray, List.getElem?_cons_succ, List.getElem?_cons_zero]; exact rfl)
      case hf3x12 => kernel_rfl
      case hr3x12 => kernel_rfl
      case hy3x12 => (refine Or.inl ⟨by rfl, ?_⟩; intro w hSw; (try dsimp only at hSw); go_simp; try with_reducible rfl)
      simp only [put_mk, List.set_cons_succ, List.set_cons_zero]
      refine wpAnyH_take (i := 13) (oi := ?o3x13) (v := ?v3x13) ?hi3x13 (by kernel_rfl) ?hf3x13 ?hr3x13 (fun _ _ _ h => h) ?hy3x13 (by assumption) ?rest3x13
      case hi3x13 => (simp only [List.getElem?_toArray, List.getElem?_cons_succ, List.getElem?_cons_zero]; exact rfl)
      case hf3x13 => kernel_rfl
      case hr3x13 => kernel_rfl
      case hy3x13 => (refine Or.inl ⟨by rfl, ?_⟩; intro w hSw; (try dsimp only at hSw); go_simp; try with_reducible rfl)
      simp only [put_mk, List.set_cons_succ, List.set_cons_zero]
      refine wpAnyH_take (i := 14) (oi := ?o3x14) (v := ?v3x14) ?hi3x14 (by kernel_rfl) ?hf3x14 ?hr3x14 (fun _ _ _ h => h) ?hy3x14 (by assumption) ?rest3x14
      case hi3x14 => (simp only [List.getElem?_toArray, List.getElem?_cons_succ, List.getElem?_cons_zero]; exact rfl)
      case hf3x14 => kernel_rfl
      case hr3x14 => kernel_rfl
      case hy3x14 => (refine Or.inl ⟨by rfl, ?_⟩; intro w hSw; (try dsimp only at hSw); go_simp; try with_reducible rfl)
      simp only [put_mk, List.set_cons_succ, List.set_cons_zero]
      refine wpAnyH_take (i := 15) (oi := ?o3x15) (v := ?v3x15) ?hi3x15 (by kernel_rfl) ?hf3x15 ?hr3x15 (fun _ _ _ h => h) ?hy3x15 (by assumption) ?rest3x15
      case hi3x15 => (simp only [List.getElem?_toArray, List.getElem?_cons_succ, List.getElem?_cons_zero]; exact rfl)
      case hf3x15 => kernel_rfl
      case hr3x15 => kernel_rfl
      case hy3x15 => (refine Or.inl ⟨by rfl, ?_⟩; intro w hSw; (try dsimp only at hSw); go_simp; try with_reducible rfl)
      simp only [put_mk, List.set_cons_succ, List.set_cons_zero]
      refine wpAnyH_take (i := 16) (oi := ?o3x16) (v := ?v3x16) ?hi3x16 (by kernel_rfl) ?hf3x16 ?hr3x16 (fun _ _ _ h => h) ?hy3x16 (by assumption) ?rest3x16
      case hi3x16 => (simp only [List.getElem?_toArray, List.getElem?_cons_succ, List.getElem?_cons_zero]; exact rfl)
      case hf3x16 => kernel_rfl
      case hr3x16 => kernel_rfl
      case hy3x16 => (refine Or.inl ⟨by rfl, ?_⟩; intro w hSw; (try dsimp only at hSw); go_simp; try with_reducible rfl)
      simp only [put_mk, List.set_cons_succ, List.set_cons_zero]
      refine wpAnyH_take (i := 17) (oi := ?o3x17) (v := ?v3x17) ?hi3x17 (by kernel_rfl) ?hf3x17 ?hr3x17 (fun _ _ _ h => h) ?hy3x17 (by assumption) ?rest3x17
      case hi3x17 => (simp only [List.getElem?_toArray, List.getElem?_cons_succ, List.getElem?_cons_zero]; exact rfl)
      case hf3x17 => kernel_rfl
      case hr3x17 => kernel_rfl
      case hy3x17 => (refine Or.inl ⟨by rfl, ?_⟩; intro w hSw; (try dsimp only at hSw); go_simp; try with_reducible rfl)
      simp only [put_mk, List.set_cons_succ, List.set_cons_zero]
      refine wpAnyH_ready (rs := [18]) (by kernel_rfl) (by simp) ?_
      refine AllReadyH.cons (o := ?o3x18) ?hi3x18 (fun K hK => ?_) AllReadyH.nil
      case hi3x18 => (simp only [List.getElem?_toArray, List.getElem?_cons_succ, List.getElem?_cons_zero]; exact rfl)
      go_simp
      refine ((HHb _).out).mono ?_
      rintro e w7 ⟨rfl, hx7⟩
      refine hK.out _ _ ?_ (fun hHeld => ?_)
      · (repeat (first | exact Ext.refl _ | assumption | refine Ext.setCell ?_ (by first | (simp; done) | (simp; omega)) _ | refine Ext.drewN ?_ _ | refine Ext.alloc ?_ _ | refine Ext.drew ?_ | refine Ext.trans ?_ (by assumption)))
      clear hK K
      refine wpAnyH_take (i := 19) (oi := ?o3x19) (v := ?v3x19) ?hi3x19 (by kernel_rfl) ?hf3x19 ?hr3x19 (fun _ _ _ h => h) ?hy3x19 (by assumption) ?rest3x19
      case hi3x19 => (simp only [List.getElem?_toArray, List.getElem?_cons_succ, List.getElem?_cons_zero]; exact rfl)
      case hf3x19 => kernel_rfl
      case hr3x19 => kernel_rfl
      case hy3x19 => (refine Or.inl ⟨by rfl, ?_⟩; intro w hSw; (try dsimp only at hSw); go_simp; try with_reducible rfl)
      simp only [put_mk, List.set_cons_succ, List.set_cons_zero]
      refine wpAnyH_take (i := 20) (oi := ?o3x20) (v := ?v3x20) ?hi3x20 (by kernel_rfl) ?hf3x20 ?hr3x20 (fun _ _ _ h => h) ?hy3x20 (by assumption) ?rest3x20
      case hi3x20 => (simp only [List.getElem?_toArray, List.getElem?_cons_succ, List.getElem?_cons_zero]; exact rfl)
      case hf3x20 => kernel_rfl
      case hr3x20 => kernel_rfl
      case hy3x20 => (refine Or.inl ⟨by rfl, ?_⟩; intro w hSw; (try dsimp only at hSw); go_simp; try with_reducible rfl)
      simp only [put_mk, List.set_cons_succ, List.set_cons_zero]
      refine wpAnyH_ready (rs := [21]) (by kernel_rfl) (by simp) ?_
      refine AllReadyH.cons (o := ?o3x21) ?hi3x21 (fun K hK => ?_) AllReadyH.nil
      case hi3x21 => (simp only [List.getElem?_toArray, List.getElem?_cons_succ, List.getElem?_cons_zero]; exact rfl)
      go_simp
      refine ((HWh _ _).out).mono ?_
      rintro e w7 ⟨rfl, hw7⟩
      subst hw7
      refine hK.out _ _ ?_ (fun hHeld => ?_)
      · (repeat (first | exact Ext.refl _ | assumption | refine Ext.setCell ?_ (by first | (simp; done) | (simp; omega)) _ | refine Ext.drewN ?_ _ | refine Ext.alloc ?_ _ | refine Ext.drew ?_ | refine Ext.trans ?_ (by assumption)))
      clear hK K
      refine wpAnyH_ready (rs := [22]) (by kernel_rfl) (by simp) ?_
      refine AllReadyH.cons (o := ?o3x22) ?hi3x22 (fun K hK => ?_) AllReadyH.nil
      case hi3x22 => (simp only [List.getElem?_toArray, List.getElem?_cons_succ, List.getElem?_cons_zero]; exact rfl)
      go_simp
      refine hK.out _ _ ?_ (fun hHeld => ?_)
      · (repeat (first | exact Ext.refl _ | assumption | refine Ext.setCell ?_ (by first | (simp; done) | (simp; omega)) _ | refine Ext.drewN ?_ _ | refine Ext.alloc ?_ _ | refine Ext.drew ?_ | refine Ext.trans ?_ (by assumption)))
      clear hK K
      refine wpAnyH_ready (rs := [23]) (by kernel_rfl) (by simp) ?_
      refine AllReadyH.cons (o := ?o3x23) ?hi3x23 (fun K hK => ?_) AllReadyH.nil
      case hi3x23 => (simp only [List.getElem?_toArray, List.getElem?_cons_succ, List.getElem?_cons_zero]; exact rfl)
      go_simp
      refine ((HS _ _ (Rd.new (by first | rfl | simp) (by first | rfl | simp))).out).mono ?_
      rintro e w7 ⟨rfl, hw7⟩
      subst hw7
      refine hK.out _ _ ?_ (fun hHeld => ?_)
      · (repeat (first | exact Ext.refl _ | assumption | refine Ext.setCell ?_ (by first | (simp; done) | (simp; omega)) _ | refine Ext.drewN ?_ _ | refine Ext.alloc ?_ _ | refine Ext.drew ?_ | refine Ext.trans ?_ (by assumption)))
      clear hK K
      refine wpAnyH_take (i := 24) (oi := ?o3x24) (v := ?v3x24) ?hi3x24 (by kernel_rfl) ?hf3x24 ?hr3x24 (fun _ _ _ h => h) ?hy3x24 (by assumption) ?rest3x24
      case hi3x24 => (simp only [List.getElem?_toArray, List.getElem?_cons_succ, List.getElem?_cons_zero]; exact rfl)
      case hf3x24 => kernel_rfl
      case hr3x24 => kernel_rfl
      case hy3x24 => (refine Or.inl ⟨by rfl, ?_⟩; intro w hSw; (try dsimp only at hSw); go_simp; try with_reducible rfl)
      simp only [put_mk, List.set_cons_succ, List.set_cons_zero]
      refine wpAnyH_done (by kernel_rfl) ?_ _
      refine NoPanic.normal ?_
      go_wp2
      go_ret
      exact ⟨by first | rfl | simp, hx0.trans hHeld⟩
set_option maxRecDepth 100000 in
set_option maxHeartbeats 6400000 in
theorem rules_good (X Y : Int) (Wn Hn : Nat) (A : Option Addr) (N c : Nat) (R : RlR) (C : Option Addr) (m cc k t : Nat) (lf : List Nat) (X' Y' W' H' : Int) (l : List Nat) (w : World)
    (hr : Reg X Y Wn Hn) (hN : N = Wn * Hn) (hR : RlOk R N) (hn : lf.length = N) (hh : ∀ j, j < N → Bd 20 (lf.getD j 0)) (hk : k < N) (ht : t < N) (hV : Rd w A (flt lf)) (hCo : CoR w C m R.co) (hC : CoP w C m X' Y' W' H' l) (hm : m ≤ 140737488351232) (hg : grndE X Y Wn Hn lf R.gr R.wt R.br R.de R.sp m X' Y' W' H' l = 0) :
    Calls Try.prog 3 #[.agg #[.int .i64 X, .int .i64 Y, .int .i64 (Wn : Int), .int .i64 (Hn : Int), .slice A N c], .agg #[.float .f32 R.gr, .float .f32 R.wt, .float .f32 R.br, .float .f32 R.de, .int .i64 (R.sp : Int), .slice C m cc], .agg #[.int .i64 (X + ((k % Wn : Nat) : Int)), .int .i64 (Y + ((k / Wn : Nat) : Int))], .agg #[.int .i64 (X + ((t % Wn : Nat) : Int)), .int .i64 (Y + ((t / Wn : Nat) : Int))]] w fun e w' => e = .returned (.bool true) ∧ Ext w w' := by
  have hb : N ≤ 140737488351232 := by have := hr.n; omega
  have HSC := fun (w' : World) (h : Ext w w') => hidA (StepCost_ok X Y Wn Hn A N c R C m cc k t lf X' Y' W' H' l w' hr hN hR hn hh hk ht (hV.ext h) (hCo.ext h) (hC.ext h) hg)
  have HTo := fun (w' : World) (h : Ext w w') => hidA (Toll_any X Y Wn Hn A N c R C m cc k t lf w' hr hN hR hn hh hk ht (hV.ext h) (hCo.ext h))
  unfold stV at HTo
  have HCR := fun (w' : World) (h : Ext w w') => hidA (CheckRules_any R.gr R.wt R.br R.de R.sp C m cc X' Y' W' H' l w' (hC.ext h) hm)
  have HRE := fun (w' : World) (h : Ext w w') => hidA (RulesError_any R.gr R.wt R.br R.de R.sp C m cc X' Y' W' H' l w' (hC.ext h) hm)
  have HGE := fun (w' : World) (h : Ext w w') => hidA (GroundError_any X Y Wn Hn A N c lf R.gr R.wt R.br R.de R.sp C m cc X' Y' W' H' l w' hn (hV.ext h) hb (hC.ext h) hm)
  have HL := fun (w : World) => hidA (leads_any w)
  have HWh := fun (b : Bool) (w : World) => hidA (when_any b 5 w)
  rw [hg] at HGE
  have hi1 := cpt_in hr hN hk
  have hi2 := cpt_in hr hN ht
  have hb1 : hasB X Y Wn Hn (X + ((k % Wn : Nat) : Int)) (Y + ((k / Wn : Nat) : Int)) = true := by rw [hasB_ok hr.ok]; exact decide_eq_true hi1
  have hb2 : hasB X Y Wn Hn (X + ((t % Wn : Nat) : Int)) (Y + ((t / Wn : Nat) : Int)) = true := by rw [hasB_ok hr.ok]; exact decide_eq_true hi2
  have HHa := fun (w : World) => hidA (has_any X Y Wn Hn (X + ((k % Wn : Nat) : Int)) (Y + ((k / Wn : Nat) : Int)) w)
  have HHb := fun (w : World) => hidA (has_any X Y Wn Hn (X + ((t % Wn : Nat) : Int)) (Y + ((t / Wn : Nat) : Int)) w)
  rw [hb1] at HHa
  rw [hb2] at HHb
  have HS : ∀ (B : Option Addr) (w : World), Rd w B ([0, 0].map (.int .i64)) → Hid (Calls Try.prog 17 #[.slice B 2 2] w fun e w' => e = .returned (.int .i64 0) ∧ w = w') := fun B w h => hidA (first_any B 2 2 [0, 0] w rfl h (by omega))
  have HBt := fun (a : Nat) (w : World) => hidA (bit_same a w)
  clear hn hV hb hC hm hg hr hN hR hh hk ht hCo hi1 hi2 hb1 hb2
  generalize rulesE R.gr R.wt R.br R.de R.sp m X' Y' W' H' l = re at *
  generalize (stepF R (fun j => lf.getD j 0) Wn Hn k t).getD 0 = sv at *
  generalize (stepF R (fun j => lf.getD j 0) Wn Hn k t).isSome = sb at *
  generalize X + ((k % Wn : Nat) : Int) = ax at *
  generalize Y + ((k / Wn : Nat) : Int) = ay at *
  generalize X + ((t % Wn : Nat) : Int) = bx at *
  generalize Y + ((t / Wn : Nat) : Int) = by' at *
  go_enter Try.func3, Try.ntmps3
  go_upto_region 1 with fail
  obtain ⟨w0, hw0⟩ : ∃ w0, w0 = (((w.alloc (.cells #[.int .i64 X, .int .i64 Y, .int .i64 (Wn : Int), .int .i64 (Hn : Int), .slice A N c] 26)).alloc (.cells #[.float .f32 R.gr, .float .f32 R.wt, .float .f32 R.br, .float .f32 R.de, .int .i64 (R.sp : Int), .slice C m cc] 30)).alloc (.cells #[.int .i64 ax, .int .i64 ay] 32)).alloc (.cells #[.int .i64 bx, .int .i64 by'] 32) := ⟨_, rfl⟩
  have kF : Bk w0 w.heap.size 26 #[.int .i64 X, .int .i64 Y, .int .i64 (Wn : Int), .int .i64 (Hn : Int), .slice A N c] := by rw [hw0]; exact (((Bk.new' rfl).alloc _).alloc _).alloc _
  have kR : Bk w0 (w.heap.size + 1) 30 #[.float .f32 R.gr, .float .f32 R.wt, .float .f32 R.br, .float .f32 R.de, .int .i64 (R.sp : Int), .slice C m cc] := by rw [hw0]; exact ((Bk.new' (by simp)).alloc _).alloc _
  have kA : Bk w0 (w.heap.size + 1 + 1) 32 #[.int .i64 ax, .int .i64 ay] := by rw [hw0]; exact (Bk.new' (by simp)).alloc _
  have kB : Bk w0 (w.heap.size + 1 + 1 + 1) 32 #[.int .i64 bx, .int .i64 by'] := by rw [hw0]; exact Bk.new' (by simp)
  have hx0 : Ext w w0 := by rw [hw0]; exact ((((Ext.refl w).alloc _).alloc _).alloc _).alloc _
  rw [← hw0]
  clear hw0
  generalize w.heap.size + 1 + 1 + 1 = hb' at *
  generalize w.heap.size + 1 + 1 = ha' at *
  generalize w.heap.size + 1 = hr' at *
  generalize hfe : w.heap.size = hf at *
  clear hfe
  have f0 : ∀ w', Ext w0 w' → w'.cell? ⟨hf, 0, none⟩ = some (.int .i64 X) := fun w' h => (kF.ext h).cell 0
  have f1 : ∀ w', Ext w0 w' → w'.cell? ⟨hf, 1, none⟩ = some (.int .i64 Y) := fun w' h => (kF.ext h).cell 1
  have f2 : ∀ w', Ext w0 w' → w'.cell? ⟨hf, 2, none⟩ = some (.int .i64 (Wn : Int)) := fun w' h => (kF.ext h).cell 2
  have f3 : ∀ w', Ext w0 w' → w'.cell? ⟨hf, 3, none⟩ = some (.int .i64 (Hn : Int)) := fun w' h => (kF.ext h).cell 3
  have f4 : ∀ w', Ext w0 w' → w'.cell? ⟨hf, 4, none⟩ = some (.slice A N c) := fun w' h => (kF.ext h).cell 4
  have r0 : ∀ w', Ext w0 w' → w'.cell? ⟨hr', 0, none⟩ = some (.float .f32 R.gr) := fun w' h => (kR.ext h).cell 0
  have r1 : ∀ w', Ext w0 w' → w'.cell? ⟨hr', 1, none⟩ = some (.float .f32 R.wt) := fun w' h => (kR.ext h).cell 1
  have r2 : ∀ w', Ext w0 w' → w'.cell? ⟨hr', 2, none⟩ = some (.float .f32 R.br) := fun w' h => (kR.ext h).cell 2
  have r3 : ∀ w', Ext w0 w' → w'.cell? ⟨hr', 3, none⟩ = some (.float .f32 R.de) := fun w' h => (kR.ext h).cell 3
  have r4 : ∀ w', Ext w0 w' → w'.cell? ⟨hr', 4, none⟩ = some (.int .i64 (R.sp : Int)) := fun w' h => (kR.ext h).cell 4
  have r5 : ∀ w', Ext w0 w' → w'.cell? ⟨hr', 5, none⟩ = some (.slice C m cc) := fun w' h => (kR.ext h).cell 5
  have a0 : ∀ w', Ext w0 w' → w'.cell? ⟨ha', 0, none⟩ = some (.int .i64 ax) := fun w' h => (kA.ext h).cell 0
  have a1 : ∀ w', Ext w0 w' → w'.cell? ⟨ha', 1, none⟩ = some (.int .i64 ay) := fun w' h => (kA.ext h).cell 1
  have b0 : ∀ w', Ext w0 w' → w'.cell? ⟨hb', 0, none⟩ = some (.int .i64 bx) := fun w' h => (kB.ext h).cell 0
  have b1 : ∀ w', Ext w0 w' → w'.cell? ⟨hb', 1, none⟩ = some (.int .i64 by') := fun w' h => (kB.ext h).cell 1
  have y0 := kR.cell 0
  have y1 := kR.cell 1
  have y2 := kR.cell 2
  have y3 := kR.cell 3
  have y4 := kR.cell 4
  have y5 := kR.cell 5
  go_upto_region 2 with (go_at_call 13; refine ((HCR _ hx0).out).mono ?_; rintro e w1 ⟨rfl, hx1⟩)
  clear y0 y1 y2 y3 y4 y5 HCR
  have x0 := (kF.ext hx1).cell 0
  have x1 := (kF.ext hx1).cell 1
  have x2 := (kF.ext hx1).cell 2
  have x3 := (kF.ext hx1).cell 3
  have x4 := (kF.ext hx1).cell 4
  have y0 := (kR.ext hx1).cell 0
  have y1 := (kR.ext hx1).cell 1
  have y2 := (kR.ext hx1).cell 2
  have y3 := (kR.ext hx1).cell 3
  have y4 := (kR.ext hx1).cell 4
  have y5 := (kR.ext hx1).cell 5
  have u0 := (kA.ext hx1).cell 0
  have u1 := (kA.ext hx1).cell 1
  have v0 := (kB.ext hx1).cell 0
  have v1 := (kB.ext hx1).cell 1
  go_upto_region 3 with (go_at_call 14; refine ((HSC _ (hx0.trans hx1)).out).mono ?_; rintro e w2 ⟨rfl, hx2⟩)
  clear x0 x1 x2 x3 x4 y0 y1 y2 y3 y4 y5 u0 u1 v0 v1 HSC
  go_upto_region 5 with (first | (go_at_call 15; refine ((HL _).out).mono ?_; rintro e w3 ⟨rfl, hx3⟩; have y0 := (kR.ext (hx1.trans (hx2.trans hx3))).cell 0; have y1 := (kR.ext (hx1.trans (hx2.trans hx3))).cell 1; have y2 := (kR.ext (hx1.trans (hx2.trans hx3))).cell 2; have y3 := (kR.ext (hx1.trans (hx2.trans hx3))).cell 3; have y4 := (kR.ext (hx1.trans (hx2.trans hx3))).cell 4; have y5 := (kR.ext (hx1.trans (hx2.trans hx3))).cell 5) | (go_at_call 16; refine ((HRE _ (hx0.trans (hx1.trans (hx2.trans hx3)))).out).mono ?_; rintro e w4 ⟨rfl, hx4⟩))
  clear y0 y1 y2 y3 y4 y5 HL HRE
  have hx4' : Ext w0 w4 := hx1.trans (hx2.trans (hx3.trans hx4))
  refine wp_region_noPanic ?_
  refine wp_region_held_drew (S := fun w' => Ext w0 w') (by kernel_rfl) ?_ (fun hHeld => ?_)
  · (repeat (first | exact Ext.refl _ | assumption | refine Ext.setCell ?_ (by first | (simp; done) | (simp; omega)) _ | refine Ext.drewN ?_ _ | refine Ext.alloc ?_ _ | refine Ext.drew ?_ | refine Ext.trans ?_ (by assumption)))
  refine wpAnyH_take (i := 0) (oi := ?o4x0) (v := ?v4x0) ?hi4x0 (by kernel_rfl) ?hf4x0 ?hr4x0 (fun _ _ _ h => h) ?hy4x0 (by assumption) ?rest4x0
  case hi4x0 => (simp only [List.getElem?_toArray, List.getElem?_cons_zero]; exact rfl)
  case hf4x0 => kernel_rfl
  case hr4x0 => kernel_rfl
  case hy4x0 => (refine Or.inl ⟨by rfl, ?_⟩; intro w hSw; (try dsimp only at hSw); go_simp; try with_reducible rfl)
  simp only [put_mk, List.set_cons_succ, List.set_cons_zero]
  refine wpAnyH_take (i := 1) (oi := ?o4x1) (v := ?v4x1) ?hi4x1 (by kernel_rfl) ?hf4x1 ?hr4x1 (fun _ _ _ h => h) ?hy4x1 (by assumption) ?rest4x1
  case hi4x1 => (simp only [List.getElem?_toArray, List.getElem?_cons_succ, List.getElem?_cons_zero]; exact rfl)
  case hf4x1 => kernel_rfl
  case hr4x1 => kernel_rfl
  case hy4x1 => (refine Or.inl ⟨by rfl, ?_⟩; intro w hSw; (try dsimp only at hSw); go_simp; try with_reducible rfl)
  simp only [put_mk, List.set_cons_succ, List.set_cons_zero]
  refine wpAnyH_take (i := 3) (oi := ?o4x3) (v := ?v4x3) ?hi4x3 (by kernel_rfl) ?hf4x3 ?hr4x3 (fun _ _ _ h => h) ?hy4x3 (by assumption) ?rest4x3
  case hi4x3 => (simp only [List.getElem?_toArray, List.getElem?_cons_succ, List.getElem?_cons_zero]; exact rfl)
  case hf4x3 => kernel_rfl
  case hr4x3 => kernel_rfl
  case hy4x3 => (refine Or.inl ⟨by rfl, ?_⟩; intro w hSw; (try dsimp only at hSw); go_simp; try with_reducible rfl)
  simp only [put_mk, List.set_cons_succ, List.set_cons_zero]
  refine wpAnyH_take (i := 4) (oi := ?o4x4) (v := ?v4x4) ?hi4x4 (by kernel_rfl) ?hf4x4 ?hr4x4 (fun _ _ _ h => h) ?hy4x4 (by assumption) ?rest4x4
  case hi4x4 => (simp only [List.getElem?_toArray, List.getElem?_cons_succ, List.getElem?_cons_zero]; exact rfl)
  case hf4x4 => kernel_rfl
  case hr4x4 => kernel_rfl
  case hy4x4 => (refine Or.inl ⟨by rfl, ?_⟩; intro w hSw; (try dsimp only at hSw); go_simp; try with_reducible rfl)
  simp only [put_mk, List.set_cons_succ, List.set_cons_zero]
  refine wpAnyH_take (i := 5) (oi := ?o4x5) (v := ?v4x5) ?hi4x5 (by kernel_rfl) ?hf4x5 ?hr4x5 (fun _ _ _ h => h) ?hy4x5 (by assumption) ?rest4x5
  case hi4x5 => (simp only [List.getElem?_toArray, List.getElem?_cons_succ, List.getElem?_cons_zero]; exact rfl)
  case hf4x5 => kernel_rfl
  case hr4x5 => kernel_rfl
  case hy4x5 => (refine Or.inl ⟨by rfl, ?_⟩; intro w hSw; (try dsimp only at hSw); go_simp; try with_reducible rfl)
  simp only [put_mk, List.set_cons_succ, List.set_cons_zero]
  refine wpAnyH_take (i := 6) (oi := ?o4x6) (v := ?v4x6) ?hi4x6 (by kernel_rfl) ?hf4x6 ?hr4x6 (fun _ _ _ h => h) ?hy4x6 (by assumption) ?rest4x6
  case hi4x6 => (simp only [List.getElem?_toArray, List.getElem?_cons_succ, List.getElem?_cons_zero]; exact rfl)
  case hf4x6 => kernel_rfl
  case hr4x6 => kernel_rfl
  case hy4x6 => (refine Or.inl ⟨by rfl, ?_⟩; intro w hSw; (try dsimp only at hSw); go_simp; try with_reducible rfl)
  simp only [put_mk, List.set_cons_succ, List.set_cons_zero]
  refine wpAnyH_take (i := 7) (oi := ?o4x7) (v := ?v4x7) ?hi4x7 (by kernel_rfl) ?hf4x7 ?hr4x7 (fun _ _ _ h => h) ?hy4x7 (by assumption) ?rest4x7
  case hi4x7 => (simp only [List.getElem?_toArray, List.getElem?_cons_succ, List.getElem?_cons_zero]; exact rfl)
  case hf4x7 => kernel_rfl
  case hr4x7 => kernel_rfl
  case hy4x7 => (refine Or.inl ⟨by rfl, ?_⟩; intro w hSw; (try dsimp only at hSw); go_simp; try with_reducible rfl)
  simp only [put_mk, List.set_cons_succ, List.set_cons_zero]
  refine wpAnyH_take (i := 8) (oi := ?o4x8) (v := ?v4x8) ?hi4x8 (by kernel_rfl) ?hf4x8 ?hr4x8 (fun _ _ _ h => h) ?hy4x8 (by assumption) ?rest4x8
  case hi4x8 => (simp only [List.getElem?_toArray, List.getElem?_cons_succ, List.getElem?_cons_zero]; exact rfl)
  case hf4x8 => kernel_rfl
  case hr4x8 => kernel_rfl
  case hy4x8 => (refine Or.inl ⟨by rfl, ?_⟩; intro w hSw; (try dsimp only at hSw); go_simp; try with_reducible rfl)
  simp only [put_mk, List.set_cons_succ, List.set_cons_zero]
  refine wpAnyH_ready (rs := [2]) (by kernel_rfl) (by simp) ?_
  refine AllReadyH.cons (o := ?o4x2) ?hi4x2 (fun K hK => ?_) AllReadyH.nil
  case hi4x2 => (simp only [List.getElem?_toArray, List.getElem?_cons_succ, List.getElem?_cons_zero]; exact rfl)
  go_simp
  refine ((HGE _ (hx0.trans hHeld)).out).mono ?_
  rintro e w7 ⟨rfl, hx7⟩
  refine hK.out _ _ ?_ (fun hHeld => ?_)
  · (repeat (first | exact Ext.refl _ | assumption | refine Ext.setCell ?_ (by first | (simp; done) | (simp; omega)) _ | refine Ext.drewN ?_ _ | refine Ext.alloc ?_ _ | refine Ext.drew ?_ | refine Ext.trans ?_ (by assumption)))
  clear hK K
  refine wpAnyH_ready (rs := [9]) (by kernel_rfl) (by simp) ?_
  refine AllReadyH.cons (o := ?o4x9) ?hi4x9 (fun K hK => ?_) AllReadyH.nil
  case hi4x9 => (simp only [List.getElem?_toArray, List.getElem?_cons_succ, List.getElem?_cons_zero]; exact rfl)
  go_simp
  refine ((HHa _).out).mono ?_
  rintro e w7 ⟨rfl, hx7⟩
  refine hK.out _ _ ?_ (fun hHeld => ?_)
  · (repeat (first | exact Ext.refl _ | assumption | refine Ext.setCell ?_ (by first | (simp; done) | (simp; omega)) _ | refine Ext.drewN ?_ _ | refine Ext.alloc ?_ _ | refine Ext.drew ?_ | refine Ext.trans ?_ (by assumption)))
  clear hK K
  refine wpAnyH_take (i := 10) (oi := ?o4x10) (v := ?v4x10) ?hi4x10 (by kernel_rfl) ?hf4x10 ?hr4x10 (fun _ _ _ h => h) ?hy4x10 (by assumption) ?rest4x10
  case hi4x10 => (simp only [List.getElem?_toArray, List.getElem?_cons_succ, List.getElem?_cons_zero]; exact rfl)
  case hf4x10 => kernel_rfl
  case hr4x10 => kernel_rfl
  case hy4x10 => (refine Or.inl ⟨by rfl, ?_⟩; intro w hSw; (try dsimp only at hSw); go_simp; try with_reducible rfl)
  simp only [put_mk, List.set_cons_succ, List.set_cons_zero]
  refine wpAnyH_take (i := 11) (oi := ?o4x11) (v := ?v4x11) ?hi4x11 (by kernel_rfl) ?hf4x11 ?hr4x11 (fun _ _ _ h => h) ?hy4x11 (by assumption) ?rest4x11
  case hi4x11 => (simp only [List.getElem?_toArray, List.getElem?_cons_succ, List.getElem?_cons_zero]; exact rfl)
  case hf4x11 => kernel_rfl
  case hr4x11 => kernel_rfl
  case hy4x11 => (refine Or.inl ⟨by rfl, ?_⟩; intro w hSw; (try dsimp only at hSw); go_simp; try with_reducible rfl)
  simp only [put_mk, List.set_cons_succ, List.set_cons_zero]
  refine wpAnyH_take (i := 12) (oi := ?o4x12) (v := ?v4x12) ?hi4x12 (by kernel_rfl) ?hf4x12 ?hr4x12 (fun _ _ _ h => h) ?hy4x12 (by assumption) ?rest4x12
  case hi4x12 => (simp only [List.getElem?_toArray, List.getElem?_cons_succ, List.getElem?_cons_zero]; exact rfl)
  case hf4x12 => kernel_rfl
  case hr4x12 => kernel_rfl
  case hy4x12 => (refine Or.inl ⟨by rfl, ?_⟩; intro w hSw; (try dsimp only at hSw); go_simp; try with_reducible rfl)
  simp only [put_mk, List.set_cons_succ, List.set_cons_zero]
  refine wpAnyH_take (i := 13) (oi := ?o4x13) (v := ?v4x13) ?hi4x13 (by kernel_rfl) ?hf4x13 ?hr4x13 (fun _ _ _ h => h) ?hy4x13 (by assumption) ?rest4x13
  case hi4x13 => (simp only [List.getElem?_toArray, List.getElem?_cons_succ, List.getElem?_cons_zero]; exact rfl)
  case hf4x13 => kernel_rfl
  case hr4x13 => kernel_rfl
  case hy4x13 => (refine Or.inl ⟨by rfl, ?_⟩; intro w hSw; (try dsimp only at hSw); go_simp; try with_reducible rfl)
  simp only [put_mk, List.set_cons_succ, List.set_cons_zero]
  refine wpAnyH_take (i := 14) (oi := ?o4x14) (v := ?v4x14) ?hi4x14 (by kernel_rfl) ?hf4x14 ?hr4x14 (fun _ _ _ h => h) ?hy4x14 (by assumption) ?rest4x14
  case hi4x14 => (simp only [List.getElem?_toArray, List.getElem?_cons_succ, List.getElem?_cons_zero]; exact rfl)
  case hf4x14 => kernel_rfl
  case hr4x14 => kernel_rfl
  case hy4x14 => (refine Or.inl ⟨by rfl, ?_⟩; intro w hSw; (try dsimp only at hSw); go_simp; try with_reducible rfl)
  simp only [put_mk, List.set_cons_succ, List.set_cons_zero]
  refine wpAnyH_take (i := 15) (oi := ?o4x15) (v := ?v4x15) ?hi4x15 (by kernel_rfl) ?hf4x15 ?hr4x15 (fun _ _ _ h => h) ?hy4x15 (by assumption) ?rest4x15
  case hi4x15 => (simp only [List.getElem?_toArray, List.getElem?_cons_succ, List.getElem?_cons_zero]; exact rfl)
  case hf4x15 => kernel_rfl
  case hr4x15 => kernel_rfl
  case hy4x15 => (refine Or.inl ⟨by rfl, ?_⟩; intro w hSw; (try dsimp only at hSw); go_simp; try with_reducible rfl)
  simp only [put_mk, List.set_cons_succ, List.set_cons_zero]
  refine wpAnyH_take (i := 16) (oi := ?o4x16) (v := ?v4x16) ?hi4x16 (by kernel_rfl) ?hf4x16 ?hr4x16 (fun _ _ _ h => h) ?hy4x16 (by assumption) ?rest4x16
  case hi4x16 => (simp only [List.getElem?_toArray, List.getElem?_cons_succ, List.getElem?_cons_zero]; exact rfl)
  case hf4x16 => kernel_rfl
  case hr4x16 => kernel_rfl
  case hy4x16 => (refine Or.inl ⟨by rfl, ?_⟩; intro w hSw; (try dsimp only at hSw); go_simp; try with_reducible rfl)
  simp only [put_mk, List.set_cons_succ, List.set_cons_zero]
  refine wpAnyH_take (i := 17) (oi := ?o4x17) (v := ?v4x17) ?hi4x17 (by kernel_rfl) ?hf4x17 ?hr4x17 (fun _ _ _ h => h) ?hy4x17 (by assumption) ?rest4x17
  case hi4x17 => (simp only [List.getElem?_toArray, List.getElem?_cons_succ, List.getElem?_cons_zero]; exact rfl)
  case hf4x17 => kernel_rfl
  case hr4x17 => kernel_rfl
  case hy4x17 => (refine Or.inl ⟨by rfl, ?_⟩; intro w hSw; (try dsimp only at hSw); go_simp; try with_reducible rfl)
  simp only [put_mk, List.set_cons_succ, List.set_cons_zero]
  refine wpAnyH_ready (rs := [18]) (by kernel_rfl) (by simp) ?_
  refine AllReadyH.cons (o := ?o4x18) ?hi4x18 (fun K hK => ?_) AllReadyH.nil
  case hi4x18 => (simp only [List.getElem?_toArray, List.getElem?_cons_succ, List.getElem?_cons_zero]; exact rfl)
  go_simp
  refine ((HHb _).out).mono ?_
  rintro e w7 ⟨rfl, hx7⟩
  refine hK.out _ _ ?_ (fun hHeld => ?_)
  · (repeat (first | exact Ext.refl _ | assumption | refine Ext.setCell ?_ (by first | (simp; done) | (simp; omega)) _ | refine Ext.drewN ?_ _ | refine Ext.alloc ?_ _ | refine Ext.drew ?_ | refine Ext.trans ?_ (by assumption)))
  clear hK K
  refine wpAnyH_take (i := 19) (oi := ?o4x19) (v := ?v4x19) ?hi4x19 (by kernel_rfl) ?hf4x19 ?hr4x19 (fun _ _ _ h => h) ?hy4x19 (by assumption) ?rest4x19
  case hi4x19 => (simp only [List.getElem?_toArray, List.getElem?_cons_succ, List.getElem?_cons_zero]; exact rfl)
  case hf4x19 => kernel_rfl
  case hr4x19 => kernel_rfl
  case hy4x19 => (refine Or.inl ⟨by rfl, ?_⟩; intro w hSw; (try dsimp only at hSw); go_simp; try with_reducible rfl)
  simp only [put_mk, List.set_cons_succ, List.set_cons_zero]
  refine wpAnyH_take (i := 20) (oi := ?o4x20) (v := ?v4x20) ?hi4x20 (by kernel_rfl) ?hf4x20 ?hr4x20 (fun _ _ _ h => h) ?hy4x20 (by assumption) ?rest4x20
  case hi4x20 => (simp only [List.getElem?_toArray, List.getElem?_cons_succ, List.getElem?_cons_zero]; exact rfl)
  case hf4x20 => kernel_rfl
  case hr4x20 => kernel_rfl
  case hy4x20 => (refine Or.inl ⟨by rfl, ?_⟩; intro w hSw; (try dsimp only at hSw); go_simp; try with_reducible rfl)
  simp only [put_mk, List.set_cons_succ, List.set_cons_zero]
  refine wpAnyH_ready (rs := [21]) (by kernel_rfl) (by simp) ?_
  refine AllReadyH.cons (o := ?o4x21) ?hi4x21 (fun K hK => ?_) AllReadyH.nil
  case hi4x21 => (simp only [List.getElem?_toArray, List.getElem?_cons_succ, List.getElem?_cons_zero]; exact rfl)
  go_simp
  refine ((HWh _ _).out).mono ?_
  rintro e w7 ⟨rfl, hw7⟩
  subst hw7
  refine hK.out _ _ ?_ (fun hHeld => ?_)
  · (repeat (first | exact Ext.refl _ | assumption | refine Ext.setCell ?_ (by first | (simp; done) | (simp; omega)) _ | refine Ext.drewN ?_ _ | refine Ext.alloc ?_ _ | refine Ext.drew ?_ | refine Ext.trans ?_ (by assumption)))
  clear hK K
  refine wpAnyH_ready (rs := [22]) (by kernel_rfl) (by simp) ?_
  refine AllReadyH.cons (o := ?o4x22) ?hi4x22 (fun K hK => ?_) AllReadyH.nil
  case hi4x22 => (simp only [List.getElem?_toArray, List.getElem?_cons_succ, List.getElem?_cons_zero]; exact rfl)
  go_simp
  refine hK.out _ _ ?_ (fun hHeld => ?_)
  · (repeat (first | exact Ext.refl _ | assumption | refine Ext.setCell ?_ (by first | (simp; done) | (simp; omega)) _ | refine Ext.drewN ?_ _ | refine Ext.alloc ?_ _ | refine Ext.drew ?_ | refine Ext.trans ?_ (by assumption)))
  clear hK K
  refine wpAnyH_ready (rs := [23]) (by kernel_rfl) (by simp) ?_
  refine AllReadyH.cons (o := ?o4x23) ?hi4x23 (fun K hK => ?_) AllReadyH.nil
  case hi4x23 => (simp only [List.getElem?_toArray, List.getElem?_cons_succ, List.getElem?_cons_zero]; exact rfl)
  go_simp
  refine ((HS _ _ (Rd.new (by first | rfl | simp) (by first | rfl | simp))).out).mono ?_
  rintro e w7 ⟨rfl, hw7⟩
  subst hw7
  refine hK.out _ _ ?_ (fun hHeld => ?_)
  · (repeat (first | exact Ext.refl _ | assumption | refine Ext.setCell ?_ (by first | (simp; done) | (simp; omega)) _ | refine Ext.drewN ?_ _ | refine Ext.alloc ?_ _ | refine Ext.drew ?_ | refine Ext.trans ?_ (by assumption)))
  clear hK K
  refine wpAnyH_take (i := 24) (oi := ?o4x24) (v := ?v4x24) ?hi4x24 (by kernel_rfl) ?hf4x24 ?hr4x24 (fun _ _ _ h => h) ?hy4x24 (by assumption) ?rest4x24
  case hi4x24 => (simp only [List.getElem?_toArray, List.getElem?_cons_succ, List.getElem?_cons_zero]; exact rfl)
  case hf4x24 => kernel_rfl
  case hr4x24 => kernel_rfl
  case hy4x24 => (refine Or.inl ⟨by rfl, ?_⟩; intro w hSw; (try dsimp only at hSw); go_simp; try with_reducible rfl)
  simp only [put_mk, List.set_cons_succ, List.set_cons_zero]
  refine wpAnyH_done (by kernel_rfl) ?_ _
  refine NoPanic.normal ?_
  have hxH := hx0.trans hHeld
  have x0 := f0 _ hHeld
  have x1 := f1 _ hHeld
  have x2 := f2 _ hHeld
  have x3 := f3 _ hHeld
  have x4 := f4 _ hHeld
  have y0 := r0 _ hHeld
  have y1 := r1 _ hHeld
  have y2 := r2 _ hHeld
  have y3 := r3 _ hHeld
  have y4 := r4 _ hHeld
  have y5 := r5 _ hHeld
  have u0 := a0 _ hHeld
  have u1 := a1 _ hHeld
  have v0 := b0 _ hHeld
  have v1 := b1 _ hHeld
  clear f0 f1 f2 f3 f4 r0 r1 r2 r3 r4 r5 a0 a1 b0 b1 HGE HHa HHb HS HWh hx1 hx2 hx3 hx4 hx4'
  have hsb : (sb == sb) = true := by simp
  go_wp2_with (first | (go_at_call 21; refine ((HTo _ hxH).out).mono ?_; rintro e w8 ⟨rfl, hx8⟩) | (go_at_call 22; refine ((HBt _ _).out).mono ?_; rintro e w9 ⟨rfl, hw9⟩; subst hw9))
  go_ret
  exact ⟨by first | rfl | simp, hxH.trans hx8⟩
theorem rules_walk (X Y W H : Int) (A : Option Addr) (n c : Nat) (lf : List Nat) (gr wt br de : Nat) (sp : Int) (C : Option Addr) (m cc : Nat) (X' Y' W' H' : Int) (l : List Nat) (ax ay bx by' : Int) (w : World) (hn : lf.length = n) (hV : Rd w A (flt lf)) (hb : n ≤ 140737488351232) (hC : CoP w C m X' Y' W' H' l) (hm : m ≤ 140737488351232) :
    Calls Try.prog 3 #[.agg #[.int .i64 X, .int .i64 Y, .int .i64 W, .int .i64 H, .slice A n c], .agg #[.float .f32 gr, .float .f32 wt, .float .f32 br, .float .f32 de, .int .i64 sp, .slice C m cc], .agg #[.int .i64 ax, .int .i64 ay], .agg #[.int .i64 bx, .int .i64 by']] w fun e w' => e = .returned (.bool true) ∧ Ext w w' := by
  by_cases hg : grndE X Y W H lf gr wt br de sp m X' Y' W' H' l = 0
  · obtain ⟨Wn, Hn, R, rfl, rfl, hr, hl, hh, rfl, rfl, rfl, rfl, rfl, hR, hCo, hm1⟩ := grnd_ok hg hC
    by_cases hin : InR X Y Wn Hn ax ay ∧ InR X Y Wn Hn bx by'
    · obtain ⟨k, hk, rfl, rfl⟩ := inR_cell hin.1
      obtain ⟨t, ht, rfl, rfl⟩ := inR_cell hin.2
      exact rules_good X Y Wn Hn A n c R C m cc k t lf X' Y' W' H' l w hr (by omega) (by rw [← hn, hl]; exact hR) hn (by rw [← hn, hl]; exact hh) (by omega) (by omega) hV hCo hC hm hg
    · have hi : insE X Y Wn Hn [(ax, ay), (bx, by')] = 5 := by
        unfold insE
        rw [if_neg]
        simpa using hin
      refine rules_bad X Y Wn Hn A n c lf R.gr R.wt R.br R.de R.sp C m cc X' Y' W' H' l ax ay bx by' w hn hV hb hC hm 5 (by decide) ?_ (fun w' h => ?_)
      · rw [hg, hasB_ok hr.ok, hasB_ok hr.ok]
        unfold twoE
        by_cases h1 : InR X Y Wn Hn ax ay
        · have h2 : ¬ InR X Y Wn Hn bx by' := fun h2 => hin ⟨h1, h2⟩
          rw [decide_eq_true h1, decide_eq_false h2]
          rfl
        · rw [decide_eq_false h1]
          rfl
      · have h9 := StepCost_out X Y Wn Hn A n c lf R.gr R.wt R.br R.de R.sp C m cc X' Y' W' H' l ax ay bx by' w' hr hn (hV.ext h) hb (hC.ext h) hm hg (by rw [hi]; decide)
        rw [hi] at h9
        exact h9
  · refine rules_bad X Y W H A n c lf gr wt br de sp C m cc X' Y' W' H' l ax ay bx by' w hn hV hb hC hm _ hg ?_ (fun w' h => hidA (StepCost_bad X Y W H A n c lf gr wt br de sp C m cc X' Y' W' H' l ax ay bx by' w' hn (hV.ext h) hb (hC.ext h) hm hg))
    unfold firstE
    rw [if_neg hg]
end Go.Proofs.Ytpgdinpckolfpaa

namespace Go.Proofs.Ytpgdinpckolfpaa
open Go.RowKit
attribute [local go_sem ↓] Go.wp_at_zero Go.wp_at_succ
attribute [local go_sem] run_store_float

/-- whether a place is too far away -/
def farP (p : Int × Int) : Bool := decide (p.1 < -4194304) || decide (4194304 < p.1) || decide (p.2 < -4194304) || decide (4194304 < p.2)
theorem farP_false {p : Int × Int} (h : farP p = false) : -4194304 ≤ p.1 ∧ p.1 ≤ 4194304 ∧ -4194304 ≤ p.2 ∧ p.2 ≤ 4194304 := by
  unfold farP at h
  simp at h
  omega
theorem noisePlace_any (x y : Int) (w : World) :
    Calls Try.prog 112 #[.int .i64 x, .int .i64 y] w fun e w' => e = .returned (.int .i64 (if farP (x, y) = true then 5 else 0)) ∧ w = w' := by
  rcases (by omega : x < -4194304 ∨ (¬ x < -4194304 ∧ 4194304 < x) ∨ (¬ x < -4194304 ∧ ¬ 4194304 < x ∧ y < -4194304) ∨ (¬ x < -4194304 ∧ ¬ 4194304 < x ∧ ¬ y < -4194304 ∧ 4194304 < y) ∨ (¬ x < -4194304 ∧ ¬ 4194304 < x ∧ ¬ y < -4194304 ∧ ¬ 4194304 < y)) with c1 | ⟨c1, c2⟩ | ⟨c1, c2, c3⟩ | ⟨c1, c2, c3, c4⟩ | ⟨c1, c2, c3, c4⟩
  case inr.inr.inr.inr =>
    have hf : farP (x, y) = false := by unfold farP; simp; omega
    rw [hf]
    clear hf
    go_enter Try.func112, Try.ntmps112
    go_wp2
    go_ret
    exact ⟨rfl, rfl⟩
  all_goals
    have hf : farP (x, y) = true := by unfold farP; simp; omega
    rw [hf]
    clear hf
    go_enter Try.func112, Try.ntmps112
    go_wp2
    go_ret
    exact ⟨rfl, rfl⟩
theorem place_any (x y : Int) (w : World) :
    Calls Try.prog 77 #[.agg #[.int .i64 x, .int .i64 y]] w fun e w' => e = .returned (.int .i64 (if farP (x, y) = true then 5 else 0)) ∧ Ext w w' := by
  have HN := fun (w : World) => hidA (noisePlace_any x y w)
  generalize (if farP (x, y) = true then (5 : Int) else 0) = e0 at *
  go_enter Try.func77, Try.ntmps77
  go_wp2_with (go_at_call 112; refine ((HN _).out).mono ?_; rintro e w3 ⟨rfl, rfl⟩)
  go_ret
  exact ⟨rfl, (by repeat (first | exact Ext.refl _ | assumption | refine Ext.setCell ?_ (by first | (simp; done) | (simp; omega)) _ | refine Ext.drewN ?_ _ | refine Ext.alloc ?_ _ | refine Ext.drew ?_ | refine Ext.trans ?_ (by assumption)))⟩
theorem enters_place : ∀ args w, (callFunc 77 args).run Try.prog w = .ok (.enter 77 args) w := enters_of Try.func77 (by kernel_rfl) rfl
/-- a step that a way may not have -/
def stepBad (a b : Int × Int) : Bool := match leapO (b.1 - a.1) (b.2 - a.2) with
  | none => true
  | some (_, n) => decide (12 < n)
/-- the error of a way, from place k on -/
def wayI (bad : Int × Int → Bool) (l : List (Int × Int)) : Nat → Nat → Int
  | _, 0 => 0
  | k, m + 1 => if bad (l.getD k (0, 0)) = true then 5 else if 0 < k ∧ stepBad (l.getD (k - 1) (0, 0)) (l.getD k (0, 0)) = true then 2 else wayI bad l (k + 1) m
def wayE (bad : Int × Int → Bool) (l : List (Int × Int)) : Int := if l.length = 0 then 10 else if 65536 < l.length then 4 else wayI bad l 0 l.length
theorem wayI_step {bad : Int × Int → Bool} {l : List (Int × Int)} {k n : Nat} (h : k < n) : wayI bad l k (n - k) = if bad (l.getD k (0, 0)) = true then 5 else if 0 < k ∧ stepBad (l.getD (k - 1) (0, 0)) (l.getD k (0, 0)) = true then 2 else wayI bad l (k + 1) (n - (k + 1)) := by
  obtain ⟨m, hm⟩ : ∃ m, n - k = m + 1 := ⟨n - k - 1, by omega⟩
  rw [hm, wayI, show n - (k + 1) = m by omega]
theorem pt_at {w : World} {A : Option Addr} {l : List (Int × Int)} (h : Rd w A (ptv l)) {k : Nat} (hk : k < l.length) : ∃ ad, A = some ad ∧ ad.block < w.heap.size ∧ w.cell? (ad.add (k * 2)) = some (.int .i64 (l.getD k (0, 0)).1) ∧ w.cell? ⟨(ad.add (k * 2)).block, (ad.add (k * 2)).off + 1, none⟩ = some (.int .i64 (l.getD k (0, 0)).2) := by
  obtain ⟨ad, rfl, hb, hc⟩ := h (by rintro e; have := ptv_length l; rw [e] at this; simp at this; omega)
  have ek : l.getD k (0, 0) = l[k] := by simp [List.getD_eq_getElem?_getD, hk]
  rw [ek]
  refine ⟨ad, rfl, hb, hc _ _ (ptv_get hk).1, ?_⟩
  have := hc _ _ (ptv_get hk).2
  rw [show ad.add (k * 2 + 1) = ⟨(ad.add (k * 2)).block, (ad.add (k * 2)).off + 1, none⟩ from (add_off ad (k * 2) (by omega)).symm] at this
  exact this
set_option maxRecDepth 100000 in
set_option maxHeartbeats 6400000 in
theorem checkWay_any (fid : Nat) (caps : Array Value) (henter : ∀ args w, (callFunc fid args).run Try.prog w = .ok (.enter fid args) w) (bad : Int × Int → Bool) (A : Option Addr) (n c : Nat) (l : List (Int × Int)) (w : World)
    (hbad : ∀ p, bad p = false → -4194304 ≤ p.1 ∧ p.1 ≤ 4194304 ∧ -4194304 ≤ p.2 ∧ p.2 ≤ 4194304) (hp : ∀ (x y : Int) (w' : World), Ext w w' → Calls Try.prog fid (#[.agg #[.int .i64 x, .int .i64 y]] ++ caps) w' fun e w'' => e = .returned (.int .i64 (if bad (x, y) = true then 5 else 0)) ∧ Ext w' w'')
    (hn : l.length = n) (hV : Rd w A (ptv l)) :
    Calls Try.prog 80 #[.slice A n c, .func (.func fid) #[] caps] w fun e w' => e = .returned (.int .i64 (wayE bad l)) ∧ Ext w w' := by
  have HP := hidA hp
  have Hbad := hidA hbad
  have Hn := hidA hn
  have hE : Hid (wayE bad l = if n = 0 then 10 else if 65536 < n then 4 else wayI bad l 0 n) := by show _ = _; unfold wayE; rw [hn]
  generalize wayE bad l = E at *
  clear hp hbad hn
  go_enter Try.func80, Try.ntmps80
  by_cases h0 : n = 0
  · have HE2 := hidA (hE.out.trans (if_pos h0))
    have HA2 := fun (w : World) => hidA (show Calls Try.prog 69 #[.slice A n c] w fun e w' => e = .returned (.int .i64 10) ∧ w = w' from by have h := amount_any A n c w; rw [if_pos h0] at h; exact h)
    clear hE h0
    go_wp2_with (go_at_call 69; refine (HA2 _).out.mono ?_; rintro e w3 ⟨rfl, rfl⟩)
    go_ret
    exact ⟨ret_i HE2.out.symm, Ext.refl _⟩
  by_cases h6 : 65536 < n
  · have HE2 := hidA ((hE.out.trans (if_neg h0)).trans (if_pos h6))
    have HA2 := fun (w : World) => hidA (show Calls Try.prog 69 #[.slice A n c] w fun e w' => e = .returned (.int .i64 4) ∧ w = w' from by have h := amount_any A n c w; rw [if_neg h0, if_pos h6] at h; exact h)
    clear hE h0 h6
    go_wp2_with (go_at_call 69; refine (HA2 _).out.mono ?_; rintro e w3 ⟨rfl, rfl⟩)
    go_ret
    exact ⟨ret_i HE2.out.symm, Ext.refl _⟩
  have HE2 := hidA ((hE.out.trans (if_neg h0)).trans (if_neg h6))
  have HA2 := fun (w : World) => hidA (show Calls Try.prog 69 #[.slice A n c] w fun e w' => e = .returned (.int .i64 0) ∧ w = w' from by have h := amount_any A n c w; rw [if_neg h0, if_neg h6] at h; exact h)
  clear hE
  have h65 : n ≤ 65536 := by omega
  go_upto_region 5 with (go_at_call 69; refine (HA2 _).out.mono ?_; rintro e w3 ⟨rfl, rfl⟩)
  go_loopw [18] (fun s18 wr => ∃ k : Nat, k ≤ n ∧ s18 = .int .i64 k ∧ E = wayI bad l k (n - k) ∧ (0 < k → bad (l.getD (k - 1) (0, 0)) = false) ∧ Ext w wr) (fun s18 _ => n - (intOf s18).toNat)
  case atStart => exact ⟨0, Nat.zero_le _, rfl, by rw [HE2.out]; rfl, fun h => by omega, Ext.refl _⟩
  case round =>
    obtain ⟨k, hk, rfl, hEk, hprev, hx⟩ := hrel
    have HEk := hidA hEk
    have Hprev := hidA hprev
    clear hEk hprev
    by_cases hkn : k < n
    · have hkl : k < l.length := by have := Hn.out; omega
      obtain ⟨ad, rfl, hbk, d0, d1⟩ := pt_at (hV.ext hx) hkl
      have HE3 := hidA (HEk.out.trans (wayI_step hkn))
      have i0 : (0 : Int) ≤ k := by omega
      have i1 : (k : Int) < n := by omega
      obtain ⟨px, py, hpp⟩ : ∃ px py, l.getD k (0, 0) = (px, py) := ⟨_, _, rfl⟩
      have hpp2 := hidA hpp
      rw [hpp] at d0 d1
      have HE4 := hidA (show E = if bad (px, py) = true then 5 else if 0 < k ∧ stepBad (l.getD (k - 1) (0, 0)) (px, py) = true then 2 else wayI bad l (k + 1) (n - (k + 1)) from by rw [HE3.out, hpp])
      have HP1 := fun (w' : World) (h : Ext w w') => HP.out px py w' h
      clear hpp HE3 HEk
      dsimp only at d0 d1
      cases hb : bad (px, py)
      · have HE5 := hidA (HE4.out.trans (if_neg (by rw [hb]; decide)))
        have Hb := hidA hb
        have hpb := Hbad.out _ hb
        rw [hb] at HP1
        simp only [Bool.false_eq_true, if_false] at HP1
        have HP2 := hidA HP1
        clear hb HE4 HP1
        go_upto_region 7 with fail
        have kP : Bk (wr.alloc (.cells #[.int .i64 px, .int .i64 py] 32)) wr.heap.size 32 #[.int .i64 px, .int .i64 py] := Bk.new' rfl
        have hx1 := hx.alloc (.cells #[.int .i64 px, .int .i64 py] 32)
        clear d0 d1
        generalize wr.alloc (.cells #[.int .i64 px, .int .i64 py] 32) = w1 at *
        generalize wr.heap.size = ha at *
        have p0 := kP.cell 0
        have p1 := kP.cell 1
        go_wp2_with fail
        refine (HP2.out _ hx1).mono ?_
        rintro e w2 ⟨rfl, hx2⟩
        have kP2 := kP.ext hx2
        have hx3 := hx1.trans hx2
        clear p0 p1 kP hx1 hx2 HP2
        by_cases hk0 : k = 0
        · subst hk0
          have HE6 := hidA (HE5.out.trans (if_neg (by omega)))
          clear HE5
          go_wp2
          go_roundw
          case rel => exact ⟨1, by omega, rfl, HE6.out, fun _ => by show bad (l.getD 0 (0, 0)) = false; rw [hpp2.out]; exact Hb.out, hx3⟩
          case measure => simp [intOf]; omega
        · have hkl1 : k - 1 < l.length := by omega
          have hpq := Hbad.out _ (Hprev.out (by omega))
          obtain ⟨qx, qy, hqq⟩ : ∃ qx qy, l.getD (k - 1) (0, 0) = (qx, qy) := ⟨_, _, rfl⟩
          rw [hqq] at hpq
          dsimp only at hpq hpb
          have HBt := fun (w : World) => hidA (between_any qx qy px py w (by omega) (by omega) (by omega) (by omega))
          have HE6 := hidA (show E = if stepBad (qx, qy) (px, py) = true then 2 else wayI bad l (k + 1) (n - (k + 1)) from by rw [HE5.out, hqq]; simp [show 0 < k by omega])
          have e0 : ∀ w', Ext w2 w' → w'.cell? (ad.add ((k - 1) * 2)) = some (.int .i64 qx) := fun w' h => by
            obtain ⟨ad', e, _, d0, d1⟩ := pt_at (hV.ext (hx3.trans h)) hkl1
            injection e with e
            subst e
            rw [hqq] at d0
            exact d0
          have e1 : ∀ w', Ext w2 w' → w'.cell? ⟨(ad.add ((k - 1) * 2)).block, (ad.add ((k - 1) * 2)).off + 1, none⟩ = some (.int .i64 qy) := fun w' h => by
            obtain ⟨ad', e, _, d0, d1⟩ := pt_at (hV.ext (hx3.trans h)) hkl1
            injection e with e
            subst e
            rw [hqq] at d1
            exact d1
          have f0 : ∀ w', Ext w2 w' → w'.cell? ⟨ha, 0, none⟩ = some (.int .i64 px) := fun w' h => (kP2.ext h).cell 0
          have f1 : ∀ w', Ext w2 w' → w'.cell? ⟨ha, 1, none⟩ = some (.int .i64 py) := fun w' h => (kP2.ext h).cell 1
          have j0 : (0 : Int) ≤ ((k - 1 : Nat) : Int) := by omega
          have j1 : ((k - 1 : Nat) : Int) < n := by omega
          have hk0' : ¬ (k : Int) = 0 := by omega
          have Hwk := hidA (show wrap64 ((k : Int) - 1) = ((k - 1 : Nat) : Int) by rw [IntWalk.wrap64_in _ ⟨by omega, by omega⟩]; omega)
          have Hwk2 := hidA (show IntKind.i64.wrap ((k : Int) - 1) = ((k - 1 : Nat) : Int) by rw [IntWalk.i64_in _ ⟨by omega, by omega⟩]; omega)
          have Hhx := hidA hx3
          clear hpq hpb HE5 hqq kP2
          unfold btV at HBt
          cases hlp : leapO (px - qx) (py - qy) with
          | none =>
            have HE7 := hidA (HE6.out.trans (if_pos (by unfold stepBad; rw [hlp])))
            rw [hlp] at HBt
            clear hlp
            have wk := Hwk.out
            have wk2 := Hwk2.out
            go_upto_region 11 with fail
            refine wp_region_noPanic ?_
            refine wp_region_held_drew (S := fun w' => Ext w2 w') (by kernel_rfl) ?_ (fun hHeld => ?_)
            · (repeat (first | exact Ext.refl _ | assumption | refine Ext.setCell ?_ (by first | (simp; done) | (simp; omega)) _ | refine Ext.drewN ?_ _ | refine Ext.alloc ?_ _ | refine Ext.drew ?_ | refine Ext.trans ?_ (by assumption)))
            refine wpAnyH_take (i := 0) (oi := ?o1x0) (v := ?v1x0) ?hi1x0 (by kernel_rfl) ?hf1x0 ?hr1x0 (fun _ _ _ h => h) ?hy1x0 (by assumption) ?rest1x0
            case hi1x0 => (simp only [List.getElem?_toArray, List.getElem?_cons_zero]; exact rfl)
            case hf1x0 => kernel_rfl
            case hr1x0 => kernel_rfl
            case hy1x0 => (refine Or.inl ⟨by rfl, ?_⟩; intro w hSw; (try dsimp only at hSw); go_simp; try with_reducible rfl)
            simp only [put_mk, List.set_cons_succ, List.set_cons_zero]
            refine wpAnyH_take (i := 1) (oi := ?o1x1) (v := ?v1x1) ?hi1x1 (by kernel_rfl) ?hf1x1 ?hr1x1 (fun _ _ _ h => h) ?hy1x1 (by assumption) ?rest1x1
            case hi1x1 => (simp only [List.getElem?_toArray, List.getElem?_cons_succ, List.getElem?_cons_zero]; exact rfl)
            case hf1x1 => kernel_rfl
            case hr1x1 => kernel_rfl
            case hy1x1 => (refine Or.inl ⟨by rfl, ?_⟩; intro w hSw; (try dsimp only at hSw); go_simp; try with_reducible rfl)
            simp only [put_mk, List.set_cons_succ, List.set_cons_zero]
            refine wpAnyH_take (i := 2) (oi := ?o1x2) (v := ?v1x2) ?hi1x2 (by kernel_rfl) ?hf1x2 ?hr1x2 (fun _ _ _ h => h) ?hy1x2 (by assumption) ?rest1x2
            case hi1x2 => (simp only [List.getElem?_toArray, List.getElem?_cons_succ, List.getElem?_cons_zero]; exact rfl)
            case hf1x2 => kernel_rfl
            case hr1x2 => kernel_rfl
            case hy1x2 => (refine Or.inl ⟨by rfl, ?_⟩; intro w hSw; (try dsimp only at hSw); go_simp; try with_reducible rfl)
            simp only [put_mk, List.set_cons_succ, List.set_cons_zero]
            refine wpAnyH_take (i := 3) (oi := ?o1x3) (v := ?v1x3) ?hi1x3 (by kernel_rfl) ?hf1x3 ?hr1x3 (fun _ _ _ h => h) ?hy1x3 (by assumption) ?rest1x3
            case hi1x3 => (simp only [List.getElem?_toArray, List.getElem?_cons_succ, List.getElem?_cons_zero]; exact rfl)
            case hf1x3 => kernel_rfl
            case hr1x3 => kernel_rfl
            case hy1x3 => (refine Or.inl ⟨by rfl, ?_⟩; intro w hSw; (try dsimp only at hSw); go_simp; try with_reducible rfl)
            simp only [put_mk, List.set_cons_succ, List.set_cons_zero]
            refine wpAnyH_take (i := 4) (oi := ?o1x4) (v := ?v1x4) ?hi1x4 (by kernel_rfl) ?hf1x4 ?hr1x4 (fun _ _ _ h => h) ?hy1x4 (by assumption) ?rest1x4
            case hi1x4 => (simp only [List.getElem?_toArray, List.getElem?_cons_succ, List.getElem?_cons_zero]; exact rfl)
            case hf1x4 => kernel_rfl
            case hr1x4 => kernel_rfl
            case hy1x4 => (refine Or.inl ⟨by rfl, ?_⟩; intro w hSw; (try dsimp only at hSw); go_simp; try with_reducible rfl)
            simp only [put_mk, List.set_cons_succ, List.set_cons_zero]
            refine wpAnyH_take (i := 5) (oi := ?o1x5) (v := ?v1x5) ?hi1x5 (by kernel_rfl) ?hf1x5 ?hr1x5 (fun _ _ _ h => h) ?hy1x5 (by assumption) ?rest1x5
            case hi1x5 => (simp only [List.getElem?_toArray, List.getElem?_cons_succ, List.getElem?_cons_zero]; exact rfl)
            case hf1x5 => kernel_rfl
            case hr1x5 => kernel_rfl
            case hy1x5 => (refine Or.inl ⟨by rfl, ?_⟩; intro w hSw; (try dsimp only at hSw); go_simp; try with_reducible rfl)
            simp only [put_mk, List.set_cons_succ, List.set_cons_zero]
            refine wpAnyH_ready (rs := [6]) (by kernel_rfl) (by simp) ?_
            refine AllReadyH.cons (o := ?o1x6) ?hi1x6 (fun K hK => ?_) AllReadyH.nil
            case hi1x6 => (simp only [List.getElem?_toArray, List.getElem?_cons_succ, List.getElem?_cons_zero]; exact rfl)
            go_simp
            go_at_call 78; refine ((HBt _).out).mono ?_; rintro e w5 ⟨rfl, hx5⟩
            refine hK.out _ _ ?_ (fun hHeld => ?_)
            · (repeat (first | exact Ext.refl _ | assumption | refine Ext.setCell ?_ (by first | (simp; done) | (simp; omega)) _ | refine Ext.drewN ?_ _ | refine Ext.alloc ?_ _ | refine Ext.drew ?_ | refine Ext.trans ?_ (by assumption)))
            clear hK K
            refine wpAnyH_take (i := 7) (oi := ?o1x7) (v := ?v1x7) ?hi1x7 (by kernel_rfl) ?hf1x7 ?hr1x7 (fun _ _ _ h => h) ?hy1x7 (by assumption) ?rest1x7
            case hi1x7 => (simp only [List.getElem?_toArray, List.getElem?_cons_succ, List.getElem?_cons_zero]; exact rfl)
            case hf1x7 => kernel_rfl
            case hr1x7 => kernel_rfl
            case hy1x7 => (refine Or.inl ⟨by rfl, ?_⟩; intro w hSw; (try dsimp only at hSw); go_simp; try with_reducible rfl)
            simp only [put_mk, List.set_cons_succ, List.set_cons_zero]
            refine wpAnyH_take (i := 8) (oi := ?o1x8) (v := ?v1x8) ?hi1x8 (by kernel_rfl) ?hf1x8 ?hr1x8 (fun _ _ _ h => h) ?hy1x8 (by assumption) ?rest1x8
            case hi1x8 => (simp only [List.getElem?_toArray, List.getElem?_cons_succ, List.getElem?_cons_zero]; exact rfl)
            case hf1x8 => kernel_rfl
            case hr1x8 => kernel_rfl
            case hy1x8 => (refine Or.inl ⟨by rfl, ?_⟩; intro w hSw; (try dsimp only at hSw); go_simp; try with_reducible rfl)
            simp only [put_mk, List.set_cons_succ, List.set_cons_zero]
            refine wpAnyH_take (i := 9) (oi := ?o1x9) (v := ?v1x9) ?hi1x9 (by kernel_rfl) ?hf1x9 ?hr1x9 (fun _ _ _ h => h) ?hy1x9 (by assumption) ?rest1x9
            case hi1x9 => (simp only [List.getElem?_toArray, List.getElem?_cons_succ, List.getElem?_cons_zero]; exact rfl)
            case hf1x9 => kernel_rfl
            case hr1x9 => kernel_rfl
            case hy1x9 => (refine Or.inl ⟨by rfl, ?_⟩; intro w hSw; (try dsimp only at hSw); go_simp; try with_reducible rfl)
            simp only [put_mk, List.set_cons_succ, List.set_cons_zero]
            refine wpAnyH_take (i := 10) (oi := ?o1x10) (v := ?v1x10) ?hi1x10 (by kernel_rfl) ?hf1x10 ?hr1x10 (fun _ _ _ h => h) ?hy1x10 (by assumption) ?rest1x10
            case hi1x10 => (simp only [List.getElem?_toArray, List.getElem?_cons_succ, List.getElem?_cons_zero]; exact rfl)
            case hf1x10 => kernel_rfl
            case hr1x10 => kernel_rfl
            case hy1x10 => (refine Or.inl ⟨by rfl, ?_⟩; intro w hSw; (try dsimp only at hSw); go_simp; try with_reducible rfl)
            simp only [put_mk, List.set_cons_succ, List.set_cons_zero]
            refine wpAnyH_take (i := 11) (oi := ?o1x11) (v := ?v1x11) ?hi1x11 (by kernel_rfl) ?hf1x11 ?hr1x11 (fun _ _ _ h => h) ?hy1x11 (by assumption) ?rest1x11
            case hi1x11 => (simp only [List.getElem?_toArray, List.getElem?_cons_succ, List.getElem?_cons_zero]; exact rfl)
            case hf1x11 => kernel_rfl
            case hr1x11 => kernel_rfl
            case hy1x11 => (refine Or.inl ⟨by rfl, ?_⟩; intro w hSw; (try dsimp only at hSw); go_simp; try with_reducible rfl)
            simp only [put_mk, List.set_cons_succ, List.set_cons_zero]
            refine wpAnyH_done (by kernel_rfl) ?_ _
            refine NoPanic.normal ?_
            clear e0 e1 f0 f1 wk wk2
            go_wp2
            go_ret
            exact ⟨ret_i HE7.out.symm, Hhx.out.trans hHeld⟩
          | some z =>
            obtain ⟨d, n'⟩ := z
            have hd8 := (leapO_spec hlp).1
            rw [hlp] at HBt
            have hdn : ((d : Int) == -1) = false := by simp
            by_cases h12 : 12 < n'
            · have HE7 := hidA (HE6.out.trans (if_pos (by unfold stepBad; rw [hlp]; simpa using h12)))
              have h13 : (12 : Int) < n' := by omega
              clear hlp
              have wk := Hwk.out
              have wk2 := Hwk2.out
              go_upto_region 11 with fail
              refine wp_region_noPanic ?_
              refine wp_region_held_drew (S := fun w' => Ext w2 w') (by kernel_rfl) ?_ (fun hHeld => ?_)
              · (repeat (first | exact Ext.refl _ | assumption | refine Ext.setCell ?_ (by first | (simp; done) | (simp; omega)) _ | refine Ext.drewN ?_ _ | refine Ext.alloc ?_ _ | refine Ext.drew ?_ | refine Ext.trans ?_ (by assumption)))
              refine wpAnyH_take (i := 0) (oi := ?o2x0) (v := ?v2x0) ?hi2x0 (by kernel_rfl) ?hf2x0 ?hr2x0 (fun _ _ _ h => h) ?hy2x0 (by assumption) ?rest2x0
              case hi2x0 => (simp only [List.getElem?_toArray, List.getElem?_cons_zero]; exact rfl)
              case hf2x0 => kernel_rfl
              case hr2x0 => kernel_rfl
              case hy2x0 => (refine Or.inl ⟨by rfl, ?_⟩; intro w hSw; (try dsimp only at hSw); go_simp; try with_reducible rfl)
              simp only [put_mk, List.set_cons_succ, List.set_cons_zero]
              refine wpAnyH_take (i := 1) (oi := ?o2x1) (v := ?v2x1) ?hi2x1 (by kernel_rfl) ?hf2x1 ?hr2x1 (fun _ _ _ h => h) ?hy2x1 (by assumption) ?rest2x1
              case hi2x1 => (simp only [List.getElem?_toArray, List.getElem?_cons_succ, List.getElem?_cons_zero]; exact rfl)
              case hf2x1 => kernel_rfl
              case hr2x1 => kernel_rfl
              case hy2x1 => (refine Or.inl ⟨by rfl, ?_⟩; intro w hSw; (try dsimp only at hSw); go_simp; try with_reducible rfl)
              simp only [put_mk, List.set_cons_succ, List.set_cons_zero]
              refine wpAnyH_take (i := 2) (oi := ?o2x2) (v := ?v2x2) ?hi2x2 (by kernel_rfl) ?hf2x2 ?hr2x2 (fun _ _ _ h => h) ?hy2x2 (by assumption) ?rest2x2
              case hi2x2 => (simp only [List.getElem?_toArray, List.getElem?_cons_succ, List.getElem?_cons_zero]; exact rfl)
              case hf2x2 => kernel_rfl
              case hr2x2 => kernel_rfl
              case hy2x2 => (refine Or.inl ⟨by rfl, ?_⟩; intro w hSw; (try dsimp only at hSw); go_simp; try with_reducible rfl)
              simp only [put_mk, List.set_cons_succ, List.set_cons_zero]
              refine wpAnyH_take (i := 3) (oi := ?o2x3) (v := ?v2x3) ?hi2x3 (by kernel_rfl) ?hf2x3 ?hr2x3 (fun _ _ _ h => h) ?hy2x3 (by assumption) ?rest2x3
              case hi2x3 => (simp only [List.getElem?_toArray, List.getElem?_cons_succ, List.getElem?_cons_zero]; exact rfl)
              case hf2x3 => kernel_rfl
              case hr2x3 => kernel_rfl
              case hy2x3 => (refine Or.inl ⟨by rfl, ?_⟩; intro w hSw; (try dsimp only at hSw); go_simp; try with_reducible rfl)
              simp only [put_mk, List.set_cons_succ, List.set_cons_zero]
              refine wpAnyH_take (i := 4) (oi := ?o2x4) (v := ?v2x4) ?hi2x4 (by kernel_rfl) ?hf2x4 ?hr2x4 (fun _ _ _ h => h) ?hy2x4 (by assumption) ?rest2x4
              case hi2x4 => (simp only [List.getElem?_toArray, List.getElem?_cons_succ, List.getElem?_cons_zero]; exact rfl)
              case hf2x4 => kernel_rfl
              case hr2x4 => kernel_rfl
              case hy2x4 => (refine Or.inl ⟨by rfl, ?_⟩; intro w hSw; (try dsimp only at hSw); go_simp; try with_reducible rfl)
              simp only [put_mk, List.set_cons_succ, List.set_cons_zero]
              refine wpAnyH_take (i := 5) (oi := ?o2x5) (v := ?v2x5) ?hi2x5 (by kernel_rfl) ?hf2x5 ?hr2x5 (fun _ _ _ h => h) ?hy2x5 (by assumption) ?rest2x5
              case hi2x5 => (simp only [List.getElem?_toArray, List.getElem?_cons_succ, List.getElem?_cons_zero]; exact rfl)
              case hf2x5 => kernel_rfl
              case hr2x5 => kernel_rfl
              case hy2x5 => (refine Or.inl ⟨by rfl, ?_⟩; intro w hSw; (try dsimp only at hSw); go_simp; try with_reducible rfl)
              simp only [put_mk, List.set_cons_succ, List.set_cons_zero]
              refine wpAnyH_ready (rs := [6]) (by kernel_rfl) (by simp) ?_
              refine AllReadyH.cons (o := ?o2x6) ?hi2x6 (fun K hK => ?_) AllReadyH.nil
              case hi2x6 => (simp only [List.getElem?_toArray, List.getElem?_cons_succ, List.getElem?_cons_zero]; exact rfl)
              go_simp
              go_at_call 78; refine ((HBt _).out).mono ?_; rintro e w5 ⟨rfl, hx5⟩
              refine hK.out _ _ ?_ (fun hHeld => ?_)
              · (repeat (first | exact Ext.refl _ | assumption | refine Ext.setCell ?_ (by first | (simp; done) | (simp; omega)) _ | refine Ext.drewN ?_ _ | refine Ext.alloc ?_ _ | refine Ext.drew ?_ | refine Ext.trans ?_ (by assumption)))
              clear hK K
              refine wpAnyH_take (i := 7) (oi := ?o2x7) (v := ?v2x7) ?hi2x7 (by kernel_rfl) ?hf2x7 ?hr2x7 (fun _ _ _ h => h) ?hy2x7 (by assumption) ?rest2x7
              case hi2x7 => (simp only [List.getElem?_toArray, List.getElem?_cons_succ, List.getElem?_cons_zero]; exact rfl)
              case hf2x7 => kernel_rfl
              case hr2x7 => kernel_rfl
              case hy2x7 => (refine Or.inl ⟨by rfl, ?_⟩; intro w hSw; (try dsimp only at hSw); go_simp; try with_reducible rfl)
              simp only [put_mk, List.set_cons_succ, List.set_cons_zero]
              refine wpAnyH_take (i := 8) (oi := ?o2x8) (v := ?v2x8) ?hi2x8 (by kernel_rfl) ?hf2x8 ?hr2x8 (fun _ _ _ h => h) ?hy2x8 (by assumption) ?rest2x8
              case hi2x8 => (simp only [List.getElem?_toArray, List.getElem?_cons_succ, List.getElem?_cons_zero]; exact rfl)
              case hf2x8 => kernel_rfl
              case hr2x8 => kernel_rfl
              case hy2x8 => (refine Or.inl ⟨by rfl, ?_⟩; intro w hSw; (try dsimp only at hSw); go_simp; try with_reducible rfl)
              simp only [put_mk, List.set_cons_succ, List.set_cons_zero]
              refine wpAnyH_take (i := 9) (oi := ?o2x9) (v := ?v2x9) ?hi2x9 (by kernel_rfl) ?hf2x9 ?hr2x9 (fun _ _ _ h => h) ?hy2x9 (by assumption) ?rest2x9
              case hi2x9 => (simp only [List.getElem?_toArray, List.getElem?_cons_succ, List.getElem?_cons_zero]; exact rfl)
              case hf2x9 => kernel_rfl
              case hr2x9 => kernel_rfl
              case hy2x9 => (refine Or.inl ⟨by rfl, ?_⟩; intro w hSw; (try dsimp only at hSw); go_simp; try with_reducible rfl)
              simp only [put_mk, List.set_cons_succ, List.set_cons_zero]
              refine wpAnyH_take (i := 10) (oi := ?o2x10) (v := ?v2x10) ?hi2x10 (by kernel_rfl) ?hf2x10 ?hr2x10 (fun _ _ _ h => h) ?hy2x10 (by assumption) ?rest2x10
              case hi2x10 => (simp only [List.getElem?_toArray, List.getElem?_cons_succ, List.getElem?_cons_zero]; exact rfl)
              case hf2x10 => kernel_rfl
              case hr2x10 => kernel_rfl
              case hy2x10 => (refine Or.inl ⟨by rfl, ?_⟩; intro w hSw; (try dsimp only at hSw); go_simp; try with_reducible rfl)
              simp only [put_mk, List.set_cons_succ, List.set_cons_zero]
              refine wpAnyH_take (i := 11) (oi := ?o2x11) (v := ?v2x11) ?hi2x11 (by kernel_rfl) ?hf2x11 ?hr2x11 (fun _ _ _ h => h) ?hy2x11 (by assumption) ?rest2x11
              case hi2x11 => (simp only [List.getElem?_toArray, List.getElem?_cons_succ, List.getElem?_cons_zero]; exact rfl)
              case hf2x11 => kernel_rfl
              case hr2x11 => kernel_rfl
              case hy2x11 => (refine Or.inl ⟨by rfl, ?_⟩; intro w hSw; (try dsimp only at hSw); go_simp; try with_reducible rfl)
              simp only [put_mk, List.set_cons_succ, List.set_cons_zero]
              refine wpAnyH_done (by kernel_rfl) ?_ _
              refine NoPanic.normal ?_
              clear e0 e1 f0 f1 wk wk2
              go_wp2
              go_ret
              exact ⟨ret_i HE7.out.symm, Hhx.out.trans hHeld⟩
            · have HE7 := hidA (HE6.out.trans (if_neg (by unfold stepBad; rw [hlp]; simpa using h12)))
              have h13 : ¬ (12 : Int) < n' := by omega
              clear hlp
              have wk := Hwk.out
              have wk2 := Hwk2.out
              go_upto_region 11 with fail
              refine wp_region_noPanic ?_
              refine wp_region_held_drew (S := fun w' => Ext w2 w') (by kernel_rfl) ?_ (fun hHeld => ?_)
              · (repeat (first | exact Ext.refl _ | assumption | refine Ext.setCell ?_ (by first | (simp; done) | (simp; omega)) _ | refine Ext.drewN ?_ _ | refine Ext.alloc ?_ _ | refine Ext.drew ?_ | refine Ext.trans ?_ (by assumption)))
              refine wpAnyH_take (i := 0) (oi := ?o3x0) (v := ?v3x0) ?hi3x0 (by kernel_rfl) ?hf3x0 ?hr3x0 (fun _ _ _ h => h) ?hy3x0 (by assumption) ?rest3x0
              case hi3x0 => (simp only [List.getElem?_toArray, List.getElem?_cons_zero]; exact rfl)
              case hf3x0 => kernel_rfl
              case hr3x0 => kernel_rfl
              case hy3x0 => (refine Or.inl ⟨by rfl, ?_⟩; intro w hSw; (try dsimp only at hSw); go_simp; try with_reducible rfl)
              simp only [put_mk, List.set_cons_succ, List.set_cons_zero]
              refine wpAnyH_take (i := 1) (oi := ?o3x1) (v := ?v3x1) ?hi3x1 (by kernel_rfl) ?hf3x1 ?hr3x1 (fun _ _ _ h => h) ?hy3x1 (by assumption) ?rest3x1
              case hi3x1 => (simp only [List.getElem?_toArray, List.getElem?_cons_succ, List.getElem?_cons_zero]; exact rfl)
              case hf3x1 => kernel_rfl
              case hr3x1 => kernel_rfl
              case hy3x1 => (refine Or.inl ⟨by rfl, ?_⟩; intro w hSw; (try dsimp only at hSw); go_simp; try with_reducible rfl)
              simp only [put_mk, List.set_cons_succ, List.set_cons_zero]
              refine wpAnyH_take (i := 2) (oi := ?o3x2) (v := ?v3x2) ?hi3x2 (by kernel_rfl) ?hf3x2 ?hr3x2 (fun _ _ _ h => h) ?hy3x2 (by assumption) ?rest3x2
              case hi3x2 => (simp only [List.getElem?_toArray, List.getElem?_cons_succ, List.getElem?_cons_zero]; exact rfl)
              case hf3x2 => kernel_rfl
              case hr3x2 => kernel_rfl
              case hy3x2 => (refine Or.inl ⟨by rfl, ?_⟩; intro w hSw; (try dsimp only at hSw); go_simp; try with_reducible rfl)
              simp only [put_mk, List.set_cons_succ, List.set_cons_zero]
              refine wpAnyH_take (i := 3) (oi := ?o3x3) (v := ?v3x3) ?hi3x3 (by kernel_rfl) ?hf3x3 ?hr3x3 (fun _ _ _ h => h) ?hy3x3 (by assumption) ?rest3x3
              case hi3x3 => (simp only [List.getElem?_toArray, List.getElem?_cons_succ, List.getElem?_cons_zero]; exact rfl)
              case hf3x3 => kernel_rfl
              case hr3x3 => kernel_rfl
              case hy3x3 => (refine Or.inl ⟨by rfl, ?_⟩; intro w hSw; (try dsimp only at hSw); go_simp; try with_reducible rfl)
              simp only [put_mk, List.set_cons_succ, List.set_cons_zero]
              refine wpAnyH_take (i := 4) (oi := ?o3x4) (v := ?v3x4) ?hi3x4 (by kernel_rfl) ?hf3x4 ?hr3x4 (fun _ _ _ h => h) ?hy3x4 (by assumption) ?rest3x4
              case hi3x4 => (simp only [List.getElem?_toArray, List.getElem?_cons_succ, List.getElem?_cons_zero]; exact rfl)
              case hf3x4 => kernel_rfl
              case hr3x4 => kernel_rfl
              case hy3x4 => (refine Or.inl ⟨by rfl, ?_⟩; intro w hSw; (try dsimp only at hSw); go_simp; try with_reducible rfl)
              simp only [put_mk, List.set_cons_succ, List.set_cons_zero]
              refine wpAnyH_take (i := 5) (oi := ?o3x5) (v := ?v3x5) ?hi3x5 (by kernel_rfl) ?hf3x5 ?hr3x5 (fun _ _ _ h => h) ?hy3x5 (by assumption) ?rest3x5
              case hi3x5 => (simp only [List.getElem?_toArray, List.getElem?_cons_succ, List.getElem?_cons_zero]; exact rfl)
              case hf3x5 => kernel_rfl
              case hr3x5 => kernel_rfl
              case hy3x5 => (refine Or.inl ⟨by rfl, ?_⟩; intro w hSw; (try dsimp only at hSw); go_simp; try with_reducible rfl)
              simp only [put_mk, List.set_cons_succ, List.set_cons_zero]
              refine wpAnyH_ready (rs := [6]) (by kernel_rfl) (by simp) ?_
              refine AllReadyH.cons (o := ?o3x6) ?hi3x6 (fun K hK => ?_) AllReadyH.nil
              case hi3x6 => (simp only [List.getElem?_toArray, List.getElem?_cons_succ, List.getElem?_cons_zero]; exact rfl)
              go_simp
              go_at_call 78; refine ((HBt _).out).mono ?_; rintro e w5 ⟨rfl, hx5⟩
              refine hK.out _ _ ?_ (fun hHeld => ?_)
              · (repeat (first | exact Ext.refl _ | assumption | refine Ext.setCell ?_ (by first | (simp; done) | (simp; omega)) _ | refine Ext.drewN ?_ _ | refine Ext.alloc ?_ _ | refine Ext.drew ?_ | refine Ext.trans ?_ (by assumption)))
              clear hK K
              refine wpAnyH_take (i := 7) (oi := ?o3x7) (v := ?v3x7) ?hi3x7 (by kernel_rfl) ?hf3x7 ?hr3x7 (fun _ _ _ h => h) ?hy3x7 (by assumption) ?rest3x7
              case hi3x7 => (simp only [List.getElem?_toArray, List.getElem?_cons_succ, List.getElem?_cons_zero]; exact rfl)
              case hf3x7 => kernel_rfl
              case hr3x7 => kernel_rfl
              case hy3x7 => (refine Or.inl ⟨by rfl, ?_⟩; intro w hSw; (try dsimp only at hSw); go_simp; try with_reducible rfl)
              simp only [put_mk, List.set_cons_succ, List.set_cons_zero]
              refine wpAnyH_take (i := 8) (oi := ?o3x8) (v := ?v3x8) ?hi3x8 (by kernel_rfl) ?hf3x8 ?hr3x8 (fun _ _ _ h => h) ?hy3x8 (by assumption) ?rest3x8
              case hi3x8 => (simp only [List.getElem?_toArray, List.getElem?_cons_succ, List.getElem?_cons_zero]; exact rfl)
              case hf3x8 => kernel_rfl
              case hr3x8 => kernel_rfl
              case hy3x8 => (refine Or.inl ⟨by rfl, ?_⟩; intro w hSw; (try dsimp only at hSw); go_simp; try with_reducible rfl)
              simp only [put_mk, List.set_cons_succ, List.set_cons_zero]
              refine wpAnyH_take (i := 9) (oi := ?o3x9) (v := ?v3x9) ?hi3x9 (by kernel_rfl) ?hf3x9 ?hr3x9 (fun _ _ _ h => h) ?hy3x9 (by assumption) ?rest3x9
              case hi3x9 => (simp only [List.getElem?_toArray, List.getElem?_cons_succ, List.getElem?_cons_zero]; exact rfl)
              case hf3x9 => kernel_rfl
              case hr3x9 => kernel_rfl
              case hy3x9 => (refine Or.inl ⟨by rfl, ?_⟩; intro w hSw; (try dsimp only at hSw); go_simp; try with_reducible rfl)
              simp only [put_mk, List.set_cons_succ, List.set_cons_zero]
              refine wpAnyH_take (i := 10) (oi := ?o3x10) (v := ?v3x10) ?hi3x10 (by kernel_rfl) ?hf3x10 ?hr3x10 (fun _ _ _ h => h) ?hy3x10 (by assumption) ?rest3x10
              case hi3x10 => (simp only [List.getElem?_toArray, List.getElem?_cons_succ, List.getElem?_cons_zero]; exact rfl)
              case hf3x10 => kernel_rfl
              case hr3x10 => kernel_rfl
              case hy3x10 => (refine Or.inl ⟨by rfl, ?_⟩; intro w hSw; (try dsimp only at hSw); go_simp; try with_reducible rfl)
              simp only [put_mk, List.set_cons_succ, List.set_cons_zero]
              refine wpAnyH_take (i := 11) (oi := ?o3x11) (v := ?v3x11) ?hi3x11 (by kernel_rfl) ?hf3x11 ?hr3x11 (fun _ _ _ h => h) ?hy3x11 (by assumption) ?rest3x11
              case hi3x11 => (simp only [List.getElem?_toArray, List.getElem?_cons_succ, List.getElem?_cons_zero]; exact rfl)
              case hf3x11 => kernel_rfl
              case hr3x11 => kernel_rfl
              case hy3x11 => (refine Or.inl ⟨by rfl, ?_⟩; intro w hSw; (try dsimp only at hSw); go_simp; try with_reducible rfl)
              simp only [put_mk, List.set_cons_succ, List.set_cons_zero]
              refine wpAnyH_done (by kernel_rfl) ?_ _
              refine NoPanic.normal ?_
              clear e0 e1 f0 f1 wk wk2
              go_wp2
              go_roundw
              case rel => exact ⟨k + 1, by omega, by go_num, HE7.out, fun _ => by rw [Nat.add_sub_cancel, hpp2.out]; exact Hb.out, Hhx.out.trans hHeld⟩
              case measure => simp [intOf]; omega
      · have HE5 := hidA (HE4.out.trans (if_pos hb))
        rw [hb] at HP1
        simp only [if_true] at HP1
        have HP2 := hidA HP1
        clear hb HE4 HP1
        go_wp2_with fail
        refine (HP2.out _ (by repeat (first | exact Ext.refl _ | assumption | refine Ext.setCell ?_ (by first | (simp; done) | (simp; omega)) _ | refine Ext.drewN ?_ _ | refine Ext.alloc ?_ _ | refine Ext.drew ?_ | refine Ext.trans ?_ (by assumption)))).mono ?_
        rintro e w2 ⟨rfl, hx2⟩
        go_wp2
        go_ret
        exact ⟨ret_i HE5.out.symm, (by repeat (first | exact Ext.refl _ | assumption | refine Ext.setCell ?_ (by first | (simp; done) | (simp; omega)) _ | refine Ext.drewN ?_ _ | refine Ext.alloc ?_ _ | refine Ext.drew ?_ | refine Ext.trans ?_ (by assumption)))⟩
    · have hkn2 : n = k := by omega
      subst hkn2
      have HE5 := hidA (show E = 0 from by rw [HEk.out, Nat.sub_self]; rfl)
      go_wp2
      go_ret
      exact ⟨ret_i HE5.out.symm, hx⟩
end Go.Proofs.Ytpgdinpckolfpaa

namespace Go.Proofs.Ytpgdinpckolfpaa
open Go.RowKit
attribute [local go_sem ↓] Go.wp_at_zero Go.wp_at_succ
attribute [local go_sem] run_store_float

/-- the error of how many places there are -/
def amtE (q : Nat) : Int := if q = 0 then 10 else if 65536 < q then 4 else 0
/-- the cell of a place -/
def kOf (X Y : Int) (Wn : Nat) (p : Int × Int) : Nat := (p.2 - Y).toNat * Wn + (p.1 - X).toNat
theorem kOf_in {X Y : Int} {Wn Hn : Nat} {p : Int × Int} (h : InR X Y Wn Hn p.1 p.2) : kOf X Y Wn p < Wn * Hn ∧ p.1 = X + ((kOf X Y Wn p % Wn : Nat) : Int) ∧ p.2 = Y + ((kOf X Y Wn p / Wn : Nat) : Int) := by
  unfold InR at h
  unfold kOf
  obtain ⟨a, ha⟩ := Int.eq_ofNat_of_zero_le (show 0 ≤ p.1 - X by omega)
  obtain ⟨b, hb⟩ := Int.eq_ofNat_of_zero_le (show 0 ≤ p.2 - Y by omega)
  have h1 : a < Wn := by omega
  have h2 : b < Hn := by omega
  rw [ha, hb, Int.toNat_natCast, Int.toNat_natCast]
  refine ⟨?_, ?_, ?_⟩
  · calc b * Wn + a < b * Wn + Wn := by omega
      _ = (b + 1) * Wn := by rw [Nat.add_mul, Nat.one_mul]
      _ ≤ Hn * Wn := Nat.mul_le_mul_right _ h2
      _ = Wn * Hn := Nat.mul_comm _ _
  · rw [Nat.mul_comm, Nat.mul_add_mod, Nat.mod_eq_of_lt h1]; omega
  · rw [Nat.mul_comm, Nat.mul_add_div (by omega), Nat.div_eq_of_lt h1]; omega
/-- the price of the first steps of a way -/
def prA (R : RlR) (V : Nat → Nat) (X Y : Int) (Wn Hn : Nat) (ps : List (Int × Int)) : Nat → Option Nat
  | 0 => some 0
  | i + 1 => match prA R V X Y Wn Hn ps i with
    | none => none
    | some s => match stepF R V Wn Hn (kOf X Y Wn (ps.getD i (0, 0))) (kOf X Y Wn (ps.getD (i + 1) (0, 0))) with
      | none => none
      | some c => some (fadd s c)
theorem prA_none {R : RlR} {V : Nat → Nat} {X Y : Int} {Wn Hn : Nat} {ps : List (Int × Int)} {i : Nat} (h : prA R V X Y Wn Hn ps i = none) : ∀ j, i ≤ j → prA R V X Y Wn Hn ps j = none
  | 0, hj => by
    obtain rfl : i = 0 := by omega
    exact h
  | j + 1, hj => by
    by_cases e : i = j + 1
    · subst e; exact h
    · rw [prA, prA_none h j (by omega)]
theorem stepF_bd {R : RlR} {V : Nat → Nat} {Wn Hn N k t c : Nat} (hR : RlOk R N) (hN : N = Wn * Hn) (hW : 1 ≤ Wn) (hV : ∀ j, j < N → Bd 20 (V j)) (hk : k < N) (ht : t < N) (h : stepF R V Wn Hn k t = some c) : Bd 56 c ∧ 2 ^ 149 ≤ valI c := by
  unfold stepF at h
  cases hl : leapO (dX Wn k t) (dY Wn k t) with
  | none => rw [hl] at h; cases h
  | some p =>
    obtain ⟨d, n⟩ := p
    rw [hl] at h
    dsimp only at h
    split at h
    · rename_i hs
      obtain ⟨_, h1, _, _⟩ := leap_grid hW (by rw [← hN]; exact hk) (by rw [← hN]; exact ht) hl
      have h12 : n ≤ 12 := by have := hR.sp; unfold spanN at hs; omega
      exact costF_ok hR (hV k hk) (hV t ht) ht h1 h12 h
    · cases h
theorem fadd_lt (x y : Nat) : fadd x y < 4294967296 := by
  unfold fadd
  cases h : floatBits .add .f32 x y with
  | none => simp
  | some r => exact bits_lt h (by simp)
theorem fmul_lt (x y : Nat) : fmul x y < 4294967296 := by
  unfold fmul
  cases h : floatBits .mul .f32 x y with
  | none => simp
  | some r => exact bits_lt h (by simp)
theorem costF_lt {R : RlR} {V : Nat → Nat} {k t d n top c : Nat} (h : costF R V k t d n top = some c) : c < 4294967296 := by
  unfold costF at h
  split at h
  · cases h
  · split at h
    · split at h
      · injection h with h; subst h; unfold costB; exact fadd_lt _ _
      · cases h
    · injection h with h; subst h
      unfold costC
      split
      · unfold costN; exact fmul_lt _ _
      · exact fmul_lt _ _
theorem stepF_lt {R : RlR} {V : Nat → Nat} {Wn Hn k t c : Nat} (h : stepF R V Wn Hn k t = some c) : c < 4294967296 := by
  unfold stepF at h
  split at h
  · cases h
  · split at h
    · exact costF_lt h
    · cases h
theorem prA_bd {R : RlR} {V : Nat → Nat} {X Y : Int} {Wn Hn N : Nat} {ps : List (Int × Int)} (hR : RlOk R N) (hN : N = Wn * Hn) (hW : 1 ≤ Wn) (hV : ∀ j, j < N → Bd 20 (V j)) (hin : ∀ j, j < ps.length → kOf X Y Wn (ps.getD j (0, 0)) < N) : ∀ i s, i < ps.length → prA R V X Y Wn Hn ps i = some s → Bd 84 s ∧ 0 ≤ valI s
  | 0, s, _, h => by
    rw [prA] at h
    injection h with h
    subst h
    exact ⟨by unfold Bd; decide, by decide +kernel⟩
  | i + 1, s, hi, h => by
    rw [prA] at h
    cases h1 : prA R V X Y Wn Hn ps i with
    | none => rw [h1] at h; cases h
    | some a =>
      rw [h1] at h
      dsimp only at h
      obtain ⟨a1, a2⟩ := prA_bd hR hN hW hV hin i a (by omega) h1
      cases h2 : stepF R V Wn Hn (kOf X Y Wn (ps.getD i (0, 0))) (kOf X Y Wn (ps.getD (i + 1) (0, 0))) with
      | none => rw [h2] at h; cases h
      | some c =>
        rw [h2] at h
        dsimp only at h
        injection h with h
        subst h
        obtain ⟨c1, c2⟩ := stepF_bd hR hN hW hV (hin i (by omega)) (hin (i + 1) hi) h2
        have h3 := fadd_ge a1 (c1.mono (by omega)) (by omega) (by omega)
        exact ⟨fadd_cap a1 c1 (by omega), by omega⟩
theorem add0 {c : Nat} (hc : Bd 56 c) (h1 : 2 ^ 149 ≤ valI c) (hlt : c < 4294967296) : fadd 0 c = c := by
  obtain ⟨a, b⟩ := fadd_ok (x := 0) (y := c) (K := 56) (by unfold Bd; omega) hc (by omega)
  have hk := add_key (x := 0) (y := c) fin_zero (bd_Fin hc (by omega)) (show Ieee.single.add 0 c = some (fadd 0 c) from a)
  have hz : valI 0 = 0 := by decide +kernel
  rw [hz, Int.zero_add, rkey_val (bd_Fin hc (by omega))] at hk
  exact val_one (bits_lt a (by simp)) hlt (val_key_eq.2 hk) (by rw [val_key_eq.2 hk]; omega)
/-- the rest of a way in memory -/
theorem Rd.ptail {w : World} {ad : Addr} {p : Int × Int} {r : List (Int × Int)} (h : Rd w (some ad) (ptv (p :: r))) : Rd w (some (ad.add 2)) (ptv r) := by
  intro hne
  obtain ⟨a, e, hb, hc⟩ := h (by rw [ptv_cons]; simp)
  injection e with e
  subst e
  refine ⟨_, rfl, by rw [add_block]; exact hb, fun j u hu => ?_⟩
  rw [add_add']
  exact hc _ _ (by rw [ptv_cons, Nat.add_comm 2 j]; simpa using hu)
set_option maxRecDepth 100000 in
set_option maxHeartbeats 6400000 in
theorem Price_bad1 (X Y W H : Int) (A : Option Addr) (n c : Nat) (lf : List Nat) (gr wt br de : Nat) (sp : Int) (C : Option Addr) (m cc : Nat) (X' Y' W' H' : Int) (l : List Nat) (B : Option Addr) (q d : Nat) (w : World) (hn : lf.length = n) (hV : Rd w A (flt lf)) (hb : n ≤ 140737488351232) (hC : CoP w C m X' Y' W' H' l) (hm : m ≤ 140737488351232) (hE : grndE X Y W H lf gr wt br de sp m X' Y' W' H' l ≠ 0) :
    Calls Try.prog 23 #[.agg #[.int .i64 X, .int .i64 Y, .int .i64 W, .int .i64 H, .slice A n c], .agg #[.float .f32 gr, .float .f32 wt, .float .f32 br, .float .f32 de, .int .i64 sp, .slice C m cc], .slice B q d] w fun e w' => e = .returned (.tuple #[.float .f32 0, .int .i64 (grndE X Y W H lf gr wt br de sp m X' Y' W' H' l)]) ∧ Ext w w' := by
  have HC := fun (w' : World) (h : Ext w w') => hidA (chk_any X Y W H A n c lf gr wt br de sp C m cc X' Y' W' H' l w' hn (hV.ext h) hb (hC.ext h) hm)
  have hne : (grndE X Y W H lf gr wt br de sp m X' Y' W' H' l != 0) = true := by simpa using hE
  generalize grndE X Y W H lf gr wt br de sp m X' Y' W' H' l = E at *
  clear hn hV hb hC hm hE
  go_enter Try.func23, Try.ntmps23
  go_upto_region 1 with fail
  obtain ⟨w0, hw0⟩ : ∃ w0, w0 = (w.alloc (.cells #[.int .i64 X, .int .i64 Y, .int .i64 W, .int .i64 H, .slice A n c] 26)).alloc (.cells #[.float .f32 gr, .float .f32 wt, .float .f32 br, .float .f32 de, .int .i64 sp, .slice C m cc] 30) := ⟨_, rfl⟩
  have kF : Bk w0 w.heap.size 26 #[.int .i64 X, .int .i64 Y, .int .i64 W, .int .i64 H, .slice A n c] := by rw [hw0]; exact (Bk.new' rfl).alloc _
  have kR : Bk w0 (w.heap.size + 1) 30 #[.float .f32 gr, .float .f32 wt, .float .f32 br, .float .f32 de, .int .i64 sp, .slice C m cc] := by rw [hw0]; exact Bk.new' (by simp)
  have hx0 : Ext w w0 := by rw [hw0]; exact ((Ext.refl w).alloc _).alloc _
  rw [← hw0]
  clear hw0
  generalize w.heap.size + 1 = hr' at *
  generalize hfe : w.heap.size = hf at *
  clear hfe
  have f0 := kF.cell 0
  have f1 := kF.cell 1
  have f2 := kF.cell 2
  have f3 := kF.cell 3
  have f4 := kF.cell 4
  have r0 := kR.cell 0
  have r1 := kR.cell 1
  have r2 := kR.cell 2
  have r3 := kR.cell 3
  have r4 := kR.cell 4
  have r5 := kR.cell 5
  clear kF kR
  go_wp2_with (go_at_call 63; refine ((HC _ hx0).out).mono ?_; rintro e w1 ⟨rfl, hx1⟩)
  go_ret2
  exact ⟨rfl, hx0.trans hx1⟩
set_option maxRecDepth 100000 in
set_option maxHeartbeats 6400000 in
theorem Price_bad2 (X Y W H : Int) (A : Option Addr) (n c : Nat) (lf : List Nat) (gr wt br de : Nat) (sp : Int) (C : Option Addr) (m cc : Nat) (X' Y' W' H' : Int) (l : List Nat) (B : Option Addr) (q d : Nat) (w : World) (hn : lf.length = n) (hV : Rd w A (flt lf)) (hb : n ≤ 140737488351232) (hC : CoP w C m X' Y' W' H' l) (hm : m ≤ 140737488351232) (hE : grndE X Y W H lf gr wt br de sp m X' Y' W' H' l = 0) (hq : amtE q ≠ 0) :
    Calls Try.prog 23 #[.agg #[.int .i64 X, .int .i64 Y, .int .i64 W, .int .i64 H, .slice A n c], .agg #[.float .f32 gr, .float .f32 wt, .float .f32 br, .float .f32 de, .int .i64 sp, .slice C m cc], .slice B q d] w fun e w' => e = .returned (.tuple #[.float .f32 0, .int .i64 (amtE q)]) ∧ Ext w w' := by
  have HC := fun (w' : World) (h : Ext w w') => hidA (chk_any X Y W H A n c lf gr wt br de sp C m cc X' Y' W' H' l w' hn (hV.ext h) hb (hC.ext h) hm)
  rw [hE] at HC
  have HA := fun (w : World) => hidA (amount_any B q d w)
  have HA : ∀ w : World, Hid (Calls Try.prog 69 #[.slice B q d] w fun e w' => e = .returned (.int .i64 (amtE q)) ∧ w = w') := HA
  have hne : (amtE q != 0) = true := by simpa using hq
  generalize amtE q = E at *
  clear hn hV hb hC hm hE hq
  go_enter Try.func23, Try.ntmps23
  go_upto_region 1 with fail
  obtain ⟨w0, hw0⟩ : ∃ w0, w0 = (w.alloc (.cells #[.int .i64 X, .int .i64 Y, .int .i64 W, .int .i64 H, .slice A n c] 26)).alloc (.cells #[.float .f32 gr, .float .f32 wt, .float .f32 br, .float .f32 de, .int .i64 sp, .slice C m cc] 30) := ⟨_, rfl⟩
  have kF : Bk w0 w.heap.size 26 #[.int .i64 X, .int .i64 Y, .int .i64 W, .int .i64 H, .slice A n c] := by rw [hw0]; exact (Bk.new' rfl).alloc _
  have kR : Bk w0 (w.heap.size + 1) 30 #[.float .f32 gr, .float .f32 wt, .float .f32 br, .float .f32 de, .int .i64 sp, .slice C m cc] := by rw [hw0]; exact Bk.new' (by simp)
  have hx0 : Ext w w0 := by rw [hw0]; exact ((Ext.refl w).alloc _).alloc _
  rw [← hw0]
  clear hw0
  generalize w.heap.size + 1 = hr' at *
  generalize hfe : w.heap.size = hf at *
  clear hfe
  have f0 := kF.cell 0
  have f1 := kF.cell 1
  have f2 := kF.cell 2
  have f3 := kF.cell 3
  have f4 := kF.cell 4
  have r0 := kR.cell 0
  have r1 := kR.cell 1
  have r2 := kR.cell 2
  have r3 := kR.cell 3
  have r4 := kR.cell 4
  have r5 := kR.cell 5
  clear kF kR
  go_wp2_with (first | (go_at_call 63; refine ((HC _ hx0).out).mono ?_; rintro e w1 ⟨rfl, hx1⟩) | (go_at_call 69; refine ((HA _).out).mono ?_; rintro e w2 ⟨rfl, hw2⟩; subst hw2))
  go_ret2
  exact ⟨rfl, hx0.trans hx1⟩
set_option maxRecDepth 100000 in
set_option maxHeartbeats 6400000 in
theorem Price_bad3 (X Y W H : Int) (A : Option Addr) (n c : Nat) (lf : List Nat) (gr wt br de : Nat) (sp : Int) (C : Option Addr) (m cc : Nat) (X' Y' W' H' : Int) (l : List Nat) (B : Option Addr) (q d : Nat) (w : World) (hn : lf.length = n) (hV : Rd w A (flt lf)) (hb : n ≤ 140737488351232) (hC : CoP w C m X' Y' W' H' l) (hm : m ≤ 140737488351232) (ps : List (Int × Int)) (hr : RegOk X Y W H) (hl : ps.length = q) (hP : Rd w B (ptv ps)) (hq8 : q ≤ 140737488351232) (hE : grndE X Y W H lf gr wt br de sp m X' Y' W' H' l = 0) (hq : amtE q = 0) (hi : insE X Y W H ps ≠ 0) :
    Calls Try.prog 23 #[.agg #[.int .i64 X, .int .i64 Y, .int .i64 W, .int .i64 H, .slice A n c], .agg #[.float .f32 gr, .float .f32 wt, .float .f32 br, .float .f32 de, .int .i64 sp, .slice C m cc], .slice B q d] w fun e w' => e = .returned (.tuple #[.float .f32 0, .int .i64 (insE X Y W H ps)]) ∧ Ext w w' := by
  have HC := fun (w' : World) (h : Ext w w') => hidA (chk_any X Y W H A n c lf gr wt br de sp C m cc X' Y' W' H' l w' hn (hV.ext h) hb (hC.ext h) hm)
  rw [hE] at HC
  have HA := fun (w : World) => hidA (amount_any B q d w)
  have HA : ∀ w : World, Hid (Calls Try.prog 69 #[.slice B q d] w fun e w' => e = .returned (.int .i64 (amtE q)) ∧ w = w') := HA
  rw [hq] at HA
  have HI := fun (w' : World) (h : Ext w w') => hidA (inside_any X Y W H A B n c q d ps w' hr hl (hP.ext h) hq8)
  have hne : (insE X Y W H ps != 0) = true := by simpa using hi
  generalize insE X Y W H ps = E at *
  clear hn hV hb hC hm hE hq hi hr hl hP hq8
  go_enter Try.func23, Try.ntmps23
  go_upto_region 1 with fail
  obtain ⟨w0, hw0⟩ : ∃ w0, w0 = (w.alloc (.cells #[.int .i64 X, .int .i64 Y, .int .i64 W, .int .i64 H, .slice A n c] 26)).alloc (.cells #[.float .f32 gr, .float .f32 wt, .float .f32 br, .float .f32 de, .int .i64 sp, .slice C m cc] 30) := ⟨_, rfl⟩
  have kF : Bk w0 w.heap.size 26 #[.int .i64 X, .int .i64 Y, .int .i64 W, .int .i64 H, .slice A n c] := by rw [hw0]; exact (Bk.new' rfl).alloc _
  have kR : Bk w0 (w.heap.size + 1) 30 #[.float .f32 gr, .float .f32 wt, .float .f32 br, .float .f32 de, .int .i64 sp, .slice C m cc] := by rw [hw0]; exact Bk.new' (by simp)
  have hx0 : Ext w w0 := by rw [hw0]; exact ((Ext.refl w).alloc _).alloc _
  rw [← hw0]
  clear hw0
  generalize w.heap.size + 1 = hr' at *
  generalize hfe : w.heap.size = hf at *
  clear hfe
  have f0 := kF.cell 0
  have f1 := kF.cell 1
  have f2 := kF.cell 2
  have f3 := kF.cell 3
  have f4 := kF.cell 4
  have r0 := kR.cell 0
  have r1 := kR.cell 1
  have r2 := kR.cell 2
  have r3 := kR.cell 3
  have r4 := kR.cell 4
  have r5 := kR.cell 5
  go_wp2_with (first | (go_at_call 63; refine ((HC _ hx0).out).mono ?_; rintro e w1 ⟨rfl, hx1⟩; have g0 := (kF.ext hx1).cell 0; have g1 := (kF.ext hx1).cell 1; have g2 := (kF.ext hx1).cell 2; have g3 := (kF.ext hx1).cell 3; have g4 := (kF.ext hx1).cell 4) | (go_at_call 69; refine ((HA _).out).mono ?_; rintro e w2 ⟨rfl, hw2⟩; subst hw2) | (go_at_call 64; refine ((HI _ (hx0.trans hx1)).out).mono ?_; rintro e w3 ⟨rfl, hx3⟩))
  go_ret2
  exact ⟨rfl, hx0.trans (hx1.trans hx3)⟩
theorem nxt_m {i q : Nat} (h : q ≤ 65536) (h1 : i < q - 1) : q - (intOf (.int .i64 ((i : Int) + 1))).toNat < q - (intOf (.int .i64 (i : Int))).toNat := by
  simp [intOf]
  omega
/-- what Price returns where the arguments are right -/
def PriPost (o : Option Nat) (w : World) (e : Ending) (w' : World) : Prop := e = .returned (.tuple #[.float .f32 (o.getD 0), .int .i64 (if o.isSome then 0 else 11)]) ∧ Ext w w'
set_option maxRecDepth 100000 in
set_option maxHeartbeats 6400000 in
theorem Price_ok (X Y : Int) (Wn Hn : Nat) (A : Option Addr) (N c : Nat) (R : RlR) (C : Option Addr) (m cc : Nat) (lf : List Nat) (X' Y' W' H' : Int) (l : List Nat) (B : Option Addr) (q d : Nat) (ps : List (Int × Int)) (w : World)
    (hr : Reg X Y Wn Hn) (hN : N = Wn * Hn) (hR : RlOk R N) (hn : lf.length = N) (hh : ∀ j, j < N → Bd 20 (lf.getD j 0)) (hV : Rd w A (flt lf)) (hCo : CoR w C m R.co) (hC : CoP w C m X' Y' W' H' l) (hm : m ≤ 140737488351232) (hg : grndE X Y Wn Hn lf R.gr R.wt R.br R.de R.sp m X' Y' W' H' l = 0)
    (hl : ps.length = q) (hP : Rd w B (ptv ps)) (hqd : q ≤ d) (hq : amtE q = 0) (hin : ∀ p, p ∈ ps → InR X Y Wn Hn p.1 p.2) :
    Calls Try.prog 23 #[.agg #[.int .i64 X, .int .i64 Y, .int .i64 (Wn : Int), .int .i64 (Hn : Int), .slice A N c], .agg #[.float .f32 R.gr, .float .f32 R.wt, .float .f32 R.br, .float .f32 R.de, .int .i64 (R.sp : Int), .slice C m cc], .slice B q d] w fun e w' => PriPost (prA R (fun j => lf.getD j 0) X Y Wn Hn ps (q - 1)) w e w' := by
  have hb : N ≤ 140737488351232 := by have := hr.n; omega
  have hq6 : 1 ≤ q ∧ q ≤ 65536 := by
    unfold amtE at hq
    split at hq
    · cases hq
    · split at hq
      · cases hq
      · omega
  have HC := fun (w' : World) (h : Ext w w') => hidA (chk_any X Y Wn Hn A N c lf R.gr R.wt R.br R.de R.sp C m cc X' Y' W' H' l w' hn (hV.ext h) hb (hC.ext h) hm)
  rw [hg] at HC
  have HA := fun (w : World) => hidA (amount_any B q d w)
  have HA : ∀ w : World, Hid (Calls Try.prog 69 #[.slice B q d] w fun e w' => e = .returned (.int .i64 (amtE q)) ∧ w = w') := HA
  rw [hq] at HA
  have HI := fun (w' : World) (h : Ext w w') => hidA (inside_any X Y Wn Hn A B N c q d ps w' hr.ok hl (hP.ext h) (by omega))
  have hi0 : insE X Y Wn Hn ps = 0 := by
    unfold insE
    rw [if_pos]
    exact List.all_eq_true.2 fun p hp => decide_eq_true (hin p hp)
  rw [hi0] at HI
  have hin2 : ∀ j, j < ps.length → InR X Y Wn Hn (ps.getD j (0, 0)).1 (ps.getD j (0, 0)).2 := fun j hj => by
    rw [show ps.getD j (0, 0) = ps[j] by simp [List.getD_eq_getElem?_getD, hj]]
    exact hin _ (List.getElem_mem hj)
  have hkin : ∀ j, j < ps.length → kOf X Y Wn (ps.getD j (0, 0)) < N := fun j hj => by rw [hN]; exact (kOf_in (hin2 j hj)).1
  have HSt := hidA (fun (i : Nat) (h1 : i + 1 < q) (w' : World) (h : Ext w w') => by
    have a1 := kOf_in (hin2 i (by omega))
    have a2 := kOf_in (hin2 (i + 1) (by omega))
    have h9 := gstep_any X Y Wn Hn A N c R C m cc (kOf X Y Wn (ps.getD i (0, 0))) (kOf X Y Wn (ps.getD (i + 1) (0, 0))) lf w' hr hN hR hn hh (hkin i (by omega)) (hkin (i + 1) (by omega)) (hV.ext h) (hCo.ext h)
    rw [← a1.2.1, ← a1.2.2, ← a2.2.1, ← a2.2.2] at h9
    unfold gcells stV at h9
    exact h9)
  have HBd := hidA (fun i s (h1 : i < q) => prA_bd (X := X) (Y := Y) hR hN hr.w1 hh hkin i s (by omega))
  have HSb := hidA (fun i c (h1 : i + 1 < q) (h : stepF R (fun j => lf.getD j 0) Wn Hn (kOf X Y Wn (ps.getD i (0, 0))) (kOf X Y Wn (ps.getD (i + 1) (0, 0))) = some c) => stepF_bd hR hN hr.w1 hh (hkin i (by omega)) (hkin (i + 1) (by omega)) h)
  have HPn := hidA (fun i (h : prA R (fun j => lf.getD j 0) X Y Wn Hn ps i = none) => prA_none h (q - 1))
  have HPs := hidA (fun i => (rfl : prA R (fun j => lf.getD j 0) X Y Wn Hn ps (i + 1) = match prA R (fun j => lf.getD j 0) X Y Wn Hn ps i with
    | none => none
    | some s => match stepF R (fun j => lf.getD j 0) Wn Hn (kOf X Y Wn (ps.getD i (0, 0))) (kOf X Y Wn (ps.getD (i + 1) (0, 0))) with
      | none => none
      | some c => some (fadd s c)))
  obtain ⟨Pf, hPf⟩ : ∃ Pf : Nat → Option Nat, Pf = fun i => prA R (fun j => lf.getD j 0) X Y Wn Hn ps i := ⟨_, rfl⟩
  obtain ⟨Sf, hSf⟩ : ∃ Sf : Nat → Option Nat, Sf = fun i => stepF R (fun j => lf.getD j 0) Wn Hn (kOf X Y Wn (ps.getD i (0, 0))) (kOf X Y Wn (ps.getD (i + 1) (0, 0))) := ⟨_, rfl⟩
  have HPf := hidA (fun i => congrFun hPf i)
  have HSf := hidA (fun i => congrFun hSf i)
  have hP0 : Pf 0 = some 0 := by rw [hPf]; rfl
  rw [show prA R (fun j => lf.getD j 0) X Y Wn Hn ps (q - 1) = Pf (q - 1) by rw [hPf]]
  have HSz := hidA (fun (i : Nat) (h1 : i + 1 < q) (w' : World) (h : Ext w w') => by
    have h9 := HSt.out i h1 w' h
    rw [show stepF R (fun j => lf.getD j 0) Wn Hn (kOf X Y Wn (ps.getD i (0, 0))) (kOf X Y Wn (ps.getD (i + 1) (0, 0))) = Sf i by rw [hSf]] at h9
    exact h9)
  have HPz := hidA (fun i => show Pf (i + 1) = match Pf i with
    | none => none
    | some s => match Sf i with
      | none => none
      | some c => some (fadd s c) from by rw [hPf, hSf]; exact HPs.out i)
  have HBe : Hid (∀ i s, i < q → Pf i = some s → Bd 84 s ∧ 0 ≤ valI s) := hidA (fun i s h1 h => HBd.out i s h1 (by rw [hPf] at h; exact h))
  have HSe : Hid (∀ i c, i + 1 < q → Sf i = some c → Bd 56 c ∧ 2 ^ 149 ≤ valI c) := hidA (fun i c h1 h => HSb.out i c h1 (by rw [hSf] at h; exact h))
  have HNz := hidA (fun i (h : Pf i = none) (h2 : i ≤ q - 1) => show Pf (q - 1) = none from by rw [hPf] at h ⊢; exact HPn.out i h h2)
  have Hl := hidA hl
  have Hq6 := hidA hq6
  clear hn hV hb hC hm hg hr hN hR hh hCo hin hin2 hkin hi0 hPf hSf hq HPf HSf HBd HSb HSt HPs HPn
  go_enter Try.func23, Try.ntmps23
  go_upto_region 1 with fail
  obtain ⟨w0, hw0⟩ : ∃ w0, w0 = (w.alloc (.cells #[.int .i64 X, .int .i64 Y, .int .i64 (Wn : Int), .int .i64 (Hn : Int), .slice A N c] 26)).alloc (.cells #[.float .f32 R.gr, .float .f32 R.wt, .float .f32 R.br, .float .f32 R.de, .int .i64 (R.sp : Int), .slice C m cc] 30) := ⟨_, rfl⟩
  have kF : Bk w0 w.heap.size 26 #[.int .i64 X, .int .i64 Y, .int .i64 (Wn : Int), .int .i64 (Hn : Int), .slice A N c] := by rw [hw0]; exact (Bk.new' rfl).alloc _
  have kR : Bk w0 (w.heap.size + 1) 30 #[.float .f32 R.gr, .float .f32 R.wt, .float .f32 R.br, .float .f32 R.de, .int .i64 (R.sp : Int), .slice C m cc] := by rw [hw0]; exact Bk.new' (by simp)
  have hx0 : Ext w w0 := by rw [hw0]; exact ((Ext.refl w).alloc _).alloc _
  rw [← hw0]
  clear hw0
  generalize w.heap.size + 1 = hr' at *
  generalize hfe : w.heap.size = hf at *
  clear hfe
  have f0 := kF.cell 0
  have f1 := kF.cell 1
  have f2 := kF.cell 2
  have f3 := kF.cell 3
  have f4 := kF.cell 4
  have r0 := kR.cell 0
  have r1 := kR.cell 1
  have r2 := kR.cell 2
  have r3 := kR.cell 3
  have r4 := kR.cell 4
  have r5 := kR.cell 5
  have hq0 : 1 ≤ q := hq6.1
  have hqi : (1 : Int) ≤ q := by omega
  have hqdi : (q : Int) ≤ d := by omega
  obtain ⟨adB, rfl, hbB, hcB⟩ := hP (by rintro e; have := ptv_length ps; rw [e] at this; simp at this; omega)
  by_cases hd1 : d = 1
  · subst hd1
    obtain rfl : q = 1 := by omega
    go_upto_region 12 with (first | (go_at_call 63; refine ((HC _ hx0).out).mono ?_; rintro e w1 ⟨rfl, hx1⟩; have g0 := (kF.ext hx1).cell 0; have g1 := (kF.ext hx1).cell 1; have g2 := (kF.ext hx1).cell 2; have g3 := (kF.ext hx1).cell 3; have g4 := (kF.ext hx1).cell 4) | (go_at_call 69; refine ((HA _).out).mono ?_; rintro e w2 ⟨rfl, hw2⟩; subst hw2) | (go_at_call 64; refine ((HI _ (hx0.trans hx1)).out).mono ?_; rintro e w3 ⟨rfl, hx3⟩))
    go_loopw [11, 36] (fun s11 s36 wr => s11 = .float .f32 0 ∧ s36 = .int .i64 0 ∧ Ext w3 wr) (fun _ _ _ => 0)
    case atStart => exact ⟨rfl, rfl, Ext.refl _⟩
    case round =>
      obtain ⟨rfl, rfl, hx⟩ := hrel
      go_wp2
      go_ret2
      exact ⟨by rw [hP0]; rfl, hx0.trans (hx1.trans (hx3.trans hx))⟩
  · have hd2 : ¬ (d : Int) = 1 := by omega
    obtain ⟨p0, r, rfl⟩ : ∃ p0 r, ps = p0 :: r := by
      cases ps with
      | nil => have := Hl.out; simp at this; omega
      | cons p0 r => exact ⟨p0, r, rfl⟩
    have HPt : Rd w (some (adB.add 2)) (ptv r) := Rd.ptail (fun _ => ⟨adB, rfl, hbB, hcB⟩)
    have HPl : Rd w (some adB) (ptv (p0 :: r)) := fun _ => ⟨adB, rfl, hbB, hcB⟩
    have hadd : adB.add 2 = ⟨adB.block, adB.off + 2, none⟩ := add_pos _ (by omega)
    go_upto_region 12 with (first | (go_at_call 63; refine ((HC _ hx0).out).mono ?_; rintro e w1 ⟨rfl, hx1⟩; have g0 := (kF.ext hx1).cell 0; have g1 := (kF.ext hx1).cell 1; have g2 := (kF.ext hx1).cell 2; have g3 := (kF.ext hx1).cell 3; have g4 := (kF.ext hx1).cell 4) | (go_at_call 69; refine ((HA _).out).mono ?_; rintro e w2 ⟨rfl, hw2⟩; subst hw2) | (go_at_call 64; refine ((HI _ (hx0.trans hx1)).out).mono ?_; rintro e w3 ⟨rfl, hx3⟩))
    rw [hadd] at HPt
    obtain ⟨adT, hadT⟩ : ∃ adT : Addr, adT = ⟨adB.block, adB.off + 2, none⟩ := ⟨_, rfl⟩
    rw [← hadT] at HPt ⊢
    have hx03 := hx0.trans (hx1.trans hx3)
    have kF3 := kF.ext (hx1.trans hx3)
    have kR3 := kR.ext (hx1.trans hx3)
    have Hl2 := hidA (show r.length + 1 = q from Hl.out)
    clear f0 f1 f2 f3 f4 r0 r1 r2 r3 r4 r5 g0 g1 g2 g3 g4 kF kR hx0 hx1 hx3 HC HA HI hadd hadT hcB
    go_loopw [11, 36] (fun s11 s36 wr => ∃ i s : Nat, i ≤ q - 1 ∧ s36 = .int .i64 i ∧ s11 = .float .f32 s ∧ Pf i = some s ∧ Ext w3 wr) (fun _ s36 _ => q - (intOf s36).toNat)
    case atStart => exact ⟨0, 0, Nat.zero_le _, rfl, rfl, hP0, Ext.refl _⟩
    case round =>
      obtain ⟨i, s, hi, rfl, rfl, hpf, hx⟩ := hrel
      have hxw := hx03.trans hx
      by_cases hiq : i < q - 1
      · obtain ⟨ad1, e1, hb1, c0, c1⟩ := pt_at (HPl.ext hxw) (k := i) (by have := Hl.out; omega)
        injection e1 with e1
        subst e1
        obtain ⟨ad2, e2, hb2, d0, d1⟩ := pt_at (HPt.ext hxw) (k := i) (by have := Hl2.out; omega)
        injection e2 with e2
        subst e2
        have hSt := HSz.out i (by omega)
        rw [show (p0 :: r).getD (i + 1) (0, 0) = r.getD i (0, 0) by simp] at hSt
        have HSq := fun (w' : World) (h : Ext w w') => hidA (hSt w' h)
        clear hSt
        obtain ⟨px, py, hp1⟩ : ∃ px py, (p0 :: r).getD i (0, 0) = (px, py) := ⟨_, _, rfl⟩
        obtain ⟨qx, qy, hp2⟩ : ∃ qx qy, r.getD i (0, 0) = (qx, qy) := ⟨_, _, rfl⟩
        rw [hp1] at c0 c1 HSq
        rw [hp2] at d0 d1 HSq
        dsimp only at c0 c1 d0 d1 HSq
        have i0 : (0 : Int) ≤ i := by omega
        have i1 : (i : Int) < ((q - 1 : Nat) : Int) := by omega
        have i2 : (i : Int) < q := by omega
        have HPi := hidA (HPz.out i)
        have HBi := hidA (HBe.out i s (by omega) hpf)
        have HSi := hidA (fun c => HSe.out i c (by omega))
        have HNi := hidA (fun h => HNz.out (i + 1) h (by omega))
        have Hiq := hidA hiq
        have Hpf := hidA hpf
        clear hp1 hp2 hi hiq hpf
        go_upto_region 14 with fail
        have kP : Bk (wr.alloc (.cells #[.int .i64 qx, .int .i64 qy] 32)) wr.heap.size 32 #[.int .i64 qx, .int .i64 qy] := Bk.new' rfl
        have hxa := (Ext.refl wr).alloc (.cells #[.int .i64 qx, .int .i64 qy] 32)
        have c0' := ((hxa.cell _ (by rw [add_block]; exact hb1)).trans c0)
        have c1' := ((hxa.cell ⟨(adB.add (i * 2)).block, (adB.add (i * 2)).off + 1, none⟩ (by rw [add_block]; exact hb1)).trans c1)
        have hx5 := hx.trans hxa
        have hxw5 := hxw.trans hxa
        have kF5 := kF3.ext hx5
        have kR5 := kR3.ext hx5
        have hsz := hxa.size
        clear c0 c1 d0 d1 hxa hxw hx
        generalize wr.alloc (.cells #[.int .i64 qx, .int .i64 qy] 32) = w5 at *
        generalize wr.heap.size = hp at *
        have c0 : ∀ w', Ext w5 w' → w'.cell? (adB.add (i * 2)) = some (.int .i64 px) := fun w' h => (h.cell _ (by rw [add_block]; omega)).trans c0'
        have c1 : ∀ w', Ext w5 w' → w'.cell? ⟨(adB.add (i * 2)).block, (adB.add (i * 2)).off + 1, none⟩ = some (.int .i64 py) := fun w' h => (h.cell ⟨(adB.add (i * 2)).block, (adB.add (i * 2)).off + 1, none⟩ (by show (adB.add (i * 2)).block < _; rw [add_block]; omega)).trans c1'
        have d0 : ∀ w', Ext w5 w' → w'.cell? ⟨hp, 0, none⟩ = some (.int .i64 qx) := fun w' h => (kP.ext h).cell 0
        have d1 : ∀ w', Ext w5 w' → w'.cell? ⟨hp, 1, none⟩ = some (.int .i64 qy) := fun w' h => (kP.ext h).cell 1
        have f0 : ∀ w', Ext w5 w' → w'.cell? ⟨hf, 0, none⟩ = some (.int .i64 X) := fun w' h => (kF5.ext h).cell 0
        have f1 : ∀ w', Ext w5 w' → w'.cell? ⟨hf, 1, none⟩ = some (.int .i64 Y) := fun w' h => (kF5.ext h).cell 1
        have f2 : ∀ w', Ext w5 w' → w'.cell? ⟨hf, 2, none⟩ = some (.int .i64 (Wn : Int)) := fun w' h => (kF5.ext h).cell 2
        have f3 : ∀ w', Ext w5 w' → w'.cell? ⟨hf, 3, none⟩ = some (.int .i64 (Hn : Int)) := fun w' h => (kF5.ext h).cell 3
        have f4 : ∀ w', Ext w5 w' → w'.cell? ⟨hf, 4, none⟩ = some (.slice A N c) := fun w' h => (kF5.ext h).cell 4
        have r0 : ∀ w', Ext w5 w' → w'.cell? ⟨hr', 0, none⟩ = some (.float .f32 R.gr) := fun w' h => (kR5.ext h).cell 0
        have r1 : ∀ w', Ext w5 w' → w'.cell? ⟨hr', 1, none⟩ = some (.float .f32 R.wt) := fun w' h => (kR5.ext h).cell 1
        have r2 : ∀ w', Ext w5 w' → w'.cell? ⟨hr', 2, none⟩ = some (.float .f32 R.br) := fun w' h => (kR5.ext h).cell 2
        have r3 : ∀ w', Ext w5 w' → w'.cell? ⟨hr', 3, none⟩ = some (.float .f32 R.de) := fun w' h => (kR5.ext h).cell 3
        have r4 : ∀ w', Ext w5 w' → w'.cell? ⟨hr', 4, none⟩ = some (.int .i64 (R.sp : Int)) := fun w' h => (kR5.ext h).cell 4
        have r5 : ∀ w', Ext w5 w' → w'.cell? ⟨hr', 5, none⟩ = some (.slice C m cc) := fun w' h => (kR5.ext h).cell 5
        clear c0' c1' hsz hb1 hb2
        refine wp_region_noPanic ?_
        refine wp_region_held_drew (S := fun w' => Ext w5 w') (by kernel_rfl) ?_ (fun hHeld => ?_)
        · (repeat (first | exact Ext.refl _ | assumption | refine Ext.setCell ?_ (by first | (simp; done) | (simp; omega)) _ | refine Ext.drewN ?_ _ | refine Ext.alloc ?_ _ | refine Ext.drew ?_ | refine Ext.trans ?_ (by assumption)))
        refine wpAnyH_take (i := 0) (oi := ?o1x0) (v := ?v1x0) ?hi1x0 (by kernel_rfl) ?hf1x0 ?hr1x0 (fun _ _ _ h => h) ?hy1x0 (by assumption) ?rest1x0
        case hi1x0 => (simp only [List.getElem?_toArray, List.getElem?_cons_zero]; exact rfl)
        case hf1x0 => kernel_rfl
        case hr1x0 => kernel_rfl
        case hy1x0 => (refine Or.inl ⟨by rfl, ?_⟩; intro w hSw; (try dsimp only at hSw); go_simp; try with_reducible rfl)
        simp only [put_mk, List.set_cons_succ, List.set_cons_zero]
        refine wpAnyH_take (i := 1) (oi := ?o1x1) (v := ?v1x1) ?hi1x1 (by kernel_rfl) ?hf1x1 ?hr1x1 (fun _ _ _ h => h) ?hy1x1 (by assumption) ?rest1x1
        case hi1x1 => (simp only [List.getElem?_toArray, List.getElem?_cons_succ, List.getElem?_cons_zero]; exact rfl)
        case hf1x1 => kernel_rfl
        case hr1x1 => kernel_rfl
        case hy1x1 => (refine Or.inl ⟨by rfl, ?_⟩; intro w hSw; (try dsimp only at hSw); go_simp; try with_reducible rfl)
        simp only [put_mk, List.set_cons_succ, List.set_cons_zero]
        refine wpAnyH_take (i := 2) (oi := ?o1x2) (v := ?v1x2) ?hi1x2 (by kernel_rfl) ?hf1x2 ?hr1x2 (fun _ _ _ h => h) ?hy1x2 (by assumption) ?rest1x2
        case hi1x2 => (simp only [List.getElem?_toArray, List.getElem?_cons_succ, List.getElem?_cons_zero]; exact rfl)
        case hf1x2 => kernel_rfl
        case hr1x2 => kernel_rfl
        case hy1x2 => (refine Or.inl ⟨by rfl, ?_⟩; intro w hSw; (try dsimp only at hSw); go_simp; try with_reducible rfl)
        simp only [put_mk, List.set_cons_succ, List.set_cons_zero]
        refine wpAnyH_take (i := 3) (oi := ?o1x3) (v := ?v1x3) ?hi1x3 (by kernel_rfl) ?hf1x3 ?hr1x3 (fun _ _ _ h => h) ?hy1x3 (by assumption) ?rest1x3
        case hi1x3 => (simp only [List.getElem?_toArray, List.getElem?_cons_succ, List.getElem?_cons_zero]; exact rfl)
        case hf1x3 => kernel_rfl
        case hr1x3 => kernel_rfl
        case hy1x3 => (refine Or.inl ⟨by rfl, ?_⟩; intro w hSw; (try dsimp only at hSw); go_simp; try with_reducible rfl)
        simp only [put_mk, List.set_cons_succ, List.set_cons_zero]
        refine wpAnyH_take (i := 4) (oi := ?o1x4) (v := ?v1x4) ?hi1x4 (by kernel_rfl) ?hf1x4 ?hr1x4 (fun _ _ _ h => h) ?hy1x4 (by assumption) ?rest1x4
        case hi1x4 => (simp only [List.getElem?_toArray, List.getElem?_cons_succ, List.getElem?_cons_zero]; exact rfl)
        case hf1x4 => kernel_rfl
        case hr1x4 => kernel_rfl
        case hy1x4 => (refine Or.inl ⟨by rfl, ?_⟩; intro w hSw; (try dsimp only at hSw); go_simp; try with_reducible rfl)
        simp only [put_mk, List.set_cons_succ, List.set_cons_zero]
        refine wpAnyH_take (i := 5) (oi := ?o1x5) (v := ?v1x5) ?hi1x5 (by kernel_rfl) ?hf1x5 ?hr1x5 (fun _ _ _ h => h) ?hy1x5 (by assumption) ?rest1x5
        case hi1x5 => (simp only [List.getElem?_toArray, List.getElem?_cons_succ, List.getElem?_cons_zero]; exact rfl)
        case hf1x5 => kernel_rfl
        case hr1x5 => kernel_rfl
        case hy1x5 => (refine Or.inl ⟨by rfl, ?_⟩; intro w hSw; (try dsimp only at hSw); go_simp; try with_reducible rfl)
        simp only [put_mk, List.set_cons_succ, List.set_cons_zero]
        refine wpAnyH_take (i := 6) (oi := ?o1x6) (v := ?v1x6) ?hi1x6 (by kernel_rfl) ?hf1x6 ?hr1x6 (fun _ _ _ h => h) ?hy1x6 (by assumption) ?rest1x6
        case hi1x6 => (simp only [List.getElem?_toArray, List.getElem?_cons_succ, List.getElem?_cons_zero]; exact rfl)
        case hf1x6 => kernel_rfl
        case hr1x6 => kernel_rfl
        case hy1x6 => (refine Or.inl ⟨by rfl, ?_⟩; intro w hSw; (try dsimp only at hSw); go_simp; try with_reducible rfl)
        simp only [put_mk, List.set_cons_succ, List.set_cons_zero]
        refine wpAnyH_take (i := 7) (oi := ?o1x7) (v := ?v1x7) ?hi1x7 (by kernel_rfl) ?hf1x7 ?hr1x7 (fun _ _ _ h => h) ?hy1x7 (by assumption) ?rest1x7
        case hi1x7 => (simp only [List.getElem?_toArray, List.getElem?_cons_succ, List.getElem?_cons_zero]; exact rfl)
        case hf1x7 => kernel_rfl
        case hr1x7 => kernel_rfl
        case hy1x7 => (refine Or.inl ⟨by rfl, ?_⟩; intro w hSw; (try dsimp only at hSw); go_simp; try with_reducible rfl)
        simp only [put_mk, List.set_cons_succ, List.set_cons_zero]
        refine wpAnyH_ready (rs := [8]) (by kernel_rfl) (by simp) ?_
        refine AllReadyH.cons (o := ?o1x8) ?hi1x8 (fun K hK => ?_) AllReadyH.nil
        case hi1x8 => (simp only [List.getElem?_toArray, List.getElem?_cons_succ, List.getElem?_cons_zero]; exact rfl)
        go_simp
        refine ((HSq _ (hxw5.trans hHeld)).out).mono ?_
        rintro e w9 ⟨rfl, hx9⟩
        refine hK.out _ _ ?_ (fun hHeld => ?_)
        · (repeat (first | exact Ext.refl _ | assumption | refine Ext.setCell ?_ (by first | (simp; done) | (simp; omega)) _ | refine Ext.drewN ?_ _ | refine Ext.alloc ?_ _ | refine Ext.drew ?_ | refine Ext.trans ?_ (by assumption)))
        clear hK K
        refine wpAnyH_take (i := 9) (oi := ?o1x9) (v := ?v1x9) ?hi1x9 (by kernel_rfl) ?hf1x9 ?hr1x9 (fun _ _ _ h => h) ?hy1x9 (by assumption) ?rest1x9
        case hi1x9 => (simp only [List.getElem?_toArray, List.getElem?_cons_succ, List.getElem?_cons_zero]; exact rfl)
        case hf1x9 => kernel_rfl
        case hr1x9 => kernel_rfl
        case hy1x9 => (refine Or.inl ⟨by rfl, ?_⟩; intro w hSw; (try dsimp only at hSw); go_simp; try with_reducible rfl)
        simp only [put_mk, List.set_cons_succ, List.set_cons_zero]
        refine wpAnyH_take (i := 10) (oi := ?o1x10) (v := ?v1x10) ?hi1x10 (by kernel_rfl) ?hf1x10 ?hr1x10 (fun _ _ _ h => h) ?hy1x10 (by assumption) ?rest1x10
        case hi1x10 => (simp only [List.getElem?_toArray, List.getElem?_cons_succ, List.getElem?_cons_zero]; exact rfl)
        case hf1x10 => kernel_rfl
        case hr1x10 => kernel_rfl
        case hy1x10 => (refine Or.inl ⟨by rfl, ?_⟩; intro w hSw; (try dsimp only at hSw); go_simp; try with_reducible rfl)
        simp only [put_mk, List.set_cons_succ, List.set_cons_zero]
        refine wpAnyH_take (i := 11) (oi := ?o1x11) (v := ?v1x11) ?hi1x11 (by kernel_rfl) ?hf1x11 ?hr1x11 (fun _ _ _ h => h) ?hy1x11 (by assumption) ?rest1x11
        case hi1x11 => (simp only [List.getElem?_toArray, List.getElem?_cons_succ, List.getElem?_cons_zero]; exact rfl)
        case hf1x11 => kernel_rfl
        case hr1x11 => kernel_rfl
        case hy1x11 => (refine Or.inl ⟨by rfl, ?_⟩; intro w hSw; (try dsimp only at hSw); go_simp; try with_reducible rfl)
        simp only [put_mk, List.set_cons_succ, List.set_cons_zero]
        refine wpAnyH_take (i := 12) (oi := ?o1x12) (v := ?v1x12) ?hi1x12 (by kernel_rfl) ?hf1x12 ?hr1x12 (fun _ _ _ h => h) ?hy1x12 (by assumption) ?rest1x12
        case hi1x12 => (simp only [List.getElem?_toArray, List.getElem?_cons_succ, List.getElem?_cons_zero]; exact rfl)
        case hf1x12 => kernel_rfl
        case hr1x12 => kernel_rfl
        case hy1x12 => (refine Or.inl ⟨by rfl, ?_⟩; intro w hSw; (try dsimp only at hSw); go_simp; try with_reducible rfl)
        simp only [put_mk, List.set_cons_succ, List.set_cons_zero]
        refine wpAnyH_take (i := 13) (oi := ?o1x13) (v := ?v1x13) ?hi1x13 (by kernel_rfl) ?hf1x13 ?hr1x13 (fun _ _ _ h => h) ?hy1x13 (by assumption) ?rest1x13
        case hi1x13 => (simp only [List.getElem?_toArray, List.getElem?_cons_succ, List.getElem?_cons_zero]; exact rfl)
        case hf1x13 => kernel_rfl
        case hr1x13 => kernel_rfl
        case hy1x13 => (refine Or.inl ⟨by rfl, ?_⟩; intro w hSw; (try dsimp only at hSw); go_simp; try with_reducible rfl)
        simp only [put_mk, List.set_cons_succ, List.set_cons_zero]
        refine wpAnyH_done (by kernel_rfl) ?_ _
        refine NoPanic.normal ?_
        have hx9w := hxw5.trans hHeld
        have hx93 := hx5.trans hHeld
        clear c0 c1 d0 d1 f0 f1 f2 f3 f4 r0 r1 r2 r3 r4 r5
        cases hS : Sf i with
        | none =>
          have Hf := hidA (HNi.out (by rw [HPi.out, Hpf.out, hS]))
          simp only [Option.getD_none, Option.isSome_none]
          go_wp2
          go_ret2
          exact ⟨by rw [Hf.out]; rfl, hx9w⟩
        | some cst =>
          have Hf := hidA (show Pf (i + 1) = some (fadd s cst) from by rw [HPi.out, Hpf.out, hS])
          obtain ⟨s1, s2⟩ := HBi.out
          obtain ⟨t1, t2⟩ := HSi.out cst hS
          have q1 := fun (w : World) => run_float_arith (P := Try.prog) w .add 27 .f32 _ _ _ (fadd_ok s1 (t1.mono (by omega)) (by omega)).1
          have hiw := hidA (And.intro Hq6.out.2 Hiq.out)
          clear s1 s2 t1 t2
          simp only [Option.getD_some, Option.isSome_some]
          generalize fadd s cst = sn at *
          go_wp2
          go_roundw
          case rel => exact ⟨i + 1, sn, Nat.succ_le_of_lt Hiq.out, (by first | rfl | go_num), rfl, Hf.out, hx93⟩
          case measure => exact nxt_m hiw.out.1 hiw.out.2
      · obtain rfl : i = q - 1 := by omega
        go_wp2
        go_ret2
        exact ⟨by rw [hpf]; rfl, hxw⟩
end Go.Proofs.Ytpgdinpckolfpaa
