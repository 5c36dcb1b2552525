/- Contract: plant.Count. -/
import Derived.Test.YtgaonoklbihkjaaDoorCountP
import Derived.Test.YtgaonoklbihkjaaDoorCrowdB
import Derived.Test.YtgaonoklbihkjaaDoorValueA
import Derived.BigRegion
import Derived.BigQuiet
namespace Go.Proofs.YtgaonoklbihkjaaDoor
open Go.RowKit
attribute [local go_sem ↓] Go.wp_at_zero Go.wp_at_succ
attribute [local go_sem] run_store_float

theorem updC_self {F : Nat → CenR} {a : Nat} {c : CenR} (h : F a = c) : updC F a c = F := by
  funext b
  unfold updC
  split
  · rename_i hb
    rw [hb, h]
  · rfl
theorem cen_store {w : World} {g t n : Nat} {F : Nat → CenR} {a : Nat} {c c' : CenR} {j : Nat} {v : Value} (hB : Bk w g t (cenC n (updC F a c))) (hj : j < 5) (hv : c'.cell j = v) (h : ∀ i, i < 5 → i ≠ j → c'.cell i = c.cell i) : Bk (w.setCell ⟨g, a * 5 + j, none⟩ v) g t (cenC n (updC F a c')) := by
  rw [← updC_upd F a c c', ← cenC_set (updC F a c) c' hj (fun i hi hne => by rw [updC_at]; exact h i hi hne), ← hv]
  exact hB.set _ _
theorem cen_load {w : World} {g t n : Nat} {F : Nat → CenR} {a : Nat} {c : CenR} {j : Nat} {v : Value} (hB : Bk w g t (cenC n (updC F a c))) (ha : a < n) (hj : j < 5) (hv : c.cell j = v) : w.cell? ⟨g, a * 5 + j, none⟩ = some v := by
  rw [hB.cell, cenC_get _ ha hj, updC_at, hv]

theorem Rd.top {w : World} {ad : Addr} {l : List KindR} (h : Rd w (some ad) (kcells l)) {k : Nat} (hk : k < l.length) : w.cell? ⟨(ad.add (k * 13)).block, (ad.add (k * 13)).off + 7, none⟩ = some (.float .f32 l[k].a6) := (h.kind hk).2.2.2.2.2.2.2.1
theorem kind_top {x : KindR} (h : x.err = 0) : Bd 20 x.a6 := by
  unfold KindR.err kindE numsE at h
  split at h
  · split at h
    · contradiction
    · have h2 := (numE_zero (by omega : numE [x.a0, x.a1, x.a2, x.a3, x.a4, x.a5, x.a6, x.a7, x.a8, x.a9] = 0)).2
      exact hgt_bd (h2 _ (by simp))
  · omega


theorem value_ok {b : Nat} (w : World) (h : numE [b] = 0) : Calls Tryd.prog 38 #[.float .f32 b] w fun e w' => e = .returned (.tuple #[.float .f32 b, .int .i64 0]) ∧ w' = w := by
  have := value_any b w ((numE_zero h).1 _ (by simp))
  rw [h, if_pos rfl] at this
  exact this
theorem cenC_congr {n : Nat} {F G : Nat → CenR} (h : ∀ b, b < n → F b = G b) : cenC n F = cenC n G := by
  unfold cenC
  congr 1
  refine List.map_congr_left fun q hq => ?_
  rw [h (q / 5) (by have := List.mem_range.1 hq; omega)]
def endF (l : List KindR) (p : List PlantR) (m j : Nat) : Nat → CenR := fun b => if b < j then endC (cenF l p b m) else cenF l p b m
theorem endF_zero (l : List KindR) (p : List PlantR) (m : Nat) : endF l p m 0 = fun b => cenF l p b m := by
  funext b
  unfold endF
  rw [if_neg (by omega)]
theorem endF_step (l : List KindR) (p : List PlantR) (m j : Nat) : endF l p m (j + 1) = updC (endF l p m j) j (endC (cenF l p j m)) := by
  funext b
  unfold endF updC
  by_cases hb : b = j
  · subst hb
    rw [if_pos (by omega), if_pos rfl]
  · rw [if_neg hb]
    dsimp only
    by_cases h2 : b < j
    · rw [if_pos h2, if_pos (by omega)]
    · rw [if_neg h2, if_neg (by omega)]
theorem endF_at (l : List KindR) (p : List PlantR) (m j : Nat) : endF l p m j j = cenF l p j m := by
  unfold endF
  rw [if_neg (by omega)]
theorem endF_all (l : List KindR) (p : List PlantR) (m n : Nat) (hm : p.length = m) : cenC n (endF l p m n) = cenC n (allC l p) := by
  refine cenC_congr fun b hb => ?_
  unfold endF allC
  rw [if_pos hb, hm]

set_option maxRecDepth 100000 in
set_option maxHeartbeats 6400000 in
theorem Count_ok (A : Option Addr) (n c : Nat) (l : List KindR) (B : Option Addr) (m d : Nat) (p : List PlantR) (w : World) (hn : l.length = n) (hd : Rd w A (kcells l)) (hb : n ≤ 4000000000000) (hc : n ≤ c) (hsz : ∀ x ∈ l, x.s.size ≤ 9223372036854775807) (hm : p.length = m) (hp : Rd w B (pcells p)) (hbm : m ≤ 4000000000000) (h0 : plantsE l p = 0) :
    Calls Tryd.prog 15 #[.slice A n c, .slice B m d] w fun e w' => ∃ g, e = .returned (.tuple #[.slice (some ⟨g, 0, none⟩) n n, .int .i64 0]) ∧ Bk w' g 44 (cenC n (allC l p)) ∧ w.heap.size ≤ g ∧ Ext w w' := by
  have HC := fun (w : World) (hd : Rd w A (kcells l)) (hp : Rd w B (pcells p)) => hidA (checkPlants_any A n c l B m d p w hn hd hb hc hsz hm hp hbm)
  rw [h0] at HC
  obtain ⟨hk, h4, he⟩ := plantsE_zero h0
  obtain ⟨_, hl12, hl⟩ := kindsE_zero hk
  have hmk := mk_cen n (by omega)
  have Hm := hidA hm
  have Hn := hidA hn
  have HE := hidA he
  have HL := hidA hl
  have H4 := hidA h4
  have hm4 : m ≤ 4000 := by omega
  have hn12 : n ≤ 12 := by omega
  clear h0 hk h4 he hl hn hm hsz hl12
  go_enter Tryd.func15, Tryd.ntmps15
  go_wp2_with fail
  refine ((HC _ hd hp).out).mono ?_
  rintro e w1 ⟨rfl, hb1⟩
  have hd1 := hd.ext hb1
  have hp1 := hp.ext hb1
  clear HC hd hp
  go_wp2_with fail
  clear hmk
  go_loopw [26] (fun i wr => ∃ k : Nat, k ≤ m ∧ i = .int .i64 k ∧ Bk wr w1.heap.size 44 (cenC n fun b => cenF l p b k) ∧ Ext w1 wr) (fun i _ => m - (intOf i).toNat)
  case atStart => exact ⟨0, Nat.zero_le _, rfl, by rw [← show cenC n (fun _ => CenR.zero) = cenC n (fun b => cenF l p b 0) from rfl, ← made_cen]; exact Bk.new _ _ _, (by repeat (first | exact Ext.refl _ | assumption | refine Ext.setCell ?_ (by first | (simp; done) | (simp; omega)) _ | refine Ext.drewN ?_ _ | refine Ext.alloc ?_ _ | refine Ext.drew ?_ | refine Ext.trans ?_ (by assumption)))⟩
  case round =>
    obtain ⟨k, hk, rfl, hG, hx⟩ := hrel
    by_cases hlt : k < m
    · have hkl : k < p.length := by have := Hm.out; omega
      obtain ⟨u1, u2, u3, u4, u5⟩ := plantE_zero (HE.out _ (List.getElem_mem hkl))
      obtain ⟨v1, v2, v3, v4⟩ := bad_none rfl u5
      have HK := hidA (cen_ok (l := l) HE.out H4.out p[k].kind.toNat k (by omega))
      have hxk : p[k].kind = ((p[k].kind.toNat : Nat) : Int) := by omega
      have HU := hidA (cenF_upd (l := l) hkl hxk)
      have hsm := upto_size u4 v1
      obtain ⟨ad, rfl, hbk, _⟩ := hp1.at (k := k) (by rw [pcells_length]; omega)
      have hla : p[k].kind.toNat < l.length := by omega
      obtain ⟨ak, rfl, hka, _⟩ := hd1.at (k := p[k].kind.toNat) (by rw [kcells_length]; omega)
      have hpw := hp1.ext hx
      have hdw := hd1.ext hx
      obtain ⟨d0, d1, d2, d3, d4⟩ := hpw.plant hkl
      have hcmul := (fmul_ok (J := 0) (kind_top (HL.out _ (List.getElem_mem hla))) (show Bd 0 1056964608 by unfold Bd; decide) (by omega)).1
      have hst : stepC l (cenF l p p[k].kind.toNat k) p[k] = ⟨(cenF l p p[k].kind.toNat k).many + 1, if lt p[k].size (fmul l[p[k].kind.toNat].a6 1056964608) = true then (cenF l p p[k].kind.toNat k).young + 1 else (cenF l p p[k].kind.toNat k).young, max (cenF l p p[k].kind.toNat k).oldest p[k].age, fadd (cenF l p p[k].kind.toNat k).sum p[k].size, (cenF l p p[k].kind.toNat k).mean⟩ := by
        unfold stepC
        rw [show topOf l p[k].kind = l[p[k].kind.toNat].a6 by rw [congrArg (topOf l) hxk]; exact topOf_nat hla]
      rw [hst] at HU
      have htc := hdw.top hla
      have k0 : (0 : Int) ≤ k := by omega
      have k1 : (k : Int) < m := by omega
      generalize hae : p[k].kind.toNat = a at *
      have han : a < n := by have := Hn.out; omega
      have a0 : (0 : Int) ≤ a := by omega
      have a1 : (a : Int) < n := by omega
      clear hst hae u1 u2 u3 u4 u5 v2
      generalize htp : l[a].a6 = tp at *
      have Htp := hidA htp
      clear htp
      generalize hxe : p[k] = x at *
      clear hxe
      obtain ⟨kd, px, py, sz, ag⟩ := x
      dsimp only at d0 d1 d2 d3 d4 HU v1 v3 v4 hsm hcmul hxk
      subst hxk
      obtain ⟨F, hF⟩ : ∃ F : Nat → CenR, F = fun b => cenF l p b k := ⟨_, rfl⟩
      rw [← hF] at HU hG
      have hca : F a = cenF l p a k := by rw [hF]
      have hca2 := hidA hca
      rw [← hca] at HK HU
      generalize hF2 : (fun b => cenF l p b (k + 1)) = F2 at HU
      have HF2 := hidA hF2
      clear hF2 hca hF
      generalize hc1 : F a = c1 at *
      obtain ⟨N1, Y1, O1, S1, M1⟩ := c1
      have Hc1 := hidA hc1
      clear hc1
      obtain ⟨i1, i2, i3, i4, i5, i6, i7, i8⟩ := HK.out
      dsimp only at i1 i2 i3 i4 i5 i6 i7 i8 HU
      subst i8
      have hadd := (upto_add i7 hsm (by omega)).1
      have q1 := fun (w : World) => run_float_arith (P := Tryd.prog) w .mul 24 .f32 _ _ _ hcmul
      have q2 := fun (w : World) => run_float_arith (P := Tryd.prog) w .add 24 .f32 _ _ _ hadd
      clear hadd hcmul i7 hsm HK
      have k4 : k ≤ 4000 := by have := H4.out; omega
      obtain ⟨w5, hw5⟩ : ∃ w5, w5 = wr.alloc (.cells #[.int .i64 a, .int .i64 px, .int .i64 py, .float .f32 sz, .int .i64 ag] 46) := ⟨_, rfl⟩
      have hX : Bk w5 wr.heap.size 46 #[.int .i64 a, .int .i64 px, .int .i64 py, .float .f32 sz, .int .i64 ag] := by rw [hw5]; exact Bk.new' rfl
      have hx5 : Ext wr w5 := by rw [hw5]; exact (Ext.refl wr).alloc _
      have hg5 := hG.ext hx5
      have hgl := hG.lt
      have hcu := updC_self Hc1.out
      rw [← hcu] at hg5
      clear hcu
      have c0 := cen_load hg5 han (j := 0) (v := .int .i64 N1) (by omega) rfl
      have c1 := hg5.frozen (a * 5)
      rw [Nat.add_zero] at c0
      have P0 := hX.cell 0
      have P3 := hX.cell 3
      have P4 := hX.cell 4
      have hlX := hX.lt
      have hne : wr.heap.size ≠ w1.heap.size := by omega
      go_upto_region 9 with fail
      rw [← hw5]
      clear hw5
      go_upto_region 10 with fail
      obtain ⟨w6, hw6⟩ : ∃ w6, w6 = w5.setCell ⟨w1.heap.size, a * 5, none⟩ (.int .i64 (N1 + 1)) := ⟨_, rfl⟩
      rw [← hw6]
      have hg6 : Bk w6 w1.heap.size 44 (cenC n (updC F a ⟨N1 + 1, Y1, O1, S1, 0⟩)) := by rw [hw6]; exact cen_store hg5 (j := 0) (by omega) rfl (fun i hi hn => by rcases i with _ | _ | _ | _ | _ | i <;> first | rfl | omega)
      have hX6 : Bk w6 wr.heap.size 46 #[.int .i64 a, .int .i64 px, .int .i64 py, .float .f32 sz, .int .i64 ag] := by rw [hw6]; exact hX.far hne _
      have hx6 : Ext w1 w6 := by rw [hw6]; exact (hx.trans hx5).setCell (Nat.le_refl _) _
      clear hw6 c0 c1 P0 P3 P4 hlX hX hx5 hg5 w5
      have P0 := hX6.cell 0
      have P3 := hX6.cell 3
      have P4 := hX6.cell 4
      have hlX := hX6.lt
      have T7 := (hd1.ext hx6).top hla
      rw [Htp.out] at T7
      by_cases hyo : lt sz (fmul tp 1056964608) = true
      · have C1 : (FloatKind.f32.format.order sz (fmul tp 1056964608) == some .lt) = true := hyo
        go_quiet (fail)
        obtain ⟨w7, hw7⟩ : ∃ w7, w7 = w6.drewN nq := ⟨_, rfl⟩
        rw [← hw7]
        have hg7 : Bk w7 w1.heap.size 44 (cenC n (updC F a ⟨N1 + 1, Y1, O1, S1, 0⟩)) := by rw [hw7]; exact hg6.drewN nq
        have hX7 : Bk w7 wr.heap.size 46 #[.int .i64 a, .int .i64 px, .int .i64 py, .float .f32 sz, .int .i64 ag] := by rw [hw7]; exact hX6.drewN nq
        have hx7 : Ext w1 w7 := by rw [hw7]; exact hx6.drewN nq
        clear hw7 P0 P3 P4 hlX T7 hg6 hX6 hx6 w6
        have c0 := cen_load hg7 han (j := 1) (v := .int .i64 Y1) (by omega) rfl
        have c1 := hg7.frozen (a * 5 + 1)
        go_upto_region 12 with fail
        obtain ⟨w8, hw8⟩ : ∃ w8, w8 = w7.setCell ⟨w1.heap.size, a * 5 + 1, none⟩ (.int .i64 (Y1 + 1)) := ⟨_, rfl⟩
        rw [← hw8]
        have hg8 : Bk w8 w1.heap.size 44 (cenC n (updC F a ⟨N1 + 1, Y1 + 1, O1, S1, 0⟩)) := by rw [hw8]; exact cen_store hg7 (j := 1) (by omega) rfl (fun i hi hn => by rcases i with _ | _ | _ | _ | _ | i <;> first | rfl | omega)
        have hX8 : Bk w8 wr.heap.size 46 #[.int .i64 a, .int .i64 px, .int .i64 py, .float .f32 sz, .int .i64 ag] := by rw [hw8]; exact hX7.far hne _
        have hx8 : Ext w1 w8 := by rw [hw8]; exact hx7.setCell (Nat.le_refl _) _
        clear hw8 c0 c1 hg7 hX7 hx7 w7
        have P3 := hX8.cell 3
        have P4 := hX8.cell 4
        have c0 := cen_load hg8 han (j := 2) (v := .int .i64 O1) (by omega) rfl
        have c1 := hg8.frozen (a * 5 + 2)
        have hlX := hX8.lt
        go_region
        obtain ⟨w9, hw9⟩ : ∃ w9, w9 = (w8.setCell ⟨w1.heap.size, a * 5 + 2, none⟩ (.int .i64 (max O1 ag))).drew := ⟨_, rfl⟩
        rw [← hw9]
        have hg9 : Bk w9 w1.heap.size 44 (cenC n (updC F a ⟨N1 + 1, Y1 + 1, max O1 ag, S1, 0⟩)) := by rw [hw9]; exact (cen_store hg8 (j := 2) (c' := ⟨N1 + 1, Y1 + 1, max O1 ag, S1, 0⟩) (by omega) rfl (fun i hi hn => by rcases i with _ | _ | _ | _ | _ | i <;> first | rfl | omega)).drew
        have hX9 : Bk w9 wr.heap.size 46 #[.int .i64 a, .int .i64 px, .int .i64 py, .float .f32 sz, .int .i64 ag] := by rw [hw9]; exact (hX8.far hne _).drew
        have hx9 : Ext w1 w9 := by rw [hw9]; exact (hx8.setCell (Nat.le_refl _) _).drew
        clear hw9 c0 c1 P3 P4 hlX hg8 hX8 hx8 w8
        have P3 := hX9.cell 3
        have P4 := hX9.cell 4
        have c0 := cen_load hg9 han (j := 3) (v := .float .f32 S1) (by omega) rfl
        have c1 := hg9.frozen (a * 5 + 3)
        have hlX := hX9.lt
        go_upto_region 13 with fail
        go_region
        obtain ⟨w10, hw10⟩ : ∃ w10, w10 = (w9.setCell ⟨w1.heap.size, a * 5 + 3, none⟩ (.float .f32 (fadd S1 sz))).drew := ⟨_, rfl⟩
        rw [← hw10]
        have hg10 : Bk w10 w1.heap.size 44 (cenC n (updC F a ⟨N1 + 1, Y1 + 1, max O1 ag, fadd S1 sz, 0⟩)) := by rw [hw10]; exact (cen_store hg9 (j := 3) (c' := ⟨N1 + 1, Y1 + 1, max O1 ag, fadd S1 sz, 0⟩) (by omega) rfl (fun i hi hn => by rcases i with _ | _ | _ | _ | _ | i <;> first | rfl | omega)).drew
        have hx10 : Ext w1 w10 := by rw [hw10]; exact (hx9.setCell (Nat.le_refl _) _).drew
        clear hw10 c0 c1 P3 P4 hlX hg9 hX9 hx9 w9
        go_wp2_with fail
        go_roundw
        case rel =>
          refine ⟨k + 1, by omega, congrArg (Value.int .i64) (by omega), ?_, (by repeat (first | exact Ext.refl _ | assumption | refine Ext.setCell ?_ (by first | (simp; done) | (simp; omega)) _ | refine Ext.drewN ?_ _ | refine Ext.alloc ?_ _ | refine Ext.drew ?_ | refine Ext.trans ?_ (by assumption)))⟩
          rw [HF2.out, HU.out, if_pos hyo]
          exact hg10
        case measure => simp [intOf]; omega
      · have C1 : (FloatKind.f32.format.order sz (fmul tp 1056964608) == some .lt) = false := Bool.eq_false_iff.2 hyo
        go_quiet (fail)
        obtain ⟨w7, hw7⟩ : ∃ w7, w7 = w6.drewN nq := ⟨_, rfl⟩
        rw [← hw7]
        have hg7 : Bk w7 w1.heap.size 44 (cenC n (updC F a ⟨N1 + 1, Y1, O1, S1, 0⟩)) := by rw [hw7]; exact hg6.drewN nq
        have hX7 : Bk w7 wr.heap.size 46 #[.int .i64 a, .int .i64 px, .int .i64 py, .float .f32 sz, .int .i64 ag] := by rw [hw7]; exact hX6.drewN nq
        have hx7 : Ext w1 w7 := by rw [hw7]; exact hx6.drewN nq
        clear hw7 P0 P3 P4 hlX T7 hg6 hX6 hx6 w6
        go_upto_region 12 with fail
        have P3 := hX7.cell 3
        have P4 := hX7.cell 4
        have c0 := cen_load hg7 han (j := 2) (v := .int .i64 O1) (by omega) rfl
        have c1 := hg7.frozen (a * 5 + 2)
        have hlX := hX7.lt
        go_region
        obtain ⟨w9, hw9⟩ : ∃ w9, w9 = (w7.setCell ⟨w1.heap.size, a * 5 + 2, none⟩ (.int .i64 (max O1 ag))).drew := ⟨_, rfl⟩
        rw [← hw9]
        have hg9 : Bk w9 w1.heap.size 44 (cenC n (updC F a ⟨N1 + 1, Y1, max O1 ag, S1, 0⟩)) := by rw [hw9]; exact (cen_store hg7 (j := 2) (c' := ⟨N1 + 1, Y1, max O1 ag, S1, 0⟩) (by omega) rfl (fun i hi hn => by rcases i with _ | _ | _ | _ | _ | i <;> first | rfl | omega)).drew
        have hX9 : Bk w9 wr.heap.size 46 #[.int .i64 a, .int .i64 px, .int .i64 py, .float .f32 sz, .int .i64 ag] := by rw [hw9]; exact (hX7.far hne _).drew
        have hx9 : Ext w1 w9 := by rw [hw9]; exact (hx7.setCell (Nat.le_refl _) _).drew
        clear hw9 c0 c1 P3 P4 hlX hg7 hX7 hx7 w7
        have P3 := hX9.cell 3
        have P4 := hX9.cell 4
        have c0 := cen_load hg9 han (j := 3) (v := .float .f32 S1) (by omega) rfl
        have c1 := hg9.frozen (a * 5 + 3)
        have hlX := hX9.lt
        go_upto_region 13 with fail
        go_region
        obtain ⟨w10, hw10⟩ : ∃ w10, w10 = (w9.setCell ⟨w1.heap.size, a * 5 + 3, none⟩ (.float .f32 (fadd S1 sz))).drew := ⟨_, rfl⟩
        rw [← hw10]
        have hg10 : Bk w10 w1.heap.size 44 (cenC n (updC F a ⟨N1 + 1, Y1, max O1 ag, fadd S1 sz, 0⟩)) := by rw [hw10]; exact (cen_store hg9 (j := 3) (c' := ⟨N1 + 1, Y1, max O1 ag, fadd S1 sz, 0⟩) (by omega) rfl (fun i hi hn => by rcases i with _ | _ | _ | _ | _ | i <;> first | rfl | omega)).drew
        have hx10 : Ext w1 w10 := by rw [hw10]; exact (hx9.setCell (Nat.le_refl _) _).drew
        clear hw10 c0 c1 P3 P4 hlX hg9 hX9 hx9 w9
        go_wp2_with fail
        go_roundw
        case rel =>
          refine ⟨k + 1, by omega, congrArg (Value.int .i64) (by omega), ?_, (by repeat (first | exact Ext.refl _ | assumption | refine Ext.setCell ?_ (by first | (simp; done) | (simp; omega)) _ | refine Ext.drewN ?_ _ | refine Ext.alloc ?_ _ | refine Ext.drew ?_ | refine Ext.trans ?_ (by assumption)))⟩
          rw [HF2.out, HU.out, if_neg hyo]
          exact hg10
        case measure => simp [intOf]; omega
    · have hkm : k = m := by omega
      subst hkm
      have e0 : (fun b => cenF l p b k) = endF l p k 0 := (endF_zero l p k).symm
      rw [e0] at hG
      clear e0
      have h4k := H4.out
      clear hlt hk
      go_wp2_with fail
      go_loopw [81] (fun i wr => ∃ j : Nat, j ≤ n ∧ i = .int .i64 j ∧ Bk wr w1.heap.size 44 (cenC n (endF l p k j)) ∧ Ext w1 wr) (fun i _ => n - (intOf i).toNat)
      case atStart => exact ⟨0, Nat.zero_le _, rfl, hG, hx⟩
      case round =>
        clear hG hx
        obtain ⟨j, hj, rfl, hG, hx⟩ := hrel
        by_cases hlt : j < n
        · have HK := hidA (cen_ok (l := l) HE.out h4k j k (by have := Hm.out; omega))
          have HU := hidA (endF_step l p k j)
          have hca := endF_at l p k j
          obtain ⟨F, hF⟩ : ∃ F : Nat → CenR, F = endF l p k j := ⟨_, rfl⟩
          rw [← hF] at HU hG hca
          clear hF
          rw [← hca] at HK HU
          clear hca
          generalize hF2 : endF l p k (j + 1) = F2 at HU
          have HF2 := hidA hF2
          clear hF2
          have hcm := upto_hgt (end_mean HK.out hm4)
          have hqm := fun h => mean_ok HK.out hm4 h
          generalize hc1 : F j = c1 at *
          obtain ⟨N1, Y1, O1, S1, M1⟩ := c1
          have hcu := updC_self hc1
          clear hc1
          rw [← hcu] at hG
          clear hcu
          obtain ⟨i1, i2, i3, i4, i5, i6, i7, i8⟩ := HK.out
          dsimp only at i1 i2 i3 i4 i5 i6 i7 i8
          subst i8
          clear HK i7
          have j0 : (0 : Int) ≤ j := by omega
          have j1 : (j : Int) < n := by omega
          have c0 := cen_load hG hlt (j := 0) (v := .int .i64 N1) (by omega) rfl
          have c3 := cen_load hG hlt (j := 3) (v := .float .f32 S1) (by omega) rfl
          have c4 := hG.frozen (j * 5 + 4)
          rw [Nat.add_zero] at c0
          have hlg := hG.lt
          by_cases hN : 0 < N1
          · have hE : endC ⟨N1, Y1, O1, S1, 0⟩ = ⟨N1, Y1, O1, S1, fdiv S1 (floatOfInt .f32 N1)⟩ := if_pos hN
            rw [hE] at hcm HU
            clear hE
            dsimp only at hcm
            have HV := fun (w : World) => hidA (value_ok w hcm)
            have hq := (hqm hN).1
            dsimp only at hq
            have wN : IntKind.i64.wrap N1 = N1 := IntWalk.i64_in _ (by omega)
            have q1 := fun (w : World) => run_float_arith (P := Tryd.prog) w .quo 24 .f32 _ _ _ hq
            clear hq hqm hcm
            generalize fdiv S1 (floatOfInt .f32 N1) = Q at *
            have c5 := cen_load hG hlt (j := 4) (v := .float .f32 0) (by omega) rfl
            go_upto_region 20 with fail
            go_region
            obtain ⟨w5, hw5⟩ : ∃ w5, w5 = (wr.setCell ⟨w1.heap.size, j * 5 + 4, none⟩ (.float .f32 Q)).drew := ⟨_, rfl⟩
            rw [← hw5]
            have hg5 : Bk w5 w1.heap.size 44 (cenC n (updC F j ⟨N1, Y1, O1, S1, Q⟩)) := by rw [hw5]; exact (cen_store hG (j := 4) (c' := ⟨N1, Y1, O1, S1, Q⟩) (by omega) rfl (fun i hi hn => by rcases i with _ | _ | _ | _ | _ | i <;> first | rfl | omega)).drew
            have hx5 : Ext w1 w5 := by rw [hw5]; exact (hx.setCell (Nat.le_refl _) _).drew
            clear hw5 c0 c3 c4 c5 hlg hG hx wr
            have c5 := cen_load hg5 hlt (j := 4) (v := .float .f32 Q) (by omega) rfl
            have hlg := hg5.lt
            go_wp2_with fail
            refine ((HV _).out).mono ?_
            rintro e w6 ⟨rfl, rfl⟩
            go_wp2_with fail
            go_roundw
            case rel =>
              refine ⟨j + 1, by omega, congrArg (Value.int .i64) (by omega), ?_, (by repeat (first | exact Ext.refl _ | assumption | refine Ext.setCell ?_ (by first | (simp; done) | (simp; omega)) _ | refine Ext.drewN ?_ _ | refine Ext.alloc ?_ _ | refine Ext.drew ?_ | refine Ext.trans ?_ (by assumption)))⟩
              rw [HF2.out, HU.out]
              exact hg5
            case measure => simp [intOf]; omega
          · have hE : endC ⟨N1, Y1, O1, S1, 0⟩ = ⟨N1, Y1, O1, S1, 0⟩ := if_neg hN
            rw [hE] at hcm HU
            clear hE hqm
            dsimp only at hcm
            have HV := fun (w : World) => hidA (value_ok w hcm)
            have c5 := cen_load hG hlt (j := 4) (v := .float .f32 0) (by omega) rfl
            clear hcm
            go_wp2_with fail
            refine ((HV _).out).mono ?_
            rintro e w6 ⟨rfl, rfl⟩
            go_wp2_with fail
            go_roundw
            case rel =>
              refine ⟨j + 1, by omega, congrArg (Value.int .i64) (by omega), ?_, (by repeat (first | exact Ext.refl _ | assumption | refine Ext.setCell ?_ (by first | (simp; done) | (simp; omega)) _ | refine Ext.drewN ?_ _ | refine Ext.alloc ?_ _ | refine Ext.drew ?_ | refine Ext.trans ?_ (by assumption)))⟩
              rw [HF2.out, HU.out]
              exact hG
            case measure => simp [intOf]; omega
        · have hjn : j = n := by omega
          subst hjn
          rw [endF_all l p k j Hm.out] at hG
          go_wp2_with fail
          go_ret2
          exact ⟨_, rfl, hG, hb1.size, (by repeat (first | exact Ext.refl _ | assumption | refine Ext.setCell ?_ (by first | (simp; done) | (simp; omega)) _ | refine Ext.drewN ?_ _ | refine Ext.alloc ?_ _ | refine Ext.drew ?_ | refine Ext.trans ?_ (by assumption)))⟩

end Go.Proofs.YtgaonoklbihkjaaDoor
