/- The walk of the law CountsMatch. -/
import Derived.Test.YtgaonoklbihkjaaDoorCountB
import Derived.Test.YtgaonoklbihkjaaDoorNearA
namespace Go.Proofs.YtgaonoklbihkjaaDoor
open Go.RowKit
attribute [local go_sem ↓] Go.wp_at_zero Go.wp_at_succ
attribute [local go_sem] run_store_float

def lawF (l : List KindR) (p : List PlantR) (m i : Nat) : Nat → CenR := fun b => if b < i then endC (cenF l p b m) else CenR.zero
theorem lawF_zero (l : List KindR) (p : List PlantR) (m : Nat) : lawF l p m 0 = fun _ => CenR.zero := by
  funext b
  unfold lawF
  rw [if_neg (by omega)]
theorem lawF_in (l : List KindR) (p : List PlantR) (m i : Nat) : updC (lawF l p m i) i (cenF l p i 0) = lawF l p m i := by
  refine updC_self ?_
  unfold lawF
  rw [if_neg (by omega)]
  rfl
theorem lawF_step (l : List KindR) (p : List PlantR) (m i : Nat) : lawF l p m (i + 1) = updC (lawF l p m i) i (endC (cenF l p i m)) := by
  funext b
  unfold lawF updC
  by_cases hb : b = i
  · subst hb
    rw [if_pos (by omega), if_pos rfl]
  · rw [if_neg hb]
    dsimp only
    by_cases h2 : b < i
    · rw [if_pos h2, if_pos (by omega)]
    · rw [if_neg h2, if_neg (by omega)]
theorem lawF_all (l : List KindR) (p : List PlantR) (m n : Nat) (hm : p.length = m) : cenC n (lawF l p m n) = cenC n (allC l p) := by
  refine cenC_congr fun b hb => ?_
  unfold lawF allC
  rw [if_pos hb, hm]

def nE (p : List PlantR) (z : PlantR) : Int := if p.length = 0 then 11 else nearE z
def nV (p : List PlantR) (z : PlantR) : Int := if p.length = 0 then 0 else nearV p z p.length
theorem nV_zero (p : List PlantR) (z : PlantR) (h : nE p z ≠ 0) : nV p z = 0 := by
  unfold nE nV at *
  by_cases h0 : p.length = 0
  · rw [if_pos h0]
  · rw [if_neg h0] at h ⊢
    cases hf : z.farB
    · exact absurd (nearE_in hf) h
    · exact nearV_far hf
theorem nV_one (p : List PlantR) (z : PlantR) (h : nE p z = 0) : nV p z = nearK p z p.length ∧ 0 < p.length ∧ z.farB = false := by
  unfold nE nV at *
  by_cases h0 : p.length = 0
  · rw [if_pos h0] at h
    cases h
  · rw [if_neg h0] at h ⊢
    cases hf : z.farB
    · exact ⟨nearV_in hf, by omega, rfl⟩
    · rw [nearE_far hf] at h
      cases h
theorem first_near (p : List PlantR) (z : PlantR) : firstE [if ((p.length : Int) == 0) = true then 11 else 0, if z.farB = true then 5 else 0] = nE p z := by
  unfold nE
  by_cases h0 : p.length = 0
  · rw [if_pos h0, h0]; rfl
  · rw [if_neg h0, if_neg (by simpa using h0)]
    show firstE [0, nearE z] = nearE z
    simp [firstE]
    exact fun h => h.symm
theorem rd_newd {w : World} {cs : Array Value} {t : TypeId} {g : Nat} {xs : List Value} (hg : g = w.heap.size) (h : cs.toList = xs) : Rd (w.alloc (.cells cs t)).drew (some ⟨g, 0, none⟩) xs := (Rd.new hg h).ext ((Ext.refl _).drew)
theorem spot_far (x y : Int) : (spot x y).farB = (!(decide (-4194304 ≤ x) && decide (x ≤ 4194304)) || !(decide (-4194304 ≤ y) && decide (y ≤ 4194304))) := by
  unfold PlantR.farB spot
  by_cases h1 : -4194304 ≤ x <;> by_cases h2 : x ≤ 4194304 <;> by_cases h3 : -4194304 ≤ y <;> by_cases h4 : y ≤ 4194304 <;> simp [h1, h2, h3, h4] <;> omega
theorem Nearest_any (B : Option Addr) (m d : Nat) (p : List PlantR) (x y : Int) (w : World) (hm : p.length = m) (hp : Rd w B (pcells p)) (h4 : m ≤ 4000) (hmd : m ≤ d) (hf : ∀ a ∈ p, a.farB = false) :
    Calls Tryd.prog 17 #[.slice B m d, .agg #[.int .i64 x, .int .i64 y]] w fun e w' => e = .returned (.tuple #[.int .i64 (nV p (spot x y)), .int .i64 (nE p (spot x y))]) ∧ Ext w w' := by
  unfold nV nE
  by_cases h0 : p.length = 0
  · rw [if_pos h0, if_pos h0]
    obtain rfl : m = 0 := by omega
    exact Nearest_none B d x y w
  · rw [if_neg h0, if_neg h0, hm]
    exact Nearest_some B m d p x y w hm hp h4 hmd (by omega) hf

set_option maxRecDepth 100000 in
set_option maxHeartbeats 12800000 in
theorem counts_ok (A : Option Addr) (n c : Nat) (l : List KindR) (B : Option Addr) (m d : Nat) (p : List PlantR) (ax ay : Int) (w : World) (hn : l.length = n) (hd : Rd w A (kcells l)) (hb : n ≤ 4000000000000) (hc : n ≤ c) (hsz : ∀ x ∈ l, x.s.size ≤ 9223372036854775807) (hm : p.length = m) (hp : Rd w B (pcells p)) (hbm : m ≤ 4000000000000) (hmd : m ≤ d) (h0 : plantsE l p = 0) :
    Calls Tryd.prog 4 #[.slice A n c, .slice B m d, .agg #[.int .i64 ax, .int .i64 ay]] w fun e w' => e = .returned (.bool true) ∧ Ext w w' := by
  have HC := fun (w : World) (hd : Rd w A (kcells l)) (hp : Rd w B (pcells p)) => hidA (Count_ok A n c l B m d p w hn hd hb hc hsz hm hp hbm h0)
  have HP := fun (w : World) (hd : Rd w A (kcells l)) (hp : Rd w B (pcells p)) => hidA (plantsError_any A n c l B m d p w hn hd hb hc hsz hm hp hbm)
  have HG := fun (w : World) => hidA (grows_any w)
  rw [h0] at HP
  obtain ⟨hk, h4, he⟩ := plantsE_zero h0
  obtain ⟨_, hl12, hl⟩ := kindsE_zero hk
  have hmk := mk_cen n (by omega)
  have Hm := hidA hm
  have Hn := hidA hn
  have HE := hidA he
  have HL := hidA hl
  have H4 := hidA h4
  have hm4 : m ≤ 4000 := by omega
  have hn12 : n ≤ 12 := by omega
  clear h0 hk h4 he hl hn hm hsz hl12
  go_enter Tryd.func4, Tryd.ntmps4
  go_wp2_with fail
  refine ((HC _ (hd.alloc _) (hp.alloc _)).out).mono ?_
  rintro e w1 ⟨g1, rfl, hg1, hgs1, hb1⟩
  have hX1 : Bk w1 w.heap.size 36 #[.int .i64 ax, .int .i64 ay] := (Bk.new' rfl).ext hb1
  have hd1 := (hd.alloc _).ext hb1
  have hp1 := (hp.alloc _).ext hb1
  have hx1 : Ext w w1 := by (repeat (first | exact Ext.refl _ | assumption | refine Ext.setCell ?_ (by first | (simp; done) | (simp; omega)) _ | refine Ext.drewN ?_ _ | refine Ext.alloc ?_ _ | refine Ext.drew ?_ | refine Ext.trans ?_ (by assumption)))
  clear HC hd hp hb1
  go_upto_region 5 with (first
      | (go_at_call 10; refine ((HP _ hd1 hp1).out).mono ?_; rintro e w2 ⟨rfl, hb2⟩)
      | (go_at_call 13; refine ((HG _).out).mono ?_; rintro e w4 ⟨rfl, hb3⟩))
  have hx4 : Ext w1 w4 := by (repeat (first | exact Ext.refl _ | assumption | refine Ext.setCell ?_ (by first | (simp; done) | (simp; omega)) _ | refine Ext.drewN ?_ _ | refine Ext.alloc ?_ _ | refine Ext.drew ?_ | refine Ext.trans ?_ (by assumption)))
  have hd4 := hd1.ext hx4
  have hp4 := hp1.ext hx4
  have hg14 := hg1.ext hx4
  have hX4 := hX1.ext hx4
  clear hb2 hb3 hd1 hp1 HP HG hg1 hX1
  have hgl1 := hg14.lt
  go_wp2_with fail
  clear hmk
  go_loopw [55] (fun i wr => ∃ j : Nat, j ≤ n ∧ i = .int .i64 j ∧ Bk wr w4.heap.size 44 (cenC n (lawF l p m j)) ∧ Ext w4 wr) (fun i _ => n - (intOf i).toNat)
  case atStart => exact ⟨0, Nat.zero_le _, rfl, by rw [lawF_zero, ← made_cen]; exact Bk.new _ _ _, (by repeat (first | exact Ext.refl _ | assumption | refine Ext.setCell ?_ (by first | (simp; done) | (simp; omega)) _ | refine Ext.drewN ?_ _ | refine Ext.alloc ?_ _ | refine Ext.drew ?_ | refine Ext.trans ?_ (by assumption)))⟩
  case round =>
    obtain ⟨i, hi, rfl, hG, hx⟩ := hrel
    by_cases hlt : i < n
    · have hil : i < l.length := by have := Hn.out; omega
      obtain ⟨ak, rfl, hka, _⟩ := hd4.at (k := i) (by rw [kcells_length]; omega)
      have hdw := hd4.ext hx
      have htop := hdw.top hil
      have hdk := hdw.kind hil
      have hcmul := (fmul_ok (J := 0) (kind_top (HL.out _ (List.getElem_mem hil))) (show Bd 0 1056964608 by unfold Bd; decide) (by omega)).1
      have hF := hidA (lawF_in l p m i)
      have HS := hidA (lawF_step l p m i)
      generalize htp : l[i].a6 = tp at *
      obtain ⟨F, hFF⟩ : ∃ F : Nat → CenR, F = lawF l p m i := ⟨_, rfl⟩
      rw [← hFF] at hG hF HS
      clear hFF
      have i0 : (0 : Int) ≤ i := by omega
      have i01 : (i : Int) < n := by omega
      have q1 := fun (w : World) => run_float_arith (P := Tryd.prog) w .mul 24 .f32 _ _ _ hcmul
      obtain ⟨t0, t1, t2, t3, t4, t5, t6, t7, t8, t9, t10, t11, t12⟩ := hdk
      have Htp := hidA (show topOf l (i : Int) = tp by rw [topOf_nat hil]; exact htp)
      have Hil := hidA hil
      generalize l[i] = kr at *
      clear htp
      obtain ⟨ks, b0, b1, b2, b3, b4, b5, b6, b7, b8, b9, kp, kq⟩ := kr
      dsimp only at t0 t1 t2 t3 t4 t5 t6 t7 t8 t9 t10 t11 t12
      obtain ⟨KC, hKC⟩ : ∃ KC : Array Value, KC = #[.string ks, .float .f32 b0, .float .f32 b1, .float .f32 b2, .float .f32 b3, .float .f32 b4, .float .f32 b5, .float .f32 tp, .float .f32 b7, .float .f32 b8, .float .f32 b9, .int .i64 kp, .int .i64 kq] := ⟨_, rfl⟩
      obtain ⟨w6, hw6⟩ : ∃ w6, w6 = wr.alloc (.cells #[.string ks, .float .f32 b0, .float .f32 b1, .float .f32 b2, .float .f32 b3, .float .f32 b4, .float .f32 b5, .float .f32 tp, .float .f32 b7, .float .f32 b8, .float .f32 b9, .int .i64 kp, .int .i64 kq] 41) := ⟨_, rfl⟩
      go_wp2_with fail
      rw [← hw6]
      have hK6 : Bk w6 wr.heap.size 41 KC := by rw [hw6, hKC]; exact Bk.new' rfl
      have hG6 : Bk w6 w4.heap.size 44 (cenC n F) := by rw [hw6]; exact hG.alloc _
      have hx6 : Ext w4 w6 := by rw [hw6]; exact hx.alloc _
      have hneK0 : wr.heap.size ≠ w4.heap.size := by have := hG.lt; omega
      have hK7 : KC[7]? = some (.float .f32 tp) := by rw [hKC]; rfl
      clear hw6 hKC t0 t1 t2 t3 t4 t5 t6 t7 t8 t9 t10 t11 t12 hG hx htop hdw hcmul
      generalize wr.heap.size = gk at *
      rw [← hF.out] at hG6
      go_loopw [65] (fun s wr2 => ∃ k : Nat, k ≤ m ∧ s = .int .i64 k ∧ Bk wr2 w4.heap.size 44 (cenC n (updC F i (cenF l p i k))) ∧ Bk wr2 gk 41 KC ∧ Ext w4 wr2) (fun s _ => m - (intOf s).toNat)
      case atStart => exact ⟨0, Nat.zero_le _, rfl, hG6, hK6, hx6⟩
      case round =>
        clear hG6 hK6 hx6
        obtain ⟨k, hk, rfl, hG, hK, hx⟩ := hrel
        by_cases hlk : k < m
        · have hkl : k < p.length := by have := Hm.out; omega
          obtain ⟨ad, rfl, hbk, _⟩ := hp4.at (k := k) (by rw [pcells_length]; omega)
          have hpw := hp4.ext hx
          obtain ⟨d0, d1, d2, d3, d4⟩ := hpw.plant hkl
          have k0 : (0 : Int) ≤ k := by omega
          have k1 : (k : Int) < m := by omega
          by_cases hki : p[k].kind = (i : Int)
          · have HK := hidA (cen_ok (l := l) HE.out H4.out i k (by omega))
            obtain ⟨u1, u2, u3, u4, u5⟩ := plantE_zero (HE.out _ (List.getElem_mem hkl))
            obtain ⟨v1, v2, v3, v4⟩ := bad_none rfl u5
            have HU := hidA (cenF_step (l := l) i hkl)
            rw [if_pos hki] at HU
            have hsm := upto_size u4 v1
            have hst : stepC l (cenF l p i k) p[k] = ⟨(cenF l p i k).many + 1, if lt p[k].size (fmul tp 1056964608) = true then (cenF l p i k).young + 1 else (cenF l p i k).young, max (cenF l p i k).oldest p[k].age, fadd (cenF l p i k).sum p[k].size, (cenF l p i k).mean⟩ := by
              unfold stepC
              rw [show topOf l p[k].kind = tp by rw [congrArg (topOf l) hki]; exact Htp.out]
            rw [hst] at HU
            clear hst u1 u2 u3 u4 u5 v1 v2
            generalize p[k] = x at *
            obtain ⟨kd, px, py, sz, ag⟩ := x
            dsimp only at d0 d1 d2 d3 d4 HU v3 v4 hsm hki
            subst hki
            generalize cenF l p i k = cc at *
            obtain ⟨N1, Y1, O1, S1, M1⟩ := cc
            obtain ⟨i1, i2, i3, i4, i5, i6, i7, i8⟩ := HK.out
            dsimp only at i1 i2 i3 i4 i5 i6 i7 i8 HU
            subst i8
            have hadd := (upto_add i7 hsm (by omega)).1
            have q2 := fun (w : World) => run_float_arith (P := Tryd.prog) w .add 24 .f32 _ _ _ hadd
            clear hadd i7 hsm HK
            have k4 : k ≤ 4000 := by have := H4.out; omega
            have i0 : (0 : Int) ≤ i := by omega
            have i01 : (i : Int) < n := by omega
            obtain ⟨w8, hw8⟩ : ∃ w8, w8 = wr.alloc (.cells #[.int .i64 i, .int .i64 px, .int .i64 py, .float .f32 sz, .int .i64 ag] 46) := ⟨_, rfl⟩
            have hX8 : Bk w8 wr.heap.size 46 #[.int .i64 i, .int .i64 px, .int .i64 py, .float .f32 sz, .int .i64 ag] := by rw [hw8]; exact Bk.new' rfl
            have hx8 : Ext w4 w8 := by rw [hw8]; exact hx.alloc _
            have hK8 : Bk w8 gk 41 KC := by rw [hw8]; exact hK.alloc _
            have hg8 := hG.alloc (.cells #[.int .i64 i, .int .i64 px, .int .i64 py, .float .f32 sz, .int .i64 ag] 46)
            rw [← hw8] at hg8
            have hgl := hG.lt
            have hne : wr.heap.size ≠ w4.heap.size := by omega
            have hneK : gk ≠ w4.heap.size := hneK0
            have c0 := cen_load hg8 hlt (j := 0) (v := .int .i64 N1) (by omega) rfl
            have c1 := hg8.frozen (i * 5)
            rw [Nat.add_zero] at c0
            go_upto_region 14 with fail
            rw [← hw8]
            clear hw8
            go_upto_region 15 with fail
            obtain ⟨w9, hw9⟩ : ∃ w9, w9 = (w8.setCell ⟨w4.heap.size, i * 5, none⟩ (.int .i64 (N1 + 1))) := ⟨_, rfl⟩
            rw [← hw9]
            have hg9 : Bk w9 w4.heap.size 44 (cenC n (updC F i ⟨N1 + 1, Y1, O1, S1, 0⟩)) := by rw [hw9]; exact (cen_store hg8 (j := 0) (c' := ⟨N1 + 1, Y1, O1, S1, 0⟩) (by omega) rfl (fun i hi hn => by rcases i with _ | _ | _ | _ | _ | i <;> first | rfl | omega))
            have hX9 : Bk w9 wr.heap.size 46 #[.int .i64 i, .int .i64 px, .int .i64 py, .float .f32 sz, .int .i64 ag] := by rw [hw9]; exact (hX8.far hne _)
            have hx9 : Ext w4 w9 := by rw [hw9]; exact (hx8.setCell (Nat.le_refl _) _)
            have hK9 : Bk w9 gk 41 KC := by rw [hw9]; exact (hK8.far hneK _)
            clear hw9
            clear c0 c1 hg8 hX8 hx8 hK8 w8
            have P3 := hX9.cell 3
            have P4 := hX9.cell 4
            have hlX := hX9.lt
            have T7 := hK9.cell 7
            rw [hK7] at T7
            have hlk := hK9.lt
            by_cases hyo : lt sz (fmul tp 1056964608) = true
            · have C1 : (FloatKind.f32.format.order sz (fmul tp 1056964608) == some .lt) = true := hyo
              have c0 := cen_load hg9 hlt (j := 1) (v := .int .i64 Y1) (by omega) rfl
              have c1 := hg9.frozen (i * 5 + 1)
              go_upto_region 17 with fail
              obtain ⟨w10, hw10⟩ : ∃ w10, w10 = (w9.setCell ⟨w4.heap.size, i * 5 + 1, none⟩ (.int .i64 (Y1 + 1))) := ⟨_, rfl⟩
              rw [← hw10]
              have hg10 : Bk w10 w4.heap.size 44 (cenC n (updC F i ⟨N1 + 1, Y1 + 1, O1, S1, 0⟩)) := by rw [hw10]; exact (cen_store hg9 (j := 1) (c' := ⟨N1 + 1, Y1 + 1, O1, S1, 0⟩) (by omega) rfl (fun i hi hn => by rcases i with _ | _ | _ | _ | _ | i <;> first | rfl | omega))
              have hX10 : Bk w10 wr.heap.size 46 #[.int .i64 i, .int .i64 px, .int .i64 py, .float .f32 sz, .int .i64 ag] := by rw [hw10]; exact (hX9.far hne _)
              have hx10 : Ext w4 w10 := by rw [hw10]; exact (hx9.setCell (Nat.le_refl _) _)
              have hK10 : Bk w10 gk 41 KC := by rw [hw10]; exact (hK9.far hneK _)
              clear hw10
              clear c0 c1 P3 P4 hlX T7 hlk hg9 hX9 hx9 hK9 w9
              have P3 := hX10.cell 3
              have P4 := hX10.cell 4
              have c0 := cen_load hg10 hlt (j := 2) (v := .int .i64 O1) (by omega) rfl
              have c1 := hg10.frozen (i * 5 + 2)
              have hlX := hX10.lt
              go_region
              obtain ⟨w20, hw20⟩ : ∃ w20, w20 = (w10.setCell ⟨w4.heap.size, i * 5 + 2, none⟩ (.int .i64 (max O1 ag))).drew := ⟨_, rfl⟩
              rw [← hw20]
              have hg20 : Bk w20 w4.heap.size 44 (cenC n (updC F i ⟨N1 + 1, Y1 + 1, max O1 ag, S1, 0⟩)) := by rw [hw20]; exact (cen_store hg10 (j := 2) (c' := ⟨N1 + 1, Y1 + 1, max O1 ag, S1, 0⟩) (by omega) rfl (fun i hi hn => by rcases i with _ | _ | _ | _ | _ | i <;> first | rfl | omega)).drew
              have hX20 : Bk w20 wr.heap.size 46 #[.int .i64 i, .int .i64 px, .int .i64 py, .float .f32 sz, .int .i64 ag] := by rw [hw20]; exact (hX10.far hne _).drew
              have hx20 : Ext w4 w20 := by rw [hw20]; exact (hx10.setCell (Nat.le_refl _) _).drew
              have hK20 : Bk w20 gk 41 KC := by rw [hw20]; exact (hK10.far hneK _).drew
              clear hw20
              clear c0 c1 P3 P4 hlX hg10 hX10 hx10 hK10 w10
              have P3 := hX20.cell 3
              have c0 := cen_load hg20 hlt (j := 3) (v := .float .f32 S1) (by omega) rfl
              have c1 := hg20.frozen (i * 5 + 3)
              have hlX := hX20.lt
              go_upto_region 18 with fail
              go_region
              obtain ⟨w21, hw21⟩ : ∃ w21, w21 = (w20.setCell ⟨w4.heap.size, i * 5 + 3, none⟩ (.float .f32 (fadd S1 sz))).drew := ⟨_, rfl⟩
              rw [← hw21]
              have hg21 : Bk w21 w4.heap.size 44 (cenC n (updC F i ⟨N1 + 1, Y1 + 1, max O1 ag, fadd S1 sz, 0⟩)) := by rw [hw21]; exact (cen_store hg20 (j := 3) (c' := ⟨N1 + 1, Y1 + 1, max O1 ag, fadd S1 sz, 0⟩) (by omega) rfl (fun i hi hn => by rcases i with _ | _ | _ | _ | _ | i <;> first | rfl | omega)).drew
              have hX21 : Bk w21 wr.heap.size 46 #[.int .i64 i, .int .i64 px, .int .i64 py, .float .f32 sz, .int .i64 ag] := by rw [hw21]; exact (hX20.far hne _).drew
              have hx21 : Ext w4 w21 := by rw [hw21]; exact (hx20.setCell (Nat.le_refl _) _).drew
              have hK21 : Bk w21 gk 41 KC := by rw [hw21]; exact (hK20.far hneK _).drew
              clear hw21
              clear c0 c1 P3 hlX hg20 hX20 hx20 hK20 w20
              go_wp2_with fail
              go_roundw
              case rel =>
                refine ⟨k + 1, by omega, congrArg (Value.int .i64) (by omega), ?_, hK21, (by repeat (first | exact Ext.refl _ | assumption | refine Ext.setCell ?_ (by first | (simp; done) | (simp; omega)) _ | refine Ext.drewN ?_ _ | refine Ext.alloc ?_ _ | refine Ext.drew ?_ | refine Ext.trans ?_ (by assumption)))⟩
                rw [HU.out, if_pos hyo]
                exact hg21
              case measure => simp [intOf]; omega
            · have C1 : (FloatKind.f32.format.order sz (fmul tp 1056964608) == some .lt) = false := Bool.eq_false_iff.2 hyo
              go_upto_region 17 with fail
              clear P3 P4 hlX T7 hlk
              have P3 := hX9.cell 3
              have P4 := hX9.cell 4
              have c0 := cen_load hg9 hlt (j := 2) (v := .int .i64 O1) (by omega) rfl
              have c1 := hg9.frozen (i * 5 + 2)
              have hlX := hX9.lt
              go_region
              obtain ⟨w20, hw20⟩ : ∃ w20, w20 = (w9.setCell ⟨w4.heap.size, i * 5 + 2, none⟩ (.int .i64 (max O1 ag))).drew := ⟨_, rfl⟩
              rw [← hw20]
              have hg20 : Bk w20 w4.heap.size 44 (cenC n (updC F i ⟨N1 + 1, Y1, max O1 ag, S1, 0⟩)) := by rw [hw20]; exact (cen_store hg9 (j := 2) (c' := ⟨N1 + 1, Y1, max O1 ag, S1, 0⟩) (by omega) rfl (fun i hi hn => by rcases i with _ | _ | _ | _ | _ | i <;> first | rfl | omega)).drew
              have hX20 : Bk w20 wr.heap.size 46 #[.int .i64 i, .int .i64 px, .int .i64 py, .float .f32 sz, .int .i64 ag] := by rw [hw20]; exact (hX9.far hne _).drew
              have hx20 : Ext w4 w20 := by rw [hw20]; exact (hx9.setCell (Nat.le_refl _) _).drew
              have hK20 : Bk w20 gk 41 KC := by rw [hw20]; exact (hK9.far hneK _).drew
              clear hw20
              clear c0 c1 P3 P4 hlX hg9 hX9 hx9 hK9 w9
              have P3 := hX20.cell 3
              have c0 := cen_load hg20 hlt (j := 3) (v := .float .f32 S1) (by omega) rfl
              have c1 := hg20.frozen (i * 5 + 3)
              have hlX := hX20.lt
              go_upto_region 18 with fail
              go_region
              obtain ⟨w21, hw21⟩ : ∃ w21, w21 = (w20.setCell ⟨w4.heap.size, i * 5 + 3, none⟩ (.float .f32 (fadd S1 sz))).drew := ⟨_, rfl⟩
              rw [← hw21]
              have hg21 : Bk w21 w4.heap.size 44 (cenC n (updC F i ⟨N1 + 1, Y1, max O1 ag, fadd S1 sz, 0⟩)) := by rw [hw21]; exact (cen_store hg20 (j := 3) (c' := ⟨N1 + 1, Y1, max O1 ag, fadd S1 sz, 0⟩) (by omega) rfl (fun i hi hn => by rcases i with _ | _ | _ | _ | _ | i <;> first | rfl | omega)).drew
              have hX21 : Bk w21 wr.heap.size 46 #[.int .i64 i, .int .i64 px, .int .i64 py, .float .f32 sz, .int .i64 ag] := by rw [hw21]; exact (hX20.far hne _).drew
              have hx21 : Ext w4 w21 := by rw [hw21]; exact (hx20.setCell (Nat.le_refl _) _).drew
              have hK21 : Bk w21 gk 41 KC := by rw [hw21]; exact (hK20.far hneK _).drew
              clear hw21
              clear c0 c1 P3 hlX hg20 hX20 hx20 hK20 w20
              go_wp2_with fail
              go_roundw
              case rel =>
                refine ⟨k + 1, by omega, congrArg (Value.int .i64) (by omega), ?_, hK21, (by repeat (first | exact Ext.refl _ | assumption | refine Ext.setCell ?_ (by first | (simp; done) | (simp; omega)) _ | refine Ext.drewN ?_ _ | refine Ext.alloc ?_ _ | refine Ext.drew ?_ | refine Ext.trans ?_ (by assumption)))⟩
                rw [HU.out, if_neg hyo]
                exact hg21
              case measure => simp [intOf]; omega
          · have HU := hidA (cenF_step (l := l) i hkl)
            rw [if_neg hki] at HU
            generalize p[k] = x at *
            obtain ⟨kd, px, py, sz, ag⟩ := x
            dsimp only at d0 d1 d2 d3 d4 hki
            have hki2 : (kd != (i : Int)) = true := by simpa using hki
            go_wp2_with fail
            go_roundw
            case rel => exact ⟨k + 1, by omega, congrArg (Value.int .i64) (by omega), by rw [HU.out]; exact hG.alloc _, hK.alloc _, (by repeat (first | exact Ext.refl _ | assumption | refine Ext.setCell ?_ (by first | (simp; done) | (simp; omega)) _ | refine Ext.drewN ?_ _ | refine Ext.alloc ?_ _ | refine Ext.drew ?_ | refine Ext.trans ?_ (by assumption)))⟩
            case measure => simp [intOf]; omega
        · obtain rfl : k = m := by omega
          have hcok := cen_ok (l := l) HE.out H4.out i k (by have := Hm.out; omega)
          have hqm := fun h => mean_ok hcok hm4 h
          have i0 : (0 : Int) ≤ i := by omega
          have i01 : (i : Int) < n := by omega
          generalize cenF l p i k = cc at *
          obtain ⟨N1, Y1, O1, S1, M1⟩ := cc
          obtain ⟨j1, j2, j3, j4, j5, j6, j7, j8⟩ := hcok
          dsimp only at j1 j2 j3 j4 j5 j6 j7 j8 hqm
          subst j8
          clear j7 hlk hk
          have c0 := cen_load hG hlt (j := 0) (v := .int .i64 N1) (by omega) rfl
          have c3 := cen_load hG hlt (j := 3) (v := .float .f32 S1) (by omega) rfl
          have c4 := hG.frozen (i * 5 + 4)
          rw [Nat.add_zero] at c0
          have hlg := hG.lt
          by_cases hN : 0 < N1
          · have hE : endC ⟨N1, Y1, O1, S1, 0⟩ = ⟨N1, Y1, O1, S1, fdiv S1 (floatOfInt .f32 N1)⟩ := if_pos hN
            rw [hE] at HS
            clear hE
            have hq := (hqm hN).1
            have wN : IntKind.i64.wrap N1 = N1 := IntWalk.i64_in _ (by omega)
            have q3 := fun (w : World) => run_float_arith (P := Tryd.prog) w .quo 24 .f32 _ _ _ hq
            clear hq hqm
            generalize fdiv S1 (floatOfInt .f32 N1) = Q at *
            have c5 := cen_load hG hlt (j := 4) (v := .float .f32 0) (by omega) rfl
            go_upto_region 21 with fail
            go_region
            obtain ⟨w5, hw5⟩ : ∃ w5, w5 = (wr.setCell ⟨w4.heap.size, i * 5 + 4, none⟩ (.float .f32 Q)).drew := ⟨_, rfl⟩
            rw [← hw5]
            have hg5 : Bk w5 w4.heap.size 44 (cenC n (updC F i ⟨N1, Y1, O1, S1, Q⟩)) := by rw [hw5]; exact (cen_store hG (j := 4) (c' := ⟨N1, Y1, O1, S1, Q⟩) (by omega) rfl (fun i hi hn => by rcases i with _ | _ | _ | _ | _ | i <;> first | rfl | omega)).drew
            have hx5 : Ext w4 w5 := by rw [hw5]; exact (hx.setCell (Nat.le_refl _) _).drew
            clear hw5 c0 c3 c4 c5 hlg hG hx hK
            go_wp2_with fail
            go_roundw
            case rel =>
              refine ⟨i + 1, by omega, congrArg (Value.int .i64) (by omega), ?_, (by repeat (first | exact Ext.refl _ | assumption | refine Ext.setCell ?_ (by first | (simp; done) | (simp; omega)) _ | refine Ext.drewN ?_ _ | refine Ext.alloc ?_ _ | refine Ext.drew ?_ | refine Ext.trans ?_ (by assumption)))⟩
              rw [HS.out]
              exact hg5
            case measure => simp [intOf]; omega
          · have hE : endC ⟨N1, Y1, O1, S1, 0⟩ = ⟨N1, Y1, O1, S1, 0⟩ := if_neg hN
            rw [hE] at HS
            clear hE hqm
            go_wp2_with fail
            go_roundw
            case rel =>
              refine ⟨i + 1, by omega, congrArg (Value.int .i64) (by omega), ?_, (by repeat (first | exact Ext.refl _ | assumption | refine Ext.setCell ?_ (by first | (simp; done) | (simp; omega)) _ | refine Ext.drewN ?_ _ | refine Ext.alloc ?_ _ | refine Ext.drew ?_ | refine Ext.trans ?_ (by assumption)))⟩
              rw [HS.out]
              exact hG
            case measure => simp [intOf]; omega
    · obtain rfl : i = n := by omega
      rw [lawF_all l p m i Hm.out] at hG
      have hfn : ∀ a, a < i → nanB (allC l p a).sum = false ∧ nanB (allC l p a).mean = false := fun a ha => by
        have := cen_ok (l := l) HE.out H4.out a p.length (Nat.le_refl _)
        exact ⟨end_sum this, (end_mean this H4.out).nan⟩
      have HQ := fun (w' : World) (h : Bk w' g1 44 (cenC i (allC l p))) (h' : Bk w' w4.heap.size 44 (cenC i (allC l p))) => hidA (eqCen_same g1 w4.heap.size i (allC l p) w' h h' (by omega) hfn)
      clear hfn
      go_wp2_with fail
      refine ((HQ _ (hg14.ext hx) hG).out).mono ?_
      rintro e w5 ⟨rfl, hb5⟩
      have hx5 : Ext w4 w5 := hx.trans hb5
      clear HQ hG hx hb5
      have hp5 := hp4.ext hx5
      have hX5 := hX4.ext hx5
      have HNr := fun (w' : World) (h : Rd w' B (pcells p)) => hidA (Nearest_any B m d p ax ay w' Hm.out h hm4 hmd (fun a ha => (plantE_zero (HE.out a ha)).2.2.1))
      have hspot := spot_far ax ay
      have hfar : ∀ a ∈ p, a.farB = false := fun a ha => (plantE_zero (HE.out a ha)).2.2.1
      have HFar := hidA hfar
      have hvz := nV_zero p (spot ax ay)
      have hvo := nV_one p (spot ax ay)
      have hfe := first_near p (spot ax ay)
      rw [hspot, Hm.out] at hfe
      have HI1 := fun (w : World) => hidA (within_any ax (-4194304) 4194304 w)
      have HI2 := fun (w : World) => hidA (within_any ay (-4194304) 4194304 w)
      have HW1 := fun (w : World) => hidA (when_any ((m : Int) == 0) 11 w)
      have HW2 := fun (b : Bool) (w : World) => hidA (when_any b 5 w)
      have HS := fun (e1 e2 : Int) (A : Option Addr) (w : World) (hr : Rd w A ([e1, e2].map (.int .i64))) => hidA (first_any A 2 2 [e1, e2] w rfl hr (by omega))
      generalize (decide (-4194304 ≤ ax) && decide (ax ≤ 4194304)) = r1 at *
      generalize (decide (-4194304 ≤ ay) && decide (ay ≤ 4194304)) = r2 at *
      have he1 : (if ((m : Int) == 0) = true then (11 : Int) else 0) = 0 ∨ (if ((m : Int) == 0) = true then (11 : Int) else 0) = 11 := by split <;> simp
      generalize (if ((m : Int) == 0) = true then (11 : Int) else 0) = e1 at *
      generalize nE p (spot ax ay) = e0 at *
      generalize nV p (spot ax ay) = v0 at *
      have Hfe := hidA hfe
      have Hspot := hidA hspot
      have Hvz := hidA hvz
      have Hvo := hidA hvo
      clear hfar hfe hspot hvz hvo HE HL H4 Hn hg14 hd4 hb hc hn12
      have a0 := hX5.cell 0
      have a1 := hX5.cell 1
      go_wp2_with fail
      refine ((HNr _ hp5).out).mono ?_
      rintro e w6 ⟨rfl, hb6⟩
      have hx6 : Ext w4 w6 := hx5.trans hb6
      have hX6 := hX5.ext hb6
      clear HNr a0 a1 hX5 hp5 hb6
      have a0 : ∀ w', Ext w6 w' → w'.cell? ⟨w.heap.size, 0, none⟩ = some (.int .i64 ax) := fun w' h => (hX6.ext h).cell 0
      have a1 : ∀ w', Ext w6 w' → w'.cell? ⟨w.heap.size, 1, none⟩ = some (.int .i64 ay) := fun w' h => (hX6.ext h).cell 1
      cases r1
      · have b0 : (e0 != 0) = true := by
          have := Hfe.out
          rw [← this]
          rcases he1 with rfl | rfl <;> rfl
        obtain rfl : v0 = 0 := Hvz.out (by simpa using b0)
        have HS1 := fun (A : Option Addr) (w : World) (hr : Rd w A ([e1, 5].map (.int .i64))) => HS _ _ A w hr
        have hee : firstE [e1, 5] = e0 := Hfe.out
        rw [hee] at HS1
        have HW2 : ∀ w : World, Hid (Calls Tryd.prog 11 #[.bool true, .int .i64 5] w fun e w' => e = .returned (.int .i64 5) ∧ w = w') := HW2 true
        clear hee
        go_upto_region 26 with fail
        refine wp_region_noPanic ?_
        refine wp_region_held_drew (S := fun w' => Ext w6 w') (by kernel_rfl) ?_ (fun hHeld => ?_)
        · (repeat (first | exact Ext.refl _ | assumption | refine Ext.setCell ?_ (by first | (simp; done) | (simp; omega)) _ | refine Ext.drewN ?_ _ | refine Ext.alloc ?_ _ | refine Ext.drew ?_ | refine Ext.trans ?_ (by assumption)))
        refine wpAnyH_take (i := 0) (oi := ?o1x0) (v := ?v1x0) ?hi1x0 (by kernel_rfl) ?hf1x0 ?hr1x0 (fun _ _ _ h => h) ?hy1x0 (by assumption) ?rest1x0
        case hi1x0 => (simp only [List.getElem?_toArray, List.getElem?_cons_zero]; exact rfl)
        case hf1x0 => kernel_rfl
        case hr1x0 => kernel_rfl
        case hy1x0 => (refine Or.inl ⟨by rfl, ?_⟩; intro w hSw; (try dsimp only at hSw); go_simp; try with_reducible rfl)
        simp only [put_mk, List.set_cons_succ, List.set_cons_zero]
        refine wpAnyH_take (i := 1) (oi := ?o1x1) (v := ?v1x1) ?hi1x1 (by kernel_rfl) ?hf1x1 ?hr1x1 (fun _ _ _ h => h) ?hy1x1 (by assumption) ?rest1x1
        case hi1x1 => (simp only [List.getElem?_toArray, List.getElem?_cons_succ, List.getElem?_cons_zero]; exact rfl)
        case hf1x1 => kernel_rfl
        case hr1x1 => kernel_rfl
        case hy1x1 => (refine Or.inl ⟨by rfl, ?_⟩; intro w hSw; (try dsimp only at hSw); go_simp; try with_reducible rfl)
        simp only [put_mk, List.set_cons_succ, List.set_cons_zero]
        refine wpAnyH_take (i := 2) (oi := ?o1x2) (v := ?v1x2) ?hi1x2 (by kernel_rfl) ?hf1x2 ?hr1x2 (fun _ _ _ h => h) ?hy1x2 (by assumption) ?rest1x2
        case hi1x2 => (simp only [List.getElem?_toArray, List.getElem?_cons_succ, List.getElem?_cons_zero]; exact rfl)
        case hf1x2 => kernel_rfl
        case hr1x2 => kernel_rfl
        case hy1x2 => (refine Or.inl ⟨by rfl, ?_⟩; intro w hSw; (try dsimp only at hSw); go_simp; try with_reducible rfl)
        simp only [put_mk, List.set_cons_succ, List.set_cons_zero]
        refine wpAnyH_take (i := 4) (oi := ?o1x4) (v := ?v1x4) ?hi1x4 (by kernel_rfl) ?hf1x4 ?hr1x4 (fun _ _ _ h => h) ?hy1x4 (by assumption) ?rest1x4
        case hi1x4 => (simp only [List.getElem?_toArray, List.getElem?_cons_succ, List.getElem?_cons_zero]; exact rfl)
        case hf1x4 => kernel_rfl
        case hr1x4 => kernel_rfl
        case hy1x4 => (refine Or.inl ⟨by rfl, ?_⟩; intro w hSw; (try dsimp only at hSw); go_simp; try with_reducible rfl)
        simp only [put_mk, List.set_cons_succ, List.set_cons_zero]
        refine wpAnyH_take (i := 5) (oi := ?o1x5) (v := ?v1x5) ?hi1x5 (by kernel_rfl) ?hf1x5 ?hr1x5 (fun _ _ _ h => h) ?hy1x5 (by assumption) ?rest1x5
        case hi1x5 => (simp only [List.getElem?_toArray, List.getElem?_cons_succ, List.getElem?_cons_zero]; exact rfl)
        case hf1x5 => kernel_rfl
        case hr1x5 => kernel_rfl
        case hy1x5 => (refine Or.inl ⟨by rfl, ?_⟩; intro w hSw; (try dsimp only at hSw); go_simp; try with_reducible rfl)
        simp only [put_mk, List.set_cons_succ, List.set_cons_zero]
        refine wpAnyH_ready (rs := [3]) (by kernel_rfl) (by simp) ?_
        refine AllReadyH.cons (o := ?o1x3) ?hi1x3 (fun K hK => ?_) AllReadyH.nil
        case hi1x3 => (simp only [List.getElem?_toArray, List.getElem?_cons_succ, List.getElem?_cons_zero]; exact rfl)
        go_simp
        refine ((HW1 _).out).mono ?_
        rintro e w7 ⟨rfl, hw7⟩
        subst hw7
        refine hK.out _ _ ?_ (fun hHeld => ?_)
        · (repeat (first | exact Ext.refl _ | assumption | refine Ext.setCell ?_ (by first | (simp; done) | (simp; omega)) _ | refine Ext.drewN ?_ _ | refine Ext.alloc ?_ _ | refine Ext.drew ?_ | refine Ext.trans ?_ (by assumption)))
        clear hK K
        refine wpAnyH_ready (rs := [6]) (by kernel_rfl) (by simp) ?_
        refine AllReadyH.cons (o := ?o1x6) ?hi1x6 (fun K hK => ?_) AllReadyH.nil
        case hi1x6 => (simp only [List.getElem?_toArray, List.getElem?_cons_succ, List.getElem?_cons_zero]; exact rfl)
        go_simp
        refine ((HI1 _).out).mono ?_
        rintro e w7 ⟨rfl, hw7⟩
        subst hw7
        refine hK.out _ _ ?_ (fun hHeld => ?_)
        · (repeat (first | exact Ext.refl _ | assumption | refine Ext.setCell ?_ (by first | (simp; done) | (simp; omega)) _ | refine Ext.drewN ?_ _ | refine Ext.alloc ?_ _ | refine Ext.drew ?_ | refine Ext.trans ?_ (by assumption)))
        clear hK K
        refine wpAnyH_take (i := 7) (oi := ?o1x7) (v := ?v1x7) ?hi1x7 (by kernel_rfl) ?hf1x7 ?hr1x7 (fun _ _ _ h => h) ?hy1x7 (by assumption) ?rest1x7
        case hi1x7 => (simp only [List.getElem?_toArray, List.getElem?_cons_succ, List.getElem?_cons_zero]; exact rfl)
        case hf1x7 => kernel_rfl
        case hr1x7 => kernel_rfl
        case hy1x7 => (refine Or.inl ⟨by rfl, ?_⟩; intro w hSw; (try dsimp only at hSw); go_simp; try with_reducible rfl)
        simp only [put_mk, List.set_cons_succ, List.set_cons_zero]
        refine wpAnyH_take (i := 8) (oi := ?o1x8) (v := ?v1x8) ?hi1x8 (by kernel_rfl) ?hf1x8 ?hr1x8 (fun _ _ _ h => h) ?hy1x8 (by assumption) ?rest1x8
        case hi1x8 => (simp only [List.getElem?_toArray, List.getElem?_cons_succ, List.getElem?_cons_zero]; exact rfl)
        case hf1x8 => kernel_rfl
        case hr1x8 => kernel_rfl
        case hy1x8 => (refine Or.inl ⟨by rfl, ?_⟩; intro w hSw; (try dsimp only at hSw); go_simp; try with_reducible rfl)
        simp only [put_mk, List.set_cons_succ, List.set_cons_zero]
        refine wpAnyH_take (i := 9) (oi := ?o1x9) (v := undef) ?hi1x9 (by kernel_rfl) ?hf1x9 ?hr1x9 (fun _ _ _ h => h) ?hy1x9 (by assumption) ?rest1x9
        case hi1x9 => (simp only [List.getElem?_toArray, List.getElem?_cons_succ, List.getElem?_cons_zero]; exact rfl)
        case hf1x9 => kernel_rfl
        case hr1x9 => kernel_rfl
        case hy1x9 => exact Or.inr ⟨by rfl, rfl⟩
        simp only [put_mk, List.set_cons_succ, List.set_cons_zero]
        refine wpAnyH_take (i := 10) (oi := ?o1x10) (v := undef) ?hi1x10 (by kernel_rfl) ?hf1x10 ?hr1x10 (fun _ _ _ h => h) ?hy1x10 (by assumption) ?rest1x10
        case hi1x10 => (simp only [List.getElem?_toArray, List.getElem?_cons_succ, List.getElem?_cons_zero]; exact rfl)
        case hf1x10 => kernel_rfl
        case hr1x10 => kernel_rfl
        case hy1x10 => exact Or.inr ⟨by rfl, rfl⟩
        simp only [put_mk, List.set_cons_succ, List.set_cons_zero]
        refine wpAnyH_take (i := 11) (oi := ?o1x11) (v := undef) ?hi1x11 (by kernel_rfl) ?hf1x11 ?hr1x11 (fun _ _ _ h => h) ?hy1x11 (by assumption) ?rest1x11
        case hi1x11 => (simp only [List.getElem?_toArray, List.getElem?_cons_succ, List.getElem?_cons_zero]; exact rfl)
        case hf1x11 => kernel_rfl
        case hr1x11 => kernel_rfl
        case hy1x11 => exact Or.inr ⟨by rfl, rfl⟩
        simp only [put_mk, List.set_cons_succ, List.set_cons_zero]
        refine wpAnyH_take (i := 12) (oi := ?o1x12) (v := undef) ?hi1x12 (by kernel_rfl) ?hf1x12 ?hr1x12 (fun _ _ _ h => h) ?hy1x12 (by assumption) ?rest1x12
        case hi1x12 => (simp only [List.getElem?_toArray, List.getElem?_cons_succ, List.getElem?_cons_zero]; exact rfl)
        case hf1x12 => kernel_rfl
        case hr1x12 => kernel_rfl
        case hy1x12 => exact Or.inr ⟨by rfl, rfl⟩
        simp only [put_mk, List.set_cons_succ, List.set_cons_zero]
        refine wpAnyH_take (i := 13) (oi := ?o1x13) (v := ?v1x13) ?hi1x13 (by kernel_rfl) ?hf1x13 ?hr1x13 (fun _ _ _ h => h) ?hy1x13 (by assumption) ?rest1x13
        case hi1x13 => (simp only [List.getElem?_toArray, List.getElem?_cons_succ, List.getElem?_cons_zero]; exact rfl)
        case hf1x13 => kernel_rfl
        case hr1x13 => kernel_rfl
        case hy1x13 => (refine Or.inl ⟨by rfl, ?_⟩; intro w hSw; (try dsimp only at hSw); go_simp; try with_reducible rfl)
        simp only [put_mk, List.set_cons_succ, List.set_cons_zero]
        refine wpAnyH_ready (rs := [14]) (by kernel_rfl) (by simp) ?_
        refine AllReadyH.cons (o := ?o1x14) ?hi1x14 (fun K hK => ?_) AllReadyH.nil
        case hi1x14 => (simp only [List.getElem?_toArray, List.getElem?_cons_succ, List.getElem?_cons_zero]; exact rfl)
        go_simp
        refine ((HW2 _).out).mono ?_
        rintro e w7 ⟨rfl, hw7⟩
        subst hw7
        refine hK.out _ _ ?_ (fun hHeld => ?_)
        · (repeat (first | exact Ext.refl _ | assumption | refine Ext.setCell ?_ (by first | (simp; done) | (simp; omega)) _ | refine Ext.drewN ?_ _ | refine Ext.alloc ?_ _ | refine Ext.drew ?_ | refine Ext.trans ?_ (by assumption)))
        clear hK K
        refine wpAnyH_ready (rs := [15]) (by kernel_rfl) (by simp) ?_
        refine AllReadyH.cons (o := ?o1x15) ?hi1x15 (fun K hK => ?_) AllReadyH.nil
        case hi1x15 => (simp only [List.getElem?_toArray, List.getElem?_cons_succ, List.getElem?_cons_zero]; exact rfl)
        go_simp
        refine hK.out _ _ ?_ (fun hHeld => ?_)
        · (repeat (first | exact Ext.refl _ | assumption | refine Ext.setCell ?_ (by first | (simp; done) | (simp; omega)) _ | refine Ext.drewN ?_ _ | refine Ext.alloc ?_ _ | refine Ext.drew ?_ | refine Ext.trans ?_ (by assumption)))
        clear hK K
        refine wpAnyH_ready (rs := [16]) (by kernel_rfl) (by simp) ?_
        refine AllReadyH.cons (o := ?o1x16) ?hi1x16 (fun K hK => ?_) AllReadyH.nil
        case hi1x16 => (simp only [List.getElem?_toArray, List.getElem?_cons_succ, List.getElem?_cons_zero]; exact rfl)
        go_simp
        refine ((HS1 _ _ (by first | exact rd_newd (by first | rfl | simp) rfl | exact Rd.new (by first | rfl | simp) rfl)).out).mono ?_
        rintro e w7 ⟨rfl, hw7⟩
        subst hw7
        refine hK.out _ _ ?_ (fun hHeld => ?_)
        · (repeat (first | exact Ext.refl _ | assumption | refine Ext.setCell ?_ (by first | (simp; done) | (simp; omega)) _ | refine Ext.drewN ?_ _ | refine Ext.alloc ?_ _ | refine Ext.drew ?_ | refine Ext.trans ?_ (by assumption)))
        clear hK K
        refine wpAnyH_take (i := 17) (oi := ?o1x17) (v := ?v1x17) ?hi1x17 (by kernel_rfl) ?hf1x17 ?hr1x17 (fun _ _ _ h => h) ?hy1x17 (by assumption) ?rest1x17
        case hi1x17 => (simp only [List.getElem?_toArray, List.getElem?_cons_succ, List.getElem?_cons_zero]; exact rfl)
        case hf1x17 => kernel_rfl
        case hr1x17 => kernel_rfl
        case hy1x17 => (refine Or.inl ⟨by rfl, ?_⟩; intro w hSw; (try dsimp only at hSw); go_simp; try with_reducible rfl)
        simp only [put_mk, List.set_cons_succ, List.set_cons_zero]
        refine wpAnyH_done (by kernel_rfl) ?_ _
        refine NoPanic.normal ?_
        go_wp2_with fail
        go_ret
        exact ⟨by first | rfl | simp, (by repeat (first | exact Ext.refl _ | assumption | refine Ext.setCell ?_ (by first | (simp; done) | (simp; omega)) _ | refine Ext.drewN ?_ _ | refine Ext.alloc ?_ _ | refine Ext.drew ?_ | refine Ext.trans ?_ (by assumption)))⟩
      · have hee : firstE [e1, if (!r2) = true then 5 else 0] = e0 := Hfe.out
        have HW2 := HW2 (!r2)
        generalize (if (!r2) = true then (5 : Int) else 0) = e2 at *
        have HS1 := fun (A : Option Addr) (w : World) (hr : Rd w A ([e1, e2].map (.int .i64))) => HS _ _ A w hr
        rw [hee] at HS1
        by_cases hez : e0 = 0
        · subst hez
          obtain ⟨rfl, hm0, hfs⟩ := Hvo.out rfl
          clear hee
          go_upto_region 26 with fail
          refine wp_region_noPanic ?_
          refine wp_region_held_drew (S := fun w' => Ext w6 w') (by kernel_rfl) ?_ (fun hHeld => ?_)
          · (repeat (first | exact Ext.refl _ | assumption | refine Ext.setCell ?_ (by first | (simp; done) | (simp; omega)) _ | refine Ext.drewN ?_ _ | refine Ext.alloc ?_ _ | refine Ext.drew ?_ | refine Ext.trans ?_ (by assumption)))
          refine wpAnyH_take (i := 0) (oi := ?o2x0) (v := ?v2x0) ?hi2x0 (by kernel_rfl) ?hf2x0 ?hr2x0 (fun _ _ _ h => h) ?hy2x0 (by assumption) ?rest2x0
          case hi2x0 => (simp only [List.getElem?_toArray, List.getElem?_cons_zero]; exact rfl)
          case hf2x0 => kernel_rfl
          case hr2x0 => kernel_rfl
          case hy2x0 => (refine Or.inl ⟨by rfl, ?_⟩; intro w hSw; (try dsimp only at hSw); go_simp; try with_reducible rfl)
          simp only [put_mk, List.set_cons_succ, List.set_cons_zero]
          refine wpAnyH_take (i := 1) (oi := ?o2x1) (v := ?v2x1) ?hi2x1 (by kernel_rfl) ?hf2x1 ?hr2x1 (fun _ _ _ h => h) ?hy2x1 (by assumption) ?rest2x1
          case hi2x1 => (simp only [List.getElem?_toArray, List.getElem?_cons_succ, List.getElem?_cons_zero]; exact rfl)
          case hf2x1 => kernel_rfl
          case hr2x1 => kernel_rfl
          case hy2x1 => (refine Or.inl ⟨by rfl, ?_⟩; intro w hSw; (try dsimp only at hSw); go_simp; try with_reducible rfl)
          simp only [put_mk, List.set_cons_succ, List.set_cons_zero]
          refine wpAnyH_take (i := 2) (oi := ?o2x2) (v := ?v2x2) ?hi2x2 (by kernel_rfl) ?hf2x2 ?hr2x2 (fun _ _ _ h => h) ?hy2x2 (by assumption) ?rest2x2
          case hi2x2 => (simp only [List.getElem?_toArray, List.getElem?_cons_succ, List.getElem?_cons_zero]; exact rfl)
          case hf2x2 => kernel_rfl
          case hr2x2 => kernel_rfl
          case hy2x2 => (refine Or.inl ⟨by rfl, ?_⟩; intro w hSw; (try dsimp only at hSw); go_simp; try with_reducible rfl)
          simp only [put_mk, List.set_cons_succ, List.set_cons_zero]
          refine wpAnyH_take (i := 4) (oi := ?o2x4) (v := ?v2x4) ?hi2x4 (by kernel_rfl) ?hf2x4 ?hr2x4 (fun _ _ _ h => h) ?hy2x4 (by assumption) ?rest2x4
          case hi2x4 => (simp only [List.getElem?_toArray, List.getElem?_cons_succ, List.getElem?_cons_zero]; exact rfl)
          case hf2x4 => kernel_rfl
          case hr2x4 => kernel_rfl
          case hy2x4 => (refine Or.inl ⟨by rfl, ?_⟩; intro w hSw; (try dsimp only at hSw); go_simp; try with_reducible rfl)
          simp only [put_mk, List.set_cons_succ, List.set_cons_zero]
          refine wpAnyH_take (i := 5) (oi := ?o2x5) (v := ?v2x5) ?hi2x5 (by kernel_rfl) ?hf2x5 ?hr2x5 (fun _ _ _ h => h) ?hy2x5 (by assumption) ?rest2x5
          case hi2x5 => (simp only [List.getElem?_toArray, List.getElem?_cons_succ, List.getElem?_cons_zero]; exact rfl)
          case hf2x5 => kernel_rfl
          case hr2x5 => kernel_rfl
          case hy2x5 => (refine Or.inl ⟨by rfl, ?_⟩; intro w hSw; (try dsimp only at hSw); go_simp; try with_reducible rfl)
          simp only [put_mk, List.set_cons_succ, List.set_cons_zero]
          refine wpAnyH_ready (rs := [3]) (by kernel_rfl) (by simp) ?_
          refine AllReadyH.cons (o := ?o2x3) ?hi2x3 (fun K hK => ?_) AllReadyH.nil
          case hi2x3 => (simp only [List.getElem?_toArray, List.getElem?_cons_succ, List.getElem?_cons_zero]; exact rfl)
          go_simp
          refine ((HW1 _).out).mono ?_
          rintro e w7 ⟨rfl, hw7⟩
          subst hw7
          refine hK.out _ _ ?_ (fun hHeld => ?_)
          · (repeat (first | exact Ext.refl _ | assumption | refine Ext.setCell ?_ (by first | (simp; done) | (simp; omega)) _ | refine Ext.drewN ?_ _ | refine Ext.alloc ?_ _ | refine Ext.drew ?_ | refine Ext.trans ?_ (by assumption)))
          clear hK K
          refine wpAnyH_ready (rs := [6]) (by kernel_rfl) (by simp) ?_
          refine AllReadyH.cons (o := ?o2x6) ?hi2x6 (fun K hK => ?_) AllReadyH.nil
          case hi2x6 => (simp only [List.getElem?_toArray, List.getElem?_cons_succ, List.getElem?_cons_zero]; exact rfl)
          go_simp
          refine ((HI1 _).out).mono ?_
          rintro e w7 ⟨rfl, hw7⟩
          subst hw7
          refine hK.out _ _ ?_ (fun hHeld => ?_)
          · (repeat (first | exact Ext.refl _ | assumption | refine Ext.setCell ?_ (by first | (simp; done) | (simp; omega)) _ | refine Ext.drewN ?_ _ | refine Ext.alloc ?_ _ | refine Ext.drew ?_ | refine Ext.trans ?_ (by assumption)))
          clear hK K
          refine wpAnyH_take (i := 7) (oi := ?o2x7) (v := ?v2x7) ?hi2x7 (by kernel_rfl) ?hf2x7 ?hr2x7 (fun _ _ _ h => h) ?hy2x7 (by assumption) ?rest2x7
          case hi2x7 => (simp only [List.getElem?_toArray, List.getElem?_cons_succ, List.getElem?_cons_zero]; exact rfl)
          case hf2x7 => kernel_rfl
          case hr2x7 => kernel_rfl
          case hy2x7 => (refine Or.inl ⟨by rfl, ?_⟩; intro w hSw; (try dsimp only at hSw); go_simp; try with_reducible rfl)
          simp only [put_mk, List.set_cons_succ, List.set_cons_zero]
          refine wpAnyH_take (i := 8) (oi := ?o2x8) (v := ?v2x8) ?hi2x8 (by kernel_rfl) ?hf2x8 ?hr2x8 (fun _ _ _ h => h) ?hy2x8 (by assumption) ?rest2x8
          case hi2x8 => (simp only [List.getElem?_toArray, List.getElem?_cons_succ, List.getElem?_cons_zero]; exact rfl)
          case hf2x8 => kernel_rfl
          case hr2x8 => kernel_rfl
          case hy2x8 => (refine Or.inl ⟨by rfl, ?_⟩; intro w hSw; (try dsimp only at hSw); go_simp; try with_reducible rfl)
          simp only [put_mk, List.set_cons_succ, List.set_cons_zero]
          refine wpAnyH_take (i := 9) (oi := ?o2x9) (v := ?v2x9) ?hi2x9 (by kernel_rfl) ?hf2x9 ?hr2x9 (fun _ _ _ h => h) ?hy2x9 (by assumption) ?rest2x9
          case hi2x9 => (simp only [List.getElem?_toArray, List.getElem?_cons_succ, List.getElem?_cons_zero]; exact rfl)
          case hf2x9 => kernel_rfl
          case hr2x9 => kernel_rfl
          case hy2x9 => (refine Or.inl ⟨by rfl, ?_⟩; intro w hSw; (try dsimp only at hSw); go_simp; try with_reducible rfl)
          simp only [put_mk, List.set_cons_succ, List.set_cons_zero]
          refine wpAnyH_take (i := 10) (oi := ?o2x10) (v := ?v2x10) ?hi2x10 (by kernel_rfl) ?hf2x10 ?hr2x10 (fun _ _ _ h => h) ?hy2x10 (by assumption) ?rest2x10
          case hi2x10 => (simp only [List.getElem?_toArray, List.getElem?_cons_succ, List.getElem?_cons_zero]; exact rfl)
          case hf2x10 => kernel_rfl
          case hr2x10 => kernel_rfl
          case hy2x10 => (refine Or.inl ⟨by rfl, ?_⟩; intro w hSw; (try dsimp only at hSw); go_simp; try with_reducible rfl)
          simp only [put_mk, List.set_cons_succ, List.set_cons_zero]
          refine wpAnyH_ready (rs := [11]) (by kernel_rfl) (by simp) ?_
          refine AllReadyH.cons (o := ?o2x11) ?hi2x11 (fun K hK => ?_) AllReadyH.nil
          case hi2x11 => (simp only [List.getElem?_toArray, List.getElem?_cons_succ, List.getElem?_cons_zero]; exact rfl)
          go_simp
          refine ((HI2 _).out).mono ?_
          rintro e w7 ⟨rfl, hw7⟩
          subst hw7
          refine hK.out _ _ ?_ (fun hHeld => ?_)
          · (repeat (first | exact Ext.refl _ | assumption | refine Ext.setCell ?_ (by first | (simp; done) | (simp; omega)) _ | refine Ext.drewN ?_ _ | refine Ext.alloc ?_ _ | refine Ext.drew ?_ | refine Ext.trans ?_ (by assumption)))
          clear hK K
          refine wpAnyH_take (i := 12) (oi := ?o2x12) (v := ?v2x12) ?hi2x12 (by kernel_rfl) ?hf2x12 ?hr2x12 (fun _ _ _ h => h) ?hy2x12 (by assumption) ?rest2x12
          case hi2x12 => (simp only [List.getElem?_toArray, List.getElem?_cons_succ, List.getElem?_cons_zero]; exact rfl)
          case hf2x12 => kernel_rfl
          case hr2x12 => kernel_rfl
          case hy2x12 => (refine Or.inl ⟨by rfl, ?_⟩; intro w hSw; (try dsimp only at hSw); go_simp; try with_reducible rfl)
          simp only [put_mk, List.set_cons_succ, List.set_cons_zero]
          refine wpAnyH_take (i := 13) (oi := ?o2x13) (v := ?v2x13) ?hi2x13 (by kernel_rfl) ?hf2x13 ?hr2x13 (fun _ _ _ h => h) ?hy2x13 (by assumption) ?rest2x13
          case hi2x13 => (simp only [List.getElem?_toArray, List.getElem?_cons_succ, List.getElem?_cons_zero]; exact rfl)
          case hf2x13 => kernel_rfl
          case hr2x13 => kernel_rfl
          case hy2x13 => (refine Or.inl ⟨by rfl, ?_⟩; intro w hSw; (try dsimp only at hSw); go_simp; try with_reducible rfl)
          simp only [put_mk, List.set_cons_succ, List.set_cons_zero]
          refine wpAnyH_ready (rs := [14]) (by kernel_rfl) (by simp) ?_
          refine AllReadyH.cons (o := ?o2x14) ?hi2x14 (fun K hK => ?_) AllReadyH.nil
          case hi2x14 => (simp only [List.getElem?_toArray, List.getElem?_cons_succ, List.getElem?_cons_zero]; exact rfl)
          go_simp
          refine ((HW2 _).out).mono ?_
          rintro e w7 ⟨rfl, hw7⟩
          subst hw7
          refine hK.out _ _ ?_ (fun hHeld => ?_)
          · (repeat (first | exact Ext.refl _ | assumption | refine Ext.setCell ?_ (by first | (simp; done) | (simp; omega)) _ | refine Ext.drewN ?_ _ | refine Ext.alloc ?_ _ | refine Ext.drew ?_ | refine Ext.trans ?_ (by assumption)))
          clear hK K
          refine wpAnyH_ready (rs := [15]) (by kernel_rfl) (by simp) ?_
          refine AllReadyH.cons (o := ?o2x15) ?hi2x15 (fun K hK => ?_) AllReadyH.nil
          case hi2x15 => (simp only [List.getElem?_toArray, List.getElem?_cons_succ, List.getElem?_cons_zero]; exact rfl)
          go_simp
          refine hK.out _ _ ?_ (fun hHeld => ?_)
          · (repeat (first | exact Ext.refl _ | assumption | refine Ext.setCell ?_ (by first | (simp; done) | (simp; omega)) _ | refine Ext.drewN ?_ _ | refine Ext.alloc ?_ _ | refine Ext.drew ?_ | refine Ext.trans ?_ (by assumption)))
          clear hK K
          refine wpAnyH_ready (rs := [16]) (by kernel_rfl) (by simp) ?_
          refine AllReadyH.cons (o := ?o2x16) ?hi2x16 (fun K hK => ?_) AllReadyH.nil
          case hi2x16 => (simp only [List.getElem?_toArray, List.getElem?_cons_succ, List.getElem?_cons_zero]; exact rfl)
          go_simp
          refine ((HS1 _ _ (by first | exact rd_newd (by first | rfl | simp) rfl | exact Rd.new (by first | rfl | simp) rfl)).out).mono ?_
          rintro e w7 ⟨rfl, hw7⟩
          subst hw7
          refine hK.out _ _ ?_ (fun hHeld => ?_)
          · (repeat (first | exact Ext.refl _ | assumption | refine Ext.setCell ?_ (by first | (simp; done) | (simp; omega)) _ | refine Ext.drewN ?_ _ | refine Ext.alloc ?_ _ | refine Ext.drew ?_ | refine Ext.trans ?_ (by assumption)))
          clear hK K
          refine wpAnyH_take (i := 17) (oi := ?o2x17) (v := ?v2x17) ?hi2x17 (by kernel_rfl) ?hf2x17 ?hr2x17 (fun _ _ _ h => h) ?hy2x17 (by assumption) ?rest2x17
          case hi2x17 => (simp only [List.getElem?_toArray, List.getElem?_cons_succ, List.getElem?_cons_zero]; exact rfl)
          case hf2x17 => kernel_rfl
          case hr2x17 => kernel_rfl
          case hy2x17 => (refine Or.inl ⟨by rfl, ?_⟩; intro w hSw; (try dsimp only at hSw); go_simp; try with_reducible rfl)
          simp only [put_mk, List.set_cons_succ, List.set_cons_zero]
          refine wpAnyH_done (by kernel_rfl) ?_ _
          refine NoPanic.normal ?_
          have hp6 := hp4.ext hx6
          have HVend : nearK p (spot ax ay) p.length = nearK p (spot ax ay) m := by rw [Hm.out]
          rw [HVend]
          clear HVend
          go_wp2_with fail
          go_loopw [19, 20, 174] (fun bv lv s wr2 => ∃ k : Nat, k ≤ m ∧ s = .int .i64 k ∧ (k = 0 ∧ bv = .int .i64 0 ∧ lv = .int .i64 (-1) ∨ 0 < k ∧ bv = .int .i64 (nearK p (spot ax ay) k) ∧ lv = .int .i64 (sqAt p (spot ax ay) (nearK p (spot ax ay) k))) ∧ Ext w6 wr2) (fun _ _ s _ => m - (intOf s).toNat)
          case atStart => exact ⟨0, Nat.zero_le _, rfl, .inl ⟨rfl, rfl, rfl⟩, (by repeat (first | exact Ext.refl _ | assumption | refine Ext.setCell ?_ (by first | (simp; done) | (simp; omega)) _ | refine Ext.drewN ?_ _ | refine Ext.alloc ?_ _ | refine Ext.drew ?_ | refine Ext.trans ?_ (by assumption)))⟩
          case round =>
            obtain ⟨k, hk, rfl, hst, hx⟩ := hrel
            by_cases hlk : k < m
            · have hkl : k < p.length := by have := Hm.out; omega
              have HV : Hid (nearK p (spot ax ay) (k + 1) = if sqAt p (spot ax ay) k < sqAt p (spot ax ay) (nearK p (spot ax ay) k) then k else nearK p (spot ax ay) k) := rfl
              have Hs1 : Hid (sqAt p (spot ax ay) k = sqD p[k] (spot ax ay)) := by show _ = _; unfold sqAt; simp [List.getD, hkl]
              obtain ⟨z1, z2, z3, z4, z5⟩ := sq_wraps (HFar.out _ (List.getElem_mem hkl)) hfs
              obtain ⟨ad, rfl, hbk, _⟩ := hp6.at (k := k) (by rw [pcells_length]; omega)
              obtain ⟨d0, d1, d2, d3, d4⟩ := (hp6.ext hx).plant hkl
              generalize sqD p[k] (spot ax ay) = sa at *
              generalize p[k] = x at *
              obtain ⟨kd, px, py, sz, ag⟩ := x
              dsimp only [spot] at d0 d1 d2 d3 d4 z1 z2 z3 z4 z5
              generalize hA : (px - ax) * (px - ax) = qa at *
              generalize hB : (py - ay) * (py - ay) = qb at *
              have y1' := IntWalk.i64_left (px - ax)
              have y2' := IntWalk.i64_left (py - ay)
              have k0 : (0 : Int) ≤ k := by omega
              have k1 : (k : Int) < m := by omega
              have a0 := a0 wr hx
              have a1 := a1 wr hx
              have hlx := (hX6.ext hx).lt
              rcases hst with ⟨hk0, rfl, rfl⟩ | ⟨hk0, rfl, rfl⟩
              · have HV1 : Hid (nearK p (spot ax ay) (k + 1) = k ∧ sqAt p (spot ax ay) k = sa) := by
                  refine ⟨?_, Hs1.out⟩
                  subst hk0
                  rw [HV.out]
                  split <;> rfl
                clear HV Hs1 hk0
                go_wp2_with fail
                go_roundw
                case rel => exact ⟨k + 1, by omega, congrArg (Value.int .i64) (by omega), .inr ⟨by omega, by rw [HV1.out.1], by first | (rw [HV1.out.1, HV1.out.2]; done) | (rw [HV1.out.1, HV1.out.2]; rw [z5])⟩, (by repeat (first | exact Ext.refl _ | assumption | refine Ext.setCell ?_ (by first | (simp; done) | (simp; omega)) _ | refine Ext.drewN ?_ _ | refine Ext.alloc ?_ _ | refine Ext.drew ?_ | refine Ext.trans ?_ (by assumption)))⟩
                case measure => simp [intOf]; omega
              · generalize nearK p (spot ax ay) k = j at *
                rw [Hs1.out] at HV
                generalize hsb : sqAt p (spot ax ay) j = sb at *
                have n0 : ¬ (sb : Int) < 0 := by omega
                by_cases hlt2 : (sa : Int) < sb
                · have HV1 : Hid (nearK p (spot ax ay) (k + 1) = k ∧ sqAt p (spot ax ay) k = sa) := ⟨by rw [HV.out, if_pos (Int.ofNat_lt.1 hlt2)], Hs1.out⟩
                  clear HV Hs1 hsb
                  go_wp2_with fail
                  go_roundw
                  case rel => exact ⟨k + 1, by omega, congrArg (Value.int .i64) (by omega), .inr ⟨by omega, by rw [HV1.out.1], by first | (rw [HV1.out.1, HV1.out.2]; done) | (rw [HV1.out.1, HV1.out.2]; rw [z5])⟩, (by repeat (first | exact Ext.refl _ | assumption | refine Ext.setCell ?_ (by first | (simp; done) | (simp; omega)) _ | refine Ext.drewN ?_ _ | refine Ext.alloc ?_ _ | refine Ext.drew ?_ | refine Ext.trans ?_ (by assumption)))⟩
                  case measure => simp [intOf]; omega
                · have HV1 : Hid (nearK p (spot ax ay) (k + 1) = j ∧ sqAt p (spot ax ay) j = sb) := ⟨by rw [HV.out, if_neg (fun h => hlt2 (Int.ofNat_lt.2 h))], hsb⟩
                  clear HV Hs1 hsb
                  go_wp2_with fail
                  go_roundw
                  case rel => exact ⟨k + 1, by omega, congrArg (Value.int .i64) (by omega), .inr ⟨by omega, by rw [HV1.out.1], by first | (rw [HV1.out.1, HV1.out.2]; done) | (rw [HV1.out.1, HV1.out.2]; rw [z5])⟩, (by repeat (first | exact Ext.refl _ | assumption | refine Ext.setCell ?_ (by first | (simp; done) | (simp; omega)) _ | refine Ext.drewN ?_ _ | refine Ext.alloc ?_ _ | refine Ext.drew ?_ | refine Ext.trans ?_ (by assumption)))⟩
                  case measure => simp [intOf]; omega
            · obtain rfl : k = m := by omega
              obtain ⟨rfl, _⟩ : _ ∧ True := ⟨(hst.resolve_left (fun h => by have := Hm.out; have := h.1; omega)).2.1, trivial⟩
              go_wp2_with fail
              go_ret
              exact ⟨by first | rfl | simp, (by repeat (first | exact Ext.refl _ | assumption | refine Ext.setCell ?_ (by first | (simp; done) | (simp; omega)) _ | refine Ext.drewN ?_ _ | refine Ext.alloc ?_ _ | refine Ext.drew ?_ | refine Ext.trans ?_ (by assumption)))⟩
        · have b0 : (e0 != 0) = true := by simpa using hez
          obtain rfl : v0 = 0 := Hvz.out hez
          clear hee hez
          go_upto_region 26 with fail
          refine wp_region_noPanic ?_
          refine wp_region_held_drew (S := fun w' => Ext w6 w') (by kernel_rfl) ?_ (fun hHeld => ?_)
          · (repeat (first | exact Ext.refl _ | assumption | refine Ext.setCell ?_ (by first | (simp; done) | (simp; omega)) _ | refine Ext.drewN ?_ _ | refine Ext.alloc ?_ _ | refine Ext.drew ?_ | refine Ext.trans ?_ (by assumption)))
          refine wpAnyH_take (i := 0) (oi := ?o3x0) (v := ?v3x0) ?hi3x0 (by kernel_rfl) ?hf3x0 ?hr3x0 (fun _ _ _ h => h) ?hy3x0 (by assumption) ?rest3x0
          case hi3x0 => (simp only [List.getElem?_toArray, List.getElem?_cons_zero]; exact rfl)
          case hf3x0 => kernel_rfl
          case hr3x0 => kernel_rfl
          case hy3x0 => (refine Or.inl ⟨by rfl, ?_⟩; intro w hSw; (try dsimp only at hSw); go_simp; try with_reducible rfl)
          simp only [put_mk, List.set_cons_succ, List.set_cons_zero]
          refine wpAnyH_take (i := 1) (oi := ?o3x1) (v := ?v3x1) ?hi3x1 (by kernel_rfl) ?hf3x1 ?hr3x1 (fun _ _ _ h => h) ?hy3x1 (by assumption) ?rest3x1
          case hi3x1 => (simp only [List.getElem?_toArray, List.getElem?_cons_succ, List.getElem?_cons_zero]; exact rfl)
          case hf3x1 => kernel_rfl
          case hr3x1 => kernel_rfl
          case hy3x1 => (refine Or.inl ⟨by rfl, ?_⟩; intro w hSw; (try dsimp only at hSw); go_simp; try with_reducible rfl)
          simp only [put_mk, List.set_cons_succ, List.set_cons_zero]
          refine wpAnyH_take (i := 2) (oi := ?o3x2) (v := ?v3x2) ?hi3x2 (by kernel_rfl) ?hf3x2 ?hr3x2 (fun _ _ _ h => h) ?hy3x2 (by assumption) ?rest3x2
          case hi3x2 => (simp only [List.getElem?_toArray, List.getElem?_cons_succ, List.getElem?_cons_zero]; exact rfl)
          case hf3x2 => kernel_rfl
          case hr3x2 => kernel_rfl
          case hy3x2 => (refine Or.inl ⟨by rfl, ?_⟩; intro w hSw; (try dsimp only at hSw); go_simp; try with_reducible rfl)
          simp only [put_mk, List.set_cons_succ, List.set_cons_zero]
          refine wpAnyH_take (i := 4) (oi := ?o3x4) (v := ?v3x4) ?hi3x4 (by kernel_rfl) ?hf3x4 ?hr3x4 (fun _ _ _ h => h) ?hy3x4 (by assumption) ?rest3x4
          case hi3x4 => (simp only [List.getElem?_toArray, List.getElem?_cons_succ, List.getElem?_cons_zero]; exact rfl)
          case hf3x4 => kernel_rfl
          case hr3x4 => kernel_rfl
          case hy3x4 => (refine Or.inl ⟨by rfl, ?_⟩; intro w hSw; (try dsimp only at hSw); go_simp; try with_reducible rfl)
          simp only [put_mk, List.set_cons_succ, List.set_cons_zero]
          refine wpAnyH_take (i := 5) (oi := ?o3x5) (v := ?v3x5) ?hi3x5 (by kernel_rfl) ?hf3x5 ?hr3x5 (fun _ _ _ h => h) ?hy3x5 (by assumption) ?rest3x5
          case hi3x5 => (simp only [List.getElem?_toArray, List.getElem?_cons_succ, List.getElem?_cons_zero]; exact rfl)
          case hf3x5 => kernel_rfl
          case hr3x5 => kernel_rfl
          case hy3x5 => (refine Or.inl ⟨by rfl, ?_⟩; intro w hSw; (try dsimp only at hSw); go_simp; try with_reducible rfl)
          simp only [put_mk, List.set_cons_succ, List.set_cons_zero]
          refine wpAnyH_ready (rs := [3]) (by kernel_rfl) (by simp) ?_
          refine AllReadyH.cons (o := ?o3x3) ?hi3x3 (fun K hK => ?_) AllReadyH.nil
          case hi3x3 => (simp only [List.getElem?_toArray, List.getElem?_cons_succ, List.getElem?_cons_zero]; exact rfl)
          go_simp
          refine ((HW1 _).out).mono ?_
          rintro e w7 ⟨rfl, hw7⟩
          subst hw7
          refine hK.out _ _ ?_ (fun hHeld => ?_)
          · (repeat (first | exact Ext.refl _ | assumption | refine Ext.setCell ?_ (by first | (simp; done) | (simp; omega)) _ | refine Ext.drewN ?_ _ | refine Ext.alloc ?_ _ | refine Ext.drew ?_ | refine Ext.trans ?_ (by assumption)))
          clear hK K
          refine wpAnyH_ready (rs := [6]) (by kernel_rfl) (by simp) ?_
          refine AllReadyH.cons (o := ?o3x6) ?hi3x6 (fun K hK => ?_) AllReadyH.nil
          case hi3x6 => (simp only [List.getElem?_toArray, List.getElem?_cons_succ, List.getElem?_cons_zero]; exact rfl)
          go_simp
          refine ((HI1 _).out).mono ?_
          rintro e w7 ⟨rfl, hw7⟩
          subst hw7
          refine hK.out _ _ ?_ (fun hHeld => ?_)
          · (repeat (first | exact Ext.refl _ | assumption | refine Ext.setCell ?_ (by first | (simp; done) | (simp; omega)) _ | refine Ext.drewN ?_ _ | refine Ext.alloc ?_ _ | refine Ext.drew ?_ | refine Ext.trans ?_ (by assumption)))
          clear hK K
          refine wpAnyH_take (i := 7) (oi := ?o3x7) (v := ?v3x7) ?hi3x7 (by kernel_rfl) ?hf3x7 ?hr3x7 (fun _ _ _ h => h) ?hy3x7 (by assumption) ?rest3x7
          case hi3x7 => (simp only [List.getElem?_toArray, List.getElem?_cons_succ, List.getElem?_cons_zero]; exact rfl)
          case hf3x7 => kernel_rfl
          case hr3x7 => kernel_rfl
          case hy3x7 => (refine Or.inl ⟨by rfl, ?_⟩; intro w hSw; (try dsimp only at hSw); go_simp; try with_reducible rfl)
          simp only [put_mk, List.set_cons_succ, List.set_cons_zero]
          refine wpAnyH_take (i := 8) (oi := ?o3x8) (v := ?v3x8) ?hi3x8 (by kernel_rfl) ?hf3x8 ?hr3x8 (fun _ _ _ h => h) ?hy3x8 (by assumption) ?rest3x8
          case hi3x8 => (simp only [List.getElem?_toArray, List.getElem?_cons_succ, List.getElem?_cons_zero]; exact rfl)
          case hf3x8 => kernel_rfl
          case hr3x8 => kernel_rfl
          case hy3x8 => (refine Or.inl ⟨by rfl, ?_⟩; intro w hSw; (try dsimp only at hSw); go_simp; try with_reducible rfl)
          simp only [put_mk, List.set_cons_succ, List.set_cons_zero]
          refine wpAnyH_take (i := 9) (oi := ?o3x9) (v := ?v3x9) ?hi3x9 (by kernel_rfl) ?hf3x9 ?hr3x9 (fun _ _ _ h => h) ?hy3x9 (by assumption) ?rest3x9
          case hi3x9 => (simp only [List.getElem?_toArray, List.getElem?_cons_succ, List.getElem?_cons_zero]; exact rfl)
          case hf3x9 => kernel_rfl
          case hr3x9 => kernel_rfl
          case hy3x9 => (refine Or.inl ⟨by rfl, ?_⟩; intro w hSw; (try dsimp only at hSw); go_simp; try with_reducible rfl)
          simp only [put_mk, List.set_cons_succ, List.set_cons_zero]
          refine wpAnyH_take (i := 10) (oi := ?o3x10) (v := ?v3x10) ?hi3x10 (by kernel_rfl) ?hf3x10 ?hr3x10 (fun _ _ _ h => h) ?hy3x10 (by assumption) ?rest3x10
          case hi3x10 => (simp only [List.getElem?_toArray, List.getElem?_cons_succ, List.getElem?_cons_zero]; exact rfl)
          case hf3x10 => kernel_rfl
          case hr3x10 => kernel_rfl
          case hy3x10 => (refine Or.inl ⟨by rfl, ?_⟩; intro w hSw; (try dsimp only at hSw); go_simp; try with_reducible rfl)
          simp only [put_mk, List.set_cons_succ, List.set_cons_zero]
          refine wpAnyH_ready (rs := [11]) (by kernel_rfl) (by simp) ?_
          refine AllReadyH.cons (o := ?o3x11) ?hi3x11 (fun K hK => ?_) AllReadyH.nil
          case hi3x11 => (simp only [List.getElem?_toArray, List.getElem?_cons_succ, List.getElem?_cons_zero]; exact rfl)
          go_simp
          refine ((HI2 _).out).mono ?_
          rintro e w7 ⟨rfl, hw7⟩
          subst hw7
          refine hK.out _ _ ?_ (fun hHeld => ?_)
          · (repeat (first | exact Ext.refl _ | assumption | refine Ext.setCell ?_ (by first | (simp; done) | (simp; omega)) _ | refine Ext.drewN ?_ _ | refine Ext.alloc ?_ _ | refine Ext.drew ?_ | refine Ext.trans ?_ (by assumption)))
          clear hK K
          refine wpAnyH_take (i := 12) (oi := ?o3x12) (v := ?v3x12) ?hi3x12 (by kernel_rfl) ?hf3x12 ?hr3x12 (fun _ _ _ h => h) ?hy3x12 (by assumption) ?rest3x12
          case hi3x12 => (simp only [List.getElem?_toArray, List.getElem?_cons_succ, List.getElem?_cons_zero]; exact rfl)
          case hf3x12 => kernel_rfl
          case hr3x12 => kernel_rfl
          case hy3x12 => (refine Or.inl ⟨by rfl, ?_⟩; intro w hSw; (try dsimp only at hSw); go_simp; try with_reducible rfl)
          simp only [put_mk, List.set_cons_succ, List.set_cons_zero]
          refine wpAnyH_take (i := 13) (oi := ?o3x13) (v := ?v3x13) ?hi3x13 (by kernel_rfl) ?hf3x13 ?hr3x13 (fun _ _ _ h => h) ?hy3x13 (by assumption) ?rest3x13
          case hi3x13 => (simp only [List.getElem?_toArray, List.getElem?_cons_succ, List.getElem?_cons_zero]; exact rfl)
          case hf3x13 => kernel_rfl
          case hr3x13 => kernel_rfl
          case hy3x13 => (refine Or.inl ⟨by rfl, ?_⟩; intro w hSw; (try dsimp only at hSw); go_simp; try with_reducible rfl)
          simp only [put_mk, List.set_cons_succ, List.set_cons_zero]
          refine wpAnyH_ready (rs := [14]) (by kernel_rfl) (by simp) ?_
          refine AllReadyH.cons (o := ?o3x14) ?hi3x14 (fun K hK => ?_) AllReadyH.nil
          case hi3x14 => (simp only [List.getElem?_toArray, List.getElem?_cons_succ, List.getElem?_cons_zero]; exact rfl)
          go_simp
          refine ((HW2 _).out).mono ?_
          rintro e w7 ⟨rfl, hw7⟩
          subst hw7
          refine hK.out _ _ ?_ (fun hHeld => ?_)
          · (repeat (first | exact Ext.refl _ | assumption | refine Ext.setCell ?_ (by first | (simp; done) | (simp; omega)) _ | refine Ext.drewN ?_ _ | refine Ext.alloc ?_ _ | refine Ext.drew ?_ | refine Ext.trans ?_ (by assumption)))
          clear hK K
          refine wpAnyH_ready (rs := [15]) (by kernel_rfl) (by simp) ?_
          refine AllReadyH.cons (o := ?o3x15) ?hi3x15 (fun K hK => ?_) AllReadyH.nil
          case hi3x15 => (simp only [List.getElem?_toArray, List.getElem?_cons_succ, List.getElem?_cons_zero]; exact rfl)
          go_simp
          refine hK.out _ _ ?_ (fun hHeld => ?_)
          · (repeat (first | exact Ext.refl _ | assumption | refine Ext.setCell ?_ (by first | (simp; done) | (simp; omega)) _ | refine Ext.drewN ?_ _ | refine Ext.alloc ?_ _ | refine Ext.drew ?_ | refine Ext.trans ?_ (by assumption)))
          clear hK K
          refine wpAnyH_ready (rs := [16]) (by kernel_rfl) (by simp) ?_
          refine AllReadyH.cons (o := ?o3x16) ?hi3x16 (fun K hK => ?_) AllReadyH.nil
          case hi3x16 => (simp only [List.getElem?_toArray, List.getElem?_cons_succ, List.getElem?_cons_zero]; exact rfl)
          go_simp
          refine ((HS1 _ _ (by first | exact rd_newd (by first | rfl | simp) rfl | exact Rd.new (by first | rfl | simp) rfl)).out).mono ?_
          rintro e w7 ⟨rfl, hw7⟩
          subst hw7
          refine hK.out _ _ ?_ (fun hHeld => ?_)
          · (repeat (first | exact Ext.refl _ | assumption | refine Ext.setCell ?_ (by first | (simp; done) | (simp; omega)) _ | refine Ext.drewN ?_ _ | refine Ext.alloc ?_ _ | refine Ext.drew ?_ | refine Ext.trans ?_ (by assumption)))
          clear hK K
          refine wpAnyH_take (i := 17) (oi := ?o3x17) (v := ?v3x17) ?hi3x17 (by kernel_rfl) ?hf3x17 ?hr3x17 (fun _ _ _ h => h) ?hy3x17 (by assumption) ?rest3x17
          case hi3x17 => (simp only [List.getElem?_toArray, List.getElem?_cons_succ, List.getElem?_cons_zero]; exact rfl)
          case hf3x17 => kernel_rfl
          case hr3x17 => kernel_rfl
          case hy3x17 => (refine Or.inl ⟨by rfl, ?_⟩; intro w hSw; (try dsimp only at hSw); go_simp; try with_reducible rfl)
          simp only [put_mk, List.set_cons_succ, List.set_cons_zero]
          refine wpAnyH_done (by kernel_rfl) ?_ _
          refine NoPanic.normal ?_
          go_wp2_with fail
          go_ret
          exact ⟨by first | rfl | simp, (by repeat (first | exact Ext.refl _ | assumption | refine Ext.setCell ?_ (by first | (simp; done) | (simp; omega)) _ | refine Ext.drewN ?_ _ | refine Ext.alloc ?_ _ | refine Ext.drew ?_ | refine Ext.trans ?_ (by assumption)))⟩

set_option maxRecDepth 100000 in
set_option maxHeartbeats 6400000 in
theorem counts_bad (A : Option Addr) (n c : Nat) (l : List KindR) (B : Option Addr) (m d : Nat) (p : List PlantR) (ax ay : Int) (w : World) (hn : l.length = n) (hd : Rd w A (kcells l)) (hb : n ≤ 4000000000000) (hc : n ≤ c) (hsz : ∀ x ∈ l, x.s.size ≤ 9223372036854775807) (hm : p.length = m) (hp : Rd w B (pcells p)) (hbm : m ≤ 4000000000000) (h0 : plantsE l p ≠ 0) :
    Calls Tryd.prog 4 #[.slice A n c, .slice B m d, .agg #[.int .i64 ax, .int .i64 ay]] w fun e w' => e = .returned (.bool true) ∧ Ext w w' := by
  have HC := fun (w : World) (hd : Rd w A (kcells l)) (hp : Rd w B (pcells p)) => hidA (Count_bad A n c l B m d p w hn hd hb hc hsz hm hp hbm h0)
  have HP := fun (w : World) (hd : Rd w A (kcells l)) (hp : Rd w B (pcells p)) => hidA (plantsError_any A n c l B m d p w hn hd hb hc hsz hm hp hbm)
  have HG := fun (w : World) => hidA (grows_any w)
  have b0 : (plantsE l p != 0) = true := by simpa using h0
  generalize plantsE l p = q at *
  clear h0 hn hm hsz
  go_enter Tryd.func4, Tryd.ntmps4
  go_wp2_with fail
  refine ((HC _ (hd.alloc _) (hp.alloc _)).out).mono ?_
  rintro e w1 ⟨rfl, hb1⟩
  have hd1 := (hd.alloc _).ext hb1
  have hp1 := (hp.alloc _).ext hb1
  have hx1 : Ext w w1 := by (repeat (first | exact Ext.refl _ | assumption | refine Ext.setCell ?_ (by first | (simp; done) | (simp; omega)) _ | refine Ext.drewN ?_ _ | refine Ext.alloc ?_ _ | refine Ext.drew ?_ | refine Ext.trans ?_ (by assumption)))
  clear HC hd hp hb1
  go_wp2_with fail
  refine ((HP _ hd1 hp1).out).mono ?_
  rintro e w2 ⟨rfl, hb2⟩
  go_wp2_with fail
  refine ((HG _).out).mono ?_
  rintro e w3 ⟨rfl, hb3⟩
  go_wp2_with fail
  refine ((HG _).out).mono ?_
  rintro e w4 ⟨rfl, hb4⟩
  go_wp2_with fail
  go_ret
  exact ⟨by first | rfl | simp, (by repeat (first | exact Ext.refl _ | assumption | refine Ext.setCell ?_ (by first | (simp; done) | (simp; omega)) _ | refine Ext.drewN ?_ _ | refine Ext.alloc ?_ _ | refine Ext.drew ?_ | refine Ext.trans ?_ (by assumption)))⟩
theorem counts_walk (A : Option Addr) (n c : Nat) (l : List KindR) (B : Option Addr) (m d : Nat) (p : List PlantR) (ax ay : Int) (w : World) (hn : l.length = n) (hd : Rd w A (kcells l)) (hb : n ≤ 4000000000000) (hc : n ≤ c) (hsz : ∀ x ∈ l, x.s.size ≤ 9223372036854775807) (hm : p.length = m) (hp : Rd w B (pcells p)) (hbm : m ≤ 4000000000000) (hmd : m ≤ d) :
    Calls Tryd.prog 4 #[.slice A n c, .slice B m d, .agg #[.int .i64 ax, .int .i64 ay]] w fun e w' => e = .returned (.bool true) ∧ Ext w w' := by
  by_cases h0 : plantsE l p = 0
  · exact counts_ok A n c l B m d p ax ay w hn hd hb hc hsz hm hp hbm hmd h0
  · exact counts_bad A n c l B m d p ax ay w hn hd hb hc hsz hm hp hbm h0
end Go.Proofs.YtgaonoklbihkjaaDoor
