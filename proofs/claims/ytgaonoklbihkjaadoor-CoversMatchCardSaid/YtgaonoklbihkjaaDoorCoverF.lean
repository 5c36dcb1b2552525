/- The walk of the law CoversMatch where it goes. -/
import Derived.Test.YtgaonoklbihkjaaDoorCoverE
import Derived.Deep.AppendLies
namespace Go.Proofs.YtgaonoklbihkjaaDoor
open Go.RowKit
attribute [local go_sem ↓] Go.wp_at_zero Go.wp_at_succ
attribute [local go_sem] run_store_float

def OwnF (w : World) (base : Nat) (v : Value) (xs : List Nat) : Prop := w.ownsRow base 24 1 v xs.length (flt xs)
theorem OwnF.nil (w : World) (base : Nat) : OwnF w base (.slice none 0 0) [] := World.ownsRow_nil w base _ 1
theorem OwnF.ext {w w' : World} {base : Nat} {v : Value} {xs : List Nat} (h : OwnF w base v xs) (hx : Ext w w') : OwnF w' base v xs := World.ownsRow.kept h (grown_ext hx none) (by cases h : v.ownBlock <;> simp)
theorem OwnF.form {w : World} {base : Nat} {v : Value} {xs : List Nat} (h : OwnF w base v xs) : ∃ A cap, v = .slice A xs.length cap := by
  rcases h.2 with ⟨h1, h2⟩ | ⟨g, cap, cur, hv, _⟩
  · exact ⟨none, 0, by rw [h1]; simp [h2]⟩
  · exact ⟨_, cap, hv⟩
theorem OwnF.rd {w : World} {base : Nat} {A : Option Addr} {n c : Nat} {xs : List Nat} (h : OwnF w base (.slice A n c) xs) (hn : n = xs.length) : Rd w A (flt xs) := by
  subst hn
  exact Rd.of_own h
theorem flt_snoc (xs : List Nat) (x : Nat) : flt (xs ++ [x]) = flt xs ++ [.float .f32 x] := by simp [flt]
/-- two lists of the call's own that do not share their memory -/
def Sep (u v : Value) : Prop := ∀ g h, u.ownBlock = some g → v.ownBlock = some h → g ≠ h
theorem Sep.ne {u v : Value} (h : Sep u v) : v.ownBlock = none ∨ v.ownBlock ≠ u.ownBlock := by
  cases hv : v.ownBlock with
  | none => exact .inl rfl
  | some k =>
    right
    intro e
    exact h k k e.symm hv rfl
theorem Sep.symm {u v : Value} (h : Sep u v) : Sep v u := fun g k a b e => h k g b a e.symm

set_option maxRecDepth 100000 in
set_option maxHeartbeats 12800000 in
theorem covers_ok (X Y : Int) (Wn Hn : Nat) (hr : Reg X Y Wn Hn) (A : Option Addr) (n c : Nat) (l : List KindR) (B : Option Addr) (m d : Nat) (p : List PlantR) (w : World) (hn : l.length = n) (hd : Rd w A (kcells l)) (hb : n ≤ 4000000000000) (hc : n ≤ c) (hsz : ∀ x ∈ l, x.s.size ≤ 9223372036854775807) (hm : p.length = m) (hp : Rd w B (pcells p)) (hbm : m ≤ 4000000000000) (h0 : covE X Y Wn Hn l p = 0) (hr0 : regE X Y Wn Hn = 0) (hp0 : plantsE l p = 0) :
    Calls Tryd.prog 5 #[.agg #[.int .i64 X, .int .i64 Y, .int .i64 (Wn : Int), .int .i64 (Hn : Int)], .slice A n c, .slice B m d] w fun e w' => e = .returned (.bool true) ∧ Ext w w' := by
  have HC := fun (w : World) (hd : Rd w A (kcells l)) (hp : Rd w B (pcells p)) => hidA (Cover_ok X Y Wn Hn hr A n c l B m d p w hn hd hb hc hsz hm hp hbm h0 hp0)
  have HD := fun (w : World) (hd : Rd w A (kcells l)) (hp : Rd w B (pcells p)) => hidA (Shade_any X Y Wn Hn hr A n c l B m d p w hn hd hb hc hsz hm hp hbm h0 hp0)
  have HP := fun (w : World) (hd : Rd w A (kcells l)) (hp : Rd w B (pcells p)) => hidA (plantsError_any A n c l B m d p w hn hd hb hc hsz hm hp hbm)
  have HR := fun (w : World) => hidA (regionError_any X Y Wn Hn w)
  have HS := fun (A : Option Addr) (w : World) (hr : Rd w A ([(0 : Int), 0].map (.int .i64))) => hidA (first_any A 2 2 [0, 0] w rfl hr (by omega))
  have hS0 : firstE [(0 : Int), 0] = 0 := rfl
  rw [hS0] at HS
  rw [hr0] at HR
  rw [hp0] at HP
  have HG := fun (w : World) => hidA (grows_any w)
  have HE := fun (w : World) => hidA (empty_zero w)
  have HPl := fun (k : Nat) (w : World) (hk : k ≤ 65536) => hidA (placeC_any X Y Wn Hn k w hr hk)
  obtain ⟨N, hN⟩ : ∃ N, N = Wn * Hn := ⟨_, rfl⟩
  have hN6 : N ≤ 65536 := by rw [hN]; exact hr.n
  have W1 : wrap64 ((Wn : Int) * (Hn : Int)) = (N : Int) := by rw [← Int.natCast_mul, ← hN]; exact IntWalk.wrap64_in _ ⟨by omega, by omega⟩
  rw [← hN] at HC HD
  have HN := hidA hN
  have Hm := hidA hm
  have Hn' := hidA hn
  have Hr := hidA hr
  have HP0 := hidA hp0
  clear hS0 h0 hr0 hp0 hN hsz hn hm hr
  go_enter Tryd.func5, Tryd.ntmps5
  go_wp2_with fail
  refine ((HC _ (hd.alloc _) (hp.alloc _)).out).mono ?_
  rintro e w1 ⟨g1, rfl, hg1, hgs1, hb1⟩
  have kR : Bk w1 w.heap.size 52 #[.int .i64 X, .int .i64 Y, .int .i64 (Wn : Int), .int .i64 (Hn : Int)] := (Bk.new' rfl).ext hb1
  have hx1 : Ext w w1 := ((Ext.refl w).alloc _).trans hb1
  have c0 := kR.cell 0
  have c1 := kR.cell 1
  have c2 := kR.cell 2
  have c3 := kR.cell 3
  have hRl := kR.lt
  go_wp2_with fail
  refine ((HD _ (hd.ext (by repeat (first | exact Ext.refl _ | assumption | refine Ext.setCell ?_ (by first | (simp; done) | (simp; omega)) _ | refine Ext.drewN ?_ _ | refine Ext.alloc ?_ _ | refine Ext.drew ?_ | refine Ext.trans ?_ (by assumption)))) (hp.ext (by repeat (first | exact Ext.refl _ | assumption | refine Ext.setCell ?_ (by first | (simp; done) | (simp; omega)) _ | refine Ext.drewN ?_ _ | refine Ext.alloc ?_ _ | refine Ext.drew ?_ | refine Ext.trans ?_ (by assumption))))).out).mono ?_
  rintro e w2 ⟨hor, hb2⟩
  obtain ⟨sa, sb, sc, sd, sv, sn, e2, rfl, hsem⟩ : ∃ (sa sb sc sd : Int) (sv : Option Addr) (sn : Nat) (e2 : Int), e = .returned (.tuple #[.agg #[.int .i64 sa, .int .i64 sb, .int .i64 sc, .int .i64 sd, .slice sv sn sn], .int .i64 e2]) ∧ (((List.range N).map (shaF X Y Wn l p m)).all hgtB = true ∧ e2 = 0 ∧ sn = N ∧ (∃ g2, sv = some ⟨g2, 0, none⟩ ∧ Bk w2 g2 24 (flo N (shaF X Y Wn l p m))) ∨ ((List.range N).map (shaF X Y Wn l p m)).all hgtB = false ∧ e2 = 3 ∧ sa = 0 ∧ sb = 0 ∧ sc = 0 ∧ sd = 0 ∧ sv = none ∧ sn = 0) := by
    rcases hor with ⟨hal, g2, he, hg, _⟩ | ⟨hal, he⟩
    · exact ⟨_, _, _, _, _, _, _, he, .inl ⟨hal, rfl, rfl, g2, rfl, hg⟩⟩
    · exact ⟨_, _, _, _, _, _, _, he, .inr ⟨hal, rfl, rfl, rfl, rfl, rfl, rfl, rfl⟩⟩
  have Hsem := hidA hsem
  have kR2 := (kR.alloc (.cells #[.int .i64 X, .int .i64 Y, .int .i64 (Wn : Int), .int .i64 (Hn : Int), .slice (some ⟨g1, 0, none⟩) N N] 55)).ext hb2
  have kC2 : Bk w2 w1.heap.size 55 #[.int .i64 X, .int .i64 Y, .int .i64 (Wn : Int), .int .i64 (Hn : Int), .slice (some ⟨g1, 0, none⟩) N N] := (Bk.new' rfl).ext hb2
  have hg12 := (hg1.alloc (.cells #[.int .i64 X, .int .i64 Y, .int .i64 (Wn : Int), .int .i64 (Hn : Int), .slice (some ⟨g1, 0, none⟩) N N] 55)).ext hb2
  have hx2 : Ext w w2 := by (repeat (first | exact Ext.refl _ | assumption | refine Ext.setCell ?_ (by first | (simp; done) | (simp; omega)) _ | refine Ext.drewN ?_ _ | refine Ext.alloc ?_ _ | refine Ext.drew ?_ | refine Ext.trans ?_ (by assumption)))
  clear c0 c1 c2 c3 hb2 HC HD hsem hor kR hg1
  have c0 := kR2.cell 0
  have c1 := kR2.cell 1
  have c2 := kR2.cell 2
  have c3 := kR2.cell 3
  have hRl2 := kR2.lt
  obtain ⟨w3, hw3⟩ : ∃ w3, w3 = w2.alloc (.cells #[.int .i64 sa, .int .i64 sb, .int .i64 sc, .int .i64 sd, .slice sv sn sn] 55) := ⟨_, rfl⟩
  have hx3 : Ext w w3 := by rw [hw3]; exact hx2.alloc _
  have h23 : Ext w2 w3 := by rw [hw3]; exact (Ext.refl w2).alloc _
  have kR3 := kR2.ext h23
  have kC3 := kC2.ext h23
  have hg13 := hg12.ext h23
  have kS3 : Bk w3 w2.heap.size 55 #[.int .i64 sa, .int .i64 sb, .int .i64 sc, .int .i64 sd, .slice sv sn sn] := by rw [hw3]; exact Bk.new' rfl
  have hl23 := h23.size
  have hlC := kC2.lt
  go_wp2_with fail
  rw [← hw3]
  clear hw3 c0 c1 c2 c3 kR2 kC2 hg12 hx2 hRl hRl2
  refine ((HR _).out).mono ?_
  rintro e w4 ⟨rfl, hb4⟩
  go_wp2_with fail
  refine ((HP _ (hd.ext (hx3.trans hb4)) (hp.ext (hx3.trans hb4))).out).mono ?_
  rintro e w5 ⟨rfl, hb5⟩
  go_wp2_with fail
  refine ((HS _ _ (Rd.new (by first | rfl | simp) rfl)).out).mono ?_
  rintro e w6 ⟨rfl, hw6⟩
  have hx6 : Ext w3 w6 := by rw [← hw6]; (repeat (first | exact Ext.refl _ | assumption | refine Ext.setCell ?_ (by first | (simp; done) | (simp; omega)) _ | refine Ext.drewN ?_ _ | refine Ext.alloc ?_ _ | refine Ext.drew ?_ | refine Ext.trans ?_ (by assumption)))
  clear hw6 hb4 hb5
  go_wp2_with fail
  refine ((HG _).out).mono ?_
  rintro e w7 ⟨rfl, hb7⟩
  have hx7 : Ext w3 w7 := hx6.trans hb7
  clear hx6 hb7 HR HP HS HG
  have kR7 := kR3.ext hx7
  have c0 := kR7.cell 0
  have c1 := kR7.cell 1
  have c2 := kR7.cell 2
  have c3 := kR7.cell 3
  by_cases hbig : 200 < (N : Int) ∨ (N : Int) ≤ 200 ∧ 40 < (m : Int)
  · rcases hbig with h | ⟨h1, h2⟩
    all_goals
      go_wp2_with fail
      go_ret
      exact ⟨by first | rfl | simp, (by repeat (first | exact Ext.refl _ | assumption | refine Ext.setCell ?_ (by first | (simp; done) | (simp; omega)) _ | refine Ext.drewN ?_ _ | refine Ext.alloc ?_ _ | refine Ext.drew ?_ | refine Ext.trans ?_ (by assumption)))⟩
  · have hNs : (N : Int) ≤ 200 := by omega
    have hms : (m : Int) ≤ 40 := by omega
    clear hbig
    go_wp2_with fail
    have hO0 : OwnF w7 w7.heap.size (.slice none 0 0) ((List.range 0).map (covF X Y Wn l p m)) := OwnF.nil _ _
    have hP0' : OwnF w7 w7.heap.size (.slice none 0 0) ((List.range 0).map fun k => (shaG X Y Wn l p m k).1) := OwnF.nil _ _
    clear c0 c1 c2 c3
    rw [W1]
    go_loopw [12, 13, 89] (fun s12 s13 s wr => ∃ k : Nat, k ≤ N ∧ s = .int .i64 k ∧ OwnF wr w7.heap.size s12 ((List.range k).map (covF X Y Wn l p m)) ∧ OwnF wr w7.heap.size s13 ((List.range k).map fun k => (shaG X Y Wn l p m k).1) ∧ Sep s12 s13 ∧ Ext w7 wr) (fun _ _ s _ => N - (intOf s).toNat)
    case atStart => exact ⟨0, Nat.zero_le _, rfl, hO0, hP0', fun g h e => by simp [Value.ownBlock] at e, Ext.refl _⟩
    case round =>
      clear hO0 hP0'
      obtain ⟨k, hk, rfl, hO1, hO2, hsep, hxo⟩ := hrel
      by_cases hkN : k < N
      · have c0 := (kR7.ext hxo).cell 0
        have c1 := (kR7.ext hxo).cell 1
        have c2 := (kR7.ext hxo).cell 2
        have c3 := (kR7.ext hxo).cell 3
        go_wp2_with fail
        refine ((HPl k _ (by omega)).out).mono ?_
        rintro e wo ⟨rfl, hbo⟩
        go_wp2_with fail
        clear c0 c1 c2 c3
        go_loopw [17, 18, 19, 100] (fun s17 s18 s19 s wr2 => ∃ j : Nat, j ≤ m ∧ s = .int .i64 j ∧ s17 = .float .f32 (covF X Y Wn l p j k) ∧ s18 = .float .f32 (shaG X Y Wn l p j k).1 ∧ s19 = .bool (shaG X Y Wn l p j k).2 ∧ Ext wo wr2) (fun _ _ _ s _ => m - (intOf s).toNat)
        case atStart => exact ⟨0, Nat.zero_le _, rfl, rfl, rfl, rfl, (by repeat (first | exact Ext.refl _ | assumption | refine Ext.setCell ?_ (by first | (simp; done) | (simp; omega)) _ | refine Ext.drewN ?_ _ | refine Ext.alloc ?_ _ | refine Ext.drew ?_ | refine Ext.trans ?_ (by assumption)))⟩
        case round =>
          have hxo := hxo.trans hbo
          obtain ⟨j, hj, rfl, rfl, rfl, rfl, hx⟩ := hrel
          by_cases hjm : j < m
          · have hjl : j < p.length := by have := Hm.out; omega
            have po := plOk HP0.out hjl
            obtain ⟨ia, hia, hka, hsr, htp⟩ := po.idx
            have hkW : k < Wn * Hn := by rw [← HN.out]; exact hkN
            have hcf := cell_far Hr.out hkW
            have hdd : dJ X Y Wn p j k = sqD (plK p j) (cellP X Y Wn k) := sqD_symm _ _
            obtain ⟨z1, z2, z3, z4, z5⟩ := sq_wraps po.far hcf
            rw [← hdd] at z5
            have hq60 : dJ X Y Wn p j k < 1152921504606846976 := by rw [hdd]; exact (sq_int po.far hcf).2.1
            have HWq := fun (w : World) => hidA (weighed_any (qJ l p j) (dJ X Y Wn p j k) (rJ l p j) w po.q hq60 (by have := po.r2; omega))
            have HWs := fun (w : World) => hidA (weighed_any (plK p j).size (dJ X Y Wn p j k) (rJ l p j) w po.size hq60 (by have := po.r2; omega))
            have hnd : decide (dJ X Y Wn p j k < rJ l p j * rJ l p j) = nJ X Y Wn l p j k := rfl
            have HCo : Hid (covF X Y Wn l p (j + 1) k = if nJ X Y Wn l p j k = true then covS (wgt (qJ l p j) (dJ X Y Wn p j k) (rJ l p j)) (covF X Y Wn l p j k) else covF X Y Wn l p j k) := rfl
            have HSh : Hid (shaG X Y Wn l p (j + 1) k = if nJ X Y Wn l p j k = true then (if (shaG X Y Wn l p j k).2 = true then (fadd (shaG X Y Wn l p j k).1 (wgt (plK p j).size (dJ X Y Wn p j k) (rJ l p j)), true) else (wgt (plK p j).size (dJ X Y Wn p j k) (rJ l p j), true)) else shaG X Y Wn l p j k) := rfl
            have hif : ∀ s : Nat, (if dJ X Y Wn p j k < rJ l p j * rJ l p j then s else 0) = if nJ X Y Wn l p j k = true then s else 0 := fun s => by unfold nJ; simp
            have hadd : nJ X Y Wn l p j k = true → floatBits .add .f32 (shaG X Y Wn l p j k).1 (wgt (plK p j).size (dJ X Y Wn p j k) (rJ l p j)) = some (fadd (shaG X Y Wn l p j k).1 (wgt (plK p j).size (dJ X Y Wn p j k) (rJ l p j))) := fun hn => by
              obtain ⟨_, _, _, hq⟩ := (part_w HP0.out hjl hn).1
              exact (add_any (shaG_nan HP0.out k (by omega)) hq).1
            simp only [hnd, hif] at HWq HWs
            have hdw := (hd.ext (hx3.trans hx7)).ext (hxo.trans hx)
            have hpw := (hp.ext (hx3.trans hx7)).ext (hxo.trans hx)
            obtain ⟨ad, rfl, hbk, _⟩ := hp.at (k := j) (by rw [pcells_length]; omega)
            obtain ⟨ak, rfl, hkb, _⟩ := hd.at (k := ia) (by rw [kcells_length]; omega)
            obtain ⟨d0, d1, d2, d3, d4⟩ := hpw.plant hjl
            obtain ⟨t0, t1, t2, t3, t4, t5, t6, t7, t8, t9, t10, t11, t12⟩ := hdw.kind hia
            have ex := plK_at hjl
            have hsz0 := po.quo
            have hqd : qJ l p j = if gt (topOf l (plK p j).kind) 0 = true then fdiv (plK p j).size (topOf l (plK p j).kind) else 0 := rfl
            have hr1 := po.r1
            have hr2 := po.r2
            have W6 : IntKind.i64.wrap (rJ l p j : Int) = rJ l p j := IntWalk.i64_in _ (by omega)
            rw [htp] at t7
            rw [hsr] at t11
            clear po hnd hif hsr htp hdw hpw hcf hdd
            generalize covF X Y Wn l p j k = cv at *
            obtain ⟨sh, fl, hshe⟩ : ∃ sh fl, shaG X Y Wn l p j k = (sh, fl) := ⟨_, _, rfl⟩
            rw [hshe] at HSh hadd ⊢
            dsimp only at HSh hadd ⊢
            clear hshe
            generalize hwq : wgt (qJ l p j) (dJ X Y Wn p j k) (rJ l p j) = wq at *
            clear hwq
            rw [ex] at t7 hka hsz0 hqd HWs HSh hadd z1 z2 z3 z4 z5
            generalize hws : wgt p[j].size (dJ X Y Wn p j k) (rJ l p j) = ws at *
            clear hws
            generalize l[ia] = kr at *
            obtain ⟨ks, b0, b1, b2, b3, b4, b5, b6, b7, b8, b9, kp, kq⟩ := kr
            generalize p[j] = x at *
            obtain ⟨kd, px, py, sz, ag⟩ := x
            dsimp only [cellP] at d0 d1 d2 d3 d4 t0 t1 t2 t3 t4 t5 t6 t7 t8 t9 t10 t12 hka hsz0 hqd HWs HWq z1 z2 z3 z4 z5
            subst hka
            generalize topOf l ((ia : Nat) : Int) = tp at *
            generalize colK X Wn k = cx at *
            generalize rowK Y Wn k = cy at *
            generalize dJ X Y Wn p j k = dd at *
            generalize rJ l p j = r at *
            generalize hqa : (px - cx) * (px - cx) = qa at *
            generalize hqb : (py - cy) * (py - cy) = qb at *
            have y1' := IntWalk.i64_left (px - cx)
            have y2' := IntWalk.i64_left (py - cy)
            have i0 : (0 : Int) ≤ ia := by omega
            have i1 : (ia : Int) < n := by have := Hn'.out; omega
            have j0 : (0 : Int) ≤ j := by omega
            have j1 : (j : Int) < m := by omega
            clear hkW
            obtain ⟨wa, hwa⟩ : ∃ wa, wa = wr.alloc (.cells #[.int .i64 ((ia : Nat) : Int), .int .i64 px, .int .i64 py, .float .f32 sz, .int .i64 ag] 46) := ⟨_, rfl⟩
            have hXa : Bk wa wr.heap.size 46 #[.int .i64 ((ia : Nat) : Int), .int .i64 px, .int .i64 py, .float .f32 sz, .int .i64 ag] := by rw [hwa]; exact Bk.new' rfl
            have hqa8 : Ext wr wa := by rw [hwa]; exact (Ext.refl wr).alloc _
            have hxa : Ext wo wa := hx.trans hqa8
            go_upto_region 18 with fail
            rw [← hwa]
            have t0 := cell_ext2 t0 hqa8
            have t1 := cell_ext2 t1 hqa8
            have t2 := cell_ext2 t2 hqa8
            have t3 := cell_ext2 t3 hqa8
            have t4 := cell_ext2 t4 hqa8
            have t5 := cell_ext2 t5 hqa8
            have t6 := cell_ext2 t6 hqa8
            have t7 := cell_ext2 t7 hqa8
            have t8 := cell_ext2 t8 hqa8
            have t9 := cell_ext2 t9 hqa8
            have t10 := cell_ext2 t10 hqa8
            have t11 := cell_ext2 t11 hqa8
            have t12 := cell_ext2 t12 hqa8
            clear hwa d0 d1 d2 d3 d4 hqa8 hx
            have c0 := hXa.cell 0
            obtain ⟨wb, hwb⟩ : ∃ wb, wb = wa.alloc (.cells #[.string ks, .float .f32 b0, .float .f32 b1, .float .f32 b2, .float .f32 b3, .float .f32 b4, .float .f32 b5, .float .f32 tp, .float .f32 b7, .float .f32 b8, .float .f32 b9, .int .i64 ((r : Int) - 1), .int .i64 kq] 41) := ⟨_, rfl⟩
            have hKb : Bk wb wa.heap.size 41 #[.string ks, .float .f32 b0, .float .f32 b1, .float .f32 b2, .float .f32 b3, .float .f32 b4, .float .f32 b5, .float .f32 tp, .float .f32 b7, .float .f32 b8, .float .f32 b9, .int .i64 ((r : Int) - 1), .int .i64 kq] := by rw [hwb]; exact Bk.new' rfl
            have hXb : Bk wb wr.heap.size 46 #[.int .i64 ((ia : Nat) : Int), .int .i64 px, .int .i64 py, .float .f32 sz, .int .i64 ag] := by rw [hwb]; exact hXa.alloc _
            have hxb : Ext wo wb := by rw [hwb]; exact hxa.alloc _
            go_upto_region 19 with fail
            rw [← hwb]
            clear hwb c0 t0 t1 t2 t3 t4 t5 t6 t7 t8 t9 t10 t11 t12 hXa hxa
            have c1 := hXb.cell 1
            have c2 := hXb.cell 2
            have c3 := hXb.cell 3
            have e3 := hKb.cell 3
            have e7 := hKb.cell 7
            have e11 := hKb.cell 11
            generalize wr.heap.size = hx0 at *
            generalize wa.heap.size = hk0 at *
            go_upto_if 130 with fail
            go_cut [24, 130] from 131 to 135 (fun s24 _ wx => s24 = Value.float .f32 (qJ l p j) ∧ Bk wx hx0 46 #[.int .i64 ((ia : Nat) : Int), .int .i64 px, .int .i64 py, .float .f32 sz, .int .i64 ag] ∧ Bk wx hk0 41 #[.string ks, .float .f32 b0, .float .f32 b1, .float .f32 b2, .float .f32 b3, .float .f32 b4, .float .f32 b5, .float .f32 tp, .float .f32 b7, .float .f32 b8, .float .f32 b9, .int .i64 ((r : Int) - 1), .int .i64 kq] ∧ Ext wo wx)
            case first =>
              have hXr := hXb.ext (Ext.refl wb)
              by_cases hg : gt tp 0 = true
              · have C1 : (FloatKind.f32.format.order tp 0 == some .gt) = true := hg
                rw [if_pos hg] at hqd
                have hqq := hsz0 hg
                have r1 := fun (w : World) => run_float_arith (P := Tryd.prog) w .quo 24 .f32 _ _ _ hqq
                have Hqd := hidA hqd
                clear hqq hg hsz0 hqd HWq HWs HCo HSh hadd
                rw [C1]
                go_wp2_with fail
                go_meet
                case rel => exact ⟨by rw [Hqd.out], hXb.ext (by repeat (first | exact Ext.refl _ | assumption | refine Ext.setCell ?_ (by first | (simp; done) | (simp; omega)) _ | refine Ext.drewN ?_ _ | refine Ext.alloc ?_ _ | refine Ext.drew ?_ | refine Ext.trans ?_ (by assumption))), hKb.ext (by repeat (first | exact Ext.refl _ | assumption | refine Ext.setCell ?_ (by first | (simp; done) | (simp; omega)) _ | refine Ext.drewN ?_ _ | refine Ext.alloc ?_ _ | refine Ext.drew ?_ | refine Ext.trans ?_ (by assumption))), (by repeat (first | exact Ext.refl _ | assumption | refine Ext.setCell ?_ (by first | (simp; done) | (simp; omega)) _ | refine Ext.drewN ?_ _ | refine Ext.alloc ?_ _ | refine Ext.drew ?_ | refine Ext.trans ?_ (by assumption)))⟩
              · have C1 : (FloatKind.f32.format.order tp 0 == some .gt) = false := Bool.eq_false_iff.2 hg
                rw [if_neg hg] at hqd
                have Hqd := hidA hqd
                clear hg hsz0 hqd HWq HWs HCo HSh hadd
                rw [C1]
                go_wp2_with fail
                go_meet
                case rel => exact ⟨by rw [Hqd.out], hXb.ext (by repeat (first | exact Ext.refl _ | assumption | refine Ext.setCell ?_ (by first | (simp; done) | (simp; omega)) _ | refine Ext.drewN ?_ _ | refine Ext.alloc ?_ _ | refine Ext.drew ?_ | refine Ext.trans ?_ (by assumption))), hKb.ext (by repeat (first | exact Ext.refl _ | assumption | refine Ext.setCell ?_ (by first | (simp; done) | (simp; omega)) _ | refine Ext.drewN ?_ _ | refine Ext.alloc ?_ _ | refine Ext.drew ?_ | refine Ext.trans ?_ (by assumption))), (by repeat (first | exact Ext.refl _ | assumption | refine Ext.setCell ?_ (by first | (simp; done) | (simp; omega)) _ | refine Ext.drewN ?_ _ | refine Ext.alloc ?_ _ | refine Ext.drew ?_ | refine Ext.trans ?_ (by assumption)))⟩
            case rest =>
              obtain ⟨rfl, hXc, hKc, hxc⟩ := hcut
              clear c1 c2 c3 e3 e7 e11 hXb hKb hxb hsz0 hqd z1 z2 z3 z4 y1' y2'
              try rw [z5]
              generalize qJ l p j = qv at *
              have c3 := hXc.cell 3
              have e11 := hKc.cell 11
              cases hnj : nJ X Y Wn l p j k
              · simp only [hnj, Bool.false_eq_true, ↓reduceIte] at HWq HWs
                have HCo2 : Hid (covF X Y Wn l p (j + 1) k = cv) := by show _ = _; rw [HCo.out, hnj]; rfl
                have HSh2 : Hid (shaG X Y Wn l p (j + 1) k = (sh, fl)) := by show _ = _; rw [HSh.out, hnj]; rfl
                clear HCo HSh hXc hKc
                go_wp2_with fail
                refine ((HWq _).out).mono ?_
                rintro e w8 ⟨rfl, hw8⟩
                subst hw8
                go_wp2_with fail
                refine ((HWs _).out).mono ?_
                rintro e w9 ⟨rfl, hw9⟩
                subst hw9
                go_wp2_with fail
                go_roundw
                case rel => exact ⟨j + 1, by omega, congrArg (Value.int .i64) (by omega), by rw [HCo2.out], by rw [HSh2.out], by rw [HSh2.out], (by repeat (first | exact Ext.refl _ | assumption | refine Ext.setCell ?_ (by first | (simp; done) | (simp; omega)) _ | refine Ext.drewN ?_ _ | refine Ext.alloc ?_ _ | refine Ext.drew ?_ | refine Ext.trans ?_ (by assumption)))⟩
                case measure => simp [intOf]; omega
              · simp only [hnj, ↓reduceIte] at HWq HWs
                have r2 := fun (w : World) => run_float_arith (P := Tryd.prog) w .add 24 .f32 _ _ _ (hadd hnj)
                clear hadd
                go_wp2_with fail
                refine ((HWq _).out).mono ?_
                rintro e w8 ⟨rfl, hw8⟩
                subst hw8
                go_upto_if 151 with fail
                go_cut [17, 150, 151] from 152 to 152 (fun s17 _ _ wx => s17 = Value.float .f32 (covF X Y Wn l p (j + 1) k) ∧ Bk wx hx0 46 #[.int .i64 ((ia : Nat) : Int), .int .i64 px, .int .i64 py, .float .f32 sz, .int .i64 ag] ∧ Bk wx hk0 41 #[.string ks, .float .f32 b0, .float .f32 b1, .float .f32 b2, .float .f32 b3, .float .f32 b4, .float .f32 b5, .float .f32 tp, .float .f32 b7, .float .f32 b8, .float .f32 b9, .int .i64 ((r : Int) - 1), .int .i64 kq] ∧ Ext wo wx)
                case first =>
                  by_cases hgc : gt wq cv = true
                  · have C2 : (FloatKind.f32.format.order wq cv == some .gt) = true := hgc
                    have HCo2 : Hid (covF X Y Wn l p (j + 1) k = wq) := by show _ = _; rw [HCo.out, hnj]; exact if_pos hgc
                    clear HCo hgc HSh HWs
                    rw [C2]
                    go_wp2_with fail
                    go_meet
                    case rel => exact ⟨by rw [HCo2.out], hXc.ext (by repeat (first | exact Ext.refl _ | assumption | refine Ext.setCell ?_ (by first | (simp; done) | (simp; omega)) _ | refine Ext.drewN ?_ _ | refine Ext.alloc ?_ _ | refine Ext.drew ?_ | refine Ext.trans ?_ (by assumption))), hKc.ext (by repeat (first | exact Ext.refl _ | assumption | refine Ext.setCell ?_ (by first | (simp; done) | (simp; omega)) _ | refine Ext.drewN ?_ _ | refine Ext.alloc ?_ _ | refine Ext.drew ?_ | refine Ext.trans ?_ (by assumption))), (by repeat (first | exact Ext.refl _ | assumption | refine Ext.setCell ?_ (by first | (simp; done) | (simp; omega)) _ | refine Ext.drewN ?_ _ | refine Ext.alloc ?_ _ | refine Ext.drew ?_ | refine Ext.trans ?_ (by assumption)))⟩
                  · have C2 : (FloatKind.f32.format.order wq cv == some .gt) = false := Bool.eq_false_iff.2 hgc
                    have HCo2 : Hid (covF X Y Wn l p (j + 1) k = cv) := by show _ = _; rw [HCo.out, hnj]; exact if_neg hgc
                    clear HCo hgc HSh HWs
                    rw [C2]
                    go_wp2_with fail
                    go_meet
                    case rel => exact ⟨by rw [HCo2.out], hXc.ext (by repeat (first | exact Ext.refl _ | assumption | refine Ext.setCell ?_ (by first | (simp; done) | (simp; omega)) _ | refine Ext.drewN ?_ _ | refine Ext.alloc ?_ _ | refine Ext.drew ?_ | refine Ext.trans ?_ (by assumption))), hKc.ext (by repeat (first | exact Ext.refl _ | assumption | refine Ext.setCell ?_ (by first | (simp; done) | (simp; omega)) _ | refine Ext.drewN ?_ _ | refine Ext.alloc ?_ _ | refine Ext.drew ?_ | refine Ext.trans ?_ (by assumption))), (by repeat (first | exact Ext.refl _ | assumption | refine Ext.setCell ?_ (by first | (simp; done) | (simp; omega)) _ | refine Ext.drewN ?_ _ | refine Ext.alloc ?_ _ | refine Ext.drew ?_ | refine Ext.trans ?_ (by assumption)))⟩
                case rest =>
                  clear c3 e11 hXc hKc hxc HCo HWq
                  obtain ⟨rfl, hXc, hKc, hxc⟩ := hcut
                  have c3 := hXc.cell 3
                  have e11 := hKc.cell 11
                  generalize hcn : covF X Y Wn l p (j + 1) k = cn at *
                  have Hcn := hidA hcn
                  clear hcn
                  cases fl
                  · have HSh2 : Hid (shaG X Y Wn l p (j + 1) k = (ws, true)) := by show _ = _; rw [HSh.out, hnj]; rfl
                    clear HSh
                    go_wp2_with fail
                    refine ((HWs _).out).mono ?_
                    rintro e w9 ⟨rfl, hw9⟩
                    subst hw9
                    go_wp2_with fail
                    go_roundw
                    case rel => exact ⟨j + 1, by omega, congrArg (Value.int .i64) (by omega), by rw [Hcn.out], by rw [HSh2.out], by rw [HSh2.out], (by repeat (first | exact Ext.refl _ | assumption | refine Ext.setCell ?_ (by first | (simp; done) | (simp; omega)) _ | refine Ext.drewN ?_ _ | refine Ext.alloc ?_ _ | refine Ext.drew ?_ | refine Ext.trans ?_ (by assumption)))⟩
                    case measure => simp [intOf]; omega
                  · have HSh2 : Hid (shaG X Y Wn l p (j + 1) k = (fadd sh ws, true)) := by show _ = _; rw [HSh.out, hnj]; rfl
                    clear HSh
                    go_wp2_with fail
                    refine ((HWs _).out).mono ?_
                    rintro e w9 ⟨rfl, hw9⟩
                    subst hw9
                    go_wp2_with fail
                    go_roundw
                    case rel => exact ⟨j + 1, by omega, congrArg (Value.int .i64) (by omega), by rw [Hcn.out], by rw [HSh2.out], by rw [HSh2.out], (by repeat (first | exact Ext.refl _ | assumption | refine Ext.setCell ?_ (by first | (simp; done) | (simp; omega)) _ | refine Ext.drewN ?_ _ | refine Ext.alloc ?_ _ | refine Ext.drew ?_ | refine Ext.trans ?_ (by assumption)))⟩
                    case measure => simp [intOf]; omega
          · obtain rfl : m = j := by omega
            have hxw : Ext w7 wr := (hxo.trans hx)
            have hO1 := (hO1.ext hbo).ext hx
            have hO2 := (hO2.ext hbo).ext hx
            have hlen1 : ((List.range k).map (covF X Y Wn l p m)).length = k := by simp
            have hlen2 : ((List.range k).map fun k => (shaG X Y Wn l p m k).1).length = k := by simp
            obtain ⟨i0, hi0, hz0, hz1, hz2⟩ := info_parts infoFlo
            have hsu1 : (List.range (k + 1)).map (covF X Y Wn l p m) = ((List.range k).map (covF X Y Wn l p m)) ++ [covF X Y Wn l p m k] := by rw [List.range_succ, List.map_append]; rfl
            have hsu2 : ((List.range (k + 1)).map fun k => (shaG X Y Wn l p m k).1) = ((List.range k).map fun k => (shaG X Y Wn l p m k).1) ++ [(shaG X Y Wn l p m k).1] := by rw [List.range_succ, List.map_append]; rfl
            have Hsu1 := hidA hsu1
            have Hsu2 := hidA hsu2
            clear hsu1 hsu2
            generalize covF X Y Wn l p m k = cv at *
            generalize (shaG X Y Wn l p m k).1 = sv2 at *
            have hA1 := hidA (show (wr.alloc (.cells #[.float .f32 cv] 24)).ownsRow w7.heap.size 24 1 u12 k (flt ((List.range k).map (covF X Y Wn l p m))) from by have h := OwnF.ext hO1 ((Ext.refl wr).alloc (.cells #[.float .f32 cv] 24)); unfold OwnF at h; rw [hlen1] at h; exact h)
            have hN1 := hidA (show ∀ j u, [Value.float .f32 cv][j]? = some u → (wr.alloc (.cells #[.float .f32 cv] 24)).cell? ((⟨wr.heap.size, 0, none⟩ : Addr).add j) = some u from World.news_of_block (cs := #[.float .f32 cv]) (t := 24) (fr := (0, 0)) (Bk.new' rfl))
            have ho1 := hidA (show ∀ u ∈ [Value.float .f32 cv], u.oneCell' = true from by intro u hu; simp at hu; subst hu; rfl)
            have ho2 := hidA (show ∀ u ∈ [Value.float .f32 sv2], u.oneCell' = true from by intro u hu; simp at hu; subst hu; rfl)
            have hs1 := hidA (show w7.heap.size ≤ (wr.alloc (.cells #[.float .f32 cv] 24)).heap.size from by have := hxw.size; simp; omega)
            go_wp2_with (first | (at_builtin; (refine wpList_append_lies _ (by rfl) (.tmp 172) (.tmp 174) 53 (by rfl) w7.heap.size 24 i0 (.float .f32 0) 1 4 Tryd.underlying53 hi0 hz0 hz1 hz2 rfl (by decide) u12 k (flt ((List.range k).map (covF X Y Wn l p m))) (by rfl) hA1.out ⟨wr.heap.size, 0, none⟩ 1 1 [.float .f32 cv] (by rfl) (by rfl) hN1.out ho1.out (by omega) (by unfold maxLen; omega) (by omega) hs1.out (wr.heap.size + 1) (by simp) ?_; intro g4 cap4 w4 hown4 hgrow4 hat4 hlt4; have hB2 := hidA (World.ownsRow.kept (hO2.ext ((Ext.refl wr).alloc (.cells #[.float .f32 cv] 24))) hgrow4 hsep.ne); have hA2 := hidA (show (w4.alloc (.cells #[.float .f32 sv2] 24)).ownsRow w7.heap.size 24 1 u13 k (flt ((List.range k).map fun k => (shaG X Y Wn l p m k).1)) from by have h := OwnF.ext (show OwnF w4 w7.heap.size u13 _ from hB2.out) ((Ext.refl w4).alloc (.cells #[.float .f32 sv2] 24)); unfold OwnF at h; rw [hlen2] at h; exact h); have hN2 := hidA (show ∀ j u, [Value.float .f32 sv2][j]? = some u → (w4.alloc (.cells #[.float .f32 sv2] 24)).cell? ((⟨w4.heap.size, 0, none⟩ : Addr).add j) = some u from World.news_of_block (cs := #[.float .f32 sv2]) (t := 24) (fr := (0, 0)) (Bk.new' rfl)); have hx4 : Ext w7 w4 := Ext.grown ((hxw.alloc (.cells #[.float .f32 cv] 24))) hgrow4 (fun q he => (hA1.out.lt q he).1); have hs2 := hidA (show w7.heap.size ≤ (w4.alloc (.cells #[.float .f32 sv2] 24)).heap.size from by have := hx4.size; simp; omega))) | (at_builtin; (refine wpList_append_lies _ (by rfl) (.tmp 176) (.tmp 178) 53 (by rfl) w7.heap.size 24 i0 (.float .f32 0) 1 4 Tryd.underlying53 hi0 hz0 hz1 hz2 rfl (by decide) u13 k (flt ((List.range k).map fun k => (shaG X Y Wn l p m k).1)) (by rfl) hA2.out ⟨w4.heap.size, 0, none⟩ 1 1 [.float .f32 sv2] (by rfl) (by rfl) hN2.out ho2.out (by omega) (by unfold maxLen; omega) (by omega) hs2.out (w4.heap.size + 1) (by simp) ?_; intro g5 cap5 w5 hown5 hgrow5 hat5 hlt5)))
            have hx5 : Ext w7 w5 := Ext.grown ((hx4.alloc (.cells #[.float .f32 sv2] 24))) hgrow5 (fun q he => (hA2.out.lt q he).1)
            have hl2 := fun h (e : u13.ownBlock = some h) => (World.ownsRow.lt hO2 h e).2
            have hsep4 : ∀ h, u13.ownBlock = some h → g4 ≠ h := fun h e => by
              rcases hat4 with ha | ha
              · exact hsep g4 h ha e
              · have := hl2 h e; omega
            have hsep5 : g4 ≠ g5 := by
              rcases hat5 with ha | ha
              · exact hsep4 g5 ha
              · omega
            have hO4 : OwnF w5 w7.heap.size (.slice (some ⟨g4, 0, none⟩) (k + 1) cap4) ((List.range (k + 1)).map (covF X Y Wn l p m)) := by
              rw [Hsu1.out]
              unfold OwnF
              rw [flt_snoc, List.length_append, hlen1]
              exact World.ownsRow.kept (World.ownsRow.kept hown4 (grown_ext ((Ext.refl w4).alloc _) none) (.inr (by simp [Value.ownBlock]))) hgrow5 (.inr (fun e => by
                have := hsep4 g4 (by rw [← e]; rfl)
                exact this rfl))
            have hO5 : OwnF w5 w7.heap.size (.slice (some ⟨g5, 0, none⟩) (k + 1) cap5) ((List.range (k + 1)).map fun k => (shaG X Y Wn l p m k).1) := by
              rw [Hsu2.out]
              unfold OwnF
              rw [flt_snoc, List.length_append, hlen2]
              exact hown5
            have hsepF : Sep (.slice (some ⟨g4, 0, none⟩) (k + 1) cap4) (.slice (some ⟨g5, 0, none⟩) (k + 1) cap5) := fun g h e1 e2 => by
              simp [Value.ownBlock] at e1 e2
              omega
            clear hA1 hN1 ho1 ho2 hs1 hA2 hN2 hs2 hB2 hown4 hown5 hgrow4 hgrow5 hO1 hO2 hat4 hat5 hl2 hsep4 hsep5 Hsu1 Hsu2
            go_wp2_with fail
            go_roundw
            case rel => exact ⟨k + 1, by omega, congrArg (Value.int .i64) (by omega), hO4, hO5, hsepF, hx5⟩
            case measure => simp [intOf]; omega
      · obtain rfl : N = k := by omega
        have hml : p.length = m := Hm.out
        have hxw : Ext w3 wr := hx7.trans hxo
        have hlen1 : ((List.range N).map (covF X Y Wn l p m)).length = N := by simp
        have hlen2 : ((List.range N).map fun k => (shaG X Y Wn l p m k).1).length = N := by simp
        have hlen3 : ((List.range N).map (shaF X Y Wn l p m)).length = N := by simp
        obtain ⟨A1, q1, h1⟩ := hO1.form
        rw [hlen1] at h1
        subst h1
        obtain ⟨A2, q2, h2⟩ := hO2.form
        rw [hlen2] at h2
        subst h2
        have hR1 := hO1.rd hlen1.symm
        have hR2 := hO2.rd hlen2.symm
        have hRc : Rd wr (some ⟨g1, 0, none⟩) (flt ((List.range N).map (covF X Y Wn l p m))) := by
          have h := Rd.of_block (hg13.ext hxw)
          rwa [flo_list] at h
        have HEq := fun (w : World) (ha : Rd w (some ⟨g1, 0, none⟩) (flt ((List.range N).map (covF X Y Wn l p m)))) (hb : Rd w A1 (flt ((List.range N).map (covF X Y Wn l p m)))) => hidA (eqFlo_same (some ⟨g1, 0, none⟩) A1 N N q1 _ _ w hlen1 hlen1 ha hb (by omega) (fun k h1 h2 => by
          simp only [List.getElem_map, List.getElem_range]
          exact same_eq (Same.refl _) (cov_nan HP0.out _ m (by omega))))
        have HNum := fun (w : World) (h : Rd w A2 (flt ((List.range N).map fun k => (shaG X Y Wn l p m k).1))) => hidA (numberError_any A2 N q2 _ w hlen2 h (by omega))
        have HEs := fun (g2 : Nat) (w : World) (ha : Rd w (some ⟨g2, 0, none⟩) (flt ((List.range N).map (shaF X Y Wn l p m)))) (hb : Rd w A2 (flt ((List.range N).map fun k => (shaG X Y Wn l p m k).1))) => hidA (eqFlo_same (some ⟨g2, 0, none⟩) A2 N N q2 _ _ w hlen3 hlen2 ha hb (by omega) (fun k h1 h2 => by
          simp only [List.getElem_map, List.getElem_range]
          exact same_eq (sha_same HP0.out _ m (by omega)).1 (sha_nan HP0.out _ m (by omega))))
        have hall : ((List.range N).map fun k => (shaG X Y Wn l p m k).1).all hgtB = ((List.range N).map (shaF X Y Wn l p m)).all hgtB := by
          rw [List.all_map, List.all_map]
          congr 1
          funext k
          exact (same_hgt (sha_same HP0.out k m (by omega)).1).symm
        have hsemN := Hsem.out
        rw [← hall] at hsemN
        have hnE : ((List.range N).map fun k => (shaG X Y Wn l p m k).1).all hgtB = true ∧ numE ((List.range N).map fun k => (shaG X Y Wn l p m k).1) = 0 ∨ ((List.range N).map fun k => (shaG X Y Wn l p m k).1).all hgtB = false ∧ numE ((List.range N).map fun k => (shaG X Y Wn l p m k).1) ≠ 0 := by
          cases hb : ((List.range N).map fun k => (shaG X Y Wn l p m k).1).all hgtB
          · exact .inr ⟨rfl, numE_not hb⟩
          · exact .inl ⟨rfl, numE_all hb⟩
        generalize numE ((List.range N).map fun k => (shaG X Y Wn l p m k).1) = nE at *
        have hnE2 := hidA hnE
        have Hsem2 := hidA hsemN
        have hgC := hg13
        have kCw := kC3.ext hxw
        have kRw := kR7.ext hxo
        have kSw := kS3.ext hxw
        clear Hsem hall hsemN hnE hO1 hO2 hsep hg13 hgC HPl hlen1 hlen2 hlen3 hml
        have c0 := kRw.cell 0
        have c1 := kRw.cell 1
        have c2 := kRw.cell 2
        have c3 := kRw.cell 3
        have d4 := kCw.cell 4
        go_wp2_with fail
        refine ((HEq _ hRc hR1).out).mono ?_
        rintro e w8 ⟨rfl, hb8⟩
        clear c0 c1 c2 c3 d4
        have c0 := (kRw.ext hb8).cell 0
        have c1 := (kRw.ext hb8).cell 1
        have c2 := (kRw.ext hb8).cell 2
        have c3 := (kRw.ext hb8).cell 3
        have d0 := (kCw.ext hb8).cell 0
        have d1 := (kCw.ext hb8).cell 1
        have d2 := (kCw.ext hb8).cell 2
        have d3 := (kCw.ext hb8).cell 3
        go_wp2_with fail
        refine ((HNum _ (hR2.ext (by repeat (first | exact Ext.refl _ | assumption | refine Ext.setCell ?_ (by first | (simp; done) | (simp; omega)) _ | refine Ext.drewN ?_ _ | refine Ext.alloc ?_ _ | refine Ext.drew ?_ | refine Ext.trans ?_ (by assumption))))).out).mono ?_
        rintro e w9 ⟨rfl, hw9⟩
        have hb9 : Ext wr w9 := by rw [← hw9]; (repeat (first | exact Ext.refl _ | assumption | refine Ext.setCell ?_ (by first | (simp; done) | (simp; omega)) _ | refine Ext.drewN ?_ _ | refine Ext.alloc ?_ _ | refine Ext.drew ?_ | refine Ext.trans ?_ (by assumption)))
        clear hw9 c0 c1 c2 c3 d0 d1 d2 d3 HNum HEq
        have s0 := (kSw.ext hb9).cell 0
        have s1 := (kSw.ext hb9).cell 1
        have s2 := (kSw.ext hb9).cell 2
        have s3 := (kSw.ext hb9).cell 3
        have s4 := (kSw.ext hb9).cell 4
        rcases hnE2.out with ⟨hb, rfl⟩ | ⟨hb, hne⟩
        · rcases Hsem2.out with ⟨hal, rfl, hsn, g2, rfl, hg2⟩ | ⟨hal, _⟩
          · have hsn2 := hsn.symm
            subst hsn2
            have hR3 : Rd w9 (some ⟨g2, 0, none⟩) (flt ((List.range N).map (shaF X Y Wn l p m))) := by
              have h := Rd.of_block ((hg2.ext h23).ext (hxw.trans hb9))
              rwa [flo_list] at h
            clear hb hal hg2
            go_wp2_with fail
            refine ((HEs g2 _ (hR3.ext (by repeat (first | exact Ext.refl _ | assumption | refine Ext.setCell ?_ (by first | (simp; done) | (simp; omega)) _ | refine Ext.drewN ?_ _ | refine Ext.alloc ?_ _ | refine Ext.drew ?_ | refine Ext.trans ?_ (by assumption)))) (hR2.ext (by repeat (first | exact Ext.refl _ | assumption | refine Ext.setCell ?_ (by first | (simp; done) | (simp; omega)) _ | refine Ext.drewN ?_ _ | refine Ext.alloc ?_ _ | refine Ext.drew ?_ | refine Ext.trans ?_ (by assumption))))).out).mono ?_
            rintro e w10 ⟨rfl, hb10⟩
            go_wp2_with fail
            go_ret
            exact ⟨by first | rfl | simp, (by repeat (first | exact Ext.refl _ | assumption | refine Ext.setCell ?_ (by first | (simp; done) | (simp; omega)) _ | refine Ext.drewN ?_ _ | refine Ext.alloc ?_ _ | refine Ext.drew ?_ | refine Ext.trans ?_ (by assumption)))⟩
          · rw [hb] at hal
            cases hal
        · rcases Hsem2.out with ⟨hal, _⟩ | ⟨hal, rfl, rfl, rfl, rfl, rfl, rfl, rfl⟩
          · rw [hb] at hal
            cases hal
          · clear hb hal
            go_wp2_with fail
            refine ((HE _).out).mono ?_
            rintro e w10 ⟨rfl, hb10⟩
            go_wp2_with fail
            go_ret
            exact ⟨by first | rfl | simp, (by repeat (first | exact Ext.refl _ | assumption | refine Ext.setCell ?_ (by first | (simp; done) | (simp; omega)) _ | refine Ext.drewN ?_ _ | refine Ext.alloc ?_ _ | refine Ext.drew ?_ | refine Ext.trans ?_ (by assumption)))⟩
end Go.Proofs.YtgaonoklbihkjaaDoor
