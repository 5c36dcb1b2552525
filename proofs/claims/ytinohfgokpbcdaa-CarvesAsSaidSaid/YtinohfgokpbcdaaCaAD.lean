/- Contract: the reference's CarvedOf. -/
import Derived.Test.YtinohfgokpbcdaaCaAC
import Derived.Test.YtinohfgokpbcdaaDsAI
import Derived.Deep.DeepCutAuto
namespace Go.Proofs.Ytinohfgokpbcdaa
open Go.RowKit
attribute [local go_sem ↓] Go.wp_at_zero Go.wp_at_succ
attribute [local go_sem] run_store_float

/-- the error of Carve -/
def crvE (x y ww hh : Int) (l : List Nat) (r le mo : Nat) (st : Int) : Int := if fieldE x y ww hh l ≠ 0 then fieldE x y ww hh l else carvE r le mo st
set_option maxRecDepth 100000 in
set_option maxHeartbeats 3200000 in
theorem Carve_bad (x y ww hh : Int) (A : Option Addr) (n c r le mo : Nat) (st : Int) (l : List Nat) (w : World) (hl : l.length = n) (hV : Rd w A (flt l)) (hb : n ≤ 140737488351232) (hE : crvE x y ww hh l r le mo st ≠ 0) :
    Calls Try.prog 78 #[.agg #[.int .i64 x, .int .i64 y, .int .i64 ww, .int .i64 hh, .slice A n c], .agg #[.float .f32 r, .float .f32 le, .float .f32 mo, .int .i64 st]] w fun e w' => e = .returned (.tuple #[.agg #[.int .i64 0, .int .i64 0, .int .i64 0, .int .i64 0, .slice none 0 0], .int .i64 (crvE x y ww hh l r le mo st)]) ∧ Ext w w' := by
  have HC := fun (w : World) (h : Rd w A (flt l)) => hidA (check_any x y ww hh A n c l w hl h hb)
  have HK := fun (w : World) => hidA (checkCarving_any r le mo st w)
  unfold crvE at hE ⊢
  clear hl hb
  generalize fieldE x y ww hh l = f1 at *
  generalize carvE r le mo st = f2 at *
  by_cases h1 : f1 = 0
  · subst h1
    rw [if_neg (by decide)] at hE ⊢
    have h2' : (f2 != 0) = true := by simpa using hE
    clear hE
    go_enter Try.func78, Try.ntmps78
    go_wp2_with (first | (go_at_call 80; refine ((HC _ (hV.ext (by repeat (first | exact Ext.refl _ | assumption | refine Ext.setCell ?_ (by first | (simp; done) | (simp; omega)) _ | refine Ext.drewN ?_ _ | refine Ext.alloc ?_ _ | refine Ext.drew ?_ | refine Ext.trans ?_ (by assumption))))).out).mono ?_; rintro e w1 ⟨rfl, hx1⟩; have kZ1 : Bk w1 (w.heap.size + 1 + 1) 26 #[.int .i64 0, .int .i64 0, .int .i64 0, .int .i64 0, .slice none 0 0] := (Bk.new' (by simp)).ext hx1; have kC1 : Bk w1 (w.heap.size + 1) 52 #[.float .f32 r, .float .f32 le, .float .f32 mo, .int .i64 st] := ((Bk.new' (by simp)).alloc _).ext hx1; have k0 := kC1.cell 0; have k1 := kC1.cell 1; have k2 := kC1.cell 2; have k3 := kC1.cell 3) | (go_at_call 33; refine ((HK _).out).mono ?_; rintro e w2 ⟨rfl, hx2⟩; have kZ1 := kZ1.ext hx2; have z0 := kZ1.cell 0; have y0 := kZ1.frozen 0; have z1 := kZ1.cell 1; have y1 := kZ1.frozen 1; have z2 := kZ1.cell 2; have y2 := kZ1.frozen 2; have z3 := kZ1.cell 3; have y3 := kZ1.frozen 3; have z4 := kZ1.cell 4; have y4 := kZ1.frozen 4))
    refine bodyPost_ret (v := .tuple #[.agg #[.int .i64 0, .int .i64 0, .int .i64 0, .int .i64 0, .slice none 0 0], .int .i64 f2]) (by simp [results, Try.results78, go_sem, z0, z1, z2, z3, z4]) rfl ⟨rfl, ?_⟩
    (repeat (first | (with_reducible exact Ext.refl _) | (with_reducible assumption) | (with_reducible refine Ext.setCell ?_ (by first | (simp; done) | (simp; omega)) _) | (with_reducible refine Ext.drewN ?_ _) | (with_reducible refine Ext.alloc ?_ _) | (with_reducible refine Ext.drew ?_) | (with_reducible refine Ext.trans ?_ (by assumption))))
  · have h1' : (f1 != 0) = true := by simpa using h1
    rw [if_pos h1]
    clear hE h1
    go_enter Try.func78, Try.ntmps78
    go_wp2_with (go_at_call 80; refine ((HC _ (hV.ext (by repeat (first | exact Ext.refl _ | assumption | refine Ext.setCell ?_ (by first | (simp; done) | (simp; omega)) _ | refine Ext.drewN ?_ _ | refine Ext.alloc ?_ _ | refine Ext.drew ?_ | refine Ext.trans ?_ (by assumption))))).out).mono ?_; rintro e w1 ⟨rfl, hx1⟩; have kZ1 : Bk w1 (w.heap.size + 1 + 1) 26 #[.int .i64 0, .int .i64 0, .int .i64 0, .int .i64 0, .slice none 0 0] := (Bk.new' (by simp)).ext hx1; have kC1 : Bk w1 (w.heap.size + 1) 52 #[.float .f32 r, .float .f32 le, .float .f32 mo, .int .i64 st] := ((Bk.new' (by simp)).alloc _).ext hx1; have z0 := kZ1.cell 0; have y0 := kZ1.frozen 0; have z1 := kZ1.cell 1; have y1 := kZ1.frozen 1; have z2 := kZ1.cell 2; have y2 := kZ1.frozen 2; have z3 := kZ1.cell 3; have y3 := kZ1.frozen 3; have z4 := kZ1.cell 4; have y4 := kZ1.frozen 4)
    refine bodyPost_ret (v := .tuple #[.agg #[.int .i64 0, .int .i64 0, .int .i64 0, .int .i64 0, .slice none 0 0], .int .i64 f1]) (by simp [results, Try.results78, go_sem, z0, z1, z2, z3, z4]) rfl ⟨rfl, ?_⟩
    (repeat (first | (with_reducible exact Ext.refl _) | (with_reducible assumption) | (with_reducible refine Ext.setCell ?_ (by first | (simp; done) | (simp; omega)) _) | (with_reducible refine Ext.drewN ?_ _) | (with_reducible refine Ext.alloc ?_ _) | (with_reducible refine Ext.drew ?_) | (with_reducible refine Ext.trans ?_ (by assumption))))
end Go.Proofs.Ytinohfgokpbcdaa
namespace Go.Proofs.Ytinohfgokpbcdaa
open Go.RowKit
attribute [local go_sem ↓] Go.wp_at_zero Go.wp_at_succ
attribute [local go_sem] run_store_float

/-- the ground when the first k cells are made -/
noncomputable def mixZ (r le mo Wn Hn N : Nat) (l : List Nat) (k j : Nat) : Nat := if j < k then crvF r le mo Wn Hn N l j else 0
theorem mixZ_step {r le mo Wn Hn N : Nat} {l : List Nat} {k : Nat} : updF (mixZ r le mo Wn Hn N l k) k (crvF r le mo Wn Hn N l k) = mixZ r le mo Wn Hn N l (k + 1) := by
  funext j
  unfold mixZ
  by_cases e : j = k
  · subst e
    rw [updF_same, if_pos (by omega)]
  · rw [updF_ne _ _ e]
    by_cases h : j < k
    · rw [if_pos h, if_pos (by omega)]
    · rw [if_neg h, if_neg (by omega)]
set_option maxRecDepth 100000 in
set_option maxHeartbeats 12800000 in
theorem CarvedOf_any (X Y : Int) (Wn Hn N : Nat) (A : Option Addr) (c r le mo : Nat) (st : Int) (u : List Nat) (w : World) (hr : Reg X Y Wn Hn) (hN : N = Wn * Hn) (hl : u.length = N) (hV : Rd w A (flt u)) (hbd : ∀ j, j < N → Bd 20 (u.getD j 0)) (hs : carvE r le mo st = 0) :
    Calls Try.prog 79 #[.agg #[.int .i64 X, .int .i64 Y, .int .i64 (Wn : Int), .int .i64 (Hn : Int), .slice A N c], .agg #[.float .f32 r, .float .f32 le, .float .f32 mo, .int .i64 st]] w fun e w' => ∃ g cp, e = .returned (.agg #[.int .i64 X, .int .i64 Y, .int .i64 (Wn : Int), .int .i64 (Hn : Int), .slice (some ⟨g, 0, none⟩) N cp]) ∧ CF w' g cp N (fun j => (crvL r le mo Wn Hn N u).getD j 0) ∧ Ext w w' := by
  have hN6 : N ≤ 65536 := by rw [hN]; exact hr.n
  have hN1 : 1 ≤ N := by rw [hN]; exact Nat.mul_pos hr.w1 hr.h1
  have hh := mem_bd hl hbd
  obtain ⟨r1, r2, r3, r4, r5, st0, st5⟩ := carv_ok hs
  obtain ⟨ad, rfl, _, _⟩ := hV.at (k := 0) (by rw [flt_length]; omega)
  have HDo := hidA (fun (w : World) (h : Rd w (some ad) (flt u)) => DrainOf_any X Y Wn Hn N (some ad) c u w hr hN hl h hh)
  have Hdc := hidA (fun (v : Nat → Nat) (hL : LeastG Wn Hn (fun k => u.getD k 0) 0 (fun k => valI (v k))) => And.intro (drn_same hr.w1 hN hN1 (fun k hk => hbd k (by rw [hN]; exact hk)) hL hL) (And.intro (drnC_eq hN hbd hL) (drnC_lead hr.w1 hN hN1 hbd hL)))
  have HG := hidA (fun (gd gR : Nat) (D : Nat → Int) (m : Nat → Nat) (w : World) (hD : DirsAt w (some ⟨gd, 0, none⟩) N D) (hL : Lead Wn Hn N D m) (hm : ∀ k, k < N → m k ≤ N) (hR : DirsAt w (some ⟨gR, 0, none⟩) N (fun _ => 1)) => GatherOf_any X Y Wn Hn N N N (some ⟨gd, 0, none⟩) (some ⟨gR, 0, none⟩) D m (trC D Wn Hn) (fun _ => 1) w hr hN hD hL hm (trC_ok hL hN) hR (fun _ _ => by omega))
  have HNb := hidA (fun (k d : Nat) (w : World) (hk : k < N) (hd : d < 8) => nb_any X Y Wn Hn k d w hr (by rw [← hN]; exact hk) hd)
  unfold rgv at HG HNb
  have HN := hidA hN
  have HCv := hidA (And.intro r1 (And.intro r2 (And.intro r3 (And.intro r4 r5))))
  have mi := mk_int N (by omega)
  have mf := mk_flo N (by omega)
  have Hl := hidA hl
  clear hr hN hs hh r1 r2 r3 r4 r5 hl
  go_enter Try.func79, Try.ntmps79
  go_upto_region 1 with fail
  obtain ⟨w1, hw1⟩ : ∃ w1, w1 = ((w.alloc (.cells #[.int .i64 X, .int .i64 Y, .int .i64 (Wn : Int), .int .i64 (Hn : Int), .slice (some ad) N c] 26)).alloc (.cells #[.float .f32 r, .float .f32 le, .float .f32 mo, .int .i64 st] 52)).alloc (.cells #[.int .i64 0, .int .i64 0, .int .i64 0, .int .i64 0, .slice none 0 0] 26) := ⟨_, rfl⟩
  have kF : Bk w1 w.heap.size 26 #[.int .i64 X, .int .i64 Y, .int .i64 (Wn : Int), .int .i64 (Hn : Int), .slice (some ad) N c] := by rw [hw1]; exact ((Bk.new' rfl).alloc _).alloc _
  have kC : Bk w1 (w.heap.size + 1) 52 #[.float .f32 r, .float .f32 le, .float .f32 mo, .int .i64 st] := by rw [hw1]; exact (Bk.new' (by simp)).alloc _
  have kZ : Bk w1 (w.heap.size + 1 + 1) 26 #[.int .i64 0, .int .i64 0, .int .i64 0, .int .i64 0, .slice none 0 0] := by rw [hw1]; exact Bk.new' (by simp)
  have hxA : Ext w w1 := by rw [hw1]; exact (((Ext.refl w).alloc _).alloc _).alloc _
  rw [← hw1]
  clear hw1
  have Hz := hidA (show w.heap.size ≤ w.heap.size + 1 + 1 by omega)
  generalize w.heap.size + 1 + 1 = hz at *
  generalize w.heap.size + 1 = hc at *
  generalize w.heap.size = h0 at kF ⊢
  have c0 := kF.cell 0
  have c1 := kF.cell 1
  have c2 := kF.cell 2
  have c3 := kF.cell 3
  have c4 := kF.cell 4
  go_upto_region 2 with (go_at_call 69; refine (HDo.out _ (hV.ext hxA)).mono ?_; rintro e w2 ⟨gd, v', rfl, hL', hBo, hx2⟩)
  obtain ⟨d1, d2, m, hLd, hmN⟩ := Hdc.out v' hL'
  have hDs : DirsAt w2 (some ⟨gd, 0, none⟩) N (drnC Wn Hn N u) := by
    have e : intB N (drnC Wn Hn N u) = intB N (drnV v' (rkV v' Wn Hn N) Wn Hn) := by unfold intB; congr 1; refine List.map_congr_left fun k hk => ?_; rw [← d2 k (List.mem_range.1 hk), d1 k (List.mem_range.1 hk)]
    rw [← e] at hBo
    exact DirsAt.of_bk hBo
  have kF2 := kF.ext hx2
  have kC2 := kC.ext hx2
  have kZ2 := kZ.ext hx2
  have hx2w := hxA.trans hx2
  have HLd := hidA hLd
  have HmN := hidA hmN
  clear c0 c1 c2 c3 c4 kF kC kZ hL' hBo HDo Hdc hxA hx2 d1 d2 hLd hmN
  go_upto_region 3 with fail
  have hx3 : Ext w2 (w2.alloc (.cells (intB N fun _ => 0) 3)) := (Ext.refl w2).alloc _
  have kR : Bk (w2.alloc (.cells (intB N fun _ => 0) 3)) w2.heap.size 3 (intB N fun _ => 0) := Bk.new' (by simp)
  have hD3 := hDs.ext hx3
  have hgr : w2.heap.size ≤ w2.heap.size := Nat.le_refl _
  have hrf : h0 ≠ w2.heap.size := by have := kF2.lt; omega
  have hrc : hc ≠ w2.heap.size := by have := kC2.lt; omega
  have hrz : hz ≠ w2.heap.size := by have := kZ2.lt; omega
  have kF3 := kF2.ext hx3
  have kC3 := kC2.ext hx3
  have kZ3 := kZ2.ext hx3
  clear kF2 kC2 kZ2 mi hD3
  generalize w2.alloc (.cells (intB N fun _ => 0) 3) = w3 at *
  generalize hg2 : w2.heap.size = gr at *
  have Hg2 := hidA hg2
  clear hg2
  go_wp2_with fail
  go_loopw [20] (fun s20 wr => ∃ (k : Nat), k ≤ N ∧ s20 = .int .i64 k ∧ Bk wr gr 3 (intB N fun j => if j < k then 1 else 0) ∧ Kept gr w3 wr ∧ Ext w2 wr) (fun s20 _ => N - (intOf s20).toNat)
  case atStart => exact ⟨0, Nat.zero_le _, rfl, kR, Kept.refl _ _, hx3⟩
  case round =>
    clear kR hx3
    obtain ⟨k, hk, rfl, kR, hKp, hxr⟩ := hrel
    by_cases hkN : k < N
    · have i1 : (0 : Int) ≤ k := by omega
      have i2 : (k : Int) < N := by omega
      have q0 := kR.cell k
      rw [intB_get _ hkN] at q0
      have q1 := kR.frozen k
      have e1 := Bk.set kR k (.int .i64 1)
      rw [intB_set] at e1
      have e2 : updF (fun j => if j < k then (1 : Int) else 0) k 1 = fun j => if j < k + 1 then 1 else 0 := by
        funext j
        unfold updF
        dsimp only
        split
        · rw [if_pos (by omega)]
        · split
          · rw [if_pos (by omega)]
          · rw [if_neg (by omega)]
      rw [e2] at e1
      have e3 := hKp.set k (.int .i64 1)
      have e4 := hxr.setCell (p := ⟨gr, k, none⟩) (by rw [Hg2.out]; exact Nat.le_refl _) (.int .i64 1)
      have Hall := hidA (And.intro e1 (And.intro e3 e4))
      clear e1 e2 e3 e4 kR hKp hxr
      generalize (if k < k then (1 : Int) else 0) = z at q0
      go_wp2_with fail
      go_roundw
      case rel => exact ⟨k + 1, by omega, by go_num, Hall.out⟩
      case measure => simp [intOf]; omega
    · obtain rfl : N = k := by omega
      have kO : Bk wr gr 3 (intB N fun _ => 1) := by
        have e : (intB N fun j => if j < N then (1 : Int) else 0) = intB N fun _ => 1 := by unfold intB; congr 1; refine List.map_congr_left fun k hk => ?_; dsimp only; rw [if_pos (List.mem_range.1 hk)]
        rw [e] at kR
        exact kR
      have kF4 := hKp.2 _ _ _ hrf kF3
      have kC4 := hKp.2 _ _ _ hrc kC3
      have kZ4 := hKp.2 _ _ _ hrz kZ3
      have hD4 := hDs.ext hxr
      have hx4w := hx2w.trans hxr
      clear kR hKp hxr kF3 kC3 kZ3 hDs hx2w hrf hrc hrz
      have HG1 := hidA (HG.out gd gr (drnC Wn Hn N u) m wr hD4 HLd.out HmN.out (DirsAt.of_bk kO))
      have c0 := kF4.cell 0
      have c1 := kF4.cell 1
      have c2 := kF4.cell 2
      have c3 := kF4.cell 3
      go_upto_region 9 with (go_at_call 110; refine (HG1.out).mono ?_; rintro e w7 ⟨ga, rfl, hG, _, hx7⟩)
      have kF7 := kF4.ext hx7
      have kC7 := kC4.ext hx7
      have kZ7 := kZ4.ext hx7
      have hD7 := hD4.ext hx7
      have hx7w := hx4w.trans hx7
      have hV7 := hV.ext hx7w
      clear c0 c1 c2 c3 HG1 kF4 kC4 kZ4 hD4 hx4w hx7 kO
      have c0 := kF7.cell 0
      have c1 := kF7.cell 1
      have c2 := kF7.cell 2
      have c3 := kF7.cell 3
      have c4 : w7.cell? ⟨h0, 4, none⟩ = some (.slice (some ad) N c) := kF7.cell 4
      have e0 : ∀ w', Ext w7 w' → w'.cell? ⟨h0, 0, none⟩ = some (.int .i64 X) := fun w' h => (kF7.ext h).cell 0
      have e1 : ∀ w', Ext w7 w' → w'.cell? ⟨h0, 1, none⟩ = some (.int .i64 Y) := fun w' h => (kF7.ext h).cell 1
      have e2 : ∀ w', Ext w7 w' → w'.cell? ⟨h0, 2, none⟩ = some (.int .i64 (Wn : Int)) := fun w' h => (kF7.ext h).cell 2
      have e3 : ∀ w', Ext w7 w' → w'.cell? ⟨h0, 3, none⟩ = some (.int .i64 (Hn : Int)) := fun w' h => (kF7.ext h).cell 3
      have e4 : ∀ w', Ext w7 w' → w'.cell? ⟨h0, 4, none⟩ = some (.slice (some ad) N c) := fun w' h => (kF7.ext h).cell 4
      clear c0 c1 c2 c3 c4
      go_cut [9] (fun s9 wx => ∃ hm gm : Nat, s9 = Value.pointer (some ⟨hm, 0, none⟩) ∧ Bk wx hm 26 #[.int .i64 X, .int .i64 Y, .int .i64 (Wn : Int), .int .i64 (Hn : Int), .slice (some ⟨gm, 0, none⟩) N N] ∧ Bk wx gm 27 (flo N fun _ => 0) ∧ w7.heap.size ≤ gm ∧ Ext w7 wx)
      case first =>
        refine wp_region_noPanic ?_
        refine wp_region_held_drew (S := fun w' => Ext w7 w') (by kernel_rfl) ?_ (fun hHeld => ?_)
        · (repeat (first | exact Ext.refl _ | assumption | refine Ext.setCell ?_ (by first | (simp; done) | (simp; omega)) _ | refine Ext.drewN ?_ _ | refine Ext.alloc ?_ _ | refine Ext.drew ?_ | refine Ext.trans ?_ (by assumption)))
        refine wpAnyH_take (i := 0) (oi := ?o2x0) (v := ?v2x0) ?hi2x0 (by kernel_rfl) ?hf2x0 ?hr2x0 (fun _ _ _ h => h) ?hy2x0 (by assumption) ?rest2x0
        case hi2x0 => (simp only [List.getElem?_toArray, List.getElem?_cons_zero]; exact rfl)
        case hf2x0 => kernel_rfl
        case hr2x0 => kernel_rfl
        case hy2x0 => (refine Or.inl ⟨by rfl, ?_⟩; intro w hSw; (try dsimp only at hSw); go_simp; try with_reducible rfl)
        simp only [put_mk, List.set_cons_succ, List.set_cons_zero]
        refine wpAnyH_take (i := 1) (oi := ?o3x1) (v := ?v3x1) ?hi3x1 (by kernel_rfl) ?hf3x1 ?hr3x1 (fun _ _ _ h => h) ?hy3x1 (by assumption) ?rest3x1
        case hi3x1 => (simp only [List.getElem?_toArray, List.getElem?_cons_succ, List.getElem?_cons_zero]; exact rfl)
        case hf3x1 => kernel_rfl
        case hr3x1 => kernel_rfl
        case hy3x1 => (refine Or.inl ⟨by rfl, ?_⟩; intro w hSw; (try dsimp only at hSw); go_simp; try with_reducible rfl)
        simp only [put_mk, List.set_cons_succ, List.set_cons_zero]
        refine wpAnyH_take (i := 2) (oi := ?o4x2) (v := ?v4x2) ?hi4x2 (by kernel_rfl) ?hf4x2 ?hr4x2 (fun _ _ _ h => h) ?hy4x2 (by assumption) ?rest4x2
        case hi4x2 => (simp only [List.getElem?_toArray, List.getElem?_cons_succ, List.getElem?_cons_zero]; exact rfl)
        case hf4x2 => kernel_rfl
        case hr4x2 => kernel_rfl
        case hy4x2 => (refine Or.inl ⟨by rfl, ?_⟩; intro w hSw; (try dsimp only at hSw); go_simp; try with_reducible rfl)
        simp only [put_mk, List.set_cons_succ, List.set_cons_zero]
        refine wpAnyH_take (i := 3) (oi := ?o5x3) (v := ?v5x3) ?hi5x3 (by kernel_rfl) ?hf5x3 ?hr5x3 (fun _ _ _ h => h) ?hy5x3 (by assumption) ?rest5x3
        case hi5x3 => (simp only [List.getElem?_toArray, List.getElem?_cons_succ, List.getElem?_cons_zero]; exact rfl)
        case hf5x3 => kernel_rfl
        case hr5x3 => kernel_rfl
        case hy5x3 => (refine Or.inl ⟨by rfl, ?_⟩; intro w hSw; (try dsimp only at hSw); go_simp; try with_reducible rfl)
        simp only [put_mk, List.set_cons_succ, List.set_cons_zero]
        refine wpAnyH_take (i := 4) (oi := ?o6x4) (v := ?v6x4) ?hi6x4 (by kernel_rfl) ?hf6x4 ?hr6x4 (fun _ _ _ h => h) ?hy6x4 (by assumption) ?rest6x4
        case hi6x4 => (simp only [List.getElem?_toArray, List.getElem?_cons_succ, List.getElem?_cons_zero]; exact rfl)
        case hf6x4 => kernel_rfl
        case hr6x4 => kernel_rfl
        case hy6x4 => (refine Or.inl ⟨by rfl, ?_⟩; intro w hSw; (try dsimp only at hSw); go_simp; try with_reducible rfl)
        simp only [put_mk, List.set_cons_succ, List.set_cons_zero]
        refine wpAnyH_ready (rs := [5, 7]) (by kernel_rfl) (by simp) ?_
        refine (AllReadyH.cons (o := ?o7x5) ?hi7x5 (fun K hK => ?_) (AllReadyH.cons (o := ?o7x7) ?hi7x7 (fun K hK => ?_) AllReadyH.nil))
        case hi7x5 => (simp only [List.getElem?_toArray, List.getElem?_cons_succ, List.getElem?_cons_zero]; exact rfl)
        case hi7x7 => (simp only [List.getElem?_toArray, List.getElem?_cons_succ, List.getElem?_cons_zero]; exact rfl)
        · go_simp
          refine hK.out _ _ ?_ (fun hHeld => ?_)
          · (repeat (first | exact Ext.refl _ | assumption | refine Ext.setCell ?_ (by first | (simp; done) | (simp; omega)) _ | refine Ext.drewN ?_ _ | refine Ext.alloc ?_ _ | refine Ext.drew ?_ | refine Ext.trans ?_ (by assumption)))
          clear hK K
          refine wpAnyH_take (i := 6) (oi := ?o8x6) (v := ?v8x6) ?hi8x6 (by kernel_rfl) ?hf8x6 ?hr8x6 (fun _ _ _ h => h) ?hy8x6 (by assumption) ?rest8x6
          case hi8x6 => (simp only [List.getElem?_toArray, List.getElem?_cons_succ, List.getElem?_cons_zero]; exact rfl)
          case hf8x6 => kernel_rfl
          case hr8x6 => kernel_rfl
          case hy8x6 => (refine Or.inl ⟨by rfl, ?_⟩; intro w hSw; (try dsimp only at hSw); go_simp; try with_reducible rfl)
          simp only [put_mk, List.set_cons_succ, List.set_cons_zero]
          refine wpAnyH_ready (rs := [7]) (by kernel_rfl) (by simp) ?_
          refine AllReadyH.cons (o := ?o9x7) ?hi9x7 (fun K hK => ?_) AllReadyH.nil
          case hi9x7 => (simp only [List.getElem?_toArray, List.getElem?_cons_succ, List.getElem?_cons_zero]; exact rfl)
          go_simp
          refine hK.out _ _ ?_ (fun hHeld => ?_)
          · (repeat (first | exact Ext.refl _ | assumption | refine Ext.setCell ?_ (by first | (simp; done) | (simp; omega)) _ | refine Ext.drewN ?_ _ | refine Ext.alloc ?_ _ | refine Ext.drew ?_ | refine Ext.trans ?_ (by assumption)))
          clear hK K
          refine wpAnyH_ready (rs := [8]) (by kernel_rfl) (by simp) ?_
          refine AllReadyH.cons (o := ?o10x8) ?hi10x8 (fun K hK => ?_) AllReadyH.nil
          case hi10x8 => (simp only [List.getElem?_toArray, List.getElem?_cons_succ, List.getElem?_cons_zero]; exact rfl)
          go_simp
          refine hK.out _ _ ?_ (fun hHeld => ?_)
          · (repeat (first | exact Ext.refl _ | assumption | refine Ext.setCell ?_ (by first | (simp; done) | (simp; omega)) _ | refine Ext.drewN ?_ _ | refine Ext.alloc ?_ _ | refine Ext.drew ?_ | refine Ext.trans ?_ (by assumption)))
          clear hK K
          refine wpAnyH_done (by kernel_rfl) ?_ _
          refine NoPanic.normal ?_
          go_wp2_with fail
          go_meet
          case rel => exact ⟨w7.heap.size + 1, w7.heap.size, rfl, Bk.drew (Bk.new' (by simp)), Bk.drew (Bk.alloc (Bk.new' rfl) _), by omega, (by repeat (first | exact Ext.refl _ | assumption | refine Ext.setCell ?_ (by first | (simp; done) | (simp; omega)) _ | refine Ext.drewN ?_ _ | refine Ext.alloc ?_ _ | refine Ext.drew ?_ | refine Ext.trans ?_ (by assumption)))⟩
        · go_simp
          refine hK.out _ _ ?_ (fun hHeld => ?_)
          · (repeat (first | exact Ext.refl _ | assumption | refine Ext.setCell ?_ (by first | (simp; done) | (simp; omega)) _ | refine Ext.drewN ?_ _ | refine Ext.alloc ?_ _ | refine Ext.drew ?_ | refine Ext.trans ?_ (by assumption)))
          clear hK K
          refine wpAnyH_ready (rs := [5]) (by kernel_rfl) (by simp) ?_
          refine AllReadyH.cons (o := ?o11x5) ?hi11x5 (fun K hK => ?_) AllReadyH.nil
          case hi11x5 => (simp only [List.getElem?_toArray, List.getElem?_cons_succ, List.getElem?_cons_zero]; exact rfl)
          go_simp
          refine hK.out _ _ ?_ (fun hHeld => ?_)
          · (repeat (first | exact Ext.refl _ | assumption | refine Ext.setCell ?_ (by first | (simp; done) | (simp; omega)) _ | refine Ext.drewN ?_ _ | refine Ext.alloc ?_ _ | refine Ext.drew ?_ | refine Ext.trans ?_ (by assumption)))
          clear hK K
          refine wpAnyH_take (i := 6) (oi := ?o12x6) (v := ?v12x6) ?hi12x6 (by kernel_rfl) ?hf12x6 ?hr12x6 (fun _ _ _ h => h) ?hy12x6 (by assumption) ?rest12x6
          case hi12x6 => (simp only [List.getElem?_toArray, List.getElem?_cons_succ, List.getElem?_cons_zero]; exact rfl)
          case hf12x6 => kernel_rfl
          case hr12x6 => kernel_rfl
          case hy12x6 => (refine Or.inl ⟨by rfl, ?_⟩; intro w hSw; (try dsimp only at hSw); go_simp; try with_reducible rfl)
          simp only [put_mk, List.set_cons_succ, List.set_cons_zero]
          refine wpAnyH_ready (rs := [8]) (by kernel_rfl) (by simp) ?_
          refine AllReadyH.cons (o := ?o13x8) ?hi13x8 (fun K hK => ?_) AllReadyH.nil
          case hi13x8 => (simp only [List.getElem?_toArray, List.getElem?_cons_succ, List.getElem?_cons_zero]; exact rfl)
          go_simp
          refine hK.out _ _ ?_ (fun hHeld => ?_)
          · (repeat (first | exact Ext.refl _ | assumption | refine Ext.setCell ?_ (by first | (simp; done) | (simp; omega)) _ | refine Ext.drewN ?_ _ | refine Ext.alloc ?_ _ | refine Ext.drew ?_ | refine Ext.trans ?_ (by assumption)))
          clear hK K
          refine wpAnyH_done (by kernel_rfl) ?_ _
          refine NoPanic.normal ?_
          go_wp2_with fail
          go_meet
          case rel => exact ⟨w7.heap.size, w7.heap.size + 1, rfl, Bk.drew (Bk.alloc (Bk.new' rfl) _), Bk.drew (Bk.new' (by simp)), by omega, (by repeat (first | exact Ext.refl _ | assumption | refine Ext.setCell ?_ (by first | (simp; done) | (simp; omega)) _ | refine Ext.drewN ?_ _ | refine Ext.alloc ?_ _ | refine Ext.drew ?_ | refine Ext.trans ?_ (by assumption)))⟩
      case rest =>
        obtain ⟨hm, gm, rfl, kM, kG, hgm, hx9⟩ := hcut
        clear e0 e1 e2 e3 e4 mf
        have hC9 : CF wc gm N N (mixZ r le mo Wn Hn N u 0) := ⟨_, kG, Nat.le_refl _, by simp [flo], fun k hk => by rw [flo_get _ hk]; unfold mixZ; rw [if_neg (by omega)]⟩
        have hmg : hm ≠ gm := hC9.ne kM (by decide)
        clear kG
        have Hsub := hidA (fun k hk => crv_sub (l := u) HN.out hN6 HCv.out.1 HCv.out.2.1 HCv.out.2.2.1 HCv.out.2.2.2.1 HCv.out.2.2.2.2 hbd (k := k) hk)
        have hbdW : ∀ j, j < Wn * Hn → Bd 20 (u.getD j 0) := by rw [← HN.out]; exact hbd
        have Hsame := hidA (fun (a : Int) (k n : Nat) (hk : k < Wn * Hn) (hn : nxtD (drnC Wn Hn N u) Wn Hn k = some n) => dep_same (r := r) (le := le) (mo := mo) (a := a) (u := fun j => u.getD j 0) hbdW hk hn)
        have Hdrp := hidA (fun k hk => drp_ok (u := fun j => u.getD j 0) (D := drnC Wn Hn N u) (Wn := Wn) (Hn := Hn) (k := k) hbdW hk)
        have Hamt := hidA (fun k => gatV_le (tr := trC (drnC Wn Hn N u) Wn Hn) (N := N) (k := k))
        have hVc : ∀ w', Ext w7 w' → ∀ j, j < N → w'.cell? (ad.add j) = some (.float .f32 (u.getD j 0)) := fun w' h j hj => by
          have hjl : j < u.length := by rw [Hl.out]; exact hj
          have := (hV7.ext h).reads j _ (flt_get hjl)
          rw [this]
          simp [List.getD_eq_getElem?_getD, hjl]
        have HVc := hidA hVc
        clear hVc hbdW
        have c4 : wc.cell? ⟨h0, 4, none⟩ = some (.slice (some ad) N c) := (kF7.ext hx9).cell 4
        go_wp2_with fail
        clear c4
        go_loopw [42] (fun s42 wy => ∃ (k : Nat), k ≤ N ∧ s42 = .int .i64 k ∧ CF wy gm N N (mixZ r le mo Wn Hn N u k) ∧ Kept gm wc wy ∧ Ext w7 wy) (fun s42 _ => N - (intOf s42).toNat)
        case atStart => exact ⟨0, Nat.zero_le _, rfl, hC9, Kept.refl _ _, hx9⟩
        case round =>
          clear hC9
          obtain ⟨k, hk, rfl, hC, hKp, hx⟩ := hrel
          by_cases hkN : k < N
          · have i1 : (0 : Int) ≤ k := by omega
            have i2 : (k : Int) < N := by omega
            have Hs := Hsub.out k hkN
            have hkW : k < Wn * Hn := by rw [← HN.out]; exact hkN
            obtain ⟨hb22, _⟩ := Hdrp.out k hkW
            obtain ⟨a0, a1⟩ := Hamt.out k
            have hS10 : KQ w7 wc gm N N wr := ⟨hKp, hx, _, hC⟩
            have hC10 := hC
            have hgN : ∀ w', KQ w7 wc gm N N w' → w'.cell? ⟨ga, k, none⟩ = some (.int .i64 (gatV (trC (drnC Wn Hn N u) Wn Hn) (fun _ => 1) N k)) := fun w' h => (hG.ext h.2.1).cell hkN
            have m4 : ∀ w', KQ w7 wc gm N N w' → w'.cell? ⟨hm, 4, none⟩ = some (.slice (some ⟨gm, 0, none⟩) N N) := fun w' h => (h.1.2 _ _ _ hmg kM).cell 4
            have k0 : ∀ w', KQ w7 wc gm N N w' → w'.cell? ⟨hc, 0, none⟩ = some (.float .f32 r) := fun w' h => (kC7.ext h.2.1).cell 0
            have k1 : ∀ w', KQ w7 wc gm N N w' → w'.cell? ⟨hc, 1, none⟩ = some (.float .f32 le) := fun w' h => (kC7.ext h.2.1).cell 1
            have k2 : ∀ w', KQ w7 wc gm N N w' → w'.cell? ⟨hc, 2, none⟩ = some (.float .f32 mo) := fun w' h => (kC7.ext h.2.1).cell 2
            have k3 : ∀ w', KQ w7 wc gm N N w' → w'.cell? ⟨hc, 3, none⟩ = some (.int .i64 st) := fun w' h => (kC7.ext h.2.1).cell 3
            have fe : ∀ w', KQ w7 wc gm N N w' → w'.cell? ⟨gm, k, none⟩ = some (.float .f32 (cellF w' ⟨gm, k, none⟩)) := fun w' h => let ⟨_, hf⟩ := h.2.2; cellF_of (hf.cell hkN)
            have fz : ∀ w', KQ w7 wc gm N N w' → w'.frozen? ⟨gm, k, none⟩ = false := fun w' h => let ⟨_, hf⟩ := h.2.2; hf.frozen k
            have v0 := HVc.out wr hx k hkN
            have dz : ∀ w', KQ w7 wc gm N N w' → w'.cell? ⟨gd, k, none⟩ = some (.int .i64 (drnC Wn Hn N u k)) := fun w' h => by
              obtain ⟨a', e, _, hcell⟩ := (hD7.ext h.2.1).cell hkN
              cases e
              rwa [lit_add] at hcell
            have dz0 := dz wr hS10
            have c4 : wr.cell? ⟨h0, 4, none⟩ = some (.slice (some ad) N c) := (kF7.ext hx).cell 4
            have hmix := hidA (mixZ_step (r := r) (le := le) (mo := mo) (Wn := Wn) (Hn := Hn) (N := N) (l := u) (k := k))
            generalize gatV (trC (drnC Wn Hn N u) Wn Hn) (fun _ => 1) N k = a at *
            generalize crvF r le mo Wn Hn N u k = x at *
            by_cases hd0 : drnC Wn Hn N u k < 0
            · have hnx : nxtD (drnC Wn Hn N u) Wn Hn k = none := by unfold nxtD; rw [if_pos hd0]
              have hdp : drpF (fun j => u.getD j 0) (drnC Wn Hn N u) Wn Hn k = 0 := by unfold drpF; rw [hnx]
              rw [hdp] at hb22 Hs
              have hd1 : ¬ (0 ≤ drnC Wn Hn N u k) := by omega
              clear hdp hnx dz hd0
              generalize drnC Wn Hn N u k = z at dz0 hd1
              generalize u.getD k 0 = uk at *
              go_upto_region 16 with fail
              clear v0 dz0 c4 hC hKp hx
              have q1 := fun (w : World) => run_float_arith (P := Try.prog) w .sub 27 .f32 _ _ _ Hs
              have HDp := fun (w' : World) => hidA (depthOfW_any r le mo st a 0 w' HCv.out.1 hb22 (by omega))
              generalize depF r le mo a 0 = dp at *
              clear Hs hb22
              refine wp_region_noPanic ?_
              refine wp_region_held_drew (S := fun w' => KQ w7 wc gm N N w') (by kernel_rfl) ?_ (fun hHeld => ?_)
              · repeat (first | assumption | refine KQ.set ?_ (by assumption) _ _ | refine KQ.ext ?_ (by assumption) | refine KQ.ext ?_ (Ext.drew (Ext.refl _)))
              refine wpAnyH_take (i := 0) (oi := ?o14x0) (v := ?v14x0) ?hi14x0 (by kernel_rfl) ?hf14x0 ?hr14x0 (fun _ _ _ h => h) ?hy14x0 (by assumption) ?rest14x0
              case hi14x0 => (simp only [List.getElem?_toArray, List.getElem?_cons_zero]; exact rfl)
              case hf14x0 => kernel_rfl
              case hr14x0 => kernel_rfl
              case hy14x0 => (refine Or.inl ⟨by rfl, ?_⟩; intro w hSw; (try dsimp only at hSw); go_simp; try with_reducible rfl)
              simp only [put_mk, List.set_cons_succ, List.set_cons_zero]
              refine wpAnyH_take (i := 1) (oi := ?o14x1) (v := ?v14x1) ?hi14x1 (by kernel_rfl) ?hf14x1 ?hr14x1 (fun _ _ _ h => h) ?hy14x1 (by assumption) ?rest14x1
              case hi14x1 => (simp only [List.getElem?_toArray, List.getElem?_cons_succ, List.getElem?_cons_zero]; exact rfl)
              case hf14x1 => kernel_rfl
              case hr14x1 => kernel_rfl
              case hy14x1 => (refine Or.inl ⟨by rfl, ?_⟩; intro w hSw; (try dsimp only at hSw); go_simp; try with_reducible rfl)
              simp only [put_mk, List.set_cons_succ, List.set_cons_zero]
              refine wpAnyH_take (i := 2) (oi := ?o14x2) (v := ?v14x2) ?hi14x2 (by kernel_rfl) ?hf14x2 ?hr14x2 (fun _ _ _ h => h) ?hy14x2 (by assumption) ?rest14x2
              case hi14x2 => (simp only [List.getElem?_toArray, List.getElem?_cons_succ, List.getElem?_cons_zero]; exact rfl)
              case hf14x2 => kernel_rfl
              case hr14x2 => kernel_rfl
              case hy14x2 => (refine Or.inl ⟨by rfl, ?_⟩; intro w hSw; (try dsimp only at hSw); go_simp; try with_reducible rfl)
              simp only [put_mk, List.set_cons_succ, List.set_cons_zero]
              refine wpAnyH_take (i := 3) (oi := ?o14x3) (v := ?v14x3) ?hi14x3 (by kernel_rfl) ?hf14x3 ?hr14x3 (fun _ _ _ h => h) ?hy14x3 (by assumption) ?rest14x3
              case hi14x3 => (simp only [List.getElem?_toArray, List.getElem?_cons_succ, List.getElem?_cons_zero]; exact rfl)
              case hf14x3 => kernel_rfl
              case hr14x3 => kernel_rfl
              case hy14x3 => (refine Or.inl ⟨by rfl, ?_⟩; intro w hSw; (try dsimp only at hSw); go_simp; try with_reducible rfl)
              simp only [put_mk, List.set_cons_succ, List.set_cons_zero]
              refine wpAnyH_take (i := 4) (oi := ?o14x4) (v := ?v14x4) ?hi14x4 (by kernel_rfl) ?hf14x4 ?hr14x4 (fun _ _ _ h => h) ?hy14x4 (by assumption) ?rest14x4
              case hi14x4 => (simp only [List.getElem?_toArray, List.getElem?_cons_succ, List.getElem?_cons_zero]; exact rfl)
              case hf14x4 => kernel_rfl
              case hr14x4 => kernel_rfl
              case hy14x4 => (refine Or.inl ⟨by rfl, ?_⟩; intro w hSw; (try dsimp only at hSw); go_simp; try with_reducible rfl)
              simp only [put_mk, List.set_cons_succ, List.set_cons_zero]
              refine wpAnyH_take (i := 5) (oi := ?o14x5) (v := ?v14x5) ?hi14x5 (by kernel_rfl) ?hf14x5 ?hr14x5 (fun _ _ _ h => h) ?hy14x5 (by assumption) ?rest14x5
              case hi14x5 => (simp only [List.getElem?_toArray, List.getElem?_cons_succ, List.getElem?_cons_zero]; exact rfl)
              case hf14x5 => kernel_rfl
              case hr14x5 => kernel_rfl
              case hy14x5 => (refine Or.inl ⟨by rfl, ?_⟩; intro w hSw; (try dsimp only at hSw); go_simp; try with_reducible rfl)
              simp only [put_mk, List.set_cons_succ, List.set_cons_zero]
              refine wpAnyH_take (i := 6) (oi := ?o14x6) (v := ?v14x6) ?hi14x6 (by kernel_rfl) ?hf14x6 ?hr14x6 (fun _ _ _ h => h) ?hy14x6 (by assumption) ?rest14x6
              case hi14x6 => (simp only [List.getElem?_toArray, List.getElem?_cons_succ, List.getElem?_cons_zero]; exact rfl)
              case hf14x6 => kernel_rfl
              case hr14x6 => kernel_rfl
              case hy14x6 => (refine Or.inl ⟨by rfl, ?_⟩; intro w hSw; (try dsimp only at hSw); go_simp; try with_reducible rfl)
              simp only [put_mk, List.set_cons_succ, List.set_cons_zero]
              refine wpAnyH_take (i := 7) (oi := ?o14x7) (v := ?v14x7) ?hi14x7 (by kernel_rfl) ?hf14x7 ?hr14x7 (fun _ _ _ h => h) ?hy14x7 (by assumption) ?rest14x7
              case hi14x7 => (simp only [List.getElem?_toArray, List.getElem?_cons_succ, List.getElem?_cons_zero]; exact rfl)
              case hf14x7 => kernel_rfl
              case hr14x7 => kernel_rfl
              case hy14x7 => (refine Or.inl ⟨by rfl, ?_⟩; intro w hSw; (try dsimp only at hSw); go_simp; try with_reducible rfl)
              simp only [put_mk, List.set_cons_succ, List.set_cons_zero]
              refine wpAnyH_take (i := 8) (oi := ?o14x8) (v := ?v14x8) ?hi14x8 (by kernel_rfl) ?hf14x8 ?hr14x8 (fun _ _ _ h => h) ?hy14x8 (by assumption) ?rest14x8
              case hi14x8 => (simp only [List.getElem?_toArray, List.getElem?_cons_succ, List.getElem?_cons_zero]; exact rfl)
              case hf14x8 => kernel_rfl
              case hr14x8 => kernel_rfl
              case hy14x8 => (refine Or.inl ⟨by rfl, ?_⟩; intro w hSw; (try dsimp only at hSw); go_simp; try with_reducible rfl)
              simp only [put_mk, List.set_cons_succ, List.set_cons_zero]
              refine wpAnyH_take (i := 9) (oi := ?o14x9) (v := ?v14x9) ?hi14x9 (by kernel_rfl) ?hf14x9 ?hr14x9 (fun _ _ _ h => h) ?hy14x9 (by assumption) ?rest14x9
              case hi14x9 => (simp only [List.getElem?_toArray, List.getElem?_cons_succ, List.getElem?_cons_zero]; exact rfl)
              case hf14x9 => kernel_rfl
              case hr14x9 => kernel_rfl
              case hy14x9 => (refine Or.inl ⟨by rfl, ?_⟩; intro w hSw; (try dsimp only at hSw); go_simp; try with_reducible rfl)
              simp only [put_mk, List.set_cons_succ, List.set_cons_zero]
              refine wpAnyH_ready (rs := [10]) (by kernel_rfl) (by simp) ?_
              refine AllReadyH.cons (o := ?o14x10) ?hi14x10 (fun K hK => ?_) AllReadyH.nil
              case hi14x10 => (simp only [List.getElem?_toArray, List.getElem?_cons_succ, List.getElem?_cons_zero]; exact rfl)
              go_simp
              refine ((HDp _).out).mono ?_
              rintro e w17 ⟨rfl, hx17⟩
              refine hK.out _ _ ?_ (fun hHeld => ?_)
              · repeat (first | assumption | refine KQ.set ?_ (by assumption) _ _ | refine KQ.ext ?_ (by assumption) | refine KQ.ext ?_ (Ext.drew (Ext.refl _)))
              clear hK K
              refine wpAnyH_take (i := 11) (oi := ?o14x11) (v := ?v14x11) ?hi14x11 (by kernel_rfl) ?hf14x11 ?hr14x11 (fun _ _ _ h => h) ?hy14x11 (by assumption) ?rest14x11
              case hi14x11 => (simp only [List.getElem?_toArray, List.getElem?_cons_succ, List.getElem?_cons_zero]; exact rfl)
              case hf14x11 => kernel_rfl
              case hr14x11 => kernel_rfl
              case hy14x11 => (refine Or.inl ⟨by rfl, ?_⟩; intro w hSw; (try dsimp only at hSw); go_simp; try with_reducible rfl)
              simp only [put_mk, List.set_cons_succ, List.set_cons_zero]
              refine wpAnyH_take (i := 12) (oi := ?o14x12) (v := ?v14x12) ?hi14x12 (by kernel_rfl) ?hf14x12 ?hr14x12 (fun _ _ _ h => h) ?hy14x12 (by assumption) ?rest14x12
              case hi14x12 => (simp only [List.getElem?_toArray, List.getElem?_cons_succ, List.getElem?_cons_zero]; exact rfl)
              case hf14x12 => kernel_rfl
              case hr14x12 => kernel_rfl
              case hy14x12 => (refine Or.inl ⟨by rfl, ?_⟩; intro w hSw; (try dsimp only at hSw); go_simp; try with_reducible rfl)
              simp only [put_mk, List.set_cons_succ, List.set_cons_zero]
              refine wpAnyH_ready (rs := [13]) (by kernel_rfl) (by simp) ?_
              refine AllReadyH.cons (o := ?o14x13) ?hi14x13 (fun K hK => ?_) AllReadyH.nil
              case hi14x13 => (simp only [List.getElem?_toArray, List.getElem?_cons_succ, List.getElem?_cons_zero]; exact rfl)
              go_simp
              refine hK.out _ _ ?_ (fun hHeld => ?_)
              · repeat (first | assumption | refine KQ.set ?_ (by assumption) _ _ | refine KQ.ext ?_ (by assumption) | refine KQ.ext ?_ (Ext.drew (Ext.refl _)))
              clear hK K
              refine wpAnyH_done (by kernel_rfl) ?_ _
              refine NoPanic.normal ?_
              go_wp2_with fail
              go_roundw
              case rel =>
                have h := (hC10.ext (Ext.trans (Ext.drew (Ext.refl _)) hx17)).put k x
                rw [hmix.out] at h
                exact ⟨k + 1, by omega, by go_num, h, hHeld.1, hHeld.2.1⟩
              case measure => simp [intOf]; omega
            · obtain ⟨n, hnb, _⟩ := HLd.out.step k hkN (by omega)
              have hnx : nxtD (drnC Wn Hn N u) Wn Hn k = some n := by unfold nxtD; rw [if_neg hd0]; exact hnb
              have hnN : n < N := by rw [HN.out]; exact nxt_lt hnx
              have hrg := HLd.out.rng k hkN
              have HNk := fun (w : World) => HNb.out k (drnC Wn Hn N u k).toNat w hkN (by omega)
              rw [hnb, show nbI (some n) = (n : Int) from rfl, Int.toNat_of_nonneg (by omega)] at HNk
              have hfs := fsub_ok (hbd k hkN) (hbd n hnN) (by omega)
              have hb22' := hfs.2
              have q5 := fun (w : World) => run_float_arith (P := Try.prog) w .sub 27 .f32 _ _ _ hfs.1
              rw [← Hsame.out a k n hkW hnx] at Hs
              have j1 : (0 : Int) ≤ n := by omega
              have j2 : (n : Int) < N := by omega
              have hd1 : 0 ≤ drnC Wn Hn N u k := by omega
              have v1 : ∀ w', KQ w7 wc gm N N w' → w'.cell? (ad.add n) = some (.float .f32 (u.getD n 0)) := fun w' h => HVc.out w' h.2.1 n hnN
              have f0 : ∀ w', KQ w7 wc gm N N w' → w'.cell? ⟨h0, 0, none⟩ = some (.int .i64 X) := fun w' h => (kF7.ext h.2.1).cell 0
              have f1 : ∀ w', KQ w7 wc gm N N w' → w'.cell? ⟨h0, 1, none⟩ = some (.int .i64 Y) := fun w' h => (kF7.ext h.2.1).cell 1
              have f2 : ∀ w', KQ w7 wc gm N N w' → w'.cell? ⟨h0, 2, none⟩ = some (.int .i64 (Wn : Int)) := fun w' h => (kF7.ext h.2.1).cell 2
              have f3 : ∀ w', KQ w7 wc gm N N w' → w'.cell? ⟨h0, 3, none⟩ = some (.int .i64 (Hn : Int)) := fun w' h => (kF7.ext h.2.1).cell 3
              have f4 : ∀ w', KQ w7 wc gm N N w' → w'.cell? ⟨h0, 4, none⟩ = some (.slice (some ad) N c) := fun w' h => (kF7.ext h.2.1).cell 4
              clear hb22 hnb hnx hrg hd0 hfs
              have hb22 := hb22'
              clear hb22'
              generalize fsub (u.getD k 0) (u.getD n 0) = dv at *
              generalize u.getD n 0 = un at *
              generalize u.getD k 0 = uk at *
              generalize drnC Wn Hn N u k = z at *
              go_upto_region 15 with fail
              clear dz0 c4 v0
              refine wp_region_noPanic ?_
              refine wp_region_held_drew (S := fun w' => KQ w7 wc gm N N w') (by kernel_rfl) ?_ (fun hHeld => ?_)
              · repeat (first | assumption | refine KQ.set ?_ (by assumption) _ _ | refine KQ.ext ?_ (by assumption) | refine KQ.ext ?_ (Ext.drew (Ext.refl _)))
              refine wpAnyH_take (i := 0) (oi := ?o15x0) (v := ?v15x0) ?hi15x0 (by kernel_rfl) ?hf15x0 ?hr15x0 (fun _ _ _ h => h) ?hy15x0 (by assumption) ?rest15x0
              case hi15x0 => (simp only [List.getElem?_toArray, List.getElem?_cons_zero]; exact rfl)
              case hf15x0 => kernel_rfl
              case hr15x0 => kernel_rfl
              case hy15x0 => (refine Or.inl ⟨by rfl, ?_⟩; intro w hSw; (try dsimp only at hSw); go_simp; try with_reducible rfl)
              simp only [put_mk, List.set_cons_succ, List.set_cons_zero]
              refine wpAnyH_take (i := 1) (oi := ?o15x1) (v := ?v15x1) ?hi15x1 (by kernel_rfl) ?hf15x1 ?hr15x1 (fun _ _ _ h => h) ?hy15x1 (by assumption) ?rest15x1
              case hi15x1 => (simp only [List.getElem?_toArray, List.getElem?_cons_succ, List.getElem?_cons_zero]; exact rfl)
              case hf15x1 => kernel_rfl
              case hr15x1 => kernel_rfl
              case hy15x1 => (refine Or.inl ⟨by rfl, ?_⟩; intro w hSw; (try dsimp only at hSw); go_simp; try with_reducible rfl)
              simp only [put_mk, List.set_cons_succ, List.set_cons_zero]
              refine wpAnyH_take (i := 2) (oi := ?o15x2) (v := ?v15x2) ?hi15x2 (by kernel_rfl) ?hf15x2 ?hr15x2 (fun _ _ _ h => h) ?hy15x2 (by assumption) ?rest15x2
              case hi15x2 => (simp only [List.getElem?_toArray, List.getElem?_cons_succ, List.getElem?_cons_zero]; exact rfl)
              case hf15x2 => kernel_rfl
              case hr15x2 => kernel_rfl
              case hy15x2 => (refine Or.inl ⟨by rfl, ?_⟩; intro w hSw; (try dsimp only at hSw); go_simp; try with_reducible rfl)
              simp only [put_mk, List.set_cons_succ, List.set_cons_zero]
              refine wpAnyH_take (i := 3) (oi := ?o15x3) (v := ?v15x3) ?hi15x3 (by kernel_rfl) ?hf15x3 ?hr15x3 (fun _ _ _ h => h) ?hy15x3 (by assumption) ?rest15x3
              case hi15x3 => (simp only [List.getElem?_toArray, List.getElem?_cons_succ, List.getElem?_cons_zero]; exact rfl)
              case hf15x3 => kernel_rfl
              case hr15x3 => kernel_rfl
              case hy15x3 => (refine Or.inl ⟨by rfl, ?_⟩; intro w hSw; (try dsimp only at hSw); go_simp; try with_reducible rfl)
              simp only [put_mk, List.set_cons_succ, List.set_cons_zero]
              refine wpAnyH_take (i := 4) (oi := ?o15x4) (v := ?v15x4) ?hi15x4 (by kernel_rfl) ?hf15x4 ?hr15x4 (fun _ _ _ h => h) ?hy15x4 (by assumption) ?rest15x4
              case hi15x4 => (simp only [List.getElem?_toArray, List.getElem?_cons_succ, List.getElem?_cons_zero]; exact rfl)
              case hf15x4 => kernel_rfl
              case hr15x4 => kernel_rfl
              case hy15x4 => (refine Or.inl ⟨by rfl, ?_⟩; intro w hSw; (try dsimp only at hSw); go_simp; try with_reducible rfl)
              simp only [put_mk, List.set_cons_succ, List.set_cons_zero]
              refine wpAnyH_take (i := 5) (oi := ?o15x5) (v := ?v15x5) ?hi15x5 (by kernel_rfl) ?hf15x5 ?hr15x5 (fun _ _ _ h => h) ?hy15x5 (by assumption) ?rest15x5
              case hi15x5 => (simp only [List.getElem?_toArray, List.getElem?_cons_succ, List.getElem?_cons_zero]; exact rfl)
              case hf15x5 => kernel_rfl
              case hr15x5 => kernel_rfl
              case hy15x5 => (refine Or.inl ⟨by rfl, ?_⟩; intro w hSw; (try dsimp only at hSw); go_simp; try with_reducible rfl)
              simp only [put_mk, List.set_cons_succ, List.set_cons_zero]
              refine wpAnyH_take (i := 6) (oi := ?o15x6) (v := ?v15x6) ?hi15x6 (by kernel_rfl) ?hf15x6 ?hr15x6 (fun _ _ _ h => h) ?hy15x6 (by assumption) ?rest15x6
              case hi15x6 => (simp only [List.getElem?_toArray, List.getElem?_cons_succ, List.getElem?_cons_zero]; exact rfl)
              case hf15x6 => kernel_rfl
              case hr15x6 => kernel_rfl
              case hy15x6 => (refine Or.inl ⟨by rfl, ?_⟩; intro w hSw; (try dsimp only at hSw); go_simp; try with_reducible rfl)
              simp only [put_mk, List.set_cons_succ, List.set_cons_zero]
              refine wpAnyH_take (i := 7) (oi := ?o15x7) (v := ?v15x7) ?hi15x7 (by kernel_rfl) ?hf15x7 ?hr15x7 (fun _ _ _ h => h) ?hy15x7 (by assumption) ?rest15x7
              case hi15x7 => (simp only [List.getElem?_toArray, List.getElem?_cons_succ, List.getElem?_cons_zero]; exact rfl)
              case hf15x7 => kernel_rfl
              case hr15x7 => kernel_rfl
              case hy15x7 => (refine Or.inl ⟨by rfl, ?_⟩; intro w hSw; (try dsimp only at hSw); go_simp; try with_reducible rfl)
              simp only [put_mk, List.set_cons_succ, List.set_cons_zero]
              refine wpAnyH_take (i := 8) (oi := ?o15x8) (v := ?v15x8) ?hi15x8 (by kernel_rfl) ?hf15x8 ?hr15x8 (fun _ _ _ h => h) ?hy15x8 (by assumption) ?rest15x8
              case hi15x8 => (simp only [List.getElem?_toArray, List.getElem?_cons_succ, List.getElem?_cons_zero]; exact rfl)
              case hf15x8 => kernel_rfl
              case hr15x8 => kernel_rfl
              case hy15x8 => (refine Or.inl ⟨by rfl, ?_⟩; intro w hSw; (try dsimp only at hSw); go_simp; try with_reducible rfl)
              simp only [put_mk, List.set_cons_succ, List.set_cons_zero]
              refine wpAnyH_take (i := 9) (oi := ?o15x9) (v := ?v15x9) ?hi15x9 (by kernel_rfl) ?hf15x9 ?hr15x9 (fun _ _ _ h => h) ?hy15x9 (by assumption) ?rest15x9
              case hi15x9 => (simp only [List.getElem?_toArray, List.getElem?_cons_succ, List.getElem?_cons_zero]; exact rfl)
              case hf15x9 => kernel_rfl
              case hr15x9 => kernel_rfl
              case hy15x9 => (refine Or.inl ⟨by rfl, ?_⟩; intro w hSw; (try dsimp only at hSw); go_simp; try with_reducible rfl)
              simp only [put_mk, List.set_cons_succ, List.set_cons_zero]
              refine wpAnyH_ready (rs := [10]) (by kernel_rfl) (by simp) ?_
              refine AllReadyH.cons (o := ?o15x10) ?hi15x10 (fun K hK => ?_) AllReadyH.nil
              case hi15x10 => (simp only [List.getElem?_toArray, List.getElem?_cons_succ, List.getElem?_cons_zero]; exact rfl)
              go_simp
              refine (HNk _).mono ?_
              rintro e w16 ⟨rfl, hx16⟩
              refine hK.out _ _ ?_ (fun hHeld => ?_)
              · repeat (first | assumption | refine KQ.set ?_ (by assumption) _ _ | refine KQ.ext ?_ (by assumption) | refine KQ.ext ?_ (Ext.drew (Ext.refl _)))
              clear hK K
              refine wpAnyH_take (i := 11) (oi := ?o15x11) (v := ?v15x11) ?hi15x11 (by kernel_rfl) ?hf15x11 ?hr15x11 (fun _ _ _ h => h) ?hy15x11 (by assumption) ?rest15x11
              case hi15x11 => (simp only [List.getElem?_toArray, List.getElem?_cons_succ, List.getElem?_cons_zero]; exact rfl)
              case hf15x11 => kernel_rfl
              case hr15x11 => kernel_rfl
              case hy15x11 => (refine Or.inl ⟨by rfl, ?_⟩; intro w hSw; (try dsimp only at hSw); go_simp; try with_reducible rfl)
              simp only [put_mk, List.set_cons_succ, List.set_cons_zero]
              refine wpAnyH_take (i := 12) (oi := ?o15x12) (v := ?v15x12) ?hi15x12 (by kernel_rfl) ?hf15x12 ?hr15x12 (fun _ _ _ h => h) ?hy15x12 (by assumption) ?rest15x12
              case hi15x12 => (simp only [List.getElem?_toArray, List.getElem?_cons_succ, List.getElem?_cons_zero]; exact rfl)
              case hf15x12 => kernel_rfl
              case hr15x12 => kernel_rfl
              case hy15x12 => (refine Or.inl ⟨by rfl, ?_⟩; intro w hSw; (try dsimp only at hSw); go_simp; try with_reducible rfl)
              simp only [put_mk, List.set_cons_succ, List.set_cons_zero]
              refine wpAnyH_take (i := 13) (oi := ?o15x13) (v := ?v15x13) ?hi15x13 (by kernel_rfl) ?hf15x13 ?hr15x13 (fun _ _ _ h => h) ?hy15x13 (by assumption) ?rest15x13
              case hi15x13 => (simp only [List.getElem?_toArray, List.getElem?_cons_succ, List.getElem?_cons_zero]; exact rfl)
              case hf15x13 => kernel_rfl
              case hr15x13 => kernel_rfl
              case hy15x13 => (refine Or.inl ⟨by rfl, ?_⟩; intro w hSw; (try dsimp only at hSw); go_simp; try with_reducible rfl)
              simp only [put_mk, List.set_cons_succ, List.set_cons_zero]
              refine wpAnyH_take (i := 14) (oi := ?o15x14) (v := ?v15x14) ?hi15x14 (by kernel_rfl) ?hf15x14 ?hr15x14 (fun _ _ _ h => h) ?hy15x14 (by assumption) ?rest15x14
              case hi15x14 => (simp only [List.getElem?_toArray, List.getElem?_cons_succ, List.getElem?_cons_zero]; exact rfl)
              case hf15x14 => kernel_rfl
              case hr15x14 => kernel_rfl
              case hy15x14 => (refine Or.inl ⟨by rfl, ?_⟩; intro w hSw; (try dsimp only at hSw); go_simp; try with_reducible rfl)
              simp only [put_mk, List.set_cons_succ, List.set_cons_zero]
              refine wpAnyH_done (by kernel_rfl) ?_ _
              refine NoPanic.normal ?_
              go_upto_region 16 with fail
              have hS10 := hHeld
              have hC10 := hC10.ext ((Ext.drew (Ext.refl _)).trans hx16)
              clear f0 f1 f2 f3 f4 v1 dz q5 hC hKp hx hx16 HNk
              have q1 := fun (w : World) => run_float_arith (P := Try.prog) w .sub 27 .f32 _ _ _ Hs
              have HDp := fun (w' : World) => hidA (depthOfW_any r le mo st a dv w' HCv.out.1 hb22 (by omega))
              generalize depF r le mo a dv = dp at *
              clear Hs hb22
              refine wp_region_noPanic ?_
              refine wp_region_held_drew (S := fun w' => KQ w7 wc gm N N w') (by kernel_rfl) ?_ (fun hHeld => ?_)
              · repeat (first | assumption | refine KQ.set ?_ (by assumption) _ _ | refine KQ.ext ?_ (by assumption) | refine KQ.ext ?_ (Ext.drew (Ext.refl _)))
              refine wpAnyH_take (i := 0) (oi := ?o16x0) (v := ?v16x0) ?hi16x0 (by kernel_rfl) ?hf16x0 ?hr16x0 (fun _ _ _ h => h) ?hy16x0 (by assumption) ?rest16x0
              case hi16x0 => (simp only [List.getElem?_toArray, List.getElem?_cons_zero]; exact rfl)
              case hf16x0 => kernel_rfl
              case hr16x0 => kernel_rfl
              case hy16x0 => (refine Or.inl ⟨by rfl, ?_⟩; intro w hSw; (try dsimp only at hSw); go_simp; try with_reducible rfl)
              simp only [put_mk, List.set_cons_succ, List.set_cons_zero]
              refine wpAnyH_take (i := 1) (oi := ?o16x1) (v := ?v16x1) ?hi16x1 (by kernel_rfl) ?hf16x1 ?hr16x1 (fun _ _ _ h => h) ?hy16x1 (by assumption) ?rest16x1
              case hi16x1 => (simp only [List.getElem?_toArray, List.getElem?_cons_succ, List.getElem?_cons_zero]; exact rfl)
              case hf16x1 => kernel_rfl
              case hr16x1 => kernel_rfl
              case hy16x1 => (refine Or.inl ⟨by rfl, ?_⟩; intro w hSw; (try dsimp only at hSw); go_simp; try with_reducible rfl)
              simp only [put_mk, List.set_cons_succ, List.set_cons_zero]
              refine wpAnyH_take (i := 2) (oi := ?o16x2) (v := ?v16x2) ?hi16x2 (by kernel_rfl) ?hf16x2 ?hr16x2 (fun _ _ _ h => h) ?hy16x2 (by assumption) ?rest16x2
              case hi16x2 => (simp only [List.getElem?_toArray, List.getElem?_cons_succ, List.getElem?_cons_zero]; exact rfl)
              case hf16x2 => kernel_rfl
              case hr16x2 => kernel_rfl
              case hy16x2 => (refine Or.inl ⟨by rfl, ?_⟩; intro w hSw; (try dsimp only at hSw); go_simp; try with_reducible rfl)
              simp only [put_mk, List.set_cons_succ, List.set_cons_zero]
              refine wpAnyH_take (i := 3) (oi := ?o16x3) (v := ?v16x3) ?hi16x3 (by kernel_rfl) ?hf16x3 ?hr16x3 (fun _ _ _ h => h) ?hy16x3 (by assumption) ?rest16x3
              case hi16x3 => (simp only [List.getElem?_toArray, List.getElem?_cons_succ, List.getElem?_cons_zero]; exact rfl)
              case hf16x3 => kernel_rfl
              case hr16x3 => kernel_rfl
              case hy16x3 => (refine Or.inl ⟨by rfl, ?_⟩; intro w hSw; (try dsimp only at hSw); go_simp; try with_reducible rfl)
              simp only [put_mk, List.set_cons_succ, List.set_cons_zero]
              refine wpAnyH_take (i := 4) (oi := ?o16x4) (v := ?v16x4) ?hi16x4 (by kernel_rfl) ?hf16x4 ?hr16x4 (fun _ _ _ h => h) ?hy16x4 (by assumption) ?rest16x4
              case hi16x4 => (simp only [List.getElem?_toArray, List.getElem?_cons_succ, List.getElem?_cons_zero]; exact rfl)
              case hf16x4 => kernel_rfl
              case hr16x4 => kernel_rfl
              case hy16x4 => (refine Or.inl ⟨by rfl, ?_⟩; intro w hSw; (try dsimp only at hSw); go_simp; try with_reducible rfl)
              simp only [put_mk, List.set_cons_succ, List.set_cons_zero]
              refine wpAnyH_take (i := 5) (oi := ?o16x5) (v := ?v16x5) ?hi16x5 (by kernel_rfl) ?hf16x5 ?hr16x5 (fun _ _ _ h => h) ?hy16x5 (by assumption) ?rest16x5
              case hi16x5 => (simp only [List.getElem?_toArray, List.getElem?_cons_succ, List.getElem?_cons_zero]; exact rfl)
              case hf16x5 => kernel_rfl
              case hr16x5 => kernel_rfl
              case hy16x5 => (refine Or.inl ⟨by rfl, ?_⟩; intro w hSw; (try dsimp only at hSw); go_simp; try with_reducible rfl)
              simp only [put_mk, List.set_cons_succ, List.set_cons_zero]
              refine wpAnyH_take (i := 6) (oi := ?o16x6) (v := ?v16x6) ?hi16x6 (by kernel_rfl) ?hf16x6 ?hr16x6 (fun _ _ _ h => h) ?hy16x6 (by assumption) ?rest16x6
              case hi16x6 => (simp only [List.getElem?_toArray, List.getElem?_cons_succ, List.getElem?_cons_zero]; exact rfl)
              case hf16x6 => kernel_rfl
              case hr16x6 => kernel_rfl
              case hy16x6 => (refine Or.inl ⟨by rfl, ?_⟩; intro w hSw; (try dsimp only at hSw); go_simp; try with_reducible rfl)
              simp only [put_mk, List.set_cons_succ, List.set_cons_zero]
              refine wpAnyH_take (i := 7) (oi := ?o16x7) (v := ?v16x7) ?hi16x7 (by kernel_rfl) ?hf16x7 ?hr16x7 (fun _ _ _ h => h) ?hy16x7 (by assumption) ?rest16x7
              case hi16x7 => (simp only [List.getElem?_toArray, List.getElem?_cons_succ, List.getElem?_cons_zero]; exact rfl)
              case hf16x7 => kernel_rfl
              case hr16x7 => kernel_rfl
              case hy16x7 => (refine Or.inl ⟨by rfl, ?_⟩; intro w hSw; (try dsimp only at hSw); go_simp; try with_reducible rfl)
              simp only [put_mk, List.set_cons_succ, List.set_cons_zero]
              refine wpAnyH_take (i := 8) (oi := ?o16x8) (v := ?v16x8) ?hi16x8 (by kernel_rfl) ?hf16x8 ?hr16x8 (fun _ _ _ h => h) ?hy16x8 (by assumption) ?rest16x8
              case hi16x8 => (simp only [List.getElem?_toArray, List.getElem?_cons_succ, List.getElem?_cons_zero]; exact rfl)
              case hf16x8 => kernel_rfl
              case hr16x8 => kernel_rfl
              case hy16x8 => (refine Or.inl ⟨by rfl, ?_⟩; intro w hSw; (try dsimp only at hSw); go_simp; try with_reducible rfl)
              simp only [put_mk, List.set_cons_succ, List.set_cons_zero]
              refine wpAnyH_take (i := 9) (oi := ?o16x9) (v := ?v16x9) ?hi16x9 (by kernel_rfl) ?hf16x9 ?hr16x9 (fun _ _ _ h => h) ?hy16x9 (by assumption) ?rest16x9
              case hi16x9 => (simp only [List.getElem?_toArray, List.getElem?_cons_succ, List.getElem?_cons_zero]; exact rfl)
              case hf16x9 => kernel_rfl
              case hr16x9 => kernel_rfl
              case hy16x9 => (refine Or.inl ⟨by rfl, ?_⟩; intro w hSw; (try dsimp only at hSw); go_simp; try with_reducible rfl)
              simp only [put_mk, List.set_cons_succ, List.set_cons_zero]
              refine wpAnyH_ready (rs := [10]) (by kernel_rfl) (by simp) ?_
              refine AllReadyH.cons (o := ?o16x10) ?hi16x10 (fun K hK => ?_) AllReadyH.nil
              case hi16x10 => (simp only [List.getElem?_toArray, List.getElem?_cons_succ, List.getElem?_cons_zero]; exact rfl)
              go_simp
              refine ((HDp _).out).mono ?_
              rintro e w17 ⟨rfl, hx17⟩
              refine hK.out _ _ ?_ (fun hHeld => ?_)
              · repeat (first | assumption | refine KQ.set ?_ (by assumption) _ _ | refine KQ.ext ?_ (by assumption) | refine KQ.ext ?_ (Ext.drew (Ext.refl _)))
              clear hK K
              refine wpAnyH_take (i := 11) (oi := ?o16x11) (v := ?v16x11) ?hi16x11 (by kernel_rfl) ?hf16x11 ?hr16x11 (fun _ _ _ h => h) ?hy16x11 (by assumption) ?rest16x11
              case hi16x11 => (simp only [List.getElem?_toArray, List.getElem?_cons_succ, List.getElem?_cons_zero]; exact rfl)
              case hf16x11 => kernel_rfl
              case hr16x11 => kernel_rfl
              case hy16x11 => (refine Or.inl ⟨by rfl, ?_⟩; intro w hSw; (try dsimp only at hSw); go_simp; try with_reducible rfl)
              simp only [put_mk, List.set_cons_succ, List.set_cons_zero]
              refine wpAnyH_take (i := 12) (oi := ?o16x12) (v := ?v16x12) ?hi16x12 (by kernel_rfl) ?hf16x12 ?hr16x12 (fun _ _ _ h => h) ?hy16x12 (by assumption) ?rest16x12
              case hi16x12 => (simp only [List.getElem?_toArray, List.getElem?_cons_succ, List.getElem?_cons_zero]; exact rfl)
              case hf16x12 => kernel_rfl
              case hr16x12 => kernel_rfl
              case hy16x12 => (refine Or.inl ⟨by rfl, ?_⟩; intro w hSw; (try dsimp only at hSw); go_simp; try with_reducible rfl)
              simp only [put_mk, List.set_cons_succ, List.set_cons_zero]
              refine wpAnyH_ready (rs := [13]) (by kernel_rfl) (by simp) ?_
              refine AllReadyH.cons (o := ?o16x13) ?hi16x13 (fun K hK => ?_) AllReadyH.nil
              case hi16x13 => (simp only [List.getElem?_toArray, List.getElem?_cons_succ, List.getElem?_cons_zero]; exact rfl)
              go_simp
              refine hK.out _ _ ?_ (fun hHeld => ?_)
              · repeat (first | assumption | refine KQ.set ?_ (by assumption) _ _ | refine KQ.ext ?_ (by assumption) | refine KQ.ext ?_ (Ext.drew (Ext.refl _)))
              clear hK K
              refine wpAnyH_done (by kernel_rfl) ?_ _
              refine NoPanic.normal ?_
              go_wp2_with fail
              go_roundw
              case rel =>
                have h := (hC10.ext (Ext.trans (Ext.drew (Ext.refl _)) hx17)).put k x
                rw [hmix.out] at h
                exact ⟨k + 1, by omega, by go_num, h, hHeld.1, hHeld.2.1⟩
              case measure => simp [intOf]; omega
          · obtain rfl : N = k := by omega
            have hmb := hKp.2 _ _ _ hmg kM
            have hzb := kZ7.ext hx
            have hgz : gm ≠ hz := fun e => hC.ne hzb (by decide) e.symm
            have HCf := hidA (hC.congr (v' := fun j => (crvL r le mo Wn Hn N u).getD j 0) fun k hk => by unfold mixZ; rw [if_pos hk, crv_get hk])
            have hx5 := hidA (hx7w.trans hx)
            have m0 := hmb.cell 0
            have m1 := hmb.cell 1
            have m2 := hmb.cell 2
            have m3 := hmb.cell 3
            have m4 : wr.cell? ⟨hm, 4, none⟩ = some (.slice (some ⟨gm, 0, none⟩) N N) := hmb.cell 4
            have z0 := hzb.cell 0
            have z1 := hzb.cell 1
            have z2 := hzb.cell 2
            have z3 := hzb.cell 3
            have z4 := hzb.cell 4
            have y0 := hzb.frozen 0
            have y1 := hzb.frozen 1
            have y2 := hzb.frozen 2
            have y3 := hzb.frozen 3
            have y4 := hzb.frozen 4
            clear hC hKp hx hG Hsub Hsame Hdrp Hamt HVc
            go_wp2_with fail
            refine bodyPost_ret (v := .agg #[.int .i64 X, .int .i64 Y, .int .i64 (Wn : Int), .int .i64 (Hn : Int), .slice (some ⟨gm, 0, none⟩) N N]) (by simp [results, Try.results79, go_sem, z0, z1, z2, z3, z4]) rfl ?_
            refine ⟨gm, N, rfl, ?_, ?_⟩
            · have hB4 := HCf.out
              repeat (first | (with_reducible exact hB4) | (with_reducible refine CF.far ?_ hgz _))
            · have h5 := hx5.out
              repeat (first | (with_reducible exact h5) | (with_reducible refine Ext.setCell ?_ Hz.out _))
end Go.Proofs.Ytinohfgokpbcdaa
