/- How the arguments lie: fields, regions, points, numbers, slices of numbers. -/
import Derived.Test.YtepgfplbkmhgbaaTcAL
import Derived.Test.YtepgfplbkmhgbaaTcAE
import Derived.RegionTactic
import Derived.Deep.DeepCutAuto
import Derived.Test.YtepgfplbkmhgbaaRows
import Derived.Test.YtepgfplbkmhgbaaBaseC
import Derived.WalkKit
import Derived.ProofKit
import Derived.OpenShut
import Derived.SizedLaws
import Derived.Carry
import Derived.Lib.SmallJoins
import Derived.Deep.Slices
namespace Go.Proofs.Ytepgfplbkmhgbaa
open Go.RowKit
attribute [local go_sem ↓] Go.wp_at_zero Go.wp_at_succ
attribute [local go_sem] run_store_float

theorem flt_getD {l : List Nat} {k : Nat} (hk : k < l.length) : l[k] = l.getD k 0 := by simp [List.getD_eq_getElem?_getD, hk]
set_option maxRecDepth 100000 in
set_option maxHeartbeats 6400000 in
theorem tcarve_good (X Y : Int) (Wn Hn N : Nat) (A : Option Addr) (c r le mo : Nat) (st : Int) (l : List Nat) (w : World) (hr : Reg X Y Wn Hn) (hN : N = Wn * Hn) (hn : l.length = N) (hd : Rd w A (flt l)) (hf : fieldE X Y Wn Hn l = 0) (hs : carvE r le mo 1 = 0) :
    Calls Try.prog 5 #[.agg #[.int .i64 X, .int .i64 Y, .int .i64 (Wn : Int), .int .i64 (Hn : Int), .slice A N c], .agg #[.float .f32 r, .float .f32 le, .float .f32 mo, .int .i64 st]] w fun e w' => e = .returned (.bool true) ∧ Ext w w' := by
  have hN6 : N ≤ 65536 := by rw [hN]; exact hr.n
  have hN1 : 1 ≤ N := by rw [hN]; exact Nat.mul_pos hr.w1 hr.h1
  have hr0 := (field_reg hf).1
  have hbd := getD_bd hn (fun x hx => hgt_bd ((numE_zero (field_reg hf).2.2).2 x hx))
  obtain ⟨r1, r2, r3, r4, r5, _, _⟩ := carv_ok hs
  obtain ⟨ad, rfl, hadb, _⟩ := hd.at (k := 0) (by rw [flt_length]; omega)
  clear hadb
  have HD := fun (w : World) (h : Rd w (some ad) (flt l)) => hidA (Drain_ok X Y Wn Hn N (some ad) c l w hr hN hn h hf)
  have HK := fun (w : World) (h : Rd w (some ad) (flt l)) => hidA (Carve_ok X Y Wn Hn N (some ad) c r le mo 1 l w hr hN hn h hf hs)
  have HW := fun (w : World) => hidA (landed_any w)
  have Hov := hidA (fun (k : Nat) (hk : k < N) => crv_not_over hN hN6 r1 r2 r3 r4 r5 hbd hk)
  have Hun := hidA (fun (k n : Nat) (hk : k < N) (hnx : nxtD (drnC Wn Hn N l) Wn Hn k = some n) => crv_not_under hN hN6 r1 r2 r3 r4 r5 hbd hk hnx (minW_ok (hbd k hk) (hbd n (by rw [hN]; exact nxt_lt hnx))).1 (minW_ok (hbd k hk) (hbd n (by rw [hN]; exact nxt_lt hnx))).2)
  obtain ⟨F, hF⟩ : ∃ F, F = crvF r le mo Wn Hn N l := ⟨_, rfl⟩
  have HFe := hidA (fun (j : Nat) (hj : j < N) => show (crvI r le mo Wn Hn N l (1 : Int).toNat).getD j 0 = F j by rw [hF]; exact crv_get hj)
  rw [← hF] at Hov Hun
  obtain ⟨D, hDe⟩ : ∃ D, D = drnC Wn Hn N l := ⟨_, rfl⟩
  have Hlead := hidA (fun (v : Nat → Nat) (hL : LeastG Wn Hn (fun k => l.getD k 0) 0 (fun k => valI (v k))) => drnC_lead hr.w1 hN hN1 hbd hL)
  have Heq := hidA (fun (v : Nat → Nat) (hL : LeastG Wn Hn (fun k => l.getD k 0) 0 (fun k => valI (v k))) => drnC_eq hN hbd hL)
  rw [← hDe] at Hlead Heq Hun
  have HNx := hidA (fun (gd k : Nat) (m : Nat → Nat) (w : World) (hk : k < N) (hD : DirsAt w (some ⟨gd, 0, none⟩) N D) (hL : Lead Wn Hn N D m) => Next_ok X Y Wn Hn N N k (some ⟨gd, 0, none⟩) D m w hr hr0 hN hD hL hk)
  unfold rgv at HNx
  have Hbd := hidA hbd
  have HN := hidA hN
  have Hr := hidA hr
  have Hln := hidA hn
  clear hr0 hbd hDe hf hs hn hN hr hF r1 r2 r3 r4 r5
  have kF : Bk ((w.alloc (.cells #[.int .i64 X, .int .i64 Y, .int .i64 (Wn : Int), .int .i64 (Hn : Int), .slice (some ad) N c] 26)).alloc (.cells #[.float .f32 r, .float .f32 le, .float .f32 mo, .int .i64 st] 51)) w.heap.size 26 #[.int .i64 X, .int .i64 Y, .int .i64 (Wn : Int), .int .i64 (Hn : Int), .slice (some ad) N c] := (Bk.new' rfl).alloc _
  have kC : Bk ((w.alloc (.cells #[.int .i64 X, .int .i64 Y, .int .i64 (Wn : Int), .int .i64 (Hn : Int), .slice (some ad) N c] 26)).alloc (.cells #[.float .f32 r, .float .f32 le, .float .f32 mo, .int .i64 st] 51)) (w.heap.size + 1) 51 #[.float .f32 r, .float .f32 le, .float .f32 mo, .int .i64 st] := Bk.new' (by simp)
  have hx0 : Ext w ((w.alloc (.cells #[.int .i64 X, .int .i64 Y, .int .i64 (Wn : Int), .int .i64 (Hn : Int), .slice (some ad) N c] 26)).alloc (.cells #[.float .f32 r, .float .f32 le, .float .f32 mo, .int .i64 st] 51)) := ((Ext.refl w).alloc _).alloc _
  have hne : w.heap.size ≠ w.heap.size + 1 := by omega
  have hle : w.heap.size ≤ w.heap.size + 1 := by omega
  go_enter Try.func5, Try.ntmps5
  go_upto_region 3 with (go_at_call 6; refine ((HW _).out).mono ?_; rintro e w1 ⟨rfl, hx1⟩)
  have kF1 := kF.ext hx1
  have kC1 := kC.ext hx1
  have hx1' := hx0.trans hx1
  clear kF kC hx0 hx1 HW
  generalize w.heap.size + 1 = hc at *
  have hcF := kF1.far (p := ⟨hc, 3, none⟩) hne (.int .i64 1)
  have hcC : Bk (w1.setCell ⟨hc, 3, none⟩ (.int .i64 1)) hc 51 #[.float .f32 r, .float .f32 le, .float .f32 mo, .int .i64 1] := by simpa using kC1.set 3 (.int .i64 1)
  have hxc := hx1'.setCell (p := ⟨hc, 3, none⟩) hle (.int .i64 1)
  have y3 := kC1.frozen 3
  have z3 := kC1.cell 3
  go_upto_region 4 with fail
  clear y3 z3 kF1 kC1 hx1'
  generalize w1.setCell ⟨hc, 3, none⟩ (.int .i64 1) = w2 at *
  generalize w.heap.size = h0 at *
  have c0 := hcF.cell 0
  have c1 := hcF.cell 1
  have c2 := hcF.cell 2
  have c3 := hcF.cell 3
  have c4 := hcF.cell 4
  go_upto_region 5 with (go_at_call 8; refine ((HD _ (hd.ext hxc)).out).mono ?_; rintro e w3 ⟨gd, vf, rfl, hL, hB, hx3⟩)
  have hDs : DirsAt w3 (some ⟨gd, 0, none⟩) N D := by
    have e : intB N (drnV vf (rkV vf Wn Hn (N - 1)) Wn Hn) = intB N D := by unfold intB; congr 1; refine List.map_congr_left fun k hk => ?_; rw [Heq.out vf hL k (List.mem_range.1 hk)]
    rw [e] at hB
    exact DirsAt.of_bk hB
  obtain ⟨m, hLd, _⟩ := Hlead.out vf hL
  have HLd := hidA hLd
  have kF3 := hcF.ext hx3
  have kC3 := hcC.ext hx3
  have hx3' := hxc.trans hx3
  clear c0 c1 c2 c3 c4 hcF hcC hxc hx3 hL hB hLd HD
  have c0 := kF3.cell 0
  have c1 := kF3.cell 1
  have c2 := kF3.cell 2
  have c3 := kF3.cell 3
  have c4 := kF3.cell 4
  have k0 := kC3.cell 0
  have k1 := kC3.cell 1
  have k2 := kC3.cell 2
  have k3 := kC3.cell 3
  go_upto_region 6 with (go_at_call 15; refine ((HK _ (hd.ext hx3')).out).mono ?_; rintro e w4 ⟨a, b, b3, d, vA, vn, vc, ec, rfl, hx4, g, cp, hCF, hR⟩)
  clear c0 c1 c2 c3 c4 k0 k1 k2 k3 kC3 HK
  have hx5 : Ext w4 (w4.alloc (.cells #[.int .i64 a, .int .i64 b, .int .i64 b3, .int .i64 d, .slice vA vn vc] 26)) := (Ext.refl w4).alloc _
  have kG : Bk (w4.alloc (.cells #[.int .i64 a, .int .i64 b, .int .i64 b3, .int .i64 d, .slice vA vn vc] 26)) w4.heap.size 26 #[.int .i64 a, .int .i64 b, .int .i64 b3, .int .i64 d, .slice vA vn vc] := Bk.new' rfl
  have kF5 := (kF3.ext hx4).ext hx5
  have hD5 := (hDs.ext hx4).ext hx5
  have hV5 := (hCF.ext hx5).congr HFe.out
  have hxw := (hx3'.trans hx4).trans hx5
  clear kF3 hx3' hx4 hx5 hDs hCF
  generalize w4.alloc (.cells #[.int .i64 a, .int .i64 b, .int .i64 b3, .int .i64 d, .slice vA vn vc] 26) = w5 at *
  generalize w4.heap.size = hg at *
  rcases hR with ⟨_, ha, hb1, hb2, hb3, hv, rfl⟩ | ⟨_, rfl, rfl, rfl, rfl, hv, rfl⟩
  · have ha := ha.symm
    have hb1 := hb1.symm
    have hb2 := hb2.symm
    have hb3 := hb3.symm
    subst ha hb1 hb2 hb3
    injection hv with hv1 hv2 hv3
    have hv2 := hv2.symm
    have hv3 := hv3.symm
    subst hv1 hv2 hv3
    have g4 : w5.cell? ⟨hg, 4, none⟩ = some (.slice (some ⟨g, 0, none⟩) N cp) := kG.cell 4
    go_wp2_with fail
    clear g4
    go_loopw [37] (fun s37 wr => ∃ (k : Nat), k ≤ N ∧ s37 = .int .i64 k ∧ Ext w5 wr) (fun s37 _ => N - (intOf s37).toNat)
    case atStart => exact ⟨0, Nat.zero_le _, rfl, Ext.refl _⟩
    case round =>
      obtain ⟨k, hk, rfl, hxr⟩ := hrel
      by_cases hkN : k < N
      · have i1 : (0 : Int) ≤ k := by omega
        have i2 : (k : Int) < N := by omega
        have q0 := (hV5.ext hxr).cell hkN
        have hdr : Rd wr (some ad) (flt l) := hd.ext (hxw.trans hxr)
        have p4 : wr.cell? ⟨h0, 4, none⟩ = some (.slice (some ad) N c) := (kF5.ext hxr).cell 4
        have q1 : wr.cell? (ad.add k) = some (.float .f32 (l.getD k 0)) := by
          rw [← flt_getD (l := l) (by rw [Hln.out]; exact hkN)]
          exact hdr.reads k _ (flt_get (l := l) (by rw [Hln.out]; exact hkN))
        have hov := Hov.out k hkN
        unfold gt at hov
        generalize hFk : F k = fk at *
        generalize hlk : l.getD k 0 = lk at *
        have hgf := grid_facts Hr.out.w1 (show k < Wn * Hn by rw [← HN.out]; exact hkN)
        have hnl : ∀ n, nxtD D Wn Hn k = some n → n < N := fun n h => by rw [HN.out]; exact nxt_lt h
        have Hun1 := hidA (fun n h => Hun.out k n hkN h)
        rw [hFk, hlk] at Hun1
        have HNk := fun (w' : World) (h : Ext w5 w') => HNx.out gd k m w' hkN (hD5.ext h) HLd.out
        have e1 := hidA (show (k : Int) % (Wn : Int) = ((k % Wn : Nat) : Int) from rfl)
        have e2 := hidA (show (k : Int) / (Wn : Int) = ((k / Wn : Nat) : Int) from rfl)
        have ec : colK X Wn k = X + ((k % Wn : Nat) : Int) := rfl
        have er : rowK Y Wn k = Y + ((k / Wn : Nat) : Int) := rfl
        have hak := Nat.div_add_mod k Wn
        simp only [ec, er] at HNk
        clear ec er
        generalize k % Wn = a at *
        generalize k / Wn = b at *
        have hrr := Hr.out.ok
        unfold RegOk at hrr
        obtain ⟨r1, r2, r3, r4, r5, r6, r7, r8⟩ := hrr
        have hbb : b ≤ 65536 := by
          have : b * 1 ≤ Wn * b := by rw [Nat.mul_comm]; exact Nat.mul_le_mul_right _ Hr.out.w1
          omega
        obtain ⟨hg1, hg2⟩ := hgf
        have x1 : (-4194304 : Int) ≤ X := by omega
        have x2 : (X : Int) ≤ 4194304 := by omega
        have x3 : (-4194304 : Int) ≤ Y := by omega
        have x4 : (Y : Int) ≤ 4194304 := by omega
        have q5 : IntKind.i64.wrap (b : Int) = b := IntWalk.i64_in _ ⟨by omega, by omega⟩
        have q2 : IntKind.i64.wrap (X + (a : Int)) = X + (a : Int) := IntWalk.i64_in _ ⟨by omega, by omega⟩
        have q3 : IntKind.i64.wrap (Y + (b : Int)) = Y + (b : Int) := IntWalk.i64_in _ ⟨by omega, by omega⟩
        have q6 : wrap64 (b : Int) = b := IntWalk.wrap64_in _ ⟨by omega, by omega⟩
        have y1 : (1 : Int) ≤ Wn := by omega
        have t1 : ((k : Int).tmod (Wn : Int)) = (a : Int) := by rw [Int.tmod_eq_emod_of_nonneg (by omega), e1.out]
        have t2 : ((k : Int).tdiv (Wn : Int)) = (b : Int) := by rw [Int.tdiv_eq_ediv_of_nonneg (by omega), e2.out]
        have t3 : (Wn = 0) = False := by simp; omega
        have Hrg := hidA (And.intro r1 (And.intro r2 (And.intro r3 (And.intro r4 (And.intro r5 r6)))))
        clear hak hbb r7 r8 e1 e2 hg1 hg2
        go_upto_region 13 with fail
        clear hov q0 q1 p4
        have HNk := hidA HNk
        have f0 : ∀ w', Ext wr w' → w'.cell? ⟨h0, 0, none⟩ = some (.int .i64 X) := fun w' h => (kF5.ext (hxr.trans h)).cell 0
        have f1 : ∀ w', Ext wr w' → w'.cell? ⟨h0, 1, none⟩ = some (.int .i64 Y) := fun w' h => (kF5.ext (hxr.trans h)).cell 1
        have f2 : ∀ w', Ext wr w' → w'.cell? ⟨h0, 2, none⟩ = some (.int .i64 (Wn : Int)) := fun w' h => (kF5.ext (hxr.trans h)).cell 2
        have f3 : ∀ w', Ext wr w' → w'.cell? ⟨h0, 3, none⟩ = some (.int .i64 (Hn : Int)) := fun w' h => (kF5.ext (hxr.trans h)).cell 3
        have f4 : ∀ w', Ext wr w' → w'.cell? ⟨h0, 4, none⟩ = some (.slice (some ad) N c) := fun w' h => (kF5.ext (hxr.trans h)).cell 4
        have Hrd := hidA (fun (w' : World) (h : Ext wr w') (j : Nat) (hj : j < N) => show w'.cell? (ad.add j) = some (.float .f32 (l.getD j 0)) from by
          rw [← flt_getD (l := l) (by rw [Hln.out]; exact hj)]
          exact (hdr.ext h).reads j _ (flt_get (l := l) (by rw [Hln.out]; exact hj)))
        have Hbk := hidA (Hbd.out k hkN)
        rw [hlk] at Hbk
        clear hdr
        generalize nxtD D Wn Hn k = o at *
        cases o with
        | none =>
          rw [show nxtP X Y Wn none = .tuple #[.agg #[.int .i64 0, .int .i64 0], .bool false, .int .i64 0] from rfl] at HNk
          clear Hun1 hnl
          go_cut [11, 12, 13] from 49 to 75 (fun s11 s12 s13 wx => ∃ hp, s11 = Value.pointer (some ⟨hp, 0, none⟩) ∧ s12 = .bool false ∧ s13 = .int .i64 0 ∧ Bk wx hp 37 #[.int .i64 0, .int .i64 0] ∧ Ext wr wx)
          case first =>
            refine wp_region_noPanic ?_
            refine wp_region_held_drew (S := fun w' => Ext wr w') (by kernel_rfl) ?_ (fun hHeld => ?_)
            · (repeat (first | exact Ext.refl _ | assumption | refine Ext.setCell ?_ (by first | (simp; done) | (simp; omega)) _ | refine Ext.drewN ?_ _ | refine Ext.alloc ?_ _ | refine Ext.drew ?_ | refine Ext.trans ?_ (by assumption)))
            refine wpAnyH_take (i := 0) (oi := ?o2x0) (v := ?v2x0) ?hi2x0 (by kernel_rfl) ?hf2x0 ?hr2x0 (fun _ _ _ h => h) ?hy2x0 (by assumption) ?rest2x0
            case hi2x0 => (simp only [List.getElem?_toArray, List.getElem?_cons_zero]; exact rfl)
            case hf2x0 => kernel_rfl
            case hr2x0 => kernel_rfl
            case hy2x0 => (refine Or.inl ⟨by rfl, ?_⟩; intro w hSw; (try dsimp only at hSw); go_simp; try with_reducible rfl)
            simp only [put_mk, List.set_cons_succ, List.set_cons_zero]
            refine wpAnyH_take (i := 1) (oi := ?o3x1) (v := ?v3x1) ?hi3x1 (by kernel_rfl) ?hf3x1 ?hr3x1 (fun _ _ _ h => h) ?hy3x1 (by assumption) ?rest3x1
            case hi3x1 => (simp only [List.getElem?_toArray, List.getElem?_cons_succ, List.getElem?_cons_zero]; exact rfl)
            case hf3x1 => kernel_rfl
            case hr3x1 => kernel_rfl
            case hy3x1 => (refine Or.inl ⟨by rfl, ?_⟩; intro w hSw; (try dsimp only at hSw); go_simp; try with_reducible rfl)
            simp only [put_mk, List.set_cons_succ, List.set_cons_zero]
            refine wpAnyH_take (i := 2) (oi := ?o4x2) (v := ?v4x2) ?hi4x2 (by kernel_rfl) ?hf4x2 ?hr4x2 (fun _ _ _ h => h) ?hy4x2 (by assumption) ?rest4x2
            case hi4x2 => (simp only [List.getElem?_toArray, List.getElem?_cons_succ, List.getElem?_cons_zero]; exact rfl)
            case hf4x2 => kernel_rfl
            case hr4x2 => kernel_rfl
            case hy4x2 => (refine Or.inl ⟨by rfl, ?_⟩; intro w hSw; (try dsimp only at hSw); go_simp; try with_reducible rfl)
            simp only [put_mk, List.set_cons_succ, List.set_cons_zero]
            refine wpAnyH_take (i := 3) (oi := ?o5x3) (v := ?v5x3) ?hi5x3 (by kernel_rfl) ?hf5x3 ?hr5x3 (fun _ _ _ h => h) ?hy5x3 (by assumption) ?rest5x3
            case hi5x3 => (simp only [List.getElem?_toArray, List.getElem?_cons_succ, List.getElem?_cons_zero]; exact rfl)
            case hf5x3 => kernel_rfl
            case hr5x3 => kernel_rfl
            case hy5x3 => (refine Or.inl ⟨by rfl, ?_⟩; intro w hSw; (try dsimp only at hSw); go_simp; try with_reducible rfl)
            simp only [put_mk, List.set_cons_succ, List.set_cons_zero]
            refine wpAnyH_take (i := 4) (oi := ?o6x4) (v := ?v6x4) ?hi6x4 (by kernel_rfl) ?hf6x4 ?hr6x4 (fun _ _ _ h => h) ?hy6x4 (by assumption) ?rest6x4
            case hi6x4 => (simp only [List.getElem?_toArray, List.getElem?_cons_succ, List.getElem?_cons_zero]; exact rfl)
            case hf6x4 => kernel_rfl
            case hr6x4 => kernel_rfl
            case hy6x4 => (refine Or.inl ⟨by rfl, ?_⟩; intro w hSw; (try dsimp only at hSw); go_simp; try with_reducible rfl)
            simp only [put_mk, List.set_cons_succ, List.set_cons_zero]
            refine wpAnyH_take (i := 5) (oi := ?o7x5) (v := ?v7x5) ?hi7x5 (by kernel_rfl) ?hf7x5 ?hr7x5 (fun _ _ _ h => h) ?hy7x5 (by assumption) ?rest7x5
            case hi7x5 => (simp only [List.getElem?_toArray, List.getElem?_cons_succ, List.getElem?_cons_zero]; exact rfl)
            case hf7x5 => kernel_rfl
            case hr7x5 => kernel_rfl
            case hy7x5 => (refine Or.inl ⟨by rfl, ?_⟩; intro w hSw; (try dsimp only at hSw); go_simp; try with_reducible rfl)
            simp only [put_mk, List.set_cons_succ, List.set_cons_zero]
            refine wpAnyH_take (i := 6) (oi := ?o8x6) (v := ?v8x6) ?hi8x6 (by kernel_rfl) ?hf8x6 ?hr8x6 (fun _ _ _ h => h) ?hy8x6 (by assumption) ?rest8x6
            case hi8x6 => (simp only [List.getElem?_toArray, List.getElem?_cons_succ, List.getElem?_cons_zero]; exact rfl)
            case hf8x6 => kernel_rfl
            case hr8x6 => kernel_rfl
            case hy8x6 => (refine Or.inl ⟨by rfl, ?_⟩; intro w hSw; (try dsimp only at hSw); go_simp; try with_reducible rfl)
            simp only [put_mk, List.set_cons_succ, List.set_cons_zero]
            refine wpAnyH_take (i := 7) (oi := ?o9x7) (v := ?v9x7) ?hi9x7 (by kernel_rfl) ?hf9x7 ?hr9x7 (fun _ _ _ h => h) ?hy9x7 (by assumption) ?rest9x7
            case hi9x7 => (simp only [List.getElem?_toArray, List.getElem?_cons_succ, List.getElem?_cons_zero]; exact rfl)
            case hf9x7 => kernel_rfl
            case hr9x7 => kernel_rfl
            case hy9x7 => (refine Or.inl ⟨by rfl, ?_⟩; intro w hSw; (try dsimp only at hSw); go_simp; try with_reducible rfl)
            simp only [put_mk, List.set_cons_succ, List.set_cons_zero]
            refine wpAnyH_take (i := 8) (oi := ?o10x8) (v := ?v10x8) ?hi10x8 (by kernel_rfl) ?hf10x8 ?hr10x8 (fun _ _ _ h => h) ?hy10x8 (by assumption) ?rest10x8
            case hi10x8 => (simp only [List.getElem?_toArray, List.getElem?_cons_succ, List.getElem?_cons_zero]; exact rfl)
            case hf10x8 => kernel_rfl
            case hr10x8 => kernel_rfl
            case hy10x8 => (refine Or.inl ⟨by rfl, ?_⟩; intro w hSw; (try dsimp only at hSw); go_simp; try with_reducible rfl)
            simp only [put_mk, List.set_cons_succ, List.set_cons_zero]
            refine wpAnyH_take (i := 9) (oi := ?o11x9) (v := ?v11x9) ?hi11x9 (by kernel_rfl) ?hf11x9 ?hr11x9 (fun _ _ _ h => h) ?hy11x9 (by assumption) ?rest11x9
            case hi11x9 => (simp only [List.getElem?_toArray, List.getElem?_cons_succ, List.getElem?_cons_zero]; exact rfl)
            case hf11x9 => kernel_rfl
            case hr11x9 => kernel_rfl
            case hy11x9 => (refine Or.inl ⟨by rfl, ?_⟩; intro w hSw; (try dsimp only at hSw); go_simp; try with_reducible rfl)
            simp only [put_mk, List.set_cons_succ, List.set_cons_zero]
            refine wpAnyH_take (i := 10) (oi := ?o12x10) (v := ?v12x10) ?hi12x10 (by kernel_rfl) ?hf12x10 ?hr12x10 (fun _ _ _ h => h) ?hy12x10 (by assumption) ?rest12x10
            case hi12x10 => (simp only [List.getElem?_toArray, List.getElem?_cons_succ, List.getElem?_cons_zero]; exact rfl)
            case hf12x10 => kernel_rfl
            case hr12x10 => kernel_rfl
            case hy12x10 => (refine Or.inl ⟨by rfl, ?_⟩; intro w hSw; (try dsimp only at hSw); go_simp; try with_reducible rfl)
            simp only [put_mk, List.set_cons_succ, List.set_cons_zero]
            refine wpAnyH_take (i := 11) (oi := ?o13x11) (v := ?v13x11) ?hi13x11 (by kernel_rfl) ?hf13x11 ?hr13x11 (fun _ _ _ h => h) ?hy13x11 (by assumption) ?rest13x11
            case hi13x11 => (simp only [List.getElem?_toArray, List.getElem?_cons_succ, List.getElem?_cons_zero]; exact rfl)
            case hf13x11 => kernel_rfl
            case hr13x11 => kernel_rfl
            case hy13x11 => (refine Or.inl ⟨by rfl, ?_⟩; intro w hSw; (try dsimp only at hSw); go_simp; try with_reducible rfl)
            simp only [put_mk, List.set_cons_succ, List.set_cons_zero]
            refine wpAnyH_take (i := 12) (oi := ?o14x12) (v := ?v14x12) ?hi14x12 (by kernel_rfl) ?hf14x12 ?hr14x12 (fun _ _ _ h => h) ?hy14x12 (by assumption) ?rest14x12
            case hi14x12 => (simp only [List.getElem?_toArray, List.getElem?_cons_succ, List.getElem?_cons_zero]; exact rfl)
            case hf14x12 => kernel_rfl
            case hr14x12 => kernel_rfl
            case hy14x12 => (refine Or.inl ⟨by rfl, ?_⟩; intro w hSw; (try dsimp only at hSw); go_simp; try with_reducible rfl)
            simp only [put_mk, List.set_cons_succ, List.set_cons_zero]
            refine wpAnyH_take (i := 13) (oi := ?o15x13) (v := ?v15x13) ?hi15x13 (by kernel_rfl) ?hf15x13 ?hr15x13 (fun _ _ _ h => h) ?hy15x13 (by assumption) ?rest15x13
            case hi15x13 => (simp only [List.getElem?_toArray, List.getElem?_cons_succ, List.getElem?_cons_zero]; exact rfl)
            case hf15x13 => kernel_rfl
            case hr15x13 => kernel_rfl
            case hy15x13 => (refine Or.inl ⟨by rfl, ?_⟩; intro w hSw; (try dsimp only at hSw); go_simp; try with_reducible rfl)
            simp only [put_mk, List.set_cons_succ, List.set_cons_zero]
            refine wpAnyH_take (i := 14) (oi := ?o16x14) (v := ?v16x14) ?hi16x14 (by kernel_rfl) ?hf16x14 ?hr16x14 (fun _ _ _ h => h) ?hy16x14 (by assumption) ?rest16x14
            case hi16x14 => (simp only [List.getElem?_toArray, List.getElem?_cons_succ, List.getElem?_cons_zero]; exact rfl)
            case hf16x14 => kernel_rfl
            case hr16x14 => kernel_rfl
            case hy16x14 => (refine Or.inl ⟨by rfl, ?_⟩; intro w hSw; (try dsimp only at hSw); go_simp; try with_reducible rfl)
            simp only [put_mk, List.set_cons_succ, List.set_cons_zero]
            refine wpAnyH_take (i := 15) (oi := ?o17x15) (v := ?v17x15) ?hi17x15 (by kernel_rfl) ?hf17x15 ?hr17x15 (fun _ _ _ h => h) ?hy17x15 (by assumption) ?rest17x15
            case hi17x15 => (simp only [List.getElem?_toArray, List.getElem?_cons_succ, List.getElem?_cons_zero]; exact rfl)
            case hf17x15 => kernel_rfl
            case hr17x15 => kernel_rfl
            case hy17x15 => (refine Or.inl ⟨by rfl, ?_⟩; intro w hSw; (try dsimp only at hSw); go_simp; try with_reducible rfl)
            simp only [put_mk, List.set_cons_succ, List.set_cons_zero]
            refine wpAnyH_take (i := 16) (oi := ?o18x16) (v := ?v18x16) ?hi18x16 (by kernel_rfl) ?hf18x16 ?hr18x16 (fun _ _ _ h => h) ?hy18x16 (by assumption) ?rest18x16
            case hi18x16 => (simp only [List.getElem?_toArray, List.getElem?_cons_succ, List.getElem?_cons_zero]; exact rfl)
            case hf18x16 => kernel_rfl
            case hr18x16 => kernel_rfl
            case hy18x16 => (refine Or.inl ⟨by rfl, ?_⟩; intro w hSw; (try dsimp only at hSw); go_simp; try with_reducible rfl)
            simp only [put_mk, List.set_cons_succ, List.set_cons_zero]
            refine wpAnyH_take (i := 17) (oi := ?o19x17) (v := ?v19x17) ?hi19x17 (by kernel_rfl) ?hf19x17 ?hr19x17 (fun _ _ _ h => h) ?hy19x17 (by assumption) ?rest19x17
            case hi19x17 => (simp only [List.getElem?_toArray, List.getElem?_cons_succ, List.getElem?_cons_zero]; exact rfl)
            case hf19x17 => kernel_rfl
            case hr19x17 => kernel_rfl
            case hy19x17 => (refine Or.inl ⟨by rfl, ?_⟩; intro w hSw; (try dsimp only at hSw); go_simp; try with_reducible rfl)
            simp only [put_mk, List.set_cons_succ, List.set_cons_zero]
            refine wpAnyH_take (i := 18) (oi := ?o20x18) (v := ?v20x18) ?hi20x18 (by kernel_rfl) ?hf20x18 ?hr20x18 (fun _ _ _ h => h) ?hy20x18 (by assumption) ?rest20x18
            case hi20x18 => (simp only [List.getElem?_toArray, List.getElem?_cons_succ, List.getElem?_cons_zero]; exact rfl)
            case hf20x18 => kernel_rfl
            case hr20x18 => kernel_rfl
            case hy20x18 => (refine Or.inl ⟨by rfl, ?_⟩; intro w hSw; (try dsimp only at hSw); go_simp; try with_reducible rfl)
            simp only [put_mk, List.set_cons_succ, List.set_cons_zero]
            refine wpAnyH_take (i := 19) (oi := ?o21x19) (v := ?v21x19) ?hi21x19 (by kernel_rfl) ?hf21x19 ?hr21x19 (fun _ _ _ h => h) ?hy21x19 (by assumption) ?rest21x19
            case hi21x19 => (simp only [List.getElem?_toArray, List.getElem?_cons_succ, List.getElem?_cons_zero]; exact rfl)
            case hf21x19 => kernel_rfl
            case hr21x19 => kernel_rfl
            case hy21x19 => (refine Or.inl ⟨by rfl, ?_⟩; intro w hSw; (try dsimp only at hSw); go_simp; try with_reducible rfl)
            simp only [put_mk, List.set_cons_succ, List.set_cons_zero]
            refine wpAnyH_take (i := 20) (oi := ?o22x20) (v := ?v22x20) ?hi22x20 (by kernel_rfl) ?hf22x20 ?hr22x20 (fun _ _ _ h => h) ?hy22x20 (by assumption) ?rest22x20
            case hi22x20 => (simp only [List.getElem?_toArray, List.getElem?_cons_succ, List.getElem?_cons_zero]; exact rfl)
            case hf22x20 => kernel_rfl
            case hr22x20 => kernel_rfl
            case hy22x20 => (refine Or.inl ⟨by rfl, ?_⟩; intro w hSw; (try dsimp only at hSw); go_simp; try with_reducible rfl)
            simp only [put_mk, List.set_cons_succ, List.set_cons_zero]
            refine wpAnyH_take (i := 21) (oi := ?o23x21) (v := ?v23x21) ?hi23x21 (by kernel_rfl) ?hf23x21 ?hr23x21 (fun _ _ _ h => h) ?hy23x21 (by assumption) ?rest23x21
            case hi23x21 => (simp only [List.getElem?_toArray, List.getElem?_cons_succ, List.getElem?_cons_zero]; exact rfl)
            case hf23x21 => kernel_rfl
            case hr23x21 => kernel_rfl
            case hy23x21 => (refine Or.inl ⟨by rfl, ?_⟩; intro w hSw; (try dsimp only at hSw); go_simp; try with_reducible rfl)
            simp only [put_mk, List.set_cons_succ, List.set_cons_zero]
            refine wpAnyH_ready (rs := [22, 27]) (by kernel_rfl) (by simp) ?_
            refine (AllReadyH.cons (o := ?o24x22) ?hi24x22 (fun K hK => ?_) (AllReadyH.cons (o := ?o24x27) ?hi24x27 (fun K hK => ?_) AllReadyH.nil))
            case hi24x22 => (simp only [List.getElem?_toArray, List.getElem?_cons_succ, List.getElem?_cons_zero]; exact rfl)
            case hi24x27 => (simp only [List.getElem?_toArray, List.getElem?_cons_succ, List.getElem?_cons_zero]; exact rfl)
            · go_simp
              refine (HNk.out _ (hxr.trans (by repeat (first | exact Ext.refl _ | assumption | refine Ext.setCell ?_ (by first | (simp; done) | (simp; omega)) _ | refine Ext.drewN ?_ _ | refine Ext.alloc ?_ _ | refine Ext.drew ?_ | refine Ext.trans ?_ (by assumption))))).mono ?_
              rintro e w9 ⟨rfl, hx9⟩
              refine hK.out _ _ ?_ (fun hHeld => ?_)
              · (repeat (first | exact Ext.refl _ | assumption | refine Ext.setCell ?_ (by first | (simp; done) | (simp; omega)) _ | refine Ext.drewN ?_ _ | refine Ext.alloc ?_ _ | refine Ext.drew ?_ | refine Ext.trans ?_ (by assumption)))
              clear hK K
              refine wpAnyH_take (i := 23) (oi := ?o25x23) (v := ?v25x23) ?hi25x23 (by kernel_rfl) ?hf25x23 ?hr25x23 (fun _ _ _ h => h) ?hy25x23 (by assumption) ?rest25x23
              case hi25x23 => (simp only [List.getElem?_toArray, List.getElem?_cons_succ, List.getElem?_cons_zero]; exact rfl)
              case hf25x23 => kernel_rfl
              case hr25x23 => kernel_rfl
              case hy25x23 => (refine Or.inl ⟨by rfl, ?_⟩; intro w hSw; (try dsimp only at hSw); go_simp; try with_reducible rfl)
              simp only [put_mk, List.set_cons_succ, List.set_cons_zero]
              refine wpAnyH_take (i := 24) (oi := ?o26x24) (v := ?v26x24) ?hi26x24 (by kernel_rfl) ?hf26x24 ?hr26x24 (fun _ _ _ h => h) ?hy26x24 (by assumption) ?rest26x24
              case hi26x24 => (simp only [List.getElem?_toArray, List.getElem?_cons_succ, List.getElem?_cons_zero]; exact rfl)
              case hf26x24 => kernel_rfl
              case hr26x24 => kernel_rfl
              case hy26x24 => (refine Or.inl ⟨by rfl, ?_⟩; intro w hSw; (try dsimp only at hSw); go_simp; try with_reducible rfl)
              simp only [put_mk, List.set_cons_succ, List.set_cons_zero]
              refine wpAnyH_take (i := 25) (oi := ?o27x25) (v := ?v27x25) ?hi27x25 (by kernel_rfl) ?hf27x25 ?hr27x25 (fun _ _ _ h => h) ?hy27x25 (by assumption) ?rest27x25
              case hi27x25 => (simp only [List.getElem?_toArray, List.getElem?_cons_succ, List.getElem?_cons_zero]; exact rfl)
              case hf27x25 => kernel_rfl
              case hr27x25 => kernel_rfl
              case hy27x25 => (refine Or.inl ⟨by rfl, ?_⟩; intro w hSw; (try dsimp only at hSw); go_simp; try with_reducible rfl)
              simp only [put_mk, List.set_cons_succ, List.set_cons_zero]
              refine wpAnyH_take (i := 26) (oi := ?o28x26) (v := ?v28x26) ?hi28x26 (by kernel_rfl) ?hf28x26 ?hr28x26 (fun _ _ _ h => h) ?hy28x26 (by assumption) ?rest28x26
              case hi28x26 => (simp only [List.getElem?_toArray, List.getElem?_cons_succ, List.getElem?_cons_zero]; exact rfl)
              case hf28x26 => kernel_rfl
              case hr28x26 => kernel_rfl
              case hy28x26 => (refine Or.inl ⟨by rfl, ?_⟩; intro w hSw; (try dsimp only at hSw); go_simp; try with_reducible rfl)
              simp only [put_mk, List.set_cons_succ, List.set_cons_zero]
              refine wpAnyH_ready (rs := [27]) (by kernel_rfl) (by simp) ?_
              refine AllReadyH.cons (o := ?o29x27) ?hi29x27 (fun K hK => ?_) AllReadyH.nil
              case hi29x27 => (simp only [List.getElem?_toArray, List.getElem?_cons_succ, List.getElem?_cons_zero]; exact rfl)
              go_simp
              refine hK.out _ _ ?_ (fun hHeld => ?_)
              · (repeat (first | exact Ext.refl _ | assumption | refine Ext.setCell ?_ (by first | (simp; done) | (simp; omega)) _ | refine Ext.drewN ?_ _ | refine Ext.alloc ?_ _ | refine Ext.drew ?_ | refine Ext.trans ?_ (by assumption)))
              clear hK K
              refine wpAnyH_ready (rs := [28]) (by kernel_rfl) (by simp) ?_
              refine AllReadyH.cons (o := ?o30x28) ?hi30x28 (fun K hK => ?_) AllReadyH.nil
              case hi30x28 => (simp only [List.getElem?_toArray, List.getElem?_cons_succ, List.getElem?_cons_zero]; exact rfl)
              go_simp
              refine hK.out _ _ ?_ (fun hHeld => ?_)
              · (repeat (first | exact Ext.refl _ | assumption | refine Ext.setCell ?_ (by first | (simp; done) | (simp; omega)) _ | refine Ext.drewN ?_ _ | refine Ext.alloc ?_ _ | refine Ext.drew ?_ | refine Ext.trans ?_ (by assumption)))
              clear hK K
              refine wpAnyH_take (i := 29) (oi := ?o31x29) (v := ?v31x29) ?hi31x29 (by kernel_rfl) ?hf31x29 ?hr31x29 (fun _ _ _ h => h) ?hy31x29 (by assumption) ?rest31x29
              case hi31x29 => (simp only [List.getElem?_toArray, List.getElem?_cons_succ, List.getElem?_cons_zero]; exact rfl)
              case hf31x29 => kernel_rfl
              case hr31x29 => kernel_rfl
              case hy31x29 => (refine Or.inl ⟨by rfl, ?_⟩; intro w hSw; (try dsimp only at hSw); go_simp; try with_reducible rfl)
              simp only [put_mk, List.set_cons_succ, List.set_cons_zero]
              refine wpAnyH_take (i := 30) (oi := ?o32x30) (v := ?v32x30) ?hi32x30 (by kernel_rfl) ?hf32x30 ?hr32x30 (fun _ _ _ h => h) ?hy32x30 (by assumption) ?rest32x30
              case hi32x30 => (simp only [List.getElem?_toArray, List.getElem?_cons_succ, List.getElem?_cons_zero]; exact rfl)
              case hf32x30 => kernel_rfl
              case hr32x30 => kernel_rfl
              case hy32x30 => (refine Or.inl ⟨by rfl, ?_⟩; intro w hSw; (try dsimp only at hSw); go_simp; try with_reducible rfl)
              simp only [put_mk, List.set_cons_succ, List.set_cons_zero]
              refine wpAnyH_done (by kernel_rfl) ?_ _
              refine NoPanic.normal ?_
              go_wp2_with fail
              go_meet
              case rel => exact ⟨_, rfl, rfl, rfl, Bk.drew (Bk.new' rfl), (by repeat (first | exact Ext.refl _ | assumption | refine Ext.setCell ?_ (by first | (simp; done) | (simp; omega)) _ | refine Ext.drewN ?_ _ | refine Ext.alloc ?_ _ | refine Ext.drew ?_ | refine Ext.trans ?_ (by assumption)))⟩
            · go_simp
              refine hK.out _ _ ?_ (fun hHeld => ?_)
              · (repeat (first | exact Ext.refl _ | assumption | refine Ext.setCell ?_ (by first | (simp; done) | (simp; omega)) _ | refine Ext.drewN ?_ _ | refine Ext.alloc ?_ _ | refine Ext.drew ?_ | refine Ext.trans ?_ (by assumption)))
              clear hK K
              refine wpAnyH_ready (rs := [22]) (by kernel_rfl) (by simp) ?_
              refine AllReadyH.cons (o := ?o33x22) ?hi33x22 (fun K hK => ?_) AllReadyH.nil
              case hi33x22 => (simp only [List.getElem?_toArray, List.getElem?_cons_succ, List.getElem?_cons_zero]; exact rfl)
              go_simp
              refine (HNk.out _ (hxr.trans (by repeat (first | exact Ext.refl _ | assumption | refine Ext.setCell ?_ (by first | (simp; done) | (simp; omega)) _ | refine Ext.drewN ?_ _ | refine Ext.alloc ?_ _ | refine Ext.drew ?_ | refine Ext.trans ?_ (by assumption))))).mono ?_
              rintro e w9 ⟨rfl, hx9⟩
              have hG : Bk w9 wr.heap.size 37 #[.int .i64 0, .int .i64 0] := by first | exact (Bk.new' (by simp)).ext hx9 | exact (Bk.new' (by simp)).drew.ext hx9
              have z0 := hG.cell 0
              have z1 := hG.cell 1
              have y0 := hG.frozen 0
              have y1 := hG.frozen 1
              refine hK.out _ _ ?_ (fun hHeld => ?_)
              · (repeat (first | exact Ext.refl _ | assumption | refine Ext.setCell ?_ (by first | (simp; done) | (simp; omega)) _ | refine Ext.drewN ?_ _ | refine Ext.alloc ?_ _ | refine Ext.drew ?_ | refine Ext.trans ?_ (by assumption)))
              clear hK K
              refine wpAnyH_take (i := 23) (oi := ?o34x23) (v := ?v34x23) ?hi34x23 (by kernel_rfl) ?hf34x23 ?hr34x23 (fun _ _ _ h => h) ?hy34x23 (by assumption) ?rest34x23
              case hi34x23 => (simp only [List.getElem?_toArray, List.getElem?_cons_succ, List.getElem?_cons_zero]; exact rfl)
              case hf34x23 => kernel_rfl
              case hr34x23 => kernel_rfl
              case hy34x23 => (refine Or.inl ⟨by rfl, ?_⟩; intro w hSw; (try dsimp only at hSw); go_simp; try with_reducible rfl)
              simp only [put_mk, List.set_cons_succ, List.set_cons_zero]
              refine wpAnyH_take (i := 24) (oi := ?o35x24) (v := ?v35x24) ?hi35x24 (by kernel_rfl) ?hf35x24 ?hr35x24 (fun _ _ _ h => h) ?hy35x24 (by assumption) ?rest35x24
              case hi35x24 => (simp only [List.getElem?_toArray, List.getElem?_cons_succ, List.getElem?_cons_zero]; exact rfl)
              case hf35x24 => kernel_rfl
              case hr35x24 => kernel_rfl
              case hy35x24 => (refine Or.inl ⟨by rfl, ?_⟩; intro w hSw; (try dsimp only at hSw); go_simp; try with_reducible rfl)
              simp only [put_mk, List.set_cons_succ, List.set_cons_zero]
              refine wpAnyH_take (i := 25) (oi := ?o36x25) (v := ?v36x25) ?hi36x25 (by kernel_rfl) ?hf36x25 ?hr36x25 (fun _ _ _ h => h) ?hy36x25 (by assumption) ?rest36x25
              case hi36x25 => (simp only [List.getElem?_toArray, List.getElem?_cons_succ, List.getElem?_cons_zero]; exact rfl)
              case hf36x25 => kernel_rfl
              case hr36x25 => kernel_rfl
              case hy36x25 => (refine Or.inl ⟨by rfl, ?_⟩; intro w hSw; (try dsimp only at hSw); go_simp; try with_reducible rfl)
              simp only [put_mk, List.set_cons_succ, List.set_cons_zero]
              refine wpAnyH_take (i := 26) (oi := ?o37x26) (v := ?v37x26) ?hi37x26 (by kernel_rfl) ?hf37x26 ?hr37x26 (fun _ _ _ h => h) ?hy37x26 (by assumption) ?rest37x26
              case hi37x26 => (simp only [List.getElem?_toArray, List.getElem?_cons_succ, List.getElem?_cons_zero]; exact rfl)
              case hf37x26 => kernel_rfl
              case hr37x26 => kernel_rfl
              case hy37x26 => (refine Or.inl ⟨by rfl, ?_⟩; intro w hSw; (try dsimp only at hSw); go_simp; try with_reducible rfl)
              simp only [put_mk, List.set_cons_succ, List.set_cons_zero]
              refine wpAnyH_ready (rs := [28]) (by kernel_rfl) (by simp) ?_
              refine AllReadyH.cons (o := ?o38x28) ?hi38x28 (fun K hK => ?_) AllReadyH.nil
              case hi38x28 => (simp only [List.getElem?_toArray, List.getElem?_cons_succ, List.getElem?_cons_zero]; exact rfl)
              go_simp
              refine hK.out _ _ ?_ (fun hHeld => ?_)
              · (repeat (first | exact Ext.refl _ | assumption | refine Ext.setCell ?_ (by first | (simp; done) | (simp; omega)) _ | refine Ext.drewN ?_ _ | refine Ext.alloc ?_ _ | refine Ext.drew ?_ | refine Ext.trans ?_ (by assumption)))
              clear hK K
              refine wpAnyH_take (i := 29) (oi := ?o39x29) (v := ?v39x29) ?hi39x29 (by kernel_rfl) ?hf39x29 ?hr39x29 (fun _ _ _ h => h) ?hy39x29 (by assumption) ?rest39x29
              case hi39x29 => (simp only [List.getElem?_toArray, List.getElem?_cons_succ, List.getElem?_cons_zero]; exact rfl)
              case hf39x29 => kernel_rfl
              case hr39x29 => kernel_rfl
              case hy39x29 => (refine Or.inl ⟨by rfl, ?_⟩; intro w hSw; (try dsimp only at hSw); go_simp; try with_reducible rfl)
              simp only [put_mk, List.set_cons_succ, List.set_cons_zero]
              refine wpAnyH_take (i := 30) (oi := ?o40x30) (v := ?v40x30) ?hi40x30 (by kernel_rfl) ?hf40x30 ?hr40x30 (fun _ _ _ h => h) ?hy40x30 (by assumption) ?rest40x30
              case hi40x30 => (simp only [List.getElem?_toArray, List.getElem?_cons_succ, List.getElem?_cons_zero]; exact rfl)
              case hf40x30 => kernel_rfl
              case hr40x30 => kernel_rfl
              case hy40x30 => (refine Or.inl ⟨by rfl, ?_⟩; intro w hSw; (try dsimp only at hSw); go_simp; try with_reducible rfl)
              simp only [put_mk, List.set_cons_succ, List.set_cons_zero]
              refine wpAnyH_done (by kernel_rfl) ?_ _
              refine NoPanic.normal ?_
              go_wp2_with fail
              go_meet
              case rel => exact ⟨wr.heap.size, rfl, rfl, rfl, by simpa using ((hG.set 0 (.int .i64 0)).set 1 (.int .i64 0)), (by repeat (first | exact Ext.refl _ | assumption | refine Ext.setCell ?_ (by first | (simp; done) | (simp; omega)) _ | refine Ext.drewN ?_ _ | refine Ext.alloc ?_ _ | refine Ext.drew ?_ | refine Ext.trans ?_ (by assumption)))⟩
          case rest =>
            obtain ⟨hp, rfl, rfl, rfl, kP, hx9⟩ := hcut
            go_upto_region 16 with fail
            refine wp_region_noPanic ?_
            refine wp_region_held_drew (S := fun w' => Ext wc w') (by kernel_rfl) ?_ (fun hHeld => ?_)
            · (repeat (first | exact Ext.refl _ | assumption | refine Ext.setCell ?_ (by first | (simp; done) | (simp; omega)) _ | refine Ext.drewN ?_ _ | refine Ext.alloc ?_ _ | refine Ext.drew ?_ | refine Ext.trans ?_ (by assumption)))
            refine wpAnyH_take (i := 0) (oi := ?o41x0) (v := ?v41x0) ?hi41x0 (by kernel_rfl) ?hf41x0 ?hr41x0 (fun _ _ _ h => h) ?hy41x0 (by assumption) ?rest41x0
            case hi41x0 => (simp only [List.getElem?_toArray, List.getElem?_cons_zero]; exact rfl)
            case hf41x0 => kernel_rfl
            case hr41x0 => kernel_rfl
            case hy41x0 => (refine Or.inl ⟨by rfl, ?_⟩; intro w hSw; (try dsimp only at hSw); go_simp; try with_reducible rfl)
            simp only [put_mk, List.set_cons_succ, List.set_cons_zero]
            refine wpAnyH_take (i := 1) (oi := ?o41x1) (v := ?v41x1) ?hi41x1 (by kernel_rfl) ?hf41x1 ?hr41x1 (fun _ _ _ h => h) ?hy41x1 (by assumption) ?rest41x1
            case hi41x1 => (simp only [List.getElem?_toArray, List.getElem?_cons_succ, List.getElem?_cons_zero]; exact rfl)
            case hf41x1 => kernel_rfl
            case hr41x1 => kernel_rfl
            case hy41x1 => (refine Or.inl ⟨by rfl, ?_⟩; intro w hSw; (try dsimp only at hSw); go_simp; try with_reducible rfl)
            simp only [put_mk, List.set_cons_succ, List.set_cons_zero]
            refine wpAnyH_take (i := 2) (oi := ?o41x2) (v := undef) ?hi41x2 (by kernel_rfl) ?hf41x2 ?hr41x2 (fun _ _ _ h => h) ?hy41x2 (by assumption) ?rest41x2
            case hi41x2 => (simp only [List.getElem?_toArray, List.getElem?_cons_succ, List.getElem?_cons_zero]; exact rfl)
            case hf41x2 => kernel_rfl
            case hr41x2 => kernel_rfl
            case hy41x2 => exact Or.inr ⟨by rfl, rfl⟩
            simp only [put_mk, List.set_cons_succ, List.set_cons_zero]
            refine wpAnyH_take (i := 3) (oi := ?o41x3) (v := undef) ?hi41x3 (by kernel_rfl) ?hf41x3 ?hr41x3 (fun _ _ _ h => h) ?hy41x3 (by assumption) ?rest41x3
            case hi41x3 => (simp only [List.getElem?_toArray, List.getElem?_cons_succ, List.getElem?_cons_zero]; exact rfl)
            case hf41x3 => kernel_rfl
            case hr41x3 => kernel_rfl
            case hy41x3 => exact Or.inr ⟨by rfl, rfl⟩
            simp only [put_mk, List.set_cons_succ, List.set_cons_zero]
            refine wpAnyH_take (i := 4) (oi := ?o41x4) (v := undef) ?hi41x4 (by kernel_rfl) ?hf41x4 ?hr41x4 (fun _ _ _ h => h) ?hy41x4 (by assumption) ?rest41x4
            case hi41x4 => (simp only [List.getElem?_toArray, List.getElem?_cons_succ, List.getElem?_cons_zero]; exact rfl)
            case hf41x4 => kernel_rfl
            case hr41x4 => kernel_rfl
            case hy41x4 => exact Or.inr ⟨by rfl, rfl⟩
            simp only [put_mk, List.set_cons_succ, List.set_cons_zero]
            refine wpAnyH_take (i := 5) (oi := ?o41x5) (v := undef) ?hi41x5 (by kernel_rfl) ?hf41x5 ?hr41x5 (fun _ _ _ h => h) ?hy41x5 (by assumption) ?rest41x5
            case hi41x5 => (simp only [List.getElem?_toArray, List.getElem?_cons_succ, List.getElem?_cons_zero]; exact rfl)
            case hf41x5 => kernel_rfl
            case hr41x5 => kernel_rfl
            case hy41x5 => exact Or.inr ⟨by rfl, rfl⟩
            simp only [put_mk, List.set_cons_succ, List.set_cons_zero]
            refine wpAnyH_take (i := 6) (oi := ?o41x6) (v := undef) ?hi41x6 (by kernel_rfl) ?hf41x6 ?hr41x6 (fun _ _ _ h => h) ?hy41x6 (by assumption) ?rest41x6
            case hi41x6 => (simp only [List.getElem?_toArray, List.getElem?_cons_succ, List.getElem?_cons_zero]; exact rfl)
            case hf41x6 => kernel_rfl
            case hr41x6 => kernel_rfl
            case hy41x6 => exact Or.inr ⟨by rfl, rfl⟩
            simp only [put_mk, List.set_cons_succ, List.set_cons_zero]
            refine wpAnyH_take (i := 7) (oi := ?o41x7) (v := undef) ?hi41x7 (by kernel_rfl) ?hf41x7 ?hr41x7 (fun _ _ _ h => h) ?hy41x7 (by assumption) ?rest41x7
            case hi41x7 => (simp only [List.getElem?_toArray, List.getElem?_cons_succ, List.getElem?_cons_zero]; exact rfl)
            case hf41x7 => kernel_rfl
            case hr41x7 => kernel_rfl
            case hy41x7 => exact Or.inr ⟨by rfl, rfl⟩
            simp only [put_mk, List.set_cons_succ, List.set_cons_zero]
            refine wpAnyH_take (i := 8) (oi := ?o41x8) (v := undef) ?hi41x8 (by kernel_rfl) ?hf41x8 ?hr41x8 (fun _ _ _ h => h) ?hy41x8 (by assumption) ?rest41x8
            case hi41x8 => (simp only [List.getElem?_toArray, List.getElem?_cons_succ, List.getElem?_cons_zero]; exact rfl)
            case hf41x8 => kernel_rfl
            case hr41x8 => kernel_rfl
            case hy41x8 => exact Or.inr ⟨by rfl, rfl⟩
            simp only [put_mk, List.set_cons_succ, List.set_cons_zero]
            refine wpAnyH_take (i := 9) (oi := ?o41x9) (v := undef) ?hi41x9 (by kernel_rfl) ?hf41x9 ?hr41x9 (fun _ _ _ h => h) ?hy41x9 (by assumption) ?rest41x9
            case hi41x9 => (simp only [List.getElem?_toArray, List.getElem?_cons_succ, List.getElem?_cons_zero]; exact rfl)
            case hf41x9 => kernel_rfl
            case hr41x9 => kernel_rfl
            case hy41x9 => exact Or.inr ⟨by rfl, rfl⟩
            simp only [put_mk, List.set_cons_succ, List.set_cons_zero]
            refine wpAnyH_take (i := 10) (oi := ?o41x10) (v := undef) ?hi41x10 (by kernel_rfl) ?hf41x10 ?hr41x10 (fun _ _ _ h => h) ?hy41x10 (by assumption) ?rest41x10
            case hi41x10 => (simp only [List.getElem?_toArray, List.getElem?_cons_succ, List.getElem?_cons_zero]; exact rfl)
            case hf41x10 => kernel_rfl
            case hr41x10 => kernel_rfl
            case hy41x10 => exact Or.inr ⟨by rfl, rfl⟩
            simp only [put_mk, List.set_cons_succ, List.set_cons_zero]
            refine wpAnyH_take (i := 11) (oi := ?o41x11) (v := undef) ?hi41x11 (by kernel_rfl) ?hf41x11 ?hr41x11 (fun _ _ _ h => h) ?hy41x11 (by assumption) ?rest41x11
            case hi41x11 => (simp only [List.getElem?_toArray, List.getElem?_cons_succ, List.getElem?_cons_zero]; exact rfl)
            case hf41x11 => kernel_rfl
            case hr41x11 => kernel_rfl
            case hy41x11 => exact Or.inr ⟨by rfl, rfl⟩
            simp only [put_mk, List.set_cons_succ, List.set_cons_zero]
            refine wpAnyH_take (i := 12) (oi := ?o41x12) (v := undef) ?hi41x12 (by kernel_rfl) ?hf41x12 ?hr41x12 (fun _ _ _ h => h) ?hy41x12 (by assumption) ?rest41x12
            case hi41x12 => (simp only [List.getElem?_toArray, List.getElem?_cons_succ, List.getElem?_cons_zero]; exact rfl)
            case hf41x12 => kernel_rfl
            case hr41x12 => kernel_rfl
            case hy41x12 => exact Or.inr ⟨by rfl, rfl⟩
            simp only [put_mk, List.set_cons_succ, List.set_cons_zero]
            refine wpAnyH_take (i := 13) (oi := ?o41x13) (v := undef) ?hi41x13 (by kernel_rfl) ?hf41x13 ?hr41x13 (fun _ _ _ h => h) ?hy41x13 (by assumption) ?rest41x13
            case hi41x13 => (simp only [List.getElem?_toArray, List.getElem?_cons_succ, List.getElem?_cons_zero]; exact rfl)
            case hf41x13 => kernel_rfl
            case hr41x13 => kernel_rfl
            case hy41x13 => exact Or.inr ⟨by rfl, rfl⟩
            simp only [put_mk, List.set_cons_succ, List.set_cons_zero]
            refine wpAnyH_take (i := 14) (oi := ?o41x14) (v := undef) ?hi41x14 (by kernel_rfl) ?hf41x14 ?hr41x14 (fun _ _ _ h => h) ?hy41x14 (by assumption) ?rest41x14
            case hi41x14 => (simp only [List.getElem?_toArray, List.getElem?_cons_succ, List.getElem?_cons_zero]; exact rfl)
            case hf41x14 => kernel_rfl
            case hr41x14 => kernel_rfl
            case hy41x14 => exact Or.inr ⟨by rfl, rfl⟩
            simp only [put_mk, List.set_cons_succ, List.set_cons_zero]
            refine wpAnyH_take (i := 15) (oi := ?o41x15) (v := undef) ?hi41x15 (by kernel_rfl) ?hf41x15 ?hr41x15 (fun _ _ _ h => h) ?hy41x15 (by assumption) ?rest41x15
            case hi41x15 => (simp only [List.getElem?_toArray, List.getElem?_cons_succ, List.getElem?_cons_zero]; exact rfl)
            case hf41x15 => kernel_rfl
            case hr41x15 => kernel_rfl
            case hy41x15 => exact Or.inr ⟨by rfl, rfl⟩
            simp only [put_mk, List.set_cons_succ, List.set_cons_zero]
            refine wpAnyH_take (i := 16) (oi := ?o41x16) (v := undef) ?hi41x16 (by kernel_rfl) ?hf41x16 ?hr41x16 (fun _ _ _ h => h) ?hy41x16 (by assumption) ?rest41x16
            case hi41x16 => (simp only [List.getElem?_toArray, List.getElem?_cons_succ, List.getElem?_cons_zero]; exact rfl)
            case hf41x16 => kernel_rfl
            case hr41x16 => kernel_rfl
            case hy41x16 => exact Or.inr ⟨by rfl, rfl⟩
            simp only [put_mk, List.set_cons_succ, List.set_cons_zero]
            refine wpAnyH_take (i := 17) (oi := ?o41x17) (v := undef) ?hi41x17 (by kernel_rfl) ?hf41x17 ?hr41x17 (fun _ _ _ h => h) ?hy41x17 (by assumption) ?rest41x17
            case hi41x17 => (simp only [List.getElem?_toArray, List.getElem?_cons_succ, List.getElem?_cons_zero]; exact rfl)
            case hf41x17 => kernel_rfl
            case hr41x17 => kernel_rfl
            case hy41x17 => exact Or.inr ⟨by rfl, rfl⟩
            simp only [put_mk, List.set_cons_succ, List.set_cons_zero]
            refine wpAnyH_take (i := 18) (oi := ?o41x18) (v := undef) ?hi41x18 (by kernel_rfl) ?hf41x18 ?hr41x18 (fun _ _ _ h => h) ?hy41x18 (by assumption) ?rest41x18
            case hi41x18 => (simp only [List.getElem?_toArray, List.getElem?_cons_succ, List.getElem?_cons_zero]; exact rfl)
            case hf41x18 => kernel_rfl
            case hr41x18 => kernel_rfl
            case hy41x18 => exact Or.inr ⟨by rfl, rfl⟩
            simp only [put_mk, List.set_cons_succ, List.set_cons_zero]
            refine wpAnyH_take (i := 19) (oi := ?o41x19) (v := undef) ?hi41x19 (by kernel_rfl) ?hf41x19 ?hr41x19 (fun _ _ _ h => h) ?hy41x19 (by assumption) ?rest41x19
            case hi41x19 => (simp only [List.getElem?_toArray, List.getElem?_cons_succ, List.getElem?_cons_zero]; exact rfl)
            case hf41x19 => kernel_rfl
            case hr41x19 => kernel_rfl
            case hy41x19 => exact Or.inr ⟨by rfl, rfl⟩
            simp only [put_mk, List.set_cons_succ, List.set_cons_zero]
            refine wpAnyH_take (i := 20) (oi := ?o41x20) (v := undef) ?hi41x20 (by kernel_rfl) ?hf41x20 ?hr41x20 (fun _ _ _ h => h) ?hy41x20 (by assumption) ?rest41x20
            case hi41x20 => (simp only [List.getElem?_toArray, List.getElem?_cons_succ, List.getElem?_cons_zero]; exact rfl)
            case hf41x20 => kernel_rfl
            case hr41x20 => kernel_rfl
            case hy41x20 => exact Or.inr ⟨by rfl, rfl⟩
            simp only [put_mk, List.set_cons_succ, List.set_cons_zero]
            refine wpAnyH_take (i := 21) (oi := ?o41x21) (v := undef) ?hi41x21 (by kernel_rfl) ?hf41x21 ?hr41x21 (fun _ _ _ h => h) ?hy41x21 (by assumption) ?rest41x21
            case hi41x21 => (simp only [List.getElem?_toArray, List.getElem?_cons_succ, List.getElem?_cons_zero]; exact rfl)
            case hf41x21 => kernel_rfl
            case hr41x21 => kernel_rfl
            case hy41x21 => exact Or.inr ⟨by rfl, rfl⟩
            simp only [put_mk, List.set_cons_succ, List.set_cons_zero]
            refine wpAnyH_take (i := 22) (oi := ?o41x22) (v := undef) ?hi41x22 (by kernel_rfl) ?hf41x22 ?hr41x22 (fun _ _ _ h => h) ?hy41x22 (by assumption) ?rest41x22
            case hi41x22 => (simp only [List.getElem?_toArray, List.getElem?_cons_succ, List.getElem?_cons_zero]; exact rfl)
            case hf41x22 => kernel_rfl
            case hr41x22 => kernel_rfl
            case hy41x22 => exact Or.inr ⟨by rfl, rfl⟩
            simp only [put_mk, List.set_cons_succ, List.set_cons_zero]
            refine wpAnyH_take (i := 23) (oi := ?o41x23) (v := undef) ?hi41x23 (by kernel_rfl) ?hf41x23 ?hr41x23 (fun _ _ _ h => h) ?hy41x23 (by assumption) ?rest41x23
            case hi41x23 => (simp only [List.getElem?_toArray, List.getElem?_cons_succ, List.getElem?_cons_zero]; exact rfl)
            case hf41x23 => kernel_rfl
            case hr41x23 => kernel_rfl
            case hy41x23 => exact Or.inr ⟨by rfl, rfl⟩
            simp only [put_mk, List.set_cons_succ, List.set_cons_zero]
            refine wpAnyH_take (i := 24) (oi := ?o41x24) (v := undef) ?hi41x24 (by kernel_rfl) ?hf41x24 ?hr41x24 (fun _ _ _ h => h) ?hy41x24 (by assumption) ?rest41x24
            case hi41x24 => (simp only [List.getElem?_toArray, List.getElem?_cons_succ, List.getElem?_cons_zero]; exact rfl)
            case hf41x24 => kernel_rfl
            case hr41x24 => kernel_rfl
            case hy41x24 => exact Or.inr ⟨by rfl, rfl⟩
            simp only [put_mk, List.set_cons_succ, List.set_cons_zero]
            refine wpAnyH_take (i := 25) (oi := ?o41x25) (v := undef) ?hi41x25 (by kernel_rfl) ?hf41x25 ?hr41x25 (fun _ _ _ h => h) ?hy41x25 (by assumption) ?rest41x25
            case hi41x25 => (simp only [List.getElem?_toArray, List.getElem?_cons_succ, List.getElem?_cons_zero]; exact rfl)
            case hf41x25 => kernel_rfl
            case hr41x25 => kernel_rfl
            case hy41x25 => exact Or.inr ⟨by rfl, rfl⟩
            simp only [put_mk, List.set_cons_succ, List.set_cons_zero]
            refine wpAnyH_take (i := 26) (oi := ?o41x26) (v := undef) ?hi41x26 (by kernel_rfl) ?hf41x26 ?hr41x26 (fun _ _ _ h => h) ?hy41x26 (by assumption) ?rest41x26
            case hi41x26 => (simp only [List.getElem?_toArray, List.getElem?_cons_succ, List.getElem?_cons_zero]; exact rfl)
            case hf41x26 => kernel_rfl
            case hr41x26 => kernel_rfl
            case hy41x26 => exact Or.inr ⟨by rfl, rfl⟩
            simp only [put_mk, List.set_cons_succ, List.set_cons_zero]
            refine wpAnyH_take (i := 27) (oi := ?o41x27) (v := undef) ?hi41x27 (by kernel_rfl) ?hf41x27 ?hr41x27 (fun _ _ _ h => h) ?hy41x27 (by assumption) ?rest41x27
            case hi41x27 => (simp only [List.getElem?_toArray, List.getElem?_cons_succ, List.getElem?_cons_zero]; exact rfl)
            case hf41x27 => kernel_rfl
            case hr41x27 => kernel_rfl
            case hy41x27 => exact Or.inr ⟨by rfl, rfl⟩
            simp only [put_mk, List.set_cons_succ, List.set_cons_zero]
            refine wpAnyH_take (i := 28) (oi := ?o41x28) (v := undef) ?hi41x28 (by kernel_rfl) ?hf41x28 ?hr41x28 (fun _ _ _ h => h) ?hy41x28 (by assumption) ?rest41x28
            case hi41x28 => (simp only [List.getElem?_toArray, List.getElem?_cons_succ, List.getElem?_cons_zero]; exact rfl)
            case hf41x28 => kernel_rfl
            case hr41x28 => kernel_rfl
            case hy41x28 => exact Or.inr ⟨by rfl, rfl⟩
            simp only [put_mk, List.set_cons_succ, List.set_cons_zero]
            refine wpAnyH_take (i := 29) (oi := ?o41x29) (v := undef) ?hi41x29 (by kernel_rfl) ?hf41x29 ?hr41x29 (fun _ _ _ h => h) ?hy41x29 (by assumption) ?rest41x29
            case hi41x29 => (simp only [List.getElem?_toArray, List.getElem?_cons_succ, List.getElem?_cons_zero]; exact rfl)
            case hf41x29 => kernel_rfl
            case hr41x29 => kernel_rfl
            case hy41x29 => exact Or.inr ⟨by rfl, rfl⟩
            simp only [put_mk, List.set_cons_succ, List.set_cons_zero]
            refine wpAnyH_take (i := 30) (oi := ?o41x30) (v := undef) ?hi41x30 (by kernel_rfl) ?hf41x30 ?hr41x30 (fun _ _ _ h => h) ?hy41x30 (by assumption) ?rest41x30
            case hi41x30 => (simp only [List.getElem?_toArray, List.getElem?_cons_succ, List.getElem?_cons_zero]; exact rfl)
            case hf41x30 => kernel_rfl
            case hr41x30 => kernel_rfl
            case hy41x30 => exact Or.inr ⟨by rfl, rfl⟩
            simp only [put_mk, List.set_cons_succ, List.set_cons_zero]
            refine wpAnyH_take (i := 31) (oi := ?o41x31) (v := ?v41x31) ?hi41x31 (by kernel_rfl) ?hf41x31 ?hr41x31 (fun _ _ _ h => h) ?hy41x31 (by assumption) ?rest41x31
            case hi41x31 => (simp only [List.getElem?_toArray, List.getElem?_cons_succ, List.getElem?_cons_zero]; exact rfl)
            case hf41x31 => kernel_rfl
            case hr41x31 => kernel_rfl
            case hy41x31 => (refine Or.inl ⟨by rfl, ?_⟩; intro w hSw; (try dsimp only at hSw); go_simp; try with_reducible rfl)
            simp only [put_mk, List.set_cons_succ, List.set_cons_zero]
            refine wpAnyH_done (by kernel_rfl) ?_ _
            refine NoPanic.normal ?_
            go_wp2_with fail
            go_roundw
            case rel => exact ⟨k + 1, by omega, by go_num, (hxr.trans hx9).trans (by repeat (first | exact Ext.refl _ | assumption | refine Ext.setCell ?_ (by first | (simp; done) | (simp; omega)) _ | refine Ext.drewN ?_ _ | refine Ext.alloc ?_ _ | refine Ext.drew ?_ | refine Ext.trans ?_ (by assumption)))⟩
            case measure => simp [intOf] <;> omega
        | some n =>
          rw [show nxtP X Y Wn (some n) = .tuple #[.agg #[.int .i64 (colK X Wn n), .int .i64 (rowK Y Wn n)], .bool true, .int .i64 0] from rfl] at HNk
          have hnN := hnl n rfl
          have hun := Hun1.out n rfl
          have Hbn := hidA (Hbd.out n hnN)
          have hgn := grid_facts Hr.out.w1 (show n < Wn * Hn by rw [← HN.out]; exact hnN)
          have hdm := Nat.div_add_mod n Wn
          have hcol : colK X Wn n = X + ((n % Wn : Nat) : Int) := rfl
          have hrow : rowK Y Wn n = Y + ((n / Wn : Nat) : Int) := rfl
          have lk1 := fun w' h => Hrd.out w' h k hkN
          have ln1 := fun w' h => Hrd.out w' h n hnN
          have ho : FloatKind.f32.format.order lk (l.getD n 0) = some (compare (valI lk) (valI (l.getD n 0))) := by
            rw [ord_def]
            exact ord_valI (bd_Fin Hbk.out (by omega)) (bd_Fin Hbn.out (by omega))
          rw [hlk] at lk1
          generalize l.getD n 0 = ln at *
          have mn := run_minW ho
          generalize minW lk ln = z at *
          unfold lt at hun
          clear Hun1 hnl ho
          generalize colK X Wn n = px at *
          generalize rowK Y Wn n = py at *
          generalize n % Wn = a2 at *
          generalize n / Wn = b2 at *
          go_cut [11, 12, 13] from 49 to 75 (fun s11 s12 s13 wx => ∃ hp, s11 = Value.pointer (some ⟨hp, 0, none⟩) ∧ s12 = .bool true ∧ s13 = .int .i64 0 ∧ Bk wx hp 37 #[.int .i64 px, .int .i64 py] ∧ Ext wr wx)
          case first =>
            clear hun mn hgn hdm hcol hrow lk1 ln1
            refine wp_region_noPanic ?_
            refine wp_region_held_drew (S := fun w' => Ext wr w') (by kernel_rfl) ?_ (fun hHeld => ?_)
            · (repeat (first | exact Ext.refl _ | assumption | refine Ext.setCell ?_ (by first | (simp; done) | (simp; omega)) _ | refine Ext.drewN ?_ _ | refine Ext.alloc ?_ _ | refine Ext.drew ?_ | refine Ext.trans ?_ (by assumption)))
            refine wpAnyH_take (i := 0) (oi := ?o43x0) (v := ?v43x0) ?hi43x0 (by kernel_rfl) ?hf43x0 ?hr43x0 (fun _ _ _ h => h) ?hy43x0 (by assumption) ?rest43x0
            case hi43x0 => (simp only [List.getElem?_toArray, List.getElem?_cons_zero]; exact rfl)
            case hf43x0 => kernel_rfl
            case hr43x0 => kernel_rfl
            case hy43x0 => (refine Or.inl ⟨by rfl, ?_⟩; intro w hSw; (try dsimp only at hSw); go_simp; try with_reducible rfl)
            simp only [put_mk, List.set_cons_succ, List.set_cons_zero]
            refine wpAnyH_take (i := 1) (oi := ?o44x1) (v := ?v44x1) ?hi44x1 (by kernel_rfl) ?hf44x1 ?hr44x1 (fun _ _ _ h => h) ?hy44x1 (by assumption) ?rest44x1
            case hi44x1 => (simp only [List.getElem?_toArray, List.getElem?_cons_succ, List.getElem?_cons_zero]; exact rfl)
            case hf44x1 => kernel_rfl
            case hr44x1 => kernel_rfl
            case hy44x1 => (refine Or.inl ⟨by rfl, ?_⟩; intro w hSw; (try dsimp only at hSw); go_simp; try with_reducible rfl)
            simp only [put_mk, List.set_cons_succ, List.set_cons_zero]
            refine wpAnyH_take (i := 2) (oi := ?o45x2) (v := ?v45x2) ?hi45x2 (by kernel_rfl) ?hf45x2 ?hr45x2 (fun _ _ _ h => h) ?hy45x2 (by assumption) ?rest45x2
            case hi45x2 => (simp only [List.getElem?_toArray, List.getElem?_cons_succ, List.getElem?_cons_zero]; exact rfl)
            case hf45x2 => kernel_rfl
            case hr45x2 => kernel_rfl
            case hy45x2 => (refine Or.inl ⟨by rfl, ?_⟩; intro w hSw; (try dsimp only at hSw); go_simp; try with_reducible rfl)
            simp only [put_mk, List.set_cons_succ, List.set_cons_zero]
            refine wpAnyH_take (i := 3) (oi := ?o46x3) (v := ?v46x3) ?hi46x3 (by kernel_rfl) ?hf46x3 ?hr46x3 (fun _ _ _ h => h) ?hy46x3 (by assumption) ?rest46x3
            case hi46x3 => (simp only [List.getElem?_toArray, List.getElem?_cons_succ, List.getElem?_cons_zero]; exact rfl)
            case hf46x3 => kernel_rfl
            case hr46x3 => kernel_rfl
            case hy46x3 => (refine Or.inl ⟨by rfl, ?_⟩; intro w hSw; (try dsimp only at hSw); go_simp; try with_reducible rfl)
            simp only [put_mk, List.set_cons_succ, List.set_cons_zero]
            refine wpAnyH_take (i := 4) (oi := ?o47x4) (v := ?v47x4) ?hi47x4 (by kernel_rfl) ?hf47x4 ?hr47x4 (fun _ _ _ h => h) ?hy47x4 (by assumption) ?rest47x4
            case hi47x4 => (simp only [List.getElem?_toArray, List.getElem?_cons_succ, List.getElem?_cons_zero]; exact rfl)
            case hf47x4 => kernel_rfl
            case hr47x4 => kernel_rfl
            case hy47x4 => (refine Or.inl ⟨by rfl, ?_⟩; intro w hSw; (try dsimp only at hSw); go_simp; try with_reducible rfl)
            simp only [put_mk, List.set_cons_succ, List.set_cons_zero]
            refine wpAnyH_take (i := 5) (oi := ?o48x5) (v := ?v48x5) ?hi48x5 (by kernel_rfl) ?hf48x5 ?hr48x5 (fun _ _ _ h => h) ?hy48x5 (by assumption) ?rest48x5
            case hi48x5 => (simp only [List.getElem?_toArray, List.getElem?_cons_succ, List.getElem?_cons_zero]; exact rfl)
            case hf48x5 => kernel_rfl
            case hr48x5 => kernel_rfl
            case hy48x5 => (refine Or.inl ⟨by rfl, ?_⟩; intro w hSw; (try dsimp only at hSw); go_simp; try with_reducible rfl)
            simp only [put_mk, List.set_cons_succ, List.set_cons_zero]
            refine wpAnyH_take (i := 6) (oi := ?o49x6) (v := ?v49x6) ?hi49x6 (by kernel_rfl) ?hf49x6 ?hr49x6 (fun _ _ _ h => h) ?hy49x6 (by assumption) ?rest49x6
            case hi49x6 => (simp only [List.getElem?_toArray, List.getElem?_cons_succ, List.getElem?_cons_zero]; exact rfl)
            case hf49x6 => kernel_rfl
            case hr49x6 => kernel_rfl
            case hy49x6 => (refine Or.inl ⟨by rfl, ?_⟩; intro w hSw; (try dsimp only at hSw); go_simp; try with_reducible rfl)
            simp only [put_mk, List.set_cons_succ, List.set_cons_zero]
            refine wpAnyH_take (i := 7) (oi := ?o50x7) (v := ?v50x7) ?hi50x7 (by kernel_rfl) ?hf50x7 ?hr50x7 (fun _ _ _ h => h) ?hy50x7 (by assumption) ?rest50x7
            case hi50x7 => (simp only [List.getElem?_toArray, List.getElem?_cons_succ, List.getElem?_cons_zero]; exact rfl)
            case hf50x7 => kernel_rfl
            case hr50x7 => kernel_rfl
            case hy50x7 => (refine Or.inl ⟨by rfl, ?_⟩; intro w hSw; (try dsimp only at hSw); go_simp; try with_reducible rfl)
            simp only [put_mk, List.set_cons_succ, List.set_cons_zero]
            refine wpAnyH_take (i := 8) (oi := ?o51x8) (v := ?v51x8) ?hi51x8 (by kernel_rfl) ?hf51x8 ?hr51x8 (fun _ _ _ h => h) ?hy51x8 (by assumption) ?rest51x8
            case hi51x8 => (simp only [List.getElem?_toArray, List.getElem?_cons_succ, List.getElem?_cons_zero]; exact rfl)
            case hf51x8 => kernel_rfl
            case hr51x8 => kernel_rfl
            case hy51x8 => (refine Or.inl ⟨by rfl, ?_⟩; intro w hSw; (try dsimp only at hSw); go_simp; try with_reducible rfl)
            simp only [put_mk, List.set_cons_succ, List.set_cons_zero]
            refine wpAnyH_take (i := 9) (oi := ?o52x9) (v := ?v52x9) ?hi52x9 (by kernel_rfl) ?hf52x9 ?hr52x9 (fun _ _ _ h => h) ?hy52x9 (by assumption) ?rest52x9
            case hi52x9 => (simp only [List.getElem?_toArray, List.getElem?_cons_succ, List.getElem?_cons_zero]; exact rfl)
            case hf52x9 => kernel_rfl
            case hr52x9 => kernel_rfl
            case hy52x9 => (refine Or.inl ⟨by rfl, ?_⟩; intro w hSw; (try dsimp only at hSw); go_simp; try with_reducible rfl)
            simp only [put_mk, List.set_cons_succ, List.set_cons_zero]
            refine wpAnyH_take (i := 10) (oi := ?o53x10) (v := ?v53x10) ?hi53x10 (by kernel_rfl) ?hf53x10 ?hr53x10 (fun _ _ _ h => h) ?hy53x10 (by assumption) ?rest53x10
            case hi53x10 => (simp only [List.getElem?_toArray, List.getElem?_cons_succ, List.getElem?_cons_zero]; exact rfl)
            case hf53x10 => kernel_rfl
            case hr53x10 => kernel_rfl
            case hy53x10 => (refine Or.inl ⟨by rfl, ?_⟩; intro w hSw; (try dsimp only at hSw); go_simp; try with_reducible rfl)
            simp only [put_mk, List.set_cons_succ, List.set_cons_zero]
            refine wpAnyH_take (i := 11) (oi := ?o54x11) (v := ?v54x11) ?hi54x11 (by kernel_rfl) ?hf54x11 ?hr54x11 (fun _ _ _ h => h) ?hy54x11 (by assumption) ?rest54x11
            case hi54x11 => (simp only [List.getElem?_toArray, List.getElem?_cons_succ, List.getElem?_cons_zero]; exact rfl)
            case hf54x11 => kernel_rfl
            case hr54x11 => kernel_rfl
            case hy54x11 => (refine Or.inl ⟨by rfl, ?_⟩; intro w hSw; (try dsimp only at hSw); go_simp; try with_reducible rfl)
            simp only [put_mk, List.set_cons_succ, List.set_cons_zero]
            refine wpAnyH_take (i := 12) (oi := ?o55x12) (v := ?v55x12) ?hi55x12 (by kernel_rfl) ?hf55x12 ?hr55x12 (fun _ _ _ h => h) ?hy55x12 (by assumption) ?rest55x12
            case hi55x12 => (simp only [List.getElem?_toArray, List.getElem?_cons_succ, List.getElem?_cons_zero]; exact rfl)
            case hf55x12 => kernel_rfl
            case hr55x12 => kernel_rfl
            case hy55x12 => (refine Or.inl ⟨by rfl, ?_⟩; intro w hSw; (try dsimp only at hSw); go_simp; try with_reducible rfl)
            simp only [put_mk, List.set_cons_succ, List.set_cons_zero]
            refine wpAnyH_take (i := 13) (oi := ?o56x13) (v := ?v56x13) ?hi56x13 (by kernel_rfl) ?hf56x13 ?hr56x13 (fun _ _ _ h => h) ?hy56x13 (by assumption) ?rest56x13
            case hi56x13 => (simp only [List.getElem?_toArray, List.getElem?_cons_succ, List.getElem?_cons_zero]; exact rfl)
            case hf56x13 => kernel_rfl
            case hr56x13 => kernel_rfl
            case hy56x13 => (refine Or.inl ⟨by rfl, ?_⟩; intro w hSw; (try dsimp only at hSw); go_simp; try with_reducible rfl)
            simp only [put_mk, List.set_cons_succ, List.set_cons_zero]
            refine wpAnyH_take (i := 14) (oi := ?o57x14) (v := ?v57x14) ?hi57x14 (by kernel_rfl) ?hf57x14 ?hr57x14 (fun _ _ _ h => h) ?hy57x14 (by assumption) ?rest57x14
            case hi57x14 => (simp only [List.getElem?_toArray, List.getElem?_cons_succ, List.getElem?_cons_zero]; exact rfl)
            case hf57x14 => kernel_rfl
            case hr57x14 => kernel_rfl
            case hy57x14 => (refine Or.inl ⟨by rfl, ?_⟩; intro w hSw; (try dsimp only at hSw); go_simp; try with_reducible rfl)
            simp only [put_mk, List.set_cons_succ, List.set_cons_zero]
            refine wpAnyH_take (i := 15) (oi := ?o58x15) (v := ?v58x15) ?hi58x15 (by kernel_rfl) ?hf58x15 ?hr58x15 (fun _ _ _ h => h) ?hy58x15 (by assumption) ?rest58x15
            case hi58x15 => (simp only [List.getElem?_toArray, List.getElem?_cons_succ, List.getElem?_cons_zero]; exact rfl)
            case hf58x15 => kernel_rfl
            case hr58x15 => kernel_rfl
            case hy58x15 => (refine Or.inl ⟨by rfl, ?_⟩; intro w hSw; (try dsimp only at hSw); go_simp; try with_reducible rfl)
            simp only [put_mk, List.set_cons_succ, List.set_cons_zero]
            refine wpAnyH_take (i := 16) (oi := ?o59x16) (v := ?v59x16) ?hi59x16 (by kernel_rfl) ?hf59x16 ?hr59x16 (fun _ _ _ h => h) ?hy59x16 (by assumption) ?rest59x16
            case hi59x16 => (simp only [List.getElem?_toArray, List.getElem?_cons_succ, List.getElem?_cons_zero]; exact rfl)
            case hf59x16 => kernel_rfl
            case hr59x16 => kernel_rfl
            case hy59x16 => (refine Or.inl ⟨by rfl, ?_⟩; intro w hSw; (try dsimp only at hSw); go_simp; try with_reducible rfl)
            simp only [put_mk, List.set_cons_succ, List.set_cons_zero]
            refine wpAnyH_take (i := 17) (oi := ?o60x17) (v := ?v60x17) ?hi60x17 (by kernel_rfl) ?hf60x17 ?hr60x17 (fun _ _ _ h => h) ?hy60x17 (by assumption) ?rest60x17
            case hi60x17 => (simp only [List.getElem?_toArray, List.getElem?_cons_succ, List.getElem?_cons_zero]; exact rfl)
            case hf60x17 => kernel_rfl
            case hr60x17 => kernel_rfl
            case hy60x17 => (refine Or.inl ⟨by rfl, ?_⟩; intro w hSw; (try dsimp only at hSw); go_simp; try with_reducible rfl)
            simp only [put_mk, List.set_cons_succ, List.set_cons_zero]
            refine wpAnyH_take (i := 18) (oi := ?o61x18) (v := ?v61x18) ?hi61x18 (by kernel_rfl) ?hf61x18 ?hr61x18 (fun _ _ _ h => h) ?hy61x18 (by assumption) ?rest61x18
            case hi61x18 => (simp only [List.getElem?_toArray, List.getElem?_cons_succ, List.getElem?_cons_zero]; exact rfl)
            case hf61x18 => kernel_rfl
            case hr61x18 => kernel_rfl
            case hy61x18 => (refine Or.inl ⟨by rfl, ?_⟩; intro w hSw; (try dsimp only at hSw); go_simp; try with_reducible rfl)
            simp only [put_mk, List.set_cons_succ, List.set_cons_zero]
            refine wpAnyH_take (i := 19) (oi := ?o62x19) (v := ?v62x19) ?hi62x19 (by kernel_rfl) ?hf62x19 ?hr62x19 (fun _ _ _ h => h) ?hy62x19 (by assumption) ?rest62x19
            case hi62x19 => (simp only [List.getElem?_toArray, List.getElem?_cons_succ, List.getElem?_cons_zero]; exact rfl)
            case hf62x19 => kernel_rfl
            case hr62x19 => kernel_rfl
            case hy62x19 => (refine Or.inl ⟨by rfl, ?_⟩; intro w hSw; (try dsimp only at hSw); go_simp; try with_reducible rfl)
            simp only [put_mk, List.set_cons_succ, List.set_cons_zero]
            refine wpAnyH_take (i := 20) (oi := ?o63x20) (v := ?v63x20) ?hi63x20 (by kernel_rfl) ?hf63x20 ?hr63x20 (fun _ _ _ h => h) ?hy63x20 (by assumption) ?rest63x20
            case hi63x20 => (simp only [List.getElem?_toArray, List.getElem?_cons_succ, List.getElem?_cons_zero]; exact rfl)
            case hf63x20 => kernel_rfl
            case hr63x20 => kernel_rfl
            case hy63x20 => (refine Or.inl ⟨by rfl, ?_⟩; intro w hSw; (try dsimp only at hSw); go_simp; try with_reducible rfl)
            simp only [put_mk, List.set_cons_succ, List.set_cons_zero]
            refine wpAnyH_take (i := 21) (oi := ?o64x21) (v := ?v64x21) ?hi64x21 (by kernel_rfl) ?hf64x21 ?hr64x21 (fun _ _ _ h => h) ?hy64x21 (by assumption) ?rest64x21
            case hi64x21 => (simp only [List.getElem?_toArray, List.getElem?_cons_succ, List.getElem?_cons_zero]; exact rfl)
            case hf64x21 => kernel_rfl
            case hr64x21 => kernel_rfl
            case hy64x21 => (refine Or.inl ⟨by rfl, ?_⟩; intro w hSw; (try dsimp only at hSw); go_simp; try with_reducible rfl)
            simp only [put_mk, List.set_cons_succ, List.set_cons_zero]
            refine wpAnyH_ready (rs := [22, 27]) (by kernel_rfl) (by simp) ?_
            refine (AllReadyH.cons (o := ?o65x22) ?hi65x22 (fun K hK => ?_) (AllReadyH.cons (o := ?o65x27) ?hi65x27 (fun K hK => ?_) AllReadyH.nil))
            case hi65x22 => (simp only [List.getElem?_toArray, List.getElem?_cons_succ, List.getElem?_cons_zero]; exact rfl)
            case hi65x27 => (simp only [List.getElem?_toArray, List.getElem?_cons_succ, List.getElem?_cons_zero]; exact rfl)
            · go_simp
              refine (HNk.out _ (hxr.trans (by repeat (first | exact Ext.refl _ | assumption | refine Ext.setCell ?_ (by first | (simp; done) | (simp; omega)) _ | refine Ext.drewN ?_ _ | refine Ext.alloc ?_ _ | refine Ext.drew ?_ | refine Ext.trans ?_ (by assumption))))).mono ?_
              rintro e w9 ⟨rfl, hx9⟩
              refine hK.out _ _ ?_ (fun hHeld => ?_)
              · (repeat (first | exact Ext.refl _ | assumption | refine Ext.setCell ?_ (by first | (simp; done) | (simp; omega)) _ | refine Ext.drewN ?_ _ | refine Ext.alloc ?_ _ | refine Ext.drew ?_ | refine Ext.trans ?_ (by assumption)))
              clear hK K
              refine wpAnyH_take (i := 23) (oi := ?o66x23) (v := ?v66x23) ?hi66x23 (by kernel_rfl) ?hf66x23 ?hr66x23 (fun _ _ _ h => h) ?hy66x23 (by assumption) ?rest66x23
              case hi66x23 => (simp only [List.getElem?_toArray, List.getElem?_cons_succ, List.getElem?_cons_zero]; exact rfl)
              case hf66x23 => kernel_rfl
              case hr66x23 => kernel_rfl
              case hy66x23 => (refine Or.inl ⟨by rfl, ?_⟩; intro w hSw; (try dsimp only at hSw); go_simp; try with_reducible rfl)
              simp only [put_mk, List.set_cons_succ, List.set_cons_zero]
              refine wpAnyH_take (i := 24) (oi := ?o67x24) (v := ?v67x24) ?hi67x24 (by kernel_rfl) ?hf67x24 ?hr67x24 (fun _ _ _ h => h) ?hy67x24 (by assumption) ?rest67x24
              case hi67x24 => (simp only [List.getElem?_toArray, List.getElem?_cons_succ, List.getElem?_cons_zero]; exact rfl)
              case hf67x24 => kernel_rfl
              case hr67x24 => kernel_rfl
              case hy67x24 => (refine Or.inl ⟨by rfl, ?_⟩; intro w hSw; (try dsimp only at hSw); go_simp; try with_reducible rfl)
              simp only [put_mk, List.set_cons_succ, List.set_cons_zero]
              refine wpAnyH_take (i := 25) (oi := ?o68x25) (v := ?v68x25) ?hi68x25 (by kernel_rfl) ?hf68x25 ?hr68x25 (fun _ _ _ h => h) ?hy68x25 (by assumption) ?rest68x25
              case hi68x25 => (simp only [List.getElem?_toArray, List.getElem?_cons_succ, List.getElem?_cons_zero]; exact rfl)
              case hf68x25 => kernel_rfl
              case hr68x25 => kernel_rfl
              case hy68x25 => (refine Or.inl ⟨by rfl, ?_⟩; intro w hSw; (try dsimp only at hSw); go_simp; try with_reducible rfl)
              simp only [put_mk, List.set_cons_succ, List.set_cons_zero]
              refine wpAnyH_take (i := 26) (oi := ?o69x26) (v := ?v69x26) ?hi69x26 (by kernel_rfl) ?hf69x26 ?hr69x26 (fun _ _ _ h => h) ?hy69x26 (by assumption) ?rest69x26
              case hi69x26 => (simp only [List.getElem?_toArray, List.getElem?_cons_succ, List.getElem?_cons_zero]; exact rfl)
              case hf69x26 => kernel_rfl
              case hr69x26 => kernel_rfl
              case hy69x26 => (refine Or.inl ⟨by rfl, ?_⟩; intro w hSw; (try dsimp only at hSw); go_simp; try with_reducible rfl)
              simp only [put_mk, List.set_cons_succ, List.set_cons_zero]
              refine wpAnyH_ready (rs := [27]) (by kernel_rfl) (by simp) ?_
              refine AllReadyH.cons (o := ?o70x27) ?hi70x27 (fun K hK => ?_) AllReadyH.nil
              case hi70x27 => (simp only [List.getElem?_toArray, List.getElem?_cons_succ, List.getElem?_cons_zero]; exact rfl)
              go_simp
              refine hK.out _ _ ?_ (fun hHeld => ?_)
              · (repeat (first | exact Ext.refl _ | assumption | refine Ext.setCell ?_ (by first | (simp; done) | (simp; omega)) _ | refine Ext.drewN ?_ _ | refine Ext.alloc ?_ _ | refine Ext.drew ?_ | refine Ext.trans ?_ (by assumption)))
              clear hK K
              refine wpAnyH_ready (rs := [28]) (by kernel_rfl) (by simp) ?_
              refine AllReadyH.cons (o := ?o71x28) ?hi71x28 (fun K hK => ?_) AllReadyH.nil
              case hi71x28 => (simp only [List.getElem?_toArray, List.getElem?_cons_succ, List.getElem?_cons_zero]; exact rfl)
              go_simp
              refine hK.out _ _ ?_ (fun hHeld => ?_)
              · (repeat (first | exact Ext.refl _ | assumption | refine Ext.setCell ?_ (by first | (simp; done) | (simp; omega)) _ | refine Ext.drewN ?_ _ | refine Ext.alloc ?_ _ | refine Ext.drew ?_ | refine Ext.trans ?_ (by assumption)))
              clear hK K
              refine wpAnyH_take (i := 29) (oi := ?o72x29) (v := ?v72x29) ?hi72x29 (by kernel_rfl) ?hf72x29 ?hr72x29 (fun _ _ _ h => h) ?hy72x29 (by assumption) ?rest72x29
              case hi72x29 => (simp only [List.getElem?_toArray, List.getElem?_cons_succ, List.getElem?_cons_zero]; exact rfl)
              case hf72x29 => kernel_rfl
              case hr72x29 => kernel_rfl
              case hy72x29 => (refine Or.inl ⟨by rfl, ?_⟩; intro w hSw; (try dsimp only at hSw); go_simp; try with_reducible rfl)
              simp only [put_mk, List.set_cons_succ, List.set_cons_zero]
              refine wpAnyH_take (i := 30) (oi := ?o73x30) (v := ?v73x30) ?hi73x30 (by kernel_rfl) ?hf73x30 ?hr73x30 (fun _ _ _ h => h) ?hy73x30 (by assumption) ?rest73x30
              case hi73x30 => (simp only [List.getElem?_toArray, List.getElem?_cons_succ, List.getElem?_cons_zero]; exact rfl)
              case hf73x30 => kernel_rfl
              case hr73x30 => kernel_rfl
              case hy73x30 => (refine Or.inl ⟨by rfl, ?_⟩; intro w hSw; (try dsimp only at hSw); go_simp; try with_reducible rfl)
              simp only [put_mk, List.set_cons_succ, List.set_cons_zero]
              refine wpAnyH_done (by kernel_rfl) ?_ _
              refine NoPanic.normal ?_
              go_wp2_with fail
              go_meet
              case rel => exact ⟨_, rfl, rfl, rfl, Bk.drew (Bk.new' rfl), (by repeat (first | exact Ext.refl _ | assumption | refine Ext.setCell ?_ (by first | (simp; done) | (simp; omega)) _ | refine Ext.drewN ?_ _ | refine Ext.alloc ?_ _ | refine Ext.drew ?_ | refine Ext.trans ?_ (by assumption)))⟩
            · go_simp
              refine hK.out _ _ ?_ (fun hHeld => ?_)
              · (repeat (first | exact Ext.refl _ | assumption | refine Ext.setCell ?_ (by first | (simp; done) | (simp; omega)) _ | refine Ext.drewN ?_ _ | refine Ext.alloc ?_ _ | refine Ext.drew ?_ | refine Ext.trans ?_ (by assumption)))
              clear hK K
              refine wpAnyH_ready (rs := [22]) (by kernel_rfl) (by simp) ?_
              refine AllReadyH.cons (o := ?o74x22) ?hi74x22 (fun K hK => ?_) AllReadyH.nil
              case hi74x22 => (simp only [List.getElem?_toArray, List.getElem?_cons_succ, List.getElem?_cons_zero]; exact rfl)
              go_simp
              refine (HNk.out _ (hxr.trans (by repeat (first | exact Ext.refl _ | assumption | refine Ext.setCell ?_ (by first | (simp; done) | (simp; omega)) _ | refine Ext.drewN ?_ _ | refine Ext.alloc ?_ _ | refine Ext.drew ?_ | refine Ext.trans ?_ (by assumption))))).mono ?_
              rintro e w9 ⟨rfl, hx9⟩
              have hG : Bk w9 wr.heap.size 37 #[.int .i64 0, .int .i64 0] := by first | exact (Bk.new' (by simp)).ext hx9 | exact (Bk.new' (by simp)).drew.ext hx9
              have z0 := hG.cell 0
              have z1 := hG.cell 1
              have y0 := hG.frozen 0
              have y1 := hG.frozen 1
              refine hK.out _ _ ?_ (fun hHeld => ?_)
              · (repeat (first | exact Ext.refl _ | assumption | refine Ext.setCell ?_ (by first | (simp; done) | (simp; omega)) _ | refine Ext.drewN ?_ _ | refine Ext.alloc ?_ _ | refine Ext.drew ?_ | refine Ext.trans ?_ (by assumption)))
              clear hK K
              refine wpAnyH_take (i := 23) (oi := ?o75x23) (v := ?v75x23) ?hi75x23 (by kernel_rfl) ?hf75x23 ?hr75x23 (fun _ _ _ h => h) ?hy75x23 (by assumption) ?rest75x23
              case hi75x23 => (simp only [List.getElem?_toArray, List.getElem?_cons_succ, List.getElem?_cons_zero]; exact rfl)
              case hf75x23 => kernel_rfl
              case hr75x23 => kernel_rfl
              case hy75x23 => (refine Or.inl ⟨by rfl, ?_⟩; intro w hSw; (try dsimp only at hSw); go_simp; try with_reducible rfl)
              simp only [put_mk, List.set_cons_succ, List.set_cons_zero]
              refine wpAnyH_take (i := 24) (oi := ?o76x24) (v := ?v76x24) ?hi76x24 (by kernel_rfl) ?hf76x24 ?hr76x24 (fun _ _ _ h => h) ?hy76x24 (by assumption) ?rest76x24
              case hi76x24 => (simp only [List.getElem?_toArray, List.getElem?_cons_succ, List.getElem?_cons_zero]; exact rfl)
              case hf76x24 => kernel_rfl
              case hr76x24 => kernel_rfl
              case hy76x24 => (refine Or.inl ⟨by rfl, ?_⟩; intro w hSw; (try dsimp only at hSw); go_simp; try with_reducible rfl)
              simp only [put_mk, List.set_cons_succ, List.set_cons_zero]
              refine wpAnyH_take (i := 25) (oi := ?o77x25) (v := ?v77x25) ?hi77x25 (by kernel_rfl) ?hf77x25 ?hr77x25 (fun _ _ _ h => h) ?hy77x25 (by assumption) ?rest77x25
              case hi77x25 => (simp only [List.getElem?_toArray, List.getElem?_cons_succ, List.getElem?_cons_zero]; exact rfl)
              case hf77x25 => kernel_rfl
              case hr77x25 => kernel_rfl
              case hy77x25 => (refine Or.inl ⟨by rfl, ?_⟩; intro w hSw; (try dsimp only at hSw); go_simp; try with_reducible rfl)
              simp only [put_mk, List.set_cons_succ, List.set_cons_zero]
              refine wpAnyH_take (i := 26) (oi := ?o78x26) (v := ?v78x26) ?hi78x26 (by kernel_rfl) ?hf78x26 ?hr78x26 (fun _ _ _ h => h) ?hy78x26 (by assumption) ?rest78x26
              case hi78x26 => (simp only [List.getElem?_toArray, List.getElem?_cons_succ, List.getElem?_cons_zero]; exact rfl)
              case hf78x26 => kernel_rfl
              case hr78x26 => kernel_rfl
              case hy78x26 => (refine Or.inl ⟨by rfl, ?_⟩; intro w hSw; (try dsimp only at hSw); go_simp; try with_reducible rfl)
              simp only [put_mk, List.set_cons_succ, List.set_cons_zero]
              refine wpAnyH_ready (rs := [28]) (by kernel_rfl) (by simp) ?_
              refine AllReadyH.cons (o := ?o79x28) ?hi79x28 (fun K hK => ?_) AllReadyH.nil
              case hi79x28 => (simp only [List.getElem?_toArray, List.getElem?_cons_succ, List.getElem?_cons_zero]; exact rfl)
              go_simp
              refine hK.out _ _ ?_ (fun hHeld => ?_)
              · (repeat (first | exact Ext.refl _ | assumption | refine Ext.setCell ?_ (by first | (simp; done) | (simp; omega)) _ | refine Ext.drewN ?_ _ | refine Ext.alloc ?_ _ | refine Ext.drew ?_ | refine Ext.trans ?_ (by assumption)))
              clear hK K
              refine wpAnyH_take (i := 29) (oi := ?o80x29) (v := ?v80x29) ?hi80x29 (by kernel_rfl) ?hf80x29 ?hr80x29 (fun _ _ _ h => h) ?hy80x29 (by assumption) ?rest80x29
              case hi80x29 => (simp only [List.getElem?_toArray, List.getElem?_cons_succ, List.getElem?_cons_zero]; exact rfl)
              case hf80x29 => kernel_rfl
              case hr80x29 => kernel_rfl
              case hy80x29 => (refine Or.inl ⟨by rfl, ?_⟩; intro w hSw; (try dsimp only at hSw); go_simp; try with_reducible rfl)
              simp only [put_mk, List.set_cons_succ, List.set_cons_zero]
              refine wpAnyH_take (i := 30) (oi := ?o81x30) (v := ?v81x30) ?hi81x30 (by kernel_rfl) ?hf81x30 ?hr81x30 (fun _ _ _ h => h) ?hy81x30 (by assumption) ?rest81x30
              case hi81x30 => (simp only [List.getElem?_toArray, List.getElem?_cons_succ, List.getElem?_cons_zero]; exact rfl)
              case hf81x30 => kernel_rfl
              case hr81x30 => kernel_rfl
              case hy81x30 => (refine Or.inl ⟨by rfl, ?_⟩; intro w hSw; (try dsimp only at hSw); go_simp; try with_reducible rfl)
              simp only [put_mk, List.set_cons_succ, List.set_cons_zero]
              refine wpAnyH_done (by kernel_rfl) ?_ _
              refine NoPanic.normal ?_
              go_wp2_with fail
              go_meet
              case rel => exact ⟨wr.heap.size, rfl, rfl, rfl, by simpa using ((hG.set 0 (.int .i64 px)).set 1 (.int .i64 py)), (by repeat (first | exact Ext.refl _ | assumption | refine Ext.setCell ?_ (by first | (simp; done) | (simp; omega)) _ | refine Ext.drewN ?_ _ | refine Ext.alloc ?_ _ | refine Ext.drew ?_ | refine Ext.trans ?_ (by assumption)))⟩
          case rest =>
            obtain ⟨hp, rfl, rfl, rfl, kP, hx9⟩ := hcut
            clear q2 q3 q5 q6 t1 t2
            have Hxr := hidA (hxr.trans hx9)
            have g0 : ∀ w', Ext wc w' → w'.cell? ⟨h0, 0, none⟩ = some (.int .i64 X) := fun w' h => f0 w' (hx9.trans h)
            have g1 : ∀ w', Ext wc w' → w'.cell? ⟨h0, 1, none⟩ = some (.int .i64 Y) := fun w' h => f1 w' (hx9.trans h)
            have g2 : ∀ w', Ext wc w' → w'.cell? ⟨h0, 2, none⟩ = some (.int .i64 (Wn : Int)) := fun w' h => f2 w' (hx9.trans h)
            have g4 : ∀ w', Ext wc w' → w'.cell? ⟨h0, 4, none⟩ = some (.slice (some ad) N c) := fun w' h => f4 w' (hx9.trans h)
            have gk : ∀ w', Ext wc w' → w'.cell? (ad.add k) = some (.float .f32 lk) := fun w' h => lk1 w' (hx9.trans h)
            have gn : ∀ w', Ext wc w' → w'.cell? (ad.add n) = some (.float .f32 ln) := fun w' h => ln1 w' (hx9.trans h)
            have p0 : ∀ w', Ext wc w' → w'.cell? ⟨hp, 0, none⟩ = some (.int .i64 px) := fun w' h => (kP.ext h).cell 0
            have p1 : ∀ w', Ext wc w' → w'.cell? ⟨hp, 1, none⟩ = some (.int .i64 py) := fun w' h => (kP.ext h).cell 1
            clear f0 f1 f2 f3 f4 lk1 ln1 kP hx9 hxr Hrd
            obtain ⟨r1, r2, r3, r4, r5, r6⟩ := Hrg.out
            have hbb : b2 ≤ 65536 := by
              have : b2 * 1 ≤ Wn * b2 := by rw [Nat.mul_comm]; exact Nat.mul_le_mul_right _ Hr.out.w1
              omega
            have w1 : py - Y = (b2 : Int) := by omega
            have w2 : (b2 : Int) * (Wn : Int) = ((Wn * b2 : Nat) : Int) := by rw [Int.natCast_mul, Int.mul_comm]
            generalize hwb : Wn * b2 = t at *
            have ht : t ≤ 65536 := by omega
            have w3 : (t : Int) + px - X = (n : Int) := by omega
            have c1 : -4194304 ≤ px := by omega
            have c2 : px ≤ 8388608 := by omega
            have c3 : -4194304 ≤ py := by omega
            have c4 : py ≤ 8388608 := by omega
            have v1 : IntKind.i64.wrap (b2 : Int) = b2 := IntWalk.i64_in _ ⟨by omega, by omega⟩
            have v2 : IntKind.i64.wrap (t : Int) = t := IntWalk.i64_in _ ⟨by omega, by omega⟩
            have v3 : IntKind.i64.wrap ((t : Int) + px) = (t : Int) + px := IntWalk.i64_in _ ⟨by omega, by omega⟩
            have v4 : IntKind.i64.wrap (n : Int) = n := IntWalk.i64_in _ ⟨by omega, by omega⟩
            have j1 : (0 : Int) ≤ n := by omega
            have j2 : (n : Int) < N := by omega
            clear hdm hcol hrow hwb hgn r1 r2 r3 r4 r5 r6
            go_upto_region 16 with fail
            refine wp_region_noPanic ?_
            refine wp_region_held_drew (S := fun w' => Ext wc w') (by kernel_rfl) ?_ (fun hHeld => ?_)
            · (repeat (first | exact Ext.refl _ | assumption | refine Ext.setCell ?_ (by first | (simp; done) | (simp; omega)) _ | refine Ext.drewN ?_ _ | refine Ext.alloc ?_ _ | refine Ext.drew ?_ | refine Ext.trans ?_ (by assumption)))
            refine wpAnyH_take (i := 0) (oi := ?o82x0) (v := ?v82x0) ?hi82x0 (by kernel_rfl) ?hf82x0 ?hr82x0 (fun _ _ _ h => h) ?hy82x0 (by assumption) ?rest82x0
            case hi82x0 => (simp only [List.getElem?_toArray, List.getElem?_cons_zero]; exact rfl)
            case hf82x0 => kernel_rfl
            case hr82x0 => kernel_rfl
            case hy82x0 => (refine Or.inl ⟨by rfl, ?_⟩; intro w hSw; (try dsimp only at hSw); go_simp; try with_reducible rfl)
            simp only [put_mk, List.set_cons_succ, List.set_cons_zero]
            refine wpAnyH_take (i := 1) (oi := ?o82x1) (v := ?v82x1) ?hi82x1 (by kernel_rfl) ?hf82x1 ?hr82x1 (fun _ _ _ h => h) ?hy82x1 (by assumption) ?rest82x1
            case hi82x1 => (simp only [List.getElem?_toArray, List.getElem?_cons_succ, List.getElem?_cons_zero]; exact rfl)
            case hf82x1 => kernel_rfl
            case hr82x1 => kernel_rfl
            case hy82x1 => (refine Or.inl ⟨by rfl, ?_⟩; intro w hSw; (try dsimp only at hSw); go_simp; try with_reducible rfl)
            simp only [put_mk, List.set_cons_succ, List.set_cons_zero]
            refine wpAnyH_take (i := 2) (oi := ?o82x2) (v := ?v82x2) ?hi82x2 (by kernel_rfl) ?hf82x2 ?hr82x2 (fun _ _ _ h => h) ?hy82x2 (by assumption) ?rest82x2
            case hi82x2 => (simp only [List.getElem?_toArray, List.getElem?_cons_succ, List.getElem?_cons_zero]; exact rfl)
            case hf82x2 => kernel_rfl
            case hr82x2 => kernel_rfl
            case hy82x2 => (refine Or.inl ⟨by rfl, ?_⟩; intro w hSw; (try dsimp only at hSw); go_simp; try with_reducible rfl)
            simp only [put_mk, List.set_cons_succ, List.set_cons_zero]
            refine wpAnyH_take (i := 3) (oi := ?o82x3) (v := ?v82x3) ?hi82x3 (by kernel_rfl) ?hf82x3 ?hr82x3 (fun _ _ _ h => h) ?hy82x3 (by assumption) ?rest82x3
            case hi82x3 => (simp only [List.getElem?_toArray, List.getElem?_cons_succ, List.getElem?_cons_zero]; exact rfl)
            case hf82x3 => kernel_rfl
            case hr82x3 => kernel_rfl
            case hy82x3 => (refine Or.inl ⟨by rfl, ?_⟩; intro w hSw; (try dsimp only at hSw); go_simp; try with_reducible rfl)
            simp only [put_mk, List.set_cons_succ, List.set_cons_zero]
            refine wpAnyH_take (i := 4) (oi := ?o82x4) (v := ?v82x4) ?hi82x4 (by kernel_rfl) ?hf82x4 ?hr82x4 (fun _ _ _ h => h) ?hy82x4 (by assumption) ?rest82x4
            case hi82x4 => (simp only [List.getElem?_toArray, List.getElem?_cons_succ, List.getElem?_cons_zero]; exact rfl)
            case hf82x4 => kernel_rfl
            case hr82x4 => kernel_rfl
            case hy82x4 => (refine Or.inl ⟨by rfl, ?_⟩; intro w hSw; (try dsimp only at hSw); go_simp; try with_reducible rfl)
            simp only [put_mk, List.set_cons_succ, List.set_cons_zero]
            refine wpAnyH_take (i := 5) (oi := ?o82x5) (v := ?v82x5) ?hi82x5 (by kernel_rfl) ?hf82x5 ?hr82x5 (fun _ _ _ h => h) ?hy82x5 (by assumption) ?rest82x5
            case hi82x5 => (simp only [List.getElem?_toArray, List.getElem?_cons_succ, List.getElem?_cons_zero]; exact rfl)
            case hf82x5 => kernel_rfl
            case hr82x5 => kernel_rfl
            case hy82x5 => (refine Or.inl ⟨by rfl, ?_⟩; intro w hSw; (try dsimp only at hSw); go_simp; try with_reducible rfl)
            simp only [put_mk, List.set_cons_succ, List.set_cons_zero]
            refine wpAnyH_take (i := 6) (oi := ?o82x6) (v := ?v82x6) ?hi82x6 (by kernel_rfl) ?hf82x6 ?hr82x6 (fun _ _ _ h => h) ?hy82x6 (by assumption) ?rest82x6
            case hi82x6 => (simp only [List.getElem?_toArray, List.getElem?_cons_succ, List.getElem?_cons_zero]; exact rfl)
            case hf82x6 => kernel_rfl
            case hr82x6 => kernel_rfl
            case hy82x6 => (refine Or.inl ⟨by rfl, ?_⟩; intro w hSw; (try dsimp only at hSw); go_simp; try with_reducible rfl)
            simp only [put_mk, List.set_cons_succ, List.set_cons_zero]
            refine wpAnyH_take (i := 7) (oi := ?o82x7) (v := ?v82x7) ?hi82x7 (by kernel_rfl) ?hf82x7 ?hr82x7 (fun _ _ _ h => h) ?hy82x7 (by assumption) ?rest82x7
            case hi82x7 => (simp only [List.getElem?_toArray, List.getElem?_cons_succ, List.getElem?_cons_zero]; exact rfl)
            case hf82x7 => kernel_rfl
            case hr82x7 => kernel_rfl
            case hy82x7 => (refine Or.inl ⟨by rfl, ?_⟩; intro w hSw; (try dsimp only at hSw); go_simp; try with_reducible rfl)
            simp only [put_mk, List.set_cons_succ, List.set_cons_zero]
            refine wpAnyH_take (i := 8) (oi := ?o82x8) (v := ?v82x8) ?hi82x8 (by kernel_rfl) ?hf82x8 ?hr82x8 (fun _ _ _ h => h) ?hy82x8 (by assumption) ?rest82x8
            case hi82x8 => (simp only [List.getElem?_toArray, List.getElem?_cons_succ, List.getElem?_cons_zero]; exact rfl)
            case hf82x8 => kernel_rfl
            case hr82x8 => kernel_rfl
            case hy82x8 => (refine Or.inl ⟨by rfl, ?_⟩; intro w hSw; (try dsimp only at hSw); go_simp; try with_reducible rfl)
            simp only [put_mk, List.set_cons_succ, List.set_cons_zero]
            refine wpAnyH_take (i := 9) (oi := ?o82x9) (v := ?v82x9) ?hi82x9 (by kernel_rfl) ?hf82x9 ?hr82x9 (fun _ _ _ h => h) ?hy82x9 (by assumption) ?rest82x9
            case hi82x9 => (simp only [List.getElem?_toArray, List.getElem?_cons_succ, List.getElem?_cons_zero]; exact rfl)
            case hf82x9 => kernel_rfl
            case hr82x9 => kernel_rfl
            case hy82x9 => (refine Or.inl ⟨by rfl, ?_⟩; intro w hSw; (try dsimp only at hSw); go_simp; try with_reducible rfl)
            simp only [put_mk, List.set_cons_succ, List.set_cons_zero]
            refine wpAnyH_take (i := 10) (oi := ?o82x10) (v := ?v82x10) ?hi82x10 (by kernel_rfl) ?hf82x10 ?hr82x10 (fun _ _ _ h => h) ?hy82x10 (by assumption) ?rest82x10
            case hi82x10 => (simp only [List.getElem?_toArray, List.getElem?_cons_succ, List.getElem?_cons_zero]; exact rfl)
            case hf82x10 => kernel_rfl
            case hr82x10 => kernel_rfl
            case hy82x10 => (refine Or.inl ⟨by rfl, ?_⟩; intro w hSw; (try dsimp only at hSw); go_simp; try with_reducible rfl)
            simp only [put_mk, List.set_cons_succ, List.set_cons_zero]
            refine wpAnyH_take (i := 11) (oi := ?o82x11) (v := ?v82x11) ?hi82x11 (by kernel_rfl) ?hf82x11 ?hr82x11 (fun _ _ _ h => h) ?hy82x11 (by assumption) ?rest82x11
            case hi82x11 => (simp only [List.getElem?_toArray, List.getElem?_cons_succ, List.getElem?_cons_zero]; exact rfl)
            case hf82x11 => kernel_rfl
            case hr82x11 => kernel_rfl
            case hy82x11 => (refine Or.inl ⟨by rfl, ?_⟩; intro w hSw; (try dsimp only at hSw); go_simp; try with_reducible rfl)
            simp only [put_mk, List.set_cons_succ, List.set_cons_zero]
            refine wpAnyH_take (i := 12) (oi := ?o82x12) (v := ?v82x12) ?hi82x12 (by kernel_rfl) ?hf82x12 ?hr82x12 (fun _ _ _ h => h) ?hy82x12 (by assumption) ?rest82x12
            case hi82x12 => (simp only [List.getElem?_toArray, List.getElem?_cons_succ, List.getElem?_cons_zero]; exact rfl)
            case hf82x12 => kernel_rfl
            case hr82x12 => kernel_rfl
            case hy82x12 => (refine Or.inl ⟨by rfl, ?_⟩; intro w hSw; (try dsimp only at hSw); go_simp; try with_reducible rfl)
            simp only [put_mk, List.set_cons_succ, List.set_cons_zero]
            refine wpAnyH_take (i := 13) (oi := ?o82x13) (v := ?v82x13) ?hi82x13 (by kernel_rfl) ?hf82x13 ?hr82x13 (fun _ _ _ h => h) ?hy82x13 (by assumption) ?rest82x13
            case hi82x13 => (simp only [List.getElem?_toArray, List.getElem?_cons_succ, List.getElem?_cons_zero]; exact rfl)
            case hf82x13 => kernel_rfl
            case hr82x13 => kernel_rfl
            case hy82x13 => (refine Or.inl ⟨by rfl, ?_⟩; intro w hSw; (try dsimp only at hSw); go_simp; try with_reducible rfl)
            simp only [put_mk, List.set_cons_succ, List.set_cons_zero]
            refine wpAnyH_take (i := 14) (oi := ?o82x14) (v := ?v82x14) ?hi82x14 (by kernel_rfl) ?hf82x14 ?hr82x14 (fun _ _ _ h => h) ?hy82x14 (by assumption) ?rest82x14
            case hi82x14 => (simp only [List.getElem?_toArray, List.getElem?_cons_succ, List.getElem?_cons_zero]; exact rfl)
            case hf82x14 => kernel_rfl
            case hr82x14 => kernel_rfl
            case hy82x14 => (refine Or.inl ⟨by rfl, ?_⟩; intro w hSw; (try dsimp only at hSw); go_simp; try with_reducible rfl)
            simp only [put_mk, List.set_cons_succ, List.set_cons_zero]
            refine wpAnyH_take (i := 15) (oi := ?o82x15) (v := ?v82x15) ?hi82x15 (by kernel_rfl) ?hf82x15 ?hr82x15 (fun _ _ _ h => h) ?hy82x15 (by assumption) ?rest82x15
            case hi82x15 => (simp only [List.getElem?_toArray, List.getElem?_cons_succ, List.getElem?_cons_zero]; exact rfl)
            case hf82x15 => kernel_rfl
            case hr82x15 => kernel_rfl
            case hy82x15 => (refine Or.inl ⟨by rfl, ?_⟩; intro w hSw; (try dsimp only at hSw); go_simp; try with_reducible rfl)
            simp only [put_mk, List.set_cons_succ, List.set_cons_zero]
            refine wpAnyH_take (i := 16) (oi := ?o82x16) (v := ?v82x16) ?hi82x16 (by kernel_rfl) ?hf82x16 ?hr82x16 (fun _ _ _ h => h) ?hy82x16 (by assumption) ?rest82x16
            case hi82x16 => (simp only [List.getElem?_toArray, List.getElem?_cons_succ, List.getElem?_cons_zero]; exact rfl)
            case hf82x16 => kernel_rfl
            case hr82x16 => kernel_rfl
            case hy82x16 => (refine Or.inl ⟨by rfl, ?_⟩; intro w hSw; (try dsimp only at hSw); go_simp; try with_reducible rfl)
            simp only [put_mk, List.set_cons_succ, List.set_cons_zero]
            refine wpAnyH_take (i := 17) (oi := ?o82x17) (v := ?v82x17) ?hi82x17 (by kernel_rfl) ?hf82x17 ?hr82x17 (fun _ _ _ h => h) ?hy82x17 (by assumption) ?rest82x17
            case hi82x17 => (simp only [List.getElem?_toArray, List.getElem?_cons_succ, List.getElem?_cons_zero]; exact rfl)
            case hf82x17 => kernel_rfl
            case hr82x17 => kernel_rfl
            case hy82x17 => (refine Or.inl ⟨by rfl, ?_⟩; intro w hSw; (try dsimp only at hSw); go_simp; try with_reducible rfl)
            simp only [put_mk, List.set_cons_succ, List.set_cons_zero]
            refine wpAnyH_take (i := 18) (oi := ?o82x18) (v := ?v82x18) ?hi82x18 (by kernel_rfl) ?hf82x18 ?hr82x18 (fun _ _ _ h => h) ?hy82x18 (by assumption) ?rest82x18
            case hi82x18 => (simp only [List.getElem?_toArray, List.getElem?_cons_succ, List.getElem?_cons_zero]; exact rfl)
            case hf82x18 => kernel_rfl
            case hr82x18 => kernel_rfl
            case hy82x18 => (refine Or.inl ⟨by rfl, ?_⟩; intro w hSw; (try dsimp only at hSw); go_simp; try with_reducible rfl)
            simp only [put_mk, List.set_cons_succ, List.set_cons_zero]
            refine wpAnyH_take (i := 19) (oi := ?o82x19) (v := ?v82x19) ?hi82x19 (by kernel_rfl) ?hf82x19 ?hr82x19 (fun _ _ _ h => h) ?hy82x19 (by assumption) ?rest82x19
            case hi82x19 => (simp only [List.getElem?_toArray, List.getElem?_cons_succ, List.getElem?_cons_zero]; exact rfl)
            case hf82x19 => kernel_rfl
            case hr82x19 => kernel_rfl
            case hy82x19 => (refine Or.inl ⟨by rfl, ?_⟩; intro w hSw; (try dsimp only at hSw); go_simp; try with_reducible rfl)
            simp only [put_mk, List.set_cons_succ, List.set_cons_zero]
            refine wpAnyH_take (i := 20) (oi := ?o82x20) (v := ?v82x20) ?hi82x20 (by kernel_rfl) ?hf82x20 ?hr82x20 (fun _ _ _ h => h) ?hy82x20 (by assumption) ?rest82x20
            case hi82x20 => (simp only [List.getElem?_toArray, List.getElem?_cons_succ, List.getElem?_cons_zero]; exact rfl)
            case hf82x20 => kernel_rfl
            case hr82x20 => kernel_rfl
            case hy82x20 => (refine Or.inl ⟨by rfl, ?_⟩; intro w hSw; (try dsimp only at hSw); go_simp; try with_reducible rfl)
            simp only [put_mk, List.set_cons_succ, List.set_cons_zero]
            refine wpAnyH_take (i := 21) (oi := ?o82x21) (v := ?v82x21) ?hi82x21 (by kernel_rfl) ?hf82x21 ?hr82x21 (fun _ _ _ h => h) ?hy82x21 (by assumption) ?rest82x21
            case hi82x21 => (simp only [List.getElem?_toArray, List.getElem?_cons_succ, List.getElem?_cons_zero]; exact rfl)
            case hf82x21 => kernel_rfl
            case hr82x21 => kernel_rfl
            case hy82x21 => (refine Or.inl ⟨by rfl, ?_⟩; intro w hSw; (try dsimp only at hSw); go_simp; try with_reducible rfl)
            simp only [put_mk, List.set_cons_succ, List.set_cons_zero]
            refine wpAnyH_take (i := 22) (oi := ?o82x22) (v := ?v82x22) ?hi82x22 (by kernel_rfl) ?hf82x22 ?hr82x22 (fun _ _ _ h => h) ?hy82x22 (by assumption) ?rest82x22
            case hi82x22 => (simp only [List.getElem?_toArray, List.getElem?_cons_succ, List.getElem?_cons_zero]; exact rfl)
            case hf82x22 => kernel_rfl
            case hr82x22 => kernel_rfl
            case hy82x22 => (refine Or.inl ⟨by rfl, ?_⟩; intro w hSw; (try dsimp only at hSw); go_simp; try with_reducible rfl)
            simp only [put_mk, List.set_cons_succ, List.set_cons_zero]
            refine wpAnyH_take (i := 23) (oi := ?o82x23) (v := ?v82x23) ?hi82x23 (by kernel_rfl) ?hf82x23 ?hr82x23 (fun _ _ _ h => h) ?hy82x23 (by assumption) ?rest82x23
            case hi82x23 => (simp only [List.getElem?_toArray, List.getElem?_cons_succ, List.getElem?_cons_zero]; exact rfl)
            case hf82x23 => kernel_rfl
            case hr82x23 => kernel_rfl
            case hy82x23 => (refine Or.inl ⟨by rfl, ?_⟩; intro w hSw; (try dsimp only at hSw); go_simp; try with_reducible rfl)
            simp only [put_mk, List.set_cons_succ, List.set_cons_zero]
            refine wpAnyH_take (i := 24) (oi := ?o82x24) (v := ?v82x24) ?hi82x24 (by kernel_rfl) ?hf82x24 ?hr82x24 (fun _ _ _ h => h) ?hy82x24 (by assumption) ?rest82x24
            case hi82x24 => (simp only [List.getElem?_toArray, List.getElem?_cons_succ, List.getElem?_cons_zero]; exact rfl)
            case hf82x24 => kernel_rfl
            case hr82x24 => kernel_rfl
            case hy82x24 => (refine Or.inl ⟨by rfl, ?_⟩; intro w hSw; (try dsimp only at hSw); go_simp; try with_reducible rfl)
            simp only [put_mk, List.set_cons_succ, List.set_cons_zero]
            refine wpAnyH_take (i := 25) (oi := ?o82x25) (v := ?v82x25) ?hi82x25 (by kernel_rfl) ?hf82x25 ?hr82x25 (fun _ _ _ h => h) ?hy82x25 (by assumption) ?rest82x25
            case hi82x25 => (simp only [List.getElem?_toArray, List.getElem?_cons_succ, List.getElem?_cons_zero]; exact rfl)
            case hf82x25 => kernel_rfl
            case hr82x25 => kernel_rfl
            case hy82x25 => (refine Or.inl ⟨by rfl, ?_⟩; intro w hSw; (try dsimp only at hSw); go_simp; try with_reducible rfl)
            simp only [put_mk, List.set_cons_succ, List.set_cons_zero]
            refine wpAnyH_take (i := 26) (oi := ?o82x26) (v := ?v82x26) ?hi82x26 (by kernel_rfl) ?hf82x26 ?hr82x26 (fun _ _ _ h => h) ?hy82x26 (by assumption) ?rest82x26
            case hi82x26 => (simp only [List.getElem?_toArray, List.getElem?_cons_succ, List.getElem?_cons_zero]; exact rfl)
            case hf82x26 => kernel_rfl
            case hr82x26 => kernel_rfl
            case hy82x26 => (refine Or.inl ⟨by rfl, ?_⟩; intro w hSw; (try dsimp only at hSw); go_simp; try with_reducible rfl)
            simp only [put_mk, List.set_cons_succ, List.set_cons_zero]
            refine wpAnyH_take (i := 27) (oi := ?o82x27) (v := ?v82x27) ?hi82x27 (by kernel_rfl) ?hf82x27 ?hr82x27 (fun _ _ _ h => h) ?hy82x27 (by assumption) ?rest82x27
            case hi82x27 => (simp only [List.getElem?_toArray, List.getElem?_cons_succ, List.getElem?_cons_zero]; exact rfl)
            case hf82x27 => kernel_rfl
            case hr82x27 => kernel_rfl
            case hy82x27 => (refine Or.inl ⟨by rfl, ?_⟩; intro w hSw; (try dsimp only at hSw); go_simp; try with_reducible rfl)
            simp only [put_mk, List.set_cons_succ, List.set_cons_zero]
            refine wpAnyH_take (i := 28) (oi := ?o82x28) (v := ?v82x28) ?hi82x28 (by kernel_rfl) ?hf82x28 ?hr82x28 (fun _ _ _ h => h) ?hy82x28 (by assumption) ?rest82x28
            case hi82x28 => (simp only [List.getElem?_toArray, List.getElem?_cons_succ, List.getElem?_cons_zero]; exact rfl)
            case hf82x28 => kernel_rfl
            case hr82x28 => kernel_rfl
            case hy82x28 => (refine Or.inl ⟨by rfl, ?_⟩; intro w hSw; (try dsimp only at hSw); go_simp; try with_reducible rfl)
            simp only [put_mk, List.set_cons_succ, List.set_cons_zero]
            refine wpAnyH_ready (rs := [29]) (by kernel_rfl) (by simp) ?_
            refine AllReadyH.cons (o := ?o82x29) ?hi82x29 (fun K hK => ?_) AllReadyH.nil
            case hi82x29 => (simp only [List.getElem?_toArray, List.getElem?_cons_succ, List.getElem?_cons_zero]; exact rfl)
            go_simp
            refine hK.out _ _ ?_ (fun hHeld => ?_)
            · (repeat (first | exact Ext.refl _ | assumption | refine Ext.setCell ?_ (by first | (simp; done) | (simp; omega)) _ | refine Ext.drewN ?_ _ | refine Ext.alloc ?_ _ | refine Ext.drew ?_ | refine Ext.trans ?_ (by assumption)))
            clear hK K
            refine wpAnyH_take (i := 30) (oi := ?o82x30) (v := ?v82x30) ?hi82x30 (by kernel_rfl) ?hf82x30 ?hr82x30 (fun _ _ _ h => h) ?hy82x30 (by assumption) ?rest82x30
            case hi82x30 => (simp only [List.getElem?_toArray, List.getElem?_cons_succ, List.getElem?_cons_zero]; exact rfl)
            case hf82x30 => kernel_rfl
            case hr82x30 => kernel_rfl
            case hy82x30 => (refine Or.inl ⟨by rfl, ?_⟩; intro w hSw; (try dsimp only at hSw); go_simp; try with_reducible rfl)
            simp only [put_mk, List.set_cons_succ, List.set_cons_zero]
            refine wpAnyH_take (i := 31) (oi := ?o82x31) (v := ?v82x31) ?hi82x31 (by kernel_rfl) ?hf82x31 ?hr82x31 (fun _ _ _ h => h) ?hy82x31 (by assumption) ?rest82x31
            case hi82x31 => (simp only [List.getElem?_toArray, List.getElem?_cons_succ, List.getElem?_cons_zero]; exact rfl)
            case hf82x31 => kernel_rfl
            case hr82x31 => kernel_rfl
            case hy82x31 => (refine Or.inl ⟨by rfl, ?_⟩; intro w hSw; (try dsimp only at hSw); go_simp; try with_reducible rfl)
            simp only [put_mk, List.set_cons_succ, List.set_cons_zero]
            refine wpAnyH_done (by kernel_rfl) ?_ _
            refine NoPanic.normal ?_
            go_wp2_with fail
            go_roundw
            case rel => exact ⟨k + 1, by omega, by go_num, Hxr.out.trans (by repeat (first | exact Ext.refl _ | assumption | refine Ext.setCell ?_ (by first | (simp; done) | (simp; omega)) _ | refine Ext.drewN ?_ _ | refine Ext.alloc ?_ _ | refine Ext.drew ?_ | refine Ext.trans ?_ (by assumption)))⟩
            case measure => simp [intOf] <;> omega
      · obtain rfl : N = k := by omega
        go_wp2_with fail
        go_ret
        exact ⟨by first | rfl | simp, hxw.trans hxr⟩
  · injection hv with hv1 hv2 hv3
    have hv2 := hv2.symm
    have hv3 := hv3.symm
    subst hv1 hv2 hv3
    go_wp2_with fail
    go_ret
    exact ⟨by first | rfl | simp, hxw⟩

theorem tcarve_walk (x y ww hh : Int) (A : Option Addr) (n c r le mo : Nat) (st : Int) (l : List Nat) (w : World) (hn : l.length = n) (hd : Rd w A (flt l)) (hb : n ≤ 140737488351232) :
    Calls Try.prog 5 #[.agg #[.int .i64 x, .int .i64 y, .int .i64 ww, .int .i64 hh, .slice A n c], .agg #[.float .f32 r, .float .f32 le, .float .f32 mo, .int .i64 st]] w fun e w' => e = .returned (.bool true) ∧ Ext w w' := by
  by_cases hE : crvE x y ww hh l r le mo 1 = 0
  · have hf : fieldE x y ww hh l = 0 := Classical.byContradiction fun h => by
      unfold crvE at hE
      rw [if_pos h] at hE
      exact h hE
    have hs : carvE r le mo 1 = 0 := by
      unfold crvE at hE
      rwa [if_neg (fun e => e hf)] at hE
    obtain ⟨h1, h2, _⟩ := field_reg hf
    obtain ⟨Wn, Hn, rfl, rfl, hr⟩ := Reg.of_zero h1
    have hN : n = Wn * Hn := by
      rw [hn, ← Int.natCast_mul] at h2
      exact Int.ofNat.inj h2
    exact tcarve_good x y Wn Hn n A c r le mo st l w hr hN hn hd hf hs
  · exact tcarve_bad x y ww hh A n c r le mo st l w hn hd hb hE
end Go.Proofs.Ytepgfplbkmhgbaa

namespace Go.Proofs.Ytepgfplbkmhgbaa
open Go.ChangeShapes Go.WideShapes Go.ChangeAt Go.RowKit Go.Joins Go.Deep 

theorem own : ownKnob Try.prog.godebug = none := by kernel_rfl
theorem laidOut : laidOutB Try.prog = true := by kernel_rfl
theorem cellsField : Try.prog.cellsOf 26 = 5 := by kernel_rfl
theorem cellsRegion : Try.prog.cellsOf 23 = 4 := by kernel_rfl
theorem cellsPoint : Try.prog.cellsOf 37 = 2 := by kernel_rfl
theorem cellsInt : Try.prog.cellsOf 3 = 1 := by kernel_rfl
theorem cellsFloats : Try.prog.cellsOf 24 = 1 := by kernel_rfl
theorem cellsFloat : Try.prog.cellsOf 31 = 1 := by kernel_rfl
theorem bytesFloat : Try.prog.bytesOf 31 = 4 := by kernel_rfl

section
variable {H : Type} {enc : TypeId × Value → H} {W : World} {base : Nat}

theorem trod_flo {P : Program} {w : World} {spare : Nat → Bool} {held : Bool} {fuel : Nat} {t : TypeId} {k : FloatKind} {cs : List Value} {x : DataW H × List MemPlace} (ht : P.underlying t = some (.float k)) (h : DataW.trod enc P w base spare held fuel t cs = some x) : ∃ b, cs = [.float k b] := by
  cases fuel with
  | zero => simp [DataW.trod] at h
  | succ n =>
    unfold DataW.trod at h
    rw [ht] at h
    split at h <;> simp_all

set_option maxRecDepth 100000 in
theorem open_point {spare : Nat → Bool} {held : Bool} {r : Reach} {b0 : Nat} {v : Value} {d : DataW H} {p : List MemPlace} (hv : Value.okWide Try.prog W r b0 37 v)
    (h : DataW.Trod enc Try.prog W base spare held 37 v d p) : ∃ x y : Int, v = .agg #[.int .i64 x, .int .i64 y] := by
  obtain ⟨v0, v1, y0, y1, n, rfl, rfl, rfl, h0, h1⟩ := open_agg2 Try.underlying37 (by kernel_rfl) cellsPoint hv h
  obtain ⟨x, e0, _, _⟩ := DataW.trod_int Try.underlying3 h0
  obtain ⟨y, e1, _, _⟩ := DataW.trod_int Try.underlying3 h1
  obtain rfl : v0 = _ := by simpa using e0
  obtain rfl : v1 = _ := by simpa using e1
  exact ⟨x, y, rfl⟩

theorem cell_lt {w : World} {a : Addr} {v : Value} (h : w.cell? a = some v) : a.block < w.heap.size := by
  by_cases hb : a.block < w.heap.size
  · exact hb
  · simp [World.cell?, Array.getElem?_eq_none (Nat.le_of_not_lt hb)] at h

set_option maxRecDepth 100000 in
theorem open_field {r : Reach} {b0 : Nat} {held : Bool} {v : Value} {d : DataW H} {p : List MemPlace} (hv : Value.okWide Try.prog W r b0 26 v)
    (h : DataW.Trod enc Try.prog W base (fun _ => true) held 26 v d p) (hsz : ∀ n ∈ d.weights Try.prog 26, n ≤ reachBytes) :
    ∃ (X Y K J : Int) (A : Option Addr) (n c : Nat) (l : List Nat), v = .agg #[.int .i64 X, .int .i64 Y, .int .i64 K, .int .i64 J, .slice A n c] ∧ l.length = n ∧ Rd W A (flt l) ∧ n ≤ 140737488351232 := by
  obtain ⟨cs, rfl, hcs⟩ := okWide_struct Try.underlying26 hv
  rw [cellsField] at hcs
  obtain ⟨L⟩ := cs
  match L, hcs with
  | [c0, c1, c2, c3, c4], _ =>
    obtain ⟨fuel, hf⟩ := h
    obtain ⟨y0, y1, n, hx, _, h0, h1⟩ := trod_struct2 Try.underlying26 hf
    simp only [Prod.mk.injEq] at hx
    obtain ⟨rfl, rfl⟩ := hx
    simp only [Value.cells, cellsRegion, cellsFloats] at h0 h1
    simp at h0 h1
    obtain ⟨r0, r1, r2, r3, m, hx0, _, g0, g1, g2, g3⟩ := trod_struct4 Try.underlying23 h0
    simp [cellsInt] at g0 g1 g2 g3
    obtain ⟨X, e0, _, _⟩ := DataW.trod_int Try.underlying3 g0
    obtain ⟨Y, e1, _, _⟩ := DataW.trod_int Try.underlying3 g1
    obtain ⟨K, e2, _, _⟩ := DataW.trod_int Try.underlying3 g2
    obtain ⟨J, e3, _, _⟩ := DataW.trod_int Try.underlying3 g3
    obtain rfl : c0 = _ := by simpa using e0
    obtain rfl : c1 = _ := by simpa using e1
    obtain rfl : c2 = _ := by simpa using e2
    obtain rfl : c3 = _ := by simpa using e3
    rcases open_slice1 Try.underlying24 cellsFloat h1 with ⟨hc, hd⟩ | ⟨a, len, cap, m', n', V, D, Pl, hc, _, hl, _, hm, hd, hV⟩
    · obtain rfl : c4 = _ := by simpa using hc
      exact ⟨X, Y, K, J, none, 0, 0, [], rfl, rfl, Rd.nil _ _, by omega⟩
    · obtain rfl : c4 = _ := by simpa using hc
      simp only [if_true] at hm
      subst hm
      obtain ⟨f, hff⟩ := choose_lt (α := Nat) (n := len) (p := fun i b => V i = .float .f32 b) (fun i hi => by
        obtain ⟨b, hb⟩ := trod_flo Try.underlying31 (hV i (by omega)).2
        exact ⟨b, by simpa using hb⟩)
      have hw : (len + (m' - len)) * 4 ≤ reachBytes := by
        refine hsz _ ?_
        rw [hd]
        simp [DataW.weights, DataW.weightsEach, Try.underlying26, Try.underlying24, bytesFloat]
      refine ⟨X, Y, K, J, some a, len, m', (List.range len).map f, rfl, by simp, ?_, by simp only [reachBytes] at hw; omega⟩
      intro hne
      have hpos : 0 < len := by
        rcases Nat.eq_zero_or_pos len with h | h
        · subst h; exact absurd rfl hne
        · exact h
      refine ⟨a, rfl, ?_, ?_⟩
      · have := cell_lt (hV 0 (by omega)).1
        rwa [add_block] at this
      · intro j u hu
        have hj : j < len := by
          have := (List.getElem?_eq_some_iff.1 hu).1
          simpa [flt] using this
        simp [flt, hj] at hu
        rw [(hV j (by omega)).1, hff j hj, hu]
set_option maxRecDepth 100000 in
theorem open_region {spare : Nat → Bool} {held : Bool} {r : Reach} {b0 : Nat} {v : Value} {d : DataW H} {p : List MemPlace} (hv : Value.okWide Try.prog W r b0 23 v)
    (h : DataW.Trod enc Try.prog W base spare held 23 v d p) : ∃ X Y K J : Int, v = .agg #[.int .i64 X, .int .i64 Y, .int .i64 K, .int .i64 J] := by
  obtain ⟨cs, rfl, hcs⟩ := okWide_struct Try.underlying23 hv
  rw [cellsRegion] at hcs
  obtain ⟨L⟩ := cs
  match L, hcs with
  | [c0, c1, c2, c3], _ =>
    obtain ⟨fuel, hf⟩ := h
    obtain ⟨r0, r1, r2, r3, m, hx0, _, g0, g1, g2, g3⟩ := trod_struct4 Try.underlying23 hf
    simp [Value.cells, cellsInt] at g0 g1 g2 g3
    obtain ⟨X, e0, _, _⟩ := DataW.trod_int Try.underlying3 g0
    obtain ⟨Y, e1, _, _⟩ := DataW.trod_int Try.underlying3 g1
    obtain ⟨K, e2, _, _⟩ := DataW.trod_int Try.underlying3 g2
    obtain ⟨J, e3, _, _⟩ := DataW.trod_int Try.underlying3 g3
    obtain rfl : c0 = _ := by simpa using e0
    obtain rfl : c1 = _ := by simpa using e1
    obtain rfl : c2 = _ := by simpa using e2
    obtain rfl : c3 = _ := by simpa using e3
    exact ⟨X, Y, K, J, rfl⟩

theorem one_flo {spare : Nat → Bool} {held : Bool} {n : Nat} {v : Value} {y : Option (DataW H × List MemPlace)} (h : DataW.trod enc Try.prog W base spare held n 31 [v] = y) (hy : y.isSome = true) : ∃ b, v = .float .f32 b := by
  obtain ⟨z, rfl⟩ := Option.isSome_iff_exists.1 hy
  obtain ⟨b, e⟩ := trod_flo Try.underlying31 h
  exact ⟨b, by simpa using e⟩
theorem one_int {spare : Nat → Bool} {held : Bool} {n : Nat} {v : Value} {y : Option (DataW H × List MemPlace)} (h : DataW.trod enc Try.prog W base spare held n 3 [v] = y) (hy : y.isSome = true) : ∃ b, v = .int .i64 b := by
  obtain ⟨z, rfl⟩ := Option.isSome_iff_exists.1 hy
  obtain ⟨x, e, _, _⟩ := DataW.trod_int Try.underlying3 h
  exact ⟨x, by simpa using e⟩

theorem cellsCarving : Try.prog.cellsOf 51 = 4 := by kernel_rfl
set_option maxRecDepth 100000 in
theorem open_carving {spare : Nat → Bool} {held : Bool} {r : Reach} {b0 : Nat} {v : Value} {d : DataW H} {p : List MemPlace} (hv : Value.okWide Try.prog W r b0 51 v)
    (h : DataW.Trod enc Try.prog W base spare held 51 v d p) : ∃ (a b c : Nat) (e : Int), v = .agg #[.float .f32 a, .float .f32 b, .float .f32 c, .int .i64 e] := by
  obtain ⟨v0, v1, v2, v3, y0, y1, y2, y3, n, rfl, rfl, rfl, h0, h1, h2, h3⟩ := open_agg4 Try.underlying51 (by kernel_rfl) cellsCarving hv h
  obtain ⟨a, rfl⟩ := one_flo h0 rfl
  obtain ⟨b, rfl⟩ := one_flo h1 rfl
  obtain ⟨c, rfl⟩ := one_flo h2 rfl
  obtain ⟨e, rfl⟩ := one_int h3 rfl
  exact ⟨a, b, c, e, rfl⟩
end
end Go.Proofs.Ytepgfplbkmhgbaa
