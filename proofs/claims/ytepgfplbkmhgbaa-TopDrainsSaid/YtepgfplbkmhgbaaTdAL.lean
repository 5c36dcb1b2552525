/- Pure: filled ground lies over the ground; filling it again changes nothing; a cell that is higher than the ground is as high as the lowest one beside it. -/
import Derived.Test.YtepgfplbkmhgbaaTdAF
import Derived.Test.YtepgfplbkmhgbaaTdAK
import Derived.RegionTactic
import Derived.ChangeAlike
import Derived.Deep.QuietTactic
import Derived.Test.YtepgfplbkmhgbaaTdAB
namespace Go.Proofs.Ytepgfplbkmhgbaa
open Go.RowKit
attribute [local go_sem ↓] Go.wp_at_zero Go.wp_at_succ
attribute [local go_sem] run_store_float

set_option maxHeartbeats 800000 in
theorem landed_any (w : World) : Calls Try.prog 6 #[] w fun e w' => e = .returned (.bool true) ∧ Ext w w' := by
  have HC := fun (w : World) => hidA (checkRegion_any 0 0 0 0 w)
  have h3 : regE 0 0 0 0 = 3 := by decide +kernel
  rw [h3] at HC
  go_enter Try.func6, Try.ntmps6
  go_wp2_with (go_at_call 16; refine ((HC _).out).mono ?_; rintro e w1 ⟨rfl, hx1⟩)
  go_ret
  exact ⟨by first | rfl | simp, (by repeat (first | (with_reducible exact Ext.refl _) | (with_reducible assumption) | (with_reducible refine Ext.setCell ?_ (by first | (simp; done) | (simp; omega)) _) | (with_reducible refine Ext.drewN ?_ _) | (with_reducible refine Ext.alloc ?_ _) | (with_reducible refine Ext.drew ?_) | (with_reducible refine Ext.trans ?_ (by assumption))))⟩
theorem Shower_tot (x y ww hh s most : Int) (w : World) : Calls Try.prog 12 #[.agg #[.int .i64 x, .int .i64 y, .int .i64 ww, .int .i64 hh], .int .u32 s, .int .i64 most] w fun e w' => ∃ v, e = .returned (.tuple #[v, .int .i64 (showE x y ww hh most)]) ∧ Ext w w' := by
  by_cases hE : showE x y ww hh most = 0
  · have h0 : regE x y ww hh = 0 := Classical.byContradiction fun h => by
      unfold showE at hE
      rw [if_pos h] at hE
      exact h hE
    have h1 : ¬ (most < 0 ∨ 1048576 < most) := fun h => by
      unfold showE at hE
      rw [if_neg (fun e => e h0), if_pos h] at hE
      cases hE
    obtain ⟨Wn, Hn, rfl, rfl, hr⟩ := Reg.of_zero h0
    rw [hE]
    refine (Shower_ok x y s most Wn Hn (Wn * Hn) w hr rfl h0 (by omega) (by omega)).mono ?_
    rintro e w' ⟨g, rfl, _, hx⟩
    exact ⟨_, rfl, hx⟩
  · refine (Shower_bad x y ww hh s most w hE).mono ?_
    rintro e w' ⟨rfl, hx⟩
    exact ⟨_, rfl, hx⟩
set_option maxRecDepth 100000 in
set_option maxHeartbeats 3200000 in
theorem flows_bad (x y ww hh : Int) (A : Option Addr) (n c : Nat) (s most : Int) (l : List Nat) (w : World) (hn : l.length = n) (hd : Rd w A (flt l)) (hb : n ≤ 140737488351232) (hE : fieldE x y ww hh l ≠ 0) :
    Calls Try.prog 4 #[.agg #[.int .i64 x, .int .i64 y, .int .i64 ww, .int .i64 hh, .slice A n c], .int .u32 s, .int .i64 most] w fun e w' => e = .returned (.bool true) ∧ Ext w w' := by
  have HD := fun (w : World) (h : Rd w A (flt l)) => hidA (Drain_bad x y ww hh A n c l w hn h hb hE)
  have HS := fun (w : World) => hidA (Shower_tot x y ww hh s most w)
  have HW := fun (w : World) => hidA (landed_any w)
  have hE' : (fieldE x y ww hh l != 0) = true := by simpa using hE
  generalize fieldE x y ww hh l = E at *
  generalize showE x y ww hh most = E2 at *
  clear hn hb hE
  have kF : Bk (w.alloc (.cells #[.int .i64 x, .int .i64 y, .int .i64 ww, .int .i64 hh, .slice A n c] 26)) w.heap.size 26 #[.int .i64 x, .int .i64 y, .int .i64 ww, .int .i64 hh, .slice A n c] := Bk.new' rfl
  have hx0 : Ext w (w.alloc (.cells #[.int .i64 x, .int .i64 y, .int .i64 ww, .int .i64 hh, .slice A n c] 26)) := (Ext.refl w).alloc _
  go_enter Try.func4, Try.ntmps4
  go_upto_region 3 with (go_at_call 6; refine ((HW _).out).mono ?_; rintro e w1 ⟨rfl, hx1⟩)
  have kF1 := kF.ext hx1
  have hx1' := hx0.trans hx1
  clear kF hx0 hx1 HW
  generalize w.heap.size = h0 at *
  have c0 := kF1.cell 0
  have c1 := kF1.cell 1
  have c2 := kF1.cell 2
  have c3 := kF1.cell 3
  have c4 := kF1.cell 4
  go_upto_region 4 with (go_at_call 8; refine ((HD _ (hd.ext hx1')).out).mono ?_; rintro e w2 ⟨rfl, hx2⟩)
  have kF2 := kF1.ext hx2
  clear c0 c1 c2 c3 c4
  have c0 := kF2.cell 0
  have c1 := kF2.cell 1
  have c2 := kF2.cell 2
  have c3 := kF2.cell 3
  have c4 := kF2.cell 4
  go_wp2_with (go_at_call 12; refine ((HS _).out).mono ?_; rintro e w3 ⟨v3, rfl, hx3⟩)
  go_ret
  exact ⟨by first | rfl | simp, (hx1'.trans hx2).trans hx3⟩
set_option maxRecDepth 100000 in
set_option maxHeartbeats 3200000 in
theorem flows_rain (X Y : Int) (Wn Hn N : Nat) (A : Option Addr) (c : Nat) (s most : Int) (l : List Nat) (w : World) (hr : Reg X Y Wn Hn) (hN : N = Wn * Hn) (hn : l.length = N) (hd : Rd w A (flt l)) (hf : fieldE X Y Wn Hn l = 0) (hE : showE X Y Wn Hn most ≠ 0) :
    Calls Try.prog 4 #[.agg #[.int .i64 X, .int .i64 Y, .int .i64 (Wn : Int), .int .i64 (Hn : Int), .slice A N c], .int .u32 s, .int .i64 most] w fun e w' => e = .returned (.bool true) ∧ Ext w w' := by
  have HD := fun (w : World) (h : Rd w A (flt l)) => hidA (Drain_ok X Y Wn Hn N A c l w hr hN hn h hf)
  have HS := fun (w : World) => hidA (Shower_bad X Y Wn Hn s most w hE)
  have HW := fun (w : World) => hidA (landed_any w)
  have hE' : (showE X Y Wn Hn most != 0) = true := by simpa using hE
  generalize showE X Y Wn Hn most = E2 at *
  clear hn hr hN hf hE
  have kF : Bk (w.alloc (.cells #[.int .i64 X, .int .i64 Y, .int .i64 (Wn : Int), .int .i64 (Hn : Int), .slice A N c] 26)) w.heap.size 26 #[.int .i64 X, .int .i64 Y, .int .i64 (Wn : Int), .int .i64 (Hn : Int), .slice A N c] := Bk.new' rfl
  have hx0 : Ext w (w.alloc (.cells #[.int .i64 X, .int .i64 Y, .int .i64 (Wn : Int), .int .i64 (Hn : Int), .slice A N c] 26)) := (Ext.refl w).alloc _
  go_enter Try.func4, Try.ntmps4
  go_upto_region 3 with (go_at_call 6; refine ((HW _).out).mono ?_; rintro e w1 ⟨rfl, hx1⟩)
  have kF1 := kF.ext hx1
  have hx1' := hx0.trans hx1
  clear kF hx0 hx1 HW
  generalize w.heap.size = h0 at *
  have c0 := kF1.cell 0
  have c1 := kF1.cell 1
  have c2 := kF1.cell 2
  have c3 := kF1.cell 3
  have c4 := kF1.cell 4
  go_upto_region 4 with (go_at_call 8; refine ((HD _ (hd.ext hx1')).out).mono ?_; rintro e w2 ⟨gd, vf, rfl, _, _, hx2⟩)
  have kF2 := kF1.ext hx2
  clear c0 c1 c2 c3 c4
  have c0 := kF2.cell 0
  have c1 := kF2.cell 1
  have c2 := kF2.cell 2
  have c3 := kF2.cell 3
  have c4 := kF2.cell 4
  go_wp2_with (go_at_call 12; refine ((HS _).out).mono ?_; rintro e w3 ⟨rfl, hx3⟩)
  go_ret
  exact ⟨by first | rfl | simp, (hx1'.trans hx2).trans hx3⟩
theorem rain_bd (X Y : Int) (Wn : Nat) (s most : Int) (h0 : 0 ≤ most) (k : Nat) : 0 ≤ rainK X Y Wn s most k ∧ rainK X Y Wn s most k ≤ most := by
  unfold rainK
  have h1 := Int.emod_nonneg (mixK s (colK X Wn k) (rowK Y Wn k) 2 3) (show most + 1 ≠ 0 by omega)
  have h2 := Int.emod_lt_of_pos (mixK s (colK X Wn k) (rowK Y Wn k) 2 3) (show 0 < most + 1 by omega)
  omega
theorem gatV_congr {tr : Nat → List Nat} {r r' : Nat → Int} {N c : Nat} (h : ∀ k, k < N → r k = r' k) : gatV tr r N c = gatV tr r' N c :=
  sumI_congr N fun k hk => by rw [h k hk]
theorem pts_get {X Y : Int} {Wn : Nat} : ∀ {M : List Nat} {k : Nat} (hk : k < M.length), (ptsC X Y Wn M)[k * 2]? = some (.int .i64 (colK X Wn M[k])) ∧ (ptsC X Y Wn M)[k * 2 + 1]? = some (.int .i64 (rowK Y Wn M[k]))
  | [], k, h => by simp at h
  | a :: M, 0, _ => ⟨rfl, rfl⟩
  | a :: M, k + 1, h => by
    have ih := pts_get (X := X) (Y := Y) (Wn := Wn) (M := M) (k := k) (by simpa using h)
    have e1 : (k + 1) * 2 = k * 2 + 1 + 1 := by omega
    rw [e1]
    exact ih
/-- what the law holds behind its calls -/
structure TF (W0 w : World) (hf ga ca gR go ss bs : Nat) (X Y : Int) (Wn Hn N : Nat) (A : Option Addr) (c : Nat) (G R Ba : Nat → Int) (v : Value) (M : List Nat) (S : Nat → Int) : Prop where
  fb : Bk w hf 26 #[.int .i64 X, .int .i64 Y, .int .i64 (Wn : Int), .int .i64 (Hn : Int), .slice A N c]
  gb : CI w ga ca N G
  rb : Bk w gR 3 (intB N R)
  bb : Bk w go 3 (intB N Ba)
  own : w.ownsRow bs 37 2 v M.length (ptsC X Y Wn M)
  sb : Bk w ss 3 (intB M.length S)
  ext : Ext W0 w
  b1 : W0.heap.size ≤ ss
  n1 : ga ≠ ss
  n2 : gR ≠ ss
  n3 : go ≠ ss
section
variable {W0 w : World} {hf ga ca gR go ss bs : Nat} {X Y : Int} {Wn Hn N : Nat} {A : Option Addr} {c : Nat} {G R Ba : Nat → Int} {v : Value} {M : List Nat} {S : Nat → Int}
theorem TF.step (h : TF W0 w hf ga ca gR go ss bs X Y Wn Hn N A c G R Ba v M S) {w' : World} (hx : Ext w w') : TF W0 w' hf ga ca gR go ss bs X Y Wn Hn N A c G R Ba v M S :=
  ⟨h.fb.ext hx, h.gb.ext hx, h.rb.ext hx, h.bb.ext hx, World.ownsRow.kept h.own (grown_ext hx none) (by cases h : v.ownBlock <;> simp), h.sb.ext hx, h.ext.trans hx, h.b1, h.n1, h.n2, h.n3⟩
theorem TF.put (h : TF W0 w hf ga ca gR go ss bs X Y Wn Hn N A c G R Ba v M S) (k : Nat) (x : Int) : TF W0 (w.setCell ⟨ss, k, none⟩ (.int .i64 x)) hf ga ca gR go ss bs X Y Wn Hn N A c G R Ba v M (updF S k x) := by
  have e1 := Bk.set h.sb k (.int .i64 x)
  rw [intB_set] at e1
  exact ⟨h.fb.far (Bk.ne h.fb h.sb (by decide)) _, h.gb.far h.n1 _, h.rb.far h.n2 _, h.bb.far h.n3 _, ownsRow_setCell_other h.own (fun e => own_ne h.own h.sb (by decide) e.symm) _, e1, h.ext.setCell h.b1 _, h.b1, h.n1, h.n2, h.n3⟩
end
set_option maxRecDepth 100000 in
set_option maxHeartbeats 6400000 in
theorem flows_good (X Y : Int) (Wn Hn N : Nat) (A : Option Addr) (c : Nat) (s most : Int) (l : List Nat) (w : World) (hr : Reg X Y Wn Hn) (hN : N = Wn * Hn) (hn : l.length = N) (hd : Rd w A (flt l)) (hf : fieldE X Y Wn Hn l = 0) (h0 : 0 ≤ most) (h1 : most ≤ 1048576) :
    Calls Try.prog 4 #[.agg #[.int .i64 X, .int .i64 Y, .int .i64 (Wn : Int), .int .i64 (Hn : Int), .slice A N c], .int .u32 s, .int .i64 most] w fun e w' => e = .returned (.bool true) ∧ Ext w w' := by
  have hN6 : N ≤ 65536 := by rw [hN]; exact hr.n
  have hN1 : 1 ≤ N := by rw [hN]; exact Nat.mul_pos hr.w1 hr.h1
  have hr0 := (field_reg hf).1
  have hbd := getD_bd hn (fun x hx => hgt_bd ((numE_zero (field_reg hf).2.2).2 x hx))
  have HD := fun (w : World) (h : Rd w A (flt l)) => hidA (Drain_ok X Y Wn Hn N A c l w hr hN hn h hf)
  have HS := fun (w : World) => hidA (Shower_ok X Y s most Wn Hn N w hr hN hr0 h0 h1)
  have HW := fun (w : World) => hidA (landed_any w)
  obtain ⟨rain, hrain⟩ : ∃ rain, rain = rainK X Y Wn s most := ⟨_, rfl⟩
  have hrb : ∀ k, 0 ≤ rain k ∧ rain k ≤ 1073741824 := fun k => by
    have := rain_bd X Y Wn s most h0 k
    rw [hrain]
    omega
  obtain ⟨q, hq⟩ : ∃ q, q = (List.range N).map rain := ⟨_, rfl⟩
  have hql : q.length = N := by rw [hq]; simp
  have hqd : ∀ k, k < N → q.getD k 0 = rain k := fun k hk => by rw [hq]; simp [List.getD_eq_getElem?_getD, hk]
  obtain ⟨D, hDe⟩ : ∃ D, D = drnC Wn Hn N l := ⟨_, rfl⟩
  have Hlead := hidA (fun (v : Nat → Nat) (hL : LeastG Wn Hn (fun k => l.getD k 0) 0 (fun k => valI (v k))) => drnC_lead hr.w1 hN hN1 hbd hL)
  have Heq := hidA (fun (v : Nat → Nat) (hL : LeastG Wn Hn (fun k => l.getD k 0) 0 (fun k => valI (v k))) => drnC_eq hN hbd hL)
  rw [← hDe] at Hlead Heq
  have HG := hidA (fun (gd gR : Nat) (m : Nat → Nat) (w : World) (hD : DirsAt w (some ⟨gd, 0, none⟩) N D) (hL : Lead Wn Hn N D m) (hR : Rd w (some ⟨gR, 0, none⟩) (intL q)) => Gather_ok X Y Wn Hn N N N (some ⟨gd, 0, none⟩) (some ⟨gR, 0, none⟩) D m (trC D Wn Hn) q w hr hr0 hN hD hL (trC_ok hL hN) hql hR (fun k hk => by rw [hqd k hk]; exact hrb k))
  have HB := hidA (fun (gd : Nat) (m : Nat → Nat) (w : World) (hD : DirsAt w (some ⟨gd, 0, none⟩) N D) (hL : Lead Wn Hn N D m) => Basins_ok X Y Wn Hn N N (some ⟨gd, 0, none⟩) D m (trC D Wn Hn) w hr hr0 hN hD hL (trC_ok hL hN))
  unfold rgv at HS HG HB
  rw [← hrain] at HS
  have Hfl := hidA (fun (m : Nat → Nat) (hL : Lead Wn Hn N D m) (c : Nat) (hc : c < N) (hm : mouB D c = true) => flow_eq (rain := rain) hL hN (trC_ok hL hN) hc hm)
  have Hbl := hidA (fun (m : Nat → Nat) (hL : Lead Wn Hn N D m) (k : Nat) (hk : k < N) => bas_lt hL hN (trC_ok hL hN) hk)
  have Hsb := hidA (fun (n i : Nat) (hn : n ≤ N) => sumB_bd (D := D) (tr := trC D Wn Hn) (N := N) (show (0 : Int) ≤ 1073741824 by omega) (fun k _ => hrb k) hn i)
  have Hqr := hidA hq
  have Hqd := hidA hqd
  have hrb' := hidA hrb
  have HN := hidA hN
  have Hr := hidA hr
  clear hr0 hbd hrain hrb hql hqd hDe hf hn h0 h1 hq hN hr
  generalize htr : trC D Wn Hn = tr at *
  clear htr
  have kF : Bk (w.alloc (.cells #[.int .i64 X, .int .i64 Y, .int .i64 (Wn : Int), .int .i64 (Hn : Int), .slice A N c] 26)) w.heap.size 26 #[.int .i64 X, .int .i64 Y, .int .i64 (Wn : Int), .int .i64 (Hn : Int), .slice A N c] := Bk.new' rfl
  have hx0 : Ext w (w.alloc (.cells #[.int .i64 X, .int .i64 Y, .int .i64 (Wn : Int), .int .i64 (Hn : Int), .slice A N c] 26)) := (Ext.refl w).alloc _
  go_enter Try.func4, Try.ntmps4
  go_upto_region 3 with (go_at_call 6; refine ((HW _).out).mono ?_; rintro e w1 ⟨rfl, hx1⟩)
  have kF1 := kF.ext hx1
  have hx1' := hx0.trans hx1
  clear kF hx0 hx1 HW
  generalize w.heap.size = hf at kF1 ⊢
  have c0 := kF1.cell 0
  have c1 := kF1.cell 1
  have c2 := kF1.cell 2
  have c3 := kF1.cell 3
  have c4 := kF1.cell 4
  go_upto_region 4 with (go_at_call 8; refine ((HD _ (hd.ext hx1')).out).mono ?_; rintro e w2 ⟨gd, vf, rfl, hL, hB, hx2⟩)
  have hDs : DirsAt w2 (some ⟨gd, 0, none⟩) N D := by
    have e : intB N (drnV vf (rkV vf Wn Hn (N - 1)) Wn Hn) = intB N D := by unfold intB; congr 1; refine List.map_congr_left fun k hk => ?_; rw [Heq.out vf hL k (List.mem_range.1 hk)]
    rw [e] at hB
    exact DirsAt.of_bk hB
  obtain ⟨m, hLd, _⟩ := Hlead.out vf hL
  have HLd := hidA hLd
  have kF2 := kF1.ext hx2
  have hxw2 := hx1'.trans hx2
  clear c0 c1 c2 c3 c4 kF1 hx1' hx2 hL hB hLd HD hd
  have c0 := kF2.cell 0
  have c1 := kF2.cell 1
  have c2 := kF2.cell 2
  have c3 := kF2.cell 3
  have c4 := kF2.cell 4
  go_upto_region 7 with (go_at_call 12; refine ((HS _).out).mono ?_; rintro e w3 ⟨gR, rfl, hR, hx3⟩)
  have hRq : Rd w3 (some ⟨gR, 0, none⟩) (intL q) := by
    have h := intB_rd hR
    rwa [← Hqr.out] at h
  have hD3 := hDs.ext hx3
  have kF3 := kF2.ext hx3
  have hxw3 := hxw2.trans hx3
  clear c0 c1 c2 c3 c4 kF2 hxw2 hx3 hDs HS
  have c0 := kF3.cell 0
  have c1 := kF3.cell 1
  have c2 := kF3.cell 2
  have c3 := kF3.cell 3
  have c4 := kF3.cell 4
  have HG1 := hidA (HG.out gd gR m w3 hD3 HLd.out hRq)
  go_upto_region 8 with (go_at_call 13; refine (HG1.out).mono ?_; rintro e w4 ⟨ga, ca, rfl, hG, _, hx4⟩)
  have hG4 : CI w4 ga ca N (gatV tr rain N) := hG.congr fun k _ => gatV_congr fun j hj => Hqd.out j hj
  have hD4 := hD3.ext hx4
  have hR4 := hR.ext hx4
  have kF4 := kF3.ext hx4
  have hxw4 := hxw3.trans hx4
  clear c0 c1 c2 c3 c4 kF3 hxw3 hx4 hD3 HG HG1 hG hRq hR
  have c0 := kF4.cell 0
  have c1 := kF4.cell 1
  have c2 := kF4.cell 2
  have c3 := kF4.cell 3
  have c4 := kF4.cell 4
  have HB1 := hidA (HB.out gd m w4 hD4 HLd.out)
  go_upto_region 11 with (go_at_call 14; refine (HB1.out).mono ?_; rintro e w5 ⟨go, v5, rfl, hbas, hown, _, hx5⟩)
  have hG5 := hG4.ext hx5
  have hR5 := hR4.ext hx5
  have kF5 := kF4.ext hx5
  have hxw5 := hxw4.trans hx5
  obtain ⟨B, bc, hv⟩ := own_form hown
  subst hv
  have hML : (mouL D N).length ≤ 65536 := by rw [mouL_len]; have := cntB_le (mouB D) N; omega
  have ms := mk_int (mouL D N).length (by omega)
  clear c0 c1 c2 c3 c4 kF4 hxw4 hx5 hD4 HB HB1 hG4 hR4
  have hS : TF w (w5.alloc (.cells (intB (mouL D N).length fun _ => 0) 3)) hf ga ca gR go w5.heap.size w4.heap.size X Y Wn Hn N A c (gatV tr rain N) rain (fun k => (basV D tr k : Int)) (.slice B (mouL D N).length bc) (mouL D N) (sumB D tr rain 0) :=
    ⟨kF5.alloc _, hG5.ext ((Ext.refl w5).alloc _), hR5.alloc _, hbas.alloc _, World.ownsRow.kept hown (grown_ext ((Ext.refl w5).alloc _) none) (by cases h : (Value.slice B (mouL D N).length bc).ownBlock <;> simp), by
      have h : Bk (w5.alloc (.cells (intB (mouL D N).length fun _ => 0) 3)) w5.heap.size 3 (intB (mouL D N).length fun _ => 0) := Bk.new' (by simp)
      exact h, hxw5.alloc _, hxw5.size, by have := hG5.lt; omega, by have := hR5.lt; omega, by have := hbas.lt; omega⟩
  clear kF5 hG5 hR5 hbas hown hxw5
  go_upto_region 12 with fail
  generalize w5.alloc (.cells (intB (mouL D N).length fun _ => 0) 3) = w6 at *
  generalize w5.heap.size = ss at *
  generalize w4.heap.size = bs at *
  clear ms
  go_wp2_with fail
  go_loopw [68] (fun s68 wr => ∃ (k : Nat), k ≤ N ∧ s68 = .int .i64 k ∧ TF w wr hf ga ca gR go ss bs X Y Wn Hn N A c (gatV tr rain N) rain (fun k => (basV D tr k : Int)) (.slice B (mouL D N).length bc) (mouL D N) (sumB D tr rain k)) (fun s68 _ => N - (intOf s68).toNat)
  case atStart => exact ⟨0, Nat.zero_le _, rfl, hS⟩
  case round =>
    clear hS
    obtain ⟨k, hk, rfl, hS⟩ := hrel
    by_cases hkN : k < N
    · have i1 : (0 : Int) ≤ k := by omega
      have i2 : (k : Int) < N := by omega
      have hbl := Hbl.out m HLd.out k hkN
      obtain ⟨b0, b1⟩ := Hsb.out k (basV D tr k) hk
      obtain ⟨b2, b3⟩ := hrb'.out k
      have q0 := hS.bb.cell k
      rw [intB_get _ hkN] at q0
      have q1 := hS.sb.cell (basV D tr k)
      rw [intB_get _ hbl] at q1
      have q2 := hS.rb.cell k
      rw [intB_get _ hkN] at q2
      have q3 := hS.sb.frozen (basV D tr k)
      have hst := hidA (sumB_step (D := D) (tr := tr) (rain := rain) (n := k))
      have hS7 := hidA (hS.put (basV D tr k) (sumB D tr rain k (basV D tr k) + rain k))
      have HS := hidA hS
      clear hS
      have j1 : (0 : Int) ≤ (basV D tr k : Int) := by omega
      have j2 : (basV D tr k : Int) < (mouL D N).length := by omega
      rw [← hst.out] at hS7
      clear hst
      generalize hbv : basV D tr k = bk at *
      generalize sumB D tr rain k bk = y at *
      generalize rain k = z at *
      have hy : y ≤ 140737488355328 := by omega
      clear b1 hbv
      go_upto_region 15 with fail
      go_region
      go_wp2_with fail
      go_roundw
      case rel => exact ⟨k + 1, by omega, by go_num, hS7.out.step (Ext.drew (Ext.refl _))⟩
      case measure => simp [intOf] <;> omega
    · obtain rfl : N = k := by omega
      go_wp2_with fail
      go_loopw [86] (fun s86 wr => ∃ (i : Nat), i ≤ (mouL D N).length ∧ s86 = .int .i64 i ∧ TF w wr hf ga ca gR go ss bs X Y Wn Hn N A c (gatV tr rain N) rain (fun k => (basV D tr k : Int)) (.slice B (mouL D N).length bc) (mouL D N) (sumB D tr rain N)) (fun s86 _ => (mouL D N).length - (intOf s86).toNat)
      case atStart => exact ⟨0, Nat.zero_le _, rfl, hS⟩
      case round =>
        clear hS
        obtain ⟨i, hi, rfl, hS⟩ := hrel
        by_cases hiM : i < (mouL D N).length
        · have i1 : (0 : Int) ≤ i := by omega
          have i2 : (i : Int) < (mouL D N).length := by omega
          obtain ⟨hcN, hcm, hci⟩ := mou_at D N i hiM
          have hpt := pts_get (X := X) (Y := Y) (Wn := Wn) hiM
          have hfe := Hfl.out m HLd.out _ hcN hcm
          rw [hci] at hfe
          have hRp := Rd.of_own hS.own
          have hpl : (ptsC X Y Wn (mouL D N)).length ≠ 0 := fun e => by
            have := (List.getElem?_eq_some_iff.1 hpt.1).1
            omega
          obtain ⟨ad, rfl, _, _⟩ := hRp.at (k := 0) (by omega)
          have p0 := hRp.reads (i * 2) _ hpt.1
          have p1 := hRp.reads (i * 2 + 1) _ hpt.2
          rw [← add_off _ _ (show 0 < 1 by omega)] at p1
          have q1 := hS.gb.cell hcN
          rw [hfe] at q1
          have q2 := hS.sb.cell i
          rw [intB_get _ hiM] at q2
          generalize (mouL D N)[i] = cc at *
          have hg := grid_facts Hr.out.w1 (show cc < Wn * Hn by rw [← HN.out]; exact hcN)
          have hdm := Nat.div_add_mod cc Wn
          have hcol : colK X Wn cc = X + ((cc % Wn : Nat) : Int) := rfl
          have hrow : rowK Y Wn cc = Y + ((cc / Wn : Nat) : Int) := rfl
          generalize colK X Wn cc = px at *
          generalize rowK Y Wn cc = py at *
          generalize cc % Wn = a at *
          generalize cc / Wn = b at *
          have hrr := Hr.out.ok
          unfold RegOk at hrr
          obtain ⟨r1, r2, r3, r4, r5, r6, r7, r8⟩ := hrr
          have hbb : b ≤ 65536 := by
            have : b * 1 ≤ Wn * b := by rw [Nat.mul_comm]; exact Nat.mul_le_mul_right _ Hr.out.w1
            omega
          have w1 : py - Y = (b : Int) := by omega
          have w2 : (b : Int) * (Wn : Int) = ((Wn * b : Nat) : Int) := by rw [Int.natCast_mul, Int.mul_comm]
          generalize hwb : Wn * b = t at *
          have ht : t ≤ 65536 := by omega
          have w3 : (t : Int) + px - X = (cc : Int) := by omega
          have c1 : -4194304 ≤ px := by omega
          have c2 : px ≤ 4194304 := by omega
          have c3 : -4194304 ≤ py := by omega
          have c4 : py ≤ 4194304 := by omega
          have j1 : (0 : Int) ≤ cc := by omega
          have j2 : (cc : Int) < N := by omega
          generalize sumB D tr rain N i = z at *
          clear hdm hcol hrow hwb hg hpt hfe hRp hpl hcm hci
          go_upto_region 20 with fail
          have hS2 := hS.step ((Ext.refl wr).alloc (.cells #[.int .i64 px, .int .i64 py] 37))
          have kP : Bk (wr.alloc (.cells #[.int .i64 px, .int .i64 py] 37)) wr.heap.size 37 #[.int .i64 px, .int .i64 py] := Bk.new' rfl
          have q1' : (wr.alloc (.cells #[.int .i64 px, .int .i64 py] 37)).cell? ⟨ga, cc, none⟩ = some (.int .i64 z) := by
            rw [((Ext.refl wr).alloc (.cells #[.int .i64 px, .int .i64 py] 37)).cell _ (by exact hS.gb.lt)]
            exact q1
          have q2' : (wr.alloc (.cells #[.int .i64 px, .int .i64 py] 37)).cell? ⟨ss, i, none⟩ = some (.int .i64 z) := by
            rw [((Ext.refl wr).alloc (.cells #[.int .i64 px, .int .i64 py] 37)).cell _ (by exact hS.sb.lt)]
            exact q2
          clear q1 q2 p0 p1 hS
          generalize wr.alloc (.cells #[.int .i64 px, .int .i64 py] 37) = w8 at *
          generalize wr.heap.size = hpp at *
          have d0 := kP.cell 0
          have d1 := kP.cell 1
          have f0 := hS2.fb.cell 0
          have f1 := hS2.fb.cell 1
          have f2 := hS2.fb.cell 2
          go_quiet (fail)
          go_wp2_with fail
          go_roundw
          case rel => exact ⟨i + 1, by omega, by go_num, hS2.step (Ext.drewN (Ext.refl _) _)⟩
          case measure => simp [intOf] <;> omega
        · obtain rfl : i = (mouL D N).length := by omega
          go_wp2_with fail
          go_ret
          exact ⟨by first | rfl | simp, hS.ext⟩

theorem flows_walk (x y ww hh : Int) (A : Option Addr) (n c : Nat) (s most : Int) (l : List Nat) (w : World) (hn : l.length = n) (hd : Rd w A (flt l)) (hb : n ≤ 140737488351232) :
    Calls Try.prog 4 #[.agg #[.int .i64 x, .int .i64 y, .int .i64 ww, .int .i64 hh, .slice A n c], .int .u32 s, .int .i64 most] w fun e w' => e = .returned (.bool true) ∧ Ext w w' := by
  by_cases hf : fieldE x y ww hh l = 0
  · obtain ⟨h1, h2, _⟩ := field_reg hf
    obtain ⟨Wn, Hn, rfl, rfl, hr⟩ := Reg.of_zero h1
    have hN : n = Wn * Hn := by
      rw [hn, ← Int.natCast_mul] at h2
      exact Int.ofNat.inj h2
    by_cases hm : most < 0 ∨ 1048576 < most
    · refine flows_rain x y Wn Hn n A c s most l w hr hN hn hd hf ?_
      unfold showE
      rw [if_neg (fun e => e h1), if_pos hm]
      decide
    · exact flows_good x y Wn Hn n A c s most l w hr hN hn hd hf (by omega) (by omega)
  · exact flows_bad x y ww hh A n c s most l w hn hd hb hf
end Go.Proofs.Ytepgfplbkmhgbaa

namespace Go.Proofs.Ytepgfplbkmhgbaa
open Go.RowKit

/-- the builtin min of two singles that are numbers -/
def minW (x y : Nat) : Nat := match FloatKind.f32.format.order x y with
  | some .lt => x
  | some .gt => y
  | _ => if (FloatKind.f32.decode x).neg then x else y
theorem run_minW {x y : Nat} {o : Ordering} (h : FloatKind.f32.format.order x y = some o) (ts : Array TypeId) (t : TypeId) (w : World) :
    (Builtin.min_ ts t #[.float .f32 x, .float .f32 y]).run Try.prog w = .ok (.float .f32 (minW x y)) w := by
  have e : (Builtin.min_ ts t #[.float .f32 x, .float .f32 y]) = Builtin.min2 (.float .f32 x) (.float .f32 y) := by
    simp [Builtin.min_]
  rw [e]
  unfold Builtin.min2 minW
  simp only [h]
  cases o <;> rfl
theorem minW_ok {x y : Nat} (hx : Bd 20 x) (hy : Bd 20 y) : Fin (minW x y) ∧ valI (minW x y) ≤ valI x ∧ valI (minW x y) ≤ valI y := by
  have fx := bd_Fin hx (by omega)
  have fy := bd_Fin hy (by omega)
  have e := ord_valI fx fy
  unfold minW
  rw [ord_def, e]
  rcases Int.lt_trichotomy (valI x) (valI y) with h | h | h
  · rw [Int.compare_eq_lt.2 h]
    dsimp only
    exact ⟨fx, Int.le_refl _, by omega⟩
  · rw [Int.compare_eq_eq.2 h]
    dsimp only
    split
    · exact ⟨fx, Int.le_refl _, by omega⟩
    · exact ⟨fy, by omega, Int.le_refl _⟩
  · rw [Int.compare_eq_gt.2 h]
    dsimp only
    exact ⟨fy, by omega, Int.le_refl _⟩
theorem crv_not_over {r le mo Wn Hn N : Nat} {l : List Nat} (hN : N = Wn * Hn) (hN6 : N ≤ 65536) (hr : Bd 20 r) (hl : Bd 20 le) (hm : Bd 20 mo) (hl0 : 0 ≤ valI le) (hlm : valI le ≤ valI mo) (hu : ∀ j, j < N → Bd 20 (l.getD j 0)) {k : Nat} (hk : k < N) :
    gt (crvF r le mo Wn Hn N l k) (l.getD k 0) = false := by
  obtain ⟨h1, h2, _⟩ := crv_cell hN hN6 hr hl hm hl0 hlm hu hk
  rw [gt_val (bd_Fin h1 (by omega)) (bd_Fin (hu k hk) (by omega))]
  exact decide_eq_false (by omega)
theorem crv_not_under {r le mo Wn Hn N : Nat} {l : List Nat} (hN : N = Wn * Hn) (hN6 : N ≤ 65536) (hr : Bd 20 r) (hl : Bd 20 le) (hm : Bd 20 mo) (hl0 : 0 ≤ valI le) (hlm : valI le ≤ valI mo) (hu : ∀ j, j < N → Bd 20 (l.getD j 0)) {k n z : Nat} (hk : k < N) (hn : nxtD (drnC Wn Hn N l) Wn Hn k = some n) (hz : Fin z) (hzm : valI z ≤ valI (l.getD k 0) ∧ valI z ≤ valI (l.getD n 0)) :
    lt (crvF r le mo Wn Hn N l k) z = false := by
  obtain ⟨h1, _, h3⟩ := crv_cell hN hN6 hr hl hm hl0 hlm hu hk
  rw [lt_val (bd_Fin h1 (by omega)) hz]
  refine decide_eq_false ?_
  rcases h3 with h3 | ⟨n', hn', h3⟩
  · omega
  · rw [hn] at hn'
    cases hn'
    omega
end Go.Proofs.Ytepgfplbkmhgbaa

namespace Go.Proofs.Ytepgfplbkmhgbaa
open Go.RowKit

section
variable {Wn Hn : Nat} {h v : Nat → Nat}
theorem way_over {k : Nat} {z : Int} (hw : WayG Wn Hn h 0 k z) : valI (h k) ≤ z := by
  cases hw with
  | start hk he => exact Int.le_refl _
  | step hwn hn hd hnb hk => exact Int.le_max_left _ _
theorem fill_over (hL : LeastG Wn Hn h 0 (fun k => valI (v k))) {k : Nat} (hk : k < Wn * Hn) : valI (h k) ≤ valI (v k) := way_over (hL.1 k hk)
theorem way_again (hh : ∀ k, k < Wn * Hn → Bd 20 (h k)) (hL : LeastG Wn Hn h 0 (fun k => valI (v k))) {k : Nat} {z : Int} (hw : WayG Wn Hn h 0 k z) : ∃ z', WayG Wn Hn v 0 k z' ∧ z' ≤ z := by
  have hv := fill_bd hh hL
  induction hw with
  | @start k hk he => exact ⟨valI (v k), Way.start hk he, hL.2 k _ (Way.start hk he)⟩
  | @step n d k z hwn hn hd hnb hk ih =>
    obtain ⟨z', h1, h2⟩ := ih
    obtain ⟨j, hj, rfl⟩ := way_low hv h1
    obtain ⟨i, hi, rfl⟩ := way_low hh hwn
    refine ⟨_, Way.step h1 hn hd hnb hk, ?_⟩
    have h3 := hL.2 k _ (Way.step hwn hn hd hnb hk)
    rw [up_zero ((hh i hi).mono (by omega))] at h3 ⊢
    rw [up_zero ((hv j hj).mono (by omega))]
    dsimp only at h3 ⊢
    omega
/-- filling filled ground changes nothing -/
theorem fill_again (hh : ∀ k, k < Wn * Hn → Bd 20 (h k)) (hL : LeastG Wn Hn h 0 (fun k => valI (v k))) : LeastG Wn Hn v 0 (fun k => valI (v k)) := by
  refine ⟨fun k hk => ?_, fun k z hw => way_over hw⟩
  obtain ⟨z', h1, h2⟩ := way_again hh hL (hL.1 k hk)
  have h3 := way_over h1
  have e : z' = valI (v k) := by dsimp only at h2; omega
  rw [e] at h1
  exact h1
/-- a cell that is higher than the ground is as high as a neighbour, and no neighbour is lower -/
theorem fill_beside (hw1 : 1 ≤ Wn) (hh : ∀ k, k < Wn * Hn → Bd 20 (h k)) (hL : LeastG Wn Hn h 0 (fun k => valI (v k))) {k : Nat} (hk : k < Wn * Hn) (hne : valI (v k) ≠ valI (h k)) :
    (∀ d n, d < 8 → nbr Wn Hn k d = some n → valI (v k) ≤ valI (v n)) ∧ ∃ d n, d < 8 ∧ nbr Wn Hn k d = some n ∧ valI (v n) = valI (v k) := by
  have hv := fill_bd hh hL
  have ho := fill_over hL hk
  have h1 : ∀ d n, d < 8 → nbr Wn Hn k d = some n → valI (v k) ≤ valI (v n) := fun d n hd hn => by
    obtain ⟨d', hd', hn'⟩ := nbr_symm hw1 hk hd hn
    have h2 := hL.2 k _ (Way.step (hL.1 n (nbr_lt hn)) (nbr_lt hn) hd' hn' hk)
    rw [up_zero ((hv n (nbr_lt hn)).mono (by omega))] at h2
    dsimp only at h2
    omega
  refine ⟨h1, ?_⟩
  have h3 := hL.1 k hk
  generalize hz : (fun k => valI (v k)) k = z at h3
  cases h3 with
  | start _ _ => exact absurd hz hne
  | @step n d _ z' hwn hn hd hnb _ =>
    obtain ⟨d', hd', hn'⟩ := nbr_symm hw1 hn hd hnb
    refine ⟨d', n, hd', hn', ?_⟩
    have h4 := h1 d' n hd' hn'
    have h5 := hL.2 n _ hwn
    obtain ⟨i, hi, rfl⟩ := way_low hh hwn
    rw [up_zero ((hh i hi).mono (by omega))] at hz
    dsimp only at hz h5
    omega
end
end Go.Proofs.Ytepgfplbkmhgbaa
