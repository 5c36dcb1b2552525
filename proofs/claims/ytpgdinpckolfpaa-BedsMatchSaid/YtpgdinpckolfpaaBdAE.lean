/- Contract: road.Bed. -/
import Derived.Test.YtpgdinpckolfpaaBdAD
namespace Go.Proofs.Ytpgdinpckolfpaa
open Go.RowKit
attribute [local go_sem ↓] Go.wp_at_zero Go.wp_at_succ
attribute [local go_sem] run_store_float

/-- two rows of singles of the call's own; the first is stored into -/
structure FX2 (w0 : World) (g1 cap1 g2 cap2 N : Nat) (f f2 : Nat → Nat) (w : World) : Prop where
  a : FX w0 g1 cap1 N f w
  b : ∃ cur, Cl w g2 cap2 cur N f2
  b0 : w0.heap.size ≤ g1
  ne : g2 ≠ g1
section
variable {w0 w : World} {g1 cap1 g2 cap2 N : Nat} {f f2 : Nat → Nat}
theorem FX2.step (h : FX2 w0 g1 cap1 g2 cap2 N f f2 w) {w' : World} (hx : Ext w w') : FX2 w0 g1 cap1 g2 cap2 N f f2 w' := by
  obtain ⟨cur, hc⟩ := h.b
  exact ⟨h.a.step hx, ⟨cur, hc.ext hx⟩, h.b0, h.ne⟩
theorem FX2.put (h : FX2 w0 g1 cap1 g2 cap2 N f f2 w) (k x : Nat) : FX2 w0 g1 cap1 g2 cap2 N (updF f k x) f2 (w.setCell ⟨g1, k, none⟩ (.float .f32 x)) := by
  obtain ⟨cur, hc⟩ := h.b
  exact ⟨h.a.put h.b0 k x, ⟨cur, hc.far h.ne _⟩, h.b0, h.ne⟩
theorem FX2.cell2 (h : FX2 w0 g1 cap1 g2 cap2 N f f2 w) {k : Nat} (hk : k < N) : w.cell? ⟨g2, k, none⟩ = some (.float .f32 (f2 k)) := by
  obtain ⟨cur, hc⟩ := h.b
  exact hc.cell hk
/-- two rows, one made behind the other -/
theorem FX2.mk' {wa wb : World} {fb : Nat → Nat} (h1 : FX w0 g1 cap1 N f wa) (hb : w0.heap.size ≤ g1) (hx : Ext wa wb) (h2 : FX wb g2 cap2 N fb w) (hg : wb.heap.size ≤ g2) : FX2 w0 g1 cap1 g2 cap2 N f fb w := by
  obtain ⟨cur, hc⟩ := h1.c
  have hl := hc.b.lt
  have := hx.size
  exact ⟨h1.step (hx.trans h2.x), h2.c, hb, by omega⟩
end
/-- the mean of the first i -/
def mnX (f f2 : Nat → Nat) (i : Nat) (k : Nat) : Nat := if k < i then meanX f f2 k else f k
theorem mnX_zero (f f2 : Nat → Nat) : mnX f f2 0 = f := by
  funext k
  unfold mnX
  rw [if_neg (by omega)]
theorem mnX_at (f f2 : Nat → Nat) (i : Nat) : mnX f f2 i i = f i := by
  unfold mnX
  rw [if_neg (by omega)]
theorem mnX_succ (f f2 : Nat → Nat) (i : Nat) : updF (mnX f f2 i) i (meanX f f2 i) = mnX f f2 (i + 1) := by
  funext k
  unfold updF mnX
  by_cases h1 : k = i
  · subst h1
    rw [if_pos rfl, if_pos (by omega)]
  · rw [if_neg h1]
    by_cases h2 : k < i
    · rw [if_pos h2, if_pos (by omega)]
    · rw [if_neg h2, if_neg (by omega)]
theorem mnX_end (f f2 : Nat → Nat) (n : Nat) : ∀ k, k < n → mnX f f2 n k = meanX f f2 k := fun k h => by
  unfold mnX
  rw [if_pos h]
theorem nxt_h {k n : Nat} (h : k < n) : n - (intOf (.int .i64 ((k : Int) + 1))).toNat < n - (intOf (.int .i64 (k : Int))).toNat := by
  simp [intOf]
  omega
set_option maxRecDepth 100000 in
set_option maxHeartbeats 6400000 in
theorem BedOf_mean (X Y : Int) (Wn Hn : Nat) (A : Option Addr) (N c : Nat) (lf : List Nat) (B : Option Addr) (n d : Nat) (l : List (Int × Int)) (most : Nat) (w : World) (hr : Reg X Y Wn Hn) (hN : N = Wn * Hn) (hlf : lf.length = N) (hh : ∀ j, j < N → Bd 20 (lf.getD j 0)) (hV : Rd w A (flt lf)) (hn : l.length = n) (hP : Rd w B (ptv l)) (hok : WayOk (outP X Y Wn Hn) l) (hM : Bd 10 most) (hM0 : 0 ≤ valI most) :
    Calls Try.prog 53 #[.agg #[.int .i64 X, .int .i64 Y, .int .i64 (Wn : Int), .int .i64 (Hn : Int), .slice A N c], .slice B n d, .int .i64 3, .float .f32 most] w fun e w' => ∃ g cap, e = .returned (.slice (some ⟨g, 0, none⟩) n cap) ∧ w.heap.size ≤ g ∧ n ≤ cap ∧ FX w g cap n (meanX (bedX false (drpX most l) (hgtY lf X Y Wn l) (n - 1)) (bedX true (drpX most l) (hgtY lf X Y Wn l) (n - 1))) w' := by
  have hn6 : n ≤ 65536 := by have := hok.le; omega
  have hn1 : 1 ≤ n := by have := hok.pos; omega
  obtain ⟨hdr, _⟩ := drp_ok hok hn hM hM0
  have hH := hgt_way hN hh hok hn
  have HH1 := hidA (HtB.bed (up := false) (m := n - 1) (h := hgtY lf X Y Wn l) (by rw [show n - 1 + 1 = n by omega]; exact hH) hdr)
  have HH2 := hidA (HtB.bed (up := true) (m := n - 1) (h := hgtY lf X Y Wn l) (by rw [show n - 1 + 1 = n by omega]; exact hH) hdr)
  rw [show n - 1 + 1 = n by omega] at HH1 HH2
  have HLn := fun (w' : World) (h : Ext w w') => hidA (LengthsR_any (fun p hp => outP_bd hr hp) B n d l w' hn (hP.ext h) hok)
  have HBc := fun (w' : World) (h : Ext w w') => hidA (BedOf_false X Y Wn Hn A N c lf B n d l most w' hr hN hlf hh (hV.ext h) hn (hP.ext h) hok hM hM0)
  have HBf := fun (w' : World) (h : Ext w w') => hidA (BedOf_true X Y Wn Hn A N c lf B n d l most w' hr hN hlf hh (hV.ext h) hn (hP.ext h) hok hM hM0)
  clear hr hN hlf hh hV hn hP hok hM hM0 hdr hH
  generalize bedX false (drpX most l) (hgtY lf X Y Wn l) (n - 1) = fa at *
  generalize bedX true (drpX most l) (hgtY lf X Y Wn l) (n - 1) = fb at *
  go_enter Try.func53, Try.ntmps53
  go_upto_region 1 with fail
  obtain ⟨w0, hw0⟩ : ∃ w0, w0 = ((w.alloc (.cells #[.int .i64 X, .int .i64 Y, .int .i64 (Wn : Int), .int .i64 (Hn : Int), .slice A N c] 26)).alloc (.cells #[.int .i64 3] 3)).alloc (.cells #[.float .f32 most] 27) := ⟨_, rfl⟩
  have kF : Bk w0 w.heap.size 26 #[.int .i64 X, .int .i64 Y, .int .i64 (Wn : Int), .int .i64 (Hn : Int), .slice A N c] := by rw [hw0]; exact ((Bk.new' rfl).alloc _).alloc _
  have kH : Bk w0 (w.heap.size + 1) 3 #[.int .i64 3] := by rw [hw0]; exact (Bk.new' (by simp)).alloc _
  have kG : Bk w0 (w.heap.size + 1 + 1) 27 #[.float .f32 most] := by rw [hw0]; exact Bk.new' (by simp)
  have hx0 : Ext w w0 := by rw [hw0]; exact (((Ext.refl w).alloc _).alloc _).alloc _
  rw [← hw0]
  clear hw0
  generalize w.heap.size + 1 + 1 = gb at *
  generalize w.heap.size + 1 = hb at *
  generalize hfe : w.heap.size = hf at kF ⊢
  have Hfe := hidA hfe
  clear hfe
  go_upto_region 2 with (go_at_call 51; refine ((HLn _ hx0).out).mono ?_; rintro e w1 ⟨vl, rfl, hOl, hx1⟩; obtain ⟨AL, capL, rfl, hRl⟩ := hOl.any; rw [lnL_length])
  have kF1 := kF.ext hx1
  have kH1 := kH.ext hx1
  have kG1 := kG.ext hx1
  have hx9 := hx0.trans hx1
  clear kF kH kG HLn hx0 hx1 hOl hRl
  have h0 := kH1.cell 0
  have f0 := fun w' (h : Ext w1 w') => (kF1.ext h).cell 0
  have f1 := fun w' (h : Ext w1 w') => (kF1.ext h).cell 1
  have f2 := fun w' (h : Ext w1 w') => (kF1.ext h).cell 2
  have f3 := fun w' (h : Ext w1 w') => (kF1.ext h).cell 3
  have f4 := fun w' (h : Ext w1 w') => (kF1.ext h).cell 4
  have f5 := fun w' (h : Ext w1 w') => (kG1.ext h).cell 0
  go_upto_region 3 with fail
  clear h0
  refine wp_region_noPanic ?_
  refine wp_region_held_drew (S := fun w' => Ext w1 w') (by kernel_rfl) ?_ (fun hHeld => ?_)
  · (repeat (first | exact Ext.refl _ | assumption | refine Ext.setCell ?_ (by first | (simp; done) | (simp; omega)) _ | refine Ext.drewN ?_ _ | refine Ext.alloc ?_ _ | refine Ext.drew ?_ | refine Ext.trans ?_ (by assumption)))
  refine wpAnyH_take (i := 0) (oi := ?o1x0) (v := ?v1x0) ?hi1x0 (by kernel_rfl) ?hf1x0 ?hr1x0 (fun _ _ _ h => h) ?hy1x0 (by assumption) ?rest1x0
  case hi1x0 => (simp only [List.getElem?_toArray, List.getElem?_cons_zero]; exact rfl)
  case hf1x0 => kernel_rfl
  case hr1x0 => kernel_rfl
  case hy1x0 => (refine Or.inl ⟨by rfl, ?_⟩; intro w hSw; (try dsimp only at hSw); go_simp; try with_reducible rfl)
  simp only [put_mk, List.set_cons_succ, List.set_cons_zero]
  refine wpAnyH_take (i := 1) (oi := ?o1x1) (v := ?v1x1) ?hi1x1 (by kernel_rfl) ?hf1x1 ?hr1x1 (fun _ _ _ h => h) ?hy1x1 (by assumption) ?rest1x1
  case hi1x1 => (simp only [List.getElem?_toArray, List.getElem?_cons_succ, List.getElem?_cons_zero]; exact rfl)
  case hf1x1 => kernel_rfl
  case hr1x1 => kernel_rfl
  case hy1x1 => (refine Or.inl ⟨by rfl, ?_⟩; intro w hSw; (try dsimp only at hSw); go_simp; try with_reducible rfl)
  simp only [put_mk, List.set_cons_succ, List.set_cons_zero]
  refine wpAnyH_take (i := 2) (oi := ?o1x2) (v := ?v1x2) ?hi1x2 (by kernel_rfl) ?hf1x2 ?hr1x2 (fun _ _ _ h => h) ?hy1x2 (by assumption) ?rest1x2
  case hi1x2 => (simp only [List.getElem?_toArray, List.getElem?_cons_succ, List.getElem?_cons_zero]; exact rfl)
  case hf1x2 => kernel_rfl
  case hr1x2 => kernel_rfl
  case hy1x2 => (refine Or.inl ⟨by rfl, ?_⟩; intro w hSw; (try dsimp only at hSw); go_simp; try with_reducible rfl)
  simp only [put_mk, List.set_cons_succ, List.set_cons_zero]
  refine wpAnyH_take (i := 4) (oi := ?o1x4) (v := ?v1x4) ?hi1x4 (by kernel_rfl) ?hf1x4 ?hr1x4 (fun _ _ _ h => h) ?hy1x4 (by assumption) ?rest1x4
  case hi1x4 => (simp only [List.getElem?_toArray, List.getElem?_cons_succ, List.getElem?_cons_zero]; exact rfl)
  case hf1x4 => kernel_rfl
  case hr1x4 => kernel_rfl
  case hy1x4 => (refine Or.inl ⟨by rfl, ?_⟩; intro w hSw; (try dsimp only at hSw); go_simp; try with_reducible rfl)
  simp only [put_mk, List.set_cons_succ, List.set_cons_zero]
  refine wpAnyH_take (i := 5) (oi := ?o1x5) (v := ?v1x5) ?hi1x5 (by kernel_rfl) ?hf1x5 ?hr1x5 (fun _ _ _ h => h) ?hy1x5 (by assumption) ?rest1x5
  case hi1x5 => (simp only [List.getElem?_toArray, List.getElem?_cons_succ, List.getElem?_cons_zero]; exact rfl)
  case hf1x5 => kernel_rfl
  case hr1x5 => kernel_rfl
  case hy1x5 => (refine Or.inl ⟨by rfl, ?_⟩; intro w hSw; (try dsimp only at hSw); go_simp; try with_reducible rfl)
  simp only [put_mk, List.set_cons_succ, List.set_cons_zero]
  refine wpAnyH_take (i := 6) (oi := ?o1x6) (v := ?v1x6) ?hi1x6 (by kernel_rfl) ?hf1x6 ?hr1x6 (fun _ _ _ h => h) ?hy1x6 (by assumption) ?rest1x6
  case hi1x6 => (simp only [List.getElem?_toArray, List.getElem?_cons_succ, List.getElem?_cons_zero]; exact rfl)
  case hf1x6 => kernel_rfl
  case hr1x6 => kernel_rfl
  case hy1x6 => (refine Or.inl ⟨by rfl, ?_⟩; intro w hSw; (try dsimp only at hSw); go_simp; try with_reducible rfl)
  simp only [put_mk, List.set_cons_succ, List.set_cons_zero]
  refine wpAnyH_ready (rs := [3]) (by kernel_rfl) (by simp) ?_
  refine AllReadyH.cons (o := ?o1x3) ?hi1x3 (fun K hK => ?_) AllReadyH.nil
  case hi1x3 => (simp only [List.getElem?_toArray, List.getElem?_cons_succ, List.getElem?_cons_zero]; exact rfl)
  go_simp
  go_at_call 53
  refine ((HBc _ (by repeat (first | exact Ext.refl _ | assumption | refine Ext.setCell ?_ (by first | (simp; done) | (simp; omega)) _ | refine Ext.drewN ?_ _ | refine Ext.alloc ?_ _ | refine Ext.drew ?_ | refine Ext.trans ?_ (by assumption)))).out).mono ?_
  rintro e wa ⟨g1, cap1, rfl, hg1, hcap1, hF1⟩
  have hxa := hF1.x
  refine hK.out _ _ ?_ (fun hHeld => ?_)
  · (repeat (first | exact Ext.refl _ | assumption | refine Ext.setCell ?_ (by first | (simp; done) | (simp; omega)) _ | refine Ext.drewN ?_ _ | refine Ext.alloc ?_ _ | refine Ext.drew ?_ | refine Ext.trans ?_ (by assumption)))
  clear hK K
  refine wpAnyH_ready (rs := [7]) (by kernel_rfl) (by simp) ?_
  refine AllReadyH.cons (o := ?o1x7) ?hi1x7 (fun K hK => ?_) AllReadyH.nil
  case hi1x7 => (simp only [List.getElem?_toArray, List.getElem?_cons_succ, List.getElem?_cons_zero]; exact rfl)
  go_simp
  go_at_call 53
  refine ((HBf _ (by repeat (first | exact Ext.refl _ | assumption | refine Ext.setCell ?_ (by first | (simp; done) | (simp; omega)) _ | refine Ext.drewN ?_ _ | refine Ext.alloc ?_ _ | refine Ext.drew ?_ | refine Ext.trans ?_ (by assumption)))).out).mono ?_
  rintro e wb ⟨g2, cap2, rfl, hg2, hcap2, hF2⟩
  have hxb := hF2.x
  refine hK.out _ _ ?_ (fun hHeld => ?_)
  · (repeat (first | exact Ext.refl _ | assumption | refine Ext.setCell ?_ (by first | (simp; done) | (simp; omega)) _ | refine Ext.drewN ?_ _ | refine Ext.alloc ?_ _ | refine Ext.drew ?_ | refine Ext.trans ?_ (by assumption)))
  clear hK K
  refine wpAnyH_take (i := 8) (oi := ?o1x8) (v := ?v1x8) ?hi1x8 (by kernel_rfl) ?hf1x8 ?hr1x8 (fun _ _ _ h => h) ?hy1x8 (by assumption) ?rest1x8
  case hi1x8 => (simp only [List.getElem?_toArray, List.getElem?_cons_succ, List.getElem?_cons_zero]; exact rfl)
  case hf1x8 => kernel_rfl
  case hr1x8 => kernel_rfl
  case hy1x8 => (refine Or.inl ⟨by rfl, ?_⟩; intro w hSw; (try dsimp only at hSw); go_simp; try with_reducible rfl)
  simp only [put_mk, List.set_cons_succ, List.set_cons_zero]
  refine wpAnyH_take (i := 9) (oi := ?o1x9) (v := ?v1x9) ?hi1x9 (by kernel_rfl) ?hf1x9 ?hr1x9 (fun _ _ _ h => h) ?hy1x9 (by assumption) ?rest1x9
  case hi1x9 => (simp only [List.getElem?_toArray, List.getElem?_cons_succ, List.getElem?_cons_zero]; exact rfl)
  case hf1x9 => kernel_rfl
  case hr1x9 => kernel_rfl
  case hy1x9 => (refine Or.inl ⟨by rfl, ?_⟩; intro w hSw; (try dsimp only at hSw); go_simp; try with_reducible rfl)
  simp only [put_mk, List.set_cons_succ, List.set_cons_zero]
  refine wpAnyH_done (by kernel_rfl) ?_ _
  refine NoPanic.normal ?_
  obtain ⟨wq, hxq, h2⟩ : ∃ wq, Ext w wq ∧ FX2 wq g1 cap1 g2 cap2 n fa fb wb := by
    refine ⟨_, ?_, FX2.mk' hF1 hg1 ?_ hF2 hg2⟩
    · (repeat (first | exact Ext.refl _ | assumption | refine Ext.setCell ?_ (by first | (simp; done) | (simp; omega)) _ | refine Ext.drewN ?_ _ | refine Ext.alloc ?_ _ | refine Ext.drew ?_ | refine Ext.trans ?_ (by assumption)))
    · (repeat (first | exact Ext.refl _ | assumption | refine Ext.setCell ?_ (by first | (simp; done) | (simp; omega)) _ | refine Ext.drewN ?_ _ | refine Ext.alloc ?_ _ | refine Ext.drew ?_ | refine Ext.trans ?_ (by assumption)))
  have h3 : FX2 wq g1 cap1 g2 cap2 n (mnX fa fb 0) fb wb := by rw [mnX_zero]; exact h2
  have Hxq := hidA hxq
  have Hcap := hidA hcap1
  have Hn6 := hidA hn6
  clear hF1 hF2 hxa hxb hg1 hg2 hcap1 hcap2 h2 hxq f0 f1 f2 f3 f4 f5 hHeld HBc HBf kF1 kH1 kG1 hx9 hn1
  go_upto_region 5 with fail
  go_loopw [31] (fun s31 wr => ∃ i : Nat, i ≤ n ∧ s31 = .int .i64 i ∧ FX2 wq g1 cap1 g2 cap2 n (mnX fa fb i) fb wr) (fun s31 _ => n - (intOf s31).toNat)
  case atStart => exact ⟨0, Nat.zero_le _, rfl, h3⟩
  case round =>
    clear h3
    obtain ⟨i, hi, rfl, hF⟩ := hrel
    by_cases hin : i < n
    · have Hin := hidA hin
      obtain ⟨ha, hm, _⟩ := mean_ok HH1.out HH2.out hin
      have c1 := hF.a.cell hin
      rw [mnX_at] at c1
      have c2 := hF.cell2 hin
      have z1 := hF.a.frozen i
      have HF := hidA (hF.put i (meanX fa fb i))
      rw [mnX_succ] at HF
      have hr1 := fun (w : World) => run_float_arith (P := Try.prog) w .add 27 .f32 _ _ _ ha
      have hr2 := fun (w : World) => run_float_arith (P := Try.prog) w .mul 27 .f32 _ _ _ hm
      have i0 : (0 : Int) ≤ i := by omega
      have i1 : (i : Int) < n := by omega
      have i2 : (i : Int) ≤ 65536 := by omega
      clear ha hm hF hi hin hn6
      generalize meanX fa fb i = z at *
      generalize fadd (fa i) (fb i) = y at *
      generalize fa i = a at *
      generalize fb i = b at *
      go_upto_region 7 with fail
      go_region
      clear c1 c2 z1
      go_wp2
      go_roundw
      case rel => exact ⟨i + 1, Hin.out, (by first | rfl | go_num), HF.out.step (by repeat (first | exact Ext.refl _ | assumption | refine Ext.setCell ?_ (by first | (simp; done) | (simp; omega)) _ | refine Ext.drewN ?_ _ | refine Ext.alloc ?_ _ | refine Ext.drew ?_ | refine Ext.trans ?_ (by assumption)))⟩
      case measure => exact nxt_h Hin.out
    · obtain rfl : i = n := by omega
      have HF := hidA ((hF.a.congr (mnX_end fa fb i)).base Hxq.out)
      have Hg := hidA (Nat.le_trans Hxq.out.size hF.b0)
      clear hF hi hin
      go_wp2
      go_ret
      exact ⟨g1, cap1, rfl, Hg.out, Hcap.out, HF.out⟩
end Go.Proofs.Ytpgdinpckolfpaa

namespace Go.Proofs.Ytpgdinpckolfpaa
open Go.RowKit
attribute [local go_sem ↓] Go.wp_at_zero Go.wp_at_succ
attribute [local go_sem] run_store_float

theorem bwdX_at {up : Bool} {ds h : Nat → Nat} {m i : Nat} (hi : i < m) : bwdX up ds h m (m - i) = fitX up (bwdX up ds h m (m - (i + 1))) i (i + 1) (ds i) := by
  have e : m - i = m - (i + 1) + 1 := by omega
  rw [e]
  show fitX up _ (m - 1 - (m - (i + 1))) (m - 1 - (m - (i + 1)) + 1) (ds (m - 1 - (m - (i + 1)))) = _
  have e2 : m - 1 - (m - (i + 1)) = i := by omega
  rw [e2]
theorem nxt_d {i : Nat} : (intOf (.int .i64 ((i : Int) - 1)) + 1).toNat < (intOf (.int .i64 ((i : Int))) + 1).toNat := by
  simp [intOf]
theorem nxt_k {k m : Nat} (h : k < m) : m - (intOf (.int .i64 ((k : Int) + 1))).toNat < m - (intOf (.int .i64 (k : Int))).toNat := by
  simp [intOf]
  omega

set_option maxRecDepth 100000 in
set_option maxHeartbeats 6400000 in
theorem filled_any (adH : Addr) (n c : Nat) (lh : List Nat) (D : Option Addr) (m d : Nat) (ds : List Nat) (w : World) (hl : lh.length = n) (hV : Rd w (some adH) (flt lh)) (hm : ds.length = m) (hD : Rd w D (flt ds)) (hnm : n = m + 1) (hn6 : n ≤ 65536) (hh : HtB (fun k => lh.getD k 0) n) (hd : DrB (fun k => ds.getD k 0) m) :
    Calls Try.prog 88 #[.slice (some adH) n c, .slice D m d] w fun e w' => ∃ g cap, e = .returned (.slice (some ⟨g, 0, none⟩) n cap) ∧ w.heap.size ≤ g ∧ n ≤ cap ∧ FX w g cap n (bedX true (fun k => ds.getD k 0) (fun k => lh.getD k 0) m) w' := by
  have HC := hidA (Clone_any adH n c lh w hl hV (by omega) (by omega))
  have Hf := hidA (fun i (h : i ≤ m) => HtB.fwd (up := true) (by rw [← hnm]; exact hh) hd i h)
  have Hb := hidA (fun i (h : i ≤ m) => HtB.bwd (up := true) (HtB.fwd (up := true) (m := m) (ds := (fun k => ds.getD k 0)) (h := (fun k => lh.getD k 0)) (by rw [← hnm]; exact hh) hd m (Nat.le_refl _)) hd i h)
  have Hd := hidA hd
  have Hm := hidA hm
  have HD := hidA hD
  have hml : m + 1 ≤ n := by omega
  clear hl hV hm hD hh hd hnm
  go_enter Try.func88, Try.ntmps88
  go_upto_region 2 with (go_at_call 118; refine (HC.out).mono ?_; rintro e w1 ⟨g, cap, cur, rfl, hg, hCl, hx1⟩)
  have hcap := hCl.n
  have hF0 : FX w g cap n (fwdX true (fun k => ds.getD k 0) (fun k => lh.getD k 0) 0) w1 := ⟨⟨cur, hCl⟩, hx1⟩
  have Hg := hidA hg
  have HD1 := fun (w' : World) (h : Ext w w') => hidA (HD.out.ext h)
  clear HC hg hCl hx1 HD
  go_upto_region 3 with fail
  go_loopw [15] (fun s15 wr => ∃ i : Nat, i ≤ m ∧ s15 = .int .i64 i ∧ FX w g cap n (fwdX true (fun k => ds.getD k 0) (fun k => lh.getD k 0) i) wr) (fun s15 _ => m - (intOf s15).toNat)
  case atStart => exact ⟨0, Nat.zero_le _, rfl, hF0⟩
  case round =>
    clear hF0
    obtain ⟨i, hi, rfl, hF⟩ := hrel
    by_cases him : i < m
    · have Him := hidA him
      have hB := Hf.out i hi
      have hdi := Hd.out i him
      dsimp only at hdi
      have HN : fwdX true (fun k => ds.getD k 0) (fun k => lh.getD k 0) (i + 1) = fitX true (fwdX true (fun k => ds.getD k 0) (fun k => lh.getD k 0) i) (i + 1) i (ds.getD i 0) := rfl
      obtain ⟨adD, rfl, _, hcv⟩ := ((HD1 _ hF.x).out).at (k := i) (by simp [flt]; have := Hm.out; omega)
      have v1 := hcv i _ (flt_get (l := ds) (by have := Hm.out; omega))
      have hev : ds[i]'(by have := Hm.out; omega) = ds.getD i 0 := by simp [List.getD_eq_getElem?_getD, show i < ds.length by have := Hm.out; omega]
      rw [hev] at v1
      have hft := (fit_bits (j := i) hB (by omega) hdi.1).1
      obtain ⟨f, hfe⟩ : ∃ f, f = fwdX true (fun k => ds.getD k 0) (fun k => lh.getD k 0) i := ⟨_, rfl⟩
      rw [← hfe] at hF HN hft
      have c1 := hF.cell (k := i) (by omega)
      have c2 := hF.cell (k := i + 1) (by omega)
      have z2 := hF.frozen (i + 1)
      have hput := hF.put Hg.out (i + 1) (fsub (f i) (ds.getD i 0))
      have hrun := fun (w : World) => run_float_arith (P := Try.prog) w .sub 27 .f32 _ _ _ hft
      have i0 : (0 : Int) ≤ i := by omega
      have i1 : (i : Int) < m := by omega
      have i2 : (i : Int) < n := by omega
      have i3 : (0 : Int) ≤ (i : Int) + 1 := by omega
      have i4 : (i : Int) + 1 < n := by omega
      have iw : IntKind.i64.wrap ((i : Int) + 1) = (i : Int) + 1 := IntWalk.i64_in _ ⟨by omega, by omega⟩
      have HF := hidA hF
      have HPut := hidA hput
      have HNx := hidA HN
      clear hcv hev hdi hB hF hput HN hfe hi him hft
      unfold fitX at HNx
      rw [if_pos rfl] at HNx
      generalize fsub (f i) (ds.getD i 0) = x at *
      generalize ds.getD i 0 = dd at *
      cases hq : gt x (f (i + 1))
      · have hq' : (FloatKind.f32.format.order x (f (i + 1)) == some .gt) = false := hq
        rw [hq, if_neg (by decide)] at HNx
        clear HPut hq
        generalize f (i + 1) = b at *
        generalize f i = a at *
        go_wp2
        go_roundw
        case rel => exact ⟨i + 1, Him.out, (by first | rfl | go_num), by rw [HNx.out]; exact HF.out⟩
        case measure => exact nxt_k Him.out
      · have hq' : (FloatKind.f32.format.order x (f (i + 1)) == some .gt) = true := hq
        rw [hq, if_pos rfl] at HNx
        clear HF hq
        generalize f (i + 1) = b at *
        generalize f i = a at *
        go_wp2
        go_roundw
        case rel => exact ⟨i + 1, Him.out, (by first | rfl | go_num), by rw [HNx.out]; exact HPut.out⟩
        case measure => exact nxt_k Him.out
    · obtain rfl : i = m := by omega
      have hF2 : FX w g cap n (bwdX true (fun k => ds.getD k 0) (fwdX true (fun k => ds.getD k 0) (fun k => lh.getD k 0) i) i (i - i)) wr := by rw [Nat.sub_self]; exact hF
      clear hF him
      go_upto_region 10 with fail
      go_loopw [9] (fun s9 wr => ∃ t : Nat, t ≤ i ∧ s9 = .int .i64 ((t : Int) - 1) ∧ FX w g cap n (bwdX true (fun k => ds.getD k 0) (fwdX true (fun k => ds.getD k 0) (fun k => lh.getD k 0) i) i (i - t)) wr) (fun s9 _ => (intOf s9 + 1).toNat)
      case atStart => exact ⟨i, Nat.le_refl _, (by first | rfl | go_num), hF2⟩
      case round =>
        clear hF2
        obtain ⟨t, ht, rfl, hF⟩ := hrel
        cases t with
        | zero =>
          rw [Nat.sub_zero] at hF
          have HF := hidA hF
          clear hF ht hi
          go_wp2
          go_ret
          exact ⟨g, cap, rfl, Hg.out, hcap, HF.out⟩
        | succ k =>
          have hk : k < i := by omega
          have Hk := hidA hk
          have ek : (((k + 1 : Nat) : Int) - 1) = (k : Int) := by omega
          rw [ek]
          have hB := Hb.out (i - (k + 1)) (by omega)
          have hdi := Hd.out k hk
          dsimp only at hdi
          have HN := bwdX_at (up := true) (ds := (fun k => ds.getD k 0)) (h := fwdX true (fun k => ds.getD k 0) (fun k => lh.getD k 0) i) hk
          obtain ⟨adD, rfl, _, hcv⟩ := ((HD1 _ hF.x).out).at (k := k) (by simp [flt]; have := Hm.out; omega)
          have v1 := hcv k _ (flt_get (l := ds) (by have := Hm.out; omega))
          have hev : ds[k]'(by have := Hm.out; omega) = ds.getD k 0 := by simp [List.getD_eq_getElem?_getD, show k < ds.length by have := Hm.out; omega]
          rw [hev] at v1
          have hft := (fit_bits (j := k + 1) hB (by omega) hdi.1).1
          obtain ⟨f, hfe⟩ : ∃ f, f = bwdX true (fun k => ds.getD k 0) (fwdX true (fun k => ds.getD k 0) (fun k => lh.getD k 0) i) i (i - (k + 1)) := ⟨_, rfl⟩
          rw [← hfe] at hF HN hft
          have c1 := hF.cell (k := k) (by omega)
          have c2 := hF.cell (k := k + 1) (by omega)
          have z2 := hF.frozen k
          have hput := hF.put Hg.out k (fsub (f (k + 1)) (ds.getD k 0))
          have hrun := fun (w : World) => run_float_arith (P := Try.prog) w .sub 27 .f32 _ _ _ hft
          have i0 : (0 : Int) ≤ k := by omega
          have i1 : (k : Int) < i := by omega
          have i2 : (k : Int) < n := by omega
          have i3 : (0 : Int) ≤ (k : Int) + 1 := by omega
          have i4 : (k : Int) + 1 < n := by omega
          have iw : IntKind.i64.wrap ((k : Int) + 1) = (k : Int) + 1 := IntWalk.i64_in _ ⟨by omega, by omega⟩
          have HF := hidA hF
          have HPut := hidA hput
          have HNx := hidA HN
          clear hcv hev hdi hB hF hput HN hfe ht hk hft ek hi
          unfold fitX at HNx
          rw [if_pos rfl] at HNx
          generalize fsub (f (k + 1)) (ds.getD k 0) = x at *
          generalize ds.getD k 0 = dd at *
          cases hq : gt x (f k)
          · have hq' : (FloatKind.f32.format.order x (f k) == some .gt) = false := hq
            rw [hq, if_neg (by decide)] at HNx
            clear HPut hq
            generalize f (k + 1) = b at *
            generalize f k = a at *
            go_upto_region 12 with fail
            go_region
            go_wp2
            go_roundw
            case rel => exact ⟨k, Nat.le_of_lt Hk.out, (by first | rfl | go_num), by rw [HNx.out]; exact HF.out.step (Ext.drew (Ext.refl _))⟩
            case measure => exact nxt_d
          · have hq' : (FloatKind.f32.format.order x (f k) == some .gt) = true := hq
            rw [hq, if_pos rfl] at HNx
            clear hq
            generalize f (k + 1) = b at *
            generalize f k = a at *
            go_upto_region 12 with fail
            go_region
            go_wp2
            go_roundw
            case rel => exact ⟨k, Nat.le_of_lt Hk.out, (by first | rfl | go_num), by rw [HNx.out]; exact (HF.out.step (Ext.drew (Ext.refl _))).put Hg.out _ _⟩
            case measure => exact nxt_d

set_option maxRecDepth 100000 in
set_option maxHeartbeats 6400000 in
theorem cut_any (adH : Addr) (n c : Nat) (lh : List Nat) (D : Option Addr) (m d : Nat) (ds : List Nat) (w : World) (hl : lh.length = n) (hV : Rd w (some adH) (flt lh)) (hm : ds.length = m) (hD : Rd w D (flt ds)) (hnm : n = m + 1) (hn6 : n ≤ 65536) (hh : HtB (fun k => lh.getD k 0) n) (hd : DrB (fun k => ds.getD k 0) m) :
    Calls Try.prog 89 #[.slice (some adH) n c, .slice D m d] w fun e w' => ∃ g cap, e = .returned (.slice (some ⟨g, 0, none⟩) n cap) ∧ w.heap.size ≤ g ∧ n ≤ cap ∧ FX w g cap n (bedX false (fun k => ds.getD k 0) (fun k => lh.getD k 0) m) w' := by
  have HC := hidA (Clone_any adH n c lh w hl hV (by omega) (by omega))
  have Hf := hidA (fun i (h : i ≤ m) => HtB.fwd (up := false) (by rw [← hnm]; exact hh) hd i h)
  have Hb := hidA (fun i (h : i ≤ m) => HtB.bwd (up := false) (HtB.fwd (up := false) (m := m) (ds := (fun k => ds.getD k 0)) (h := (fun k => lh.getD k 0)) (by rw [← hnm]; exact hh) hd m (Nat.le_refl _)) hd i h)
  have Hd := hidA hd
  have Hm := hidA hm
  have HD := hidA hD
  have hml : m + 1 ≤ n := by omega
  clear hl hV hm hD hh hd hnm
  go_enter Try.func89, Try.ntmps89
  go_upto_region 2 with (go_at_call 118; refine (HC.out).mono ?_; rintro e w1 ⟨g, cap, cur, rfl, hg, hCl, hx1⟩)
  have hcap := hCl.n
  have hF0 : FX w g cap n (fwdX false (fun k => ds.getD k 0) (fun k => lh.getD k 0) 0) w1 := ⟨⟨cur, hCl⟩, hx1⟩
  have Hg := hidA hg
  have HD1 := fun (w' : World) (h : Ext w w') => hidA (HD.out.ext h)
  clear HC hg hCl hx1 HD
  go_upto_region 3 with fail
  go_loopw [15] (fun s15 wr => ∃ i : Nat, i ≤ m ∧ s15 = .int .i64 i ∧ FX w g cap n (fwdX false (fun k => ds.getD k 0) (fun k => lh.getD k 0) i) wr) (fun s15 _ => m - (intOf s15).toNat)
  case atStart => exact ⟨0, Nat.zero_le _, rfl, hF0⟩
  case round =>
    clear hF0
    obtain ⟨i, hi, rfl, hF⟩ := hrel
    by_cases him : i < m
    · have Him := hidA him
      have hB := Hf.out i hi
      have hdi := Hd.out i him
      dsimp only at hdi
      have HN : fwdX false (fun k => ds.getD k 0) (fun k => lh.getD k 0) (i + 1) = fitX false (fwdX false (fun k => ds.getD k 0) (fun k => lh.getD k 0) i) (i + 1) i (ds.getD i 0) := rfl
      obtain ⟨adD, rfl, _, hcv⟩ := ((HD1 _ hF.x).out).at (k := i) (by simp [flt]; have := Hm.out; omega)
      have v1 := hcv i _ (flt_get (l := ds) (by have := Hm.out; omega))
      have hev : ds[i]'(by have := Hm.out; omega) = ds.getD i 0 := by simp [List.getD_eq_getElem?_getD, show i < ds.length by have := Hm.out; omega]
      rw [hev] at v1
      have hft := (fit_bits (j := i) hB (by omega) hdi.1).2
      obtain ⟨f, hfe⟩ : ∃ f, f = fwdX false (fun k => ds.getD k 0) (fun k => lh.getD k 0) i := ⟨_, rfl⟩
      rw [← hfe] at hF HN hft
      have c1 := hF.cell (k := i) (by omega)
      have c2 := hF.cell (k := i + 1) (by omega)
      have z2 := hF.frozen (i + 1)
      have hput := hF.put Hg.out (i + 1) (fadd (f i) (ds.getD i 0))
      have hrun := fun (w : World) => run_float_arith (P := Try.prog) w .add 27 .f32 _ _ _ hft
      have i0 : (0 : Int) ≤ i := by omega
      have i1 : (i : Int) < m := by omega
      have i2 : (i : Int) < n := by omega
      have i3 : (0 : Int) ≤ (i : Int) + 1 := by omega
      have i4 : (i : Int) + 1 < n := by omega
      have iw : IntKind.i64.wrap ((i : Int) + 1) = (i : Int) + 1 := IntWalk.i64_in _ ⟨by omega, by omega⟩
      have HF := hidA hF
      have HPut := hidA hput
      have HNx := hidA HN
      clear hcv hev hdi hB hF hput HN hfe hi him hft
      unfold fitX at HNx
      rw [if_neg (by decide)] at HNx
      generalize fadd (f i) (ds.getD i 0) = x at *
      generalize ds.getD i 0 = dd at *
      cases hq : lt x (f (i + 1))
      · have hq' : (FloatKind.f32.format.order x (f (i + 1)) == some .lt) = false := hq
        rw [hq, if_neg (by decide)] at HNx
        clear HPut hq
        generalize f (i + 1) = b at *
        generalize f i = a at *
        go_wp2
        go_roundw
        case rel => exact ⟨i + 1, Him.out, (by first | rfl | go_num), by rw [HNx.out]; exact HF.out⟩
        case measure => exact nxt_k Him.out
      · have hq' : (FloatKind.f32.format.order x (f (i + 1)) == some .lt) = true := hq
        rw [hq, if_pos rfl] at HNx
        clear HF hq
        generalize f (i + 1) = b at *
        generalize f i = a at *
        go_wp2
        go_roundw
        case rel => exact ⟨i + 1, Him.out, (by first | rfl | go_num), by rw [HNx.out]; exact HPut.out⟩
        case measure => exact nxt_k Him.out
    · obtain rfl : i = m := by omega
      have hF2 : FX w g cap n (bwdX false (fun k => ds.getD k 0) (fwdX false (fun k => ds.getD k 0) (fun k => lh.getD k 0) i) i (i - i)) wr := by rw [Nat.sub_self]; exact hF
      clear hF him
      go_upto_region 10 with fail
      go_loopw [9] (fun s9 wr => ∃ t : Nat, t ≤ i ∧ s9 = .int .i64 ((t : Int) - 1) ∧ FX w g cap n (bwdX false (fun k => ds.getD k 0) (fwdX false (fun k => ds.getD k 0) (fun k => lh.getD k 0) i) i (i - t)) wr) (fun s9 _ => (intOf s9 + 1).toNat)
      case atStart => exact ⟨i, Nat.le_refl _, (by first | rfl | go_num), hF2⟩
      case round =>
        clear hF2
        obtain ⟨t, ht, rfl, hF⟩ := hrel
        cases t with
        | zero =>
          rw [Nat.sub_zero] at hF
          have HF := hidA hF
          clear hF ht hi
          go_wp2
          go_ret
          exact ⟨g, cap, rfl, Hg.out, hcap, HF.out⟩
        | succ k =>
          have hk : k < i := by omega
          have Hk := hidA hk
          have ek : (((k + 1 : Nat) : Int) - 1) = (k : Int) := by omega
          rw [ek]
          have hB := Hb.out (i - (k + 1)) (by omega)
          have hdi := Hd.out k hk
          dsimp only at hdi
          have HN := bwdX_at (up := false) (ds := (fun k => ds.getD k 0)) (h := fwdX false (fun k => ds.getD k 0) (fun k => lh.getD k 0) i) hk
          obtain ⟨adD, rfl, _, hcv⟩ := ((HD1 _ hF.x).out).at (k := k) (by simp [flt]; have := Hm.out; omega)
          have v1 := hcv k _ (flt_get (l := ds) (by have := Hm.out; omega))
          have hev : ds[k]'(by have := Hm.out; omega) = ds.getD k 0 := by simp [List.getD_eq_getElem?_getD, show k < ds.length by have := Hm.out; omega]
          rw [hev] at v1
          have hft := (fit_bits (j := k + 1) hB (by omega) hdi.1).2
          obtain ⟨f, hfe⟩ : ∃ f, f = bwdX false (fun k => ds.getD k 0) (fwdX false (fun k => ds.getD k 0) (fun k => lh.getD k 0) i) i (i - (k + 1)) := ⟨_, rfl⟩
          rw [← hfe] at hF HN hft
          have c1 := hF.cell (k := k) (by omega)
          have c2 := hF.cell (k := k + 1) (by omega)
          have z2 := hF.frozen k
          have hput := hF.put Hg.out k (fadd (f (k + 1)) (ds.getD k 0))
          have hrun := fun (w : World) => run_float_arith (P := Try.prog) w .add 27 .f32 _ _ _ hft
          have i0 : (0 : Int) ≤ k := by omega
          have i1 : (k : Int) < i := by omega
          have i2 : (k : Int) < n := by omega
          have i3 : (0 : Int) ≤ (k : Int) + 1 := by omega
          have i4 : (k : Int) + 1 < n := by omega
          have iw : IntKind.i64.wrap ((k : Int) + 1) = (k : Int) + 1 := IntWalk.i64_in _ ⟨by omega, by omega⟩
          have HF := hidA hF
          have HPut := hidA hput
          have HNx := hidA HN
          clear hcv hev hdi hB hF hput HN hfe ht hk hft ek hi
          unfold fitX at HNx
          rw [if_neg (by decide)] at HNx
          generalize fadd (f (k + 1)) (ds.getD k 0) = x at *
          generalize ds.getD k 0 = dd at *
          cases hq : lt x (f k)
          · have hq' : (FloatKind.f32.format.order x (f k) == some .lt) = false := hq
            rw [hq, if_neg (by decide)] at HNx
            clear HPut hq
            generalize f (k + 1) = b at *
            generalize f k = a at *
            go_upto_region 12 with fail
            go_region
            go_wp2
            go_roundw
            case rel => exact ⟨k, Nat.le_of_lt Hk.out, (by first | rfl | go_num), by rw [HNx.out]; exact HF.out.step (Ext.drew (Ext.refl _))⟩
            case measure => exact nxt_d
          · have hq' : (FloatKind.f32.format.order x (f k) == some .lt) = true := hq
            rw [hq, if_pos rfl] at HNx
            clear hq
            generalize f (k + 1) = b at *
            generalize f k = a at *
            go_upto_region 12 with fail
            go_region
            go_wp2
            go_roundw
            case rel => exact ⟨k, Nat.le_of_lt Hk.out, (by first | rfl | go_num), by rw [HNx.out]; exact (HF.out.step (Ext.drew (Ext.refl _))).put Hg.out _ _⟩
            case measure => exact nxt_d
end Go.Proofs.Ytpgdinpckolfpaa

namespace Go.Proofs.Ytpgdinpckolfpaa
open Go.RowKit
attribute [local go_sem ↓] Go.wp_at_zero Go.wp_at_succ
attribute [local go_sem] run_store_float

/-- the first i of one, the rest of another -/
def selX (a b : Nat → Nat) (i : Nat) (k : Nat) : Nat := if k < i then a k else b k
theorem selX_zero (a b : Nat → Nat) : selX a b 0 = b := by
  funext k
  unfold selX
  rw [if_neg (by omega)]
theorem selX_at (a b : Nat → Nat) (i : Nat) : selX a b i i = b i := by
  unfold selX
  rw [if_neg (by omega)]
theorem selX_succ (a b : Nat → Nat) (i : Nat) : updF (selX a b i) i (a i) = selX a b (i + 1) := by
  funext k
  unfold updF selX
  by_cases h1 : k = i
  · subst h1
    rw [if_pos rfl, if_pos (by omega)]
  · rw [if_neg h1]
    by_cases h2 : k < i
    · rw [if_pos h2, if_pos (by omega)]
    · rw [if_neg h2, if_neg (by omega)]
theorem fit_congr {up : Bool} {h h' : Nat → Nat} {n i j d : Nat} (he : ∀ k, k < n → h k = h' k) (hi : i < n) (hj : j < n) : ∀ k, k < n → fitX up h i j d k = fitX up h' i j d k := by
  intro k hk
  have e : ∀ x, updF h i x k = updF h' i x k := fun x => by
    unfold updF
    split
    · rfl
    · exact he k hk
  unfold fitX
  rw [he i hi, he j hj]
  split
  · split
    · exact e _
    · exact he k hk
  · split
    · exact e _
    · exact he k hk
theorem fwd_congr {up : Bool} {h h' ds ds' : Nat → Nat} {m : Nat} (he : ∀ k, k < m + 1 → h k = h' k) (hd : ∀ k, k < m → ds k = ds' k) : ∀ i, i ≤ m → ∀ k, k < m + 1 → fwdX up ds h i k = fwdX up ds' h' i k
  | 0, _ => he
  | i + 1, hi => by
    show ∀ k, k < m + 1 → fitX up (fwdX up ds h i) (i + 1) i (ds i) k = fitX up (fwdX up ds' h' i) (i + 1) i (ds' i) k
    rw [hd i (by omega)]
    exact fit_congr (fwd_congr he hd i (by omega)) (by omega) (by omega)
theorem bwd_congr {up : Bool} {h h' ds ds' : Nat → Nat} {m : Nat} (he : ∀ k, k < m + 1 → h k = h' k) (hd : ∀ k, k < m → ds k = ds' k) : ∀ i, i ≤ m → ∀ k, k < m + 1 → bwdX up ds h m i k = bwdX up ds' h' m i k
  | 0, _ => he
  | i + 1, hi => by
    show ∀ k, k < m + 1 → fitX up (bwdX up ds h m i) (m - 1 - i) (m - 1 - i + 1) (ds (m - 1 - i)) k = fitX up (bwdX up ds' h' m i) (m - 1 - i) (m - 1 - i + 1) (ds' (m - 1 - i)) k
    rw [hd (m - 1 - i) (by omega)]
    exact fit_congr (bwd_congr he hd i (by omega)) (by omega) (by omega)
theorem bed_congr {up : Bool} {h h' ds ds' : Nat → Nat} {m : Nat} (he : ∀ k, k < m + 1 → h k = h' k) (hd : ∀ k, k < m → ds k = ds' k) : ∀ k, k < m + 1 → bedX up ds h m k = bedX up ds' h' m k :=
  bwd_congr (fwd_congr he hd m (Nat.le_refl _)) hd m (Nat.le_refl _)
theorem range_getD (f : Nat → Nat) {n k : Nat} (h : k < n) : ((List.range n).map f).getD k 0 = f k := by
  simp [List.getD_eq_getElem?_getD, h]
/-- the bed of a kind -/
def bedF (how : Int) (ds h : Nat → Nat) (m : Nat) : Nat → Nat := if how = 1 then bedX true ds h m else if how = 2 then bedX false ds h m else meanX (bedX false ds h m) (bedX true ds h m)
theorem bedF_fin {how : Int} {ds h : Nat → Nat} {m k : Nat} (hh : HtB h (m + 1)) (hd : DrB ds m) (hk : k < m + 1) : finB (bedF how ds h m k) = true := by
  unfold bedF
  split
  · exact bd_finB (hh.bed hd k hk) (by omega)
  · split
    · exact bd_finB (hh.bed hd k hk) (by omega)
    · exact bd_finB (mean_ok (hh.bed hd) (hh.bed hd) hk).2.2 (by omega)
def bedE (how : Int) (most : Nat) : Int := if how < 1 ∨ 3 < how then 1 else if numE [most] ≠ 0 then numE [most] else if lt most 0 = true ∨ gt most 1149239296 = true then 3 else 0
/-- what Bed returns where its arguments are right -/
def BedPost (w : World) (n : Nat) (bv : List Nat) (e : Ending) (w' : World) : Prop := ∃ (v : Value) (ev : Int), e = .returned (.tuple #[v, .int .i64 ev]) ∧ Ext w w' ∧ ev = numE bv ∧ (ev ≠ 0 → v = .slice none 0 0) ∧ (ev = 0 → ∃ A2 cap, v = .slice A2 n cap ∧ Rd w' A2 (flt bv))
theorem heights_one {f : Nat → Nat} {n g : Nat} {w : World} (h : Bk w g 27 (flo n f)) : Rd w (some ⟨g, 0, none⟩) (flt ((List.range n).map f)) := fun _ => ⟨_, rfl, h.lt, fun j u hu => by
  rw [lit_add, h.cell]
  have hj : j < n := by
    have := (List.getElem?_eq_some_iff.1 hu).1
    simpa [flt] using this
  rw [flo_get _ hj]
  simp [flt, hj] at hu
  rw [hu]⟩
theorem Bed_bad (X Y W H : Int) (A : Option Addr) (N c : Nat) (lf : List Nat) (B : Option Addr) (q d : Nat) (l : List (Int × Int)) (how : Int) (most : Nat) (w : World) (hn : lf.length = N) (hV : Rd w A (flt lf)) (hb : N ≤ 140737488351232) (hq : l.length = q) (hP : Rd w B (ptv l)) (hE : (if fieldE X Y W H lf ≠ 0 then fieldE X Y W H lf else wayE (outP X Y W H) l) ≠ 0) :
    Calls Try.prog 47 #[.agg #[.int .i64 X, .int .i64 Y, .int .i64 W, .int .i64 H, .slice A N c], .slice B q d, .int .i64 how, .float .f32 most] w fun e w' => e = .returned (.tuple #[.slice none 0 0, .int .i64 (if fieldE X Y W H lf ≠ 0 then fieldE X Y W H lf else wayE (outP X Y W H) l)]) ∧ Ext w w' := by
  have HO := fun (w' : World) (h : Ext w w') => hidA (onField_any X Y W H A N c lf B q d l w' hn (hV.ext h) hb hq (hP.ext h))
  generalize (if fieldE X Y W H lf ≠ 0 then fieldE X Y W H lf else wayE (outP X Y W H) l) = E at *
  have hne : (E != 0) = true := by simpa using hE
  clear hn hV hb hq hP hE
  go_enter Try.func47, Try.ntmps47
  go_upto_region 1 with fail
  have kF : Bk (w.alloc (.cells #[.int .i64 X, .int .i64 Y, .int .i64 W, .int .i64 H, .slice A N c] 26)) w.heap.size 26 #[.int .i64 X, .int .i64 Y, .int .i64 W, .int .i64 H, .slice A N c] := Bk.new' rfl
  have hx0 := (Ext.refl w).alloc (.cells #[.int .i64 X, .int .i64 Y, .int .i64 W, .int .i64 H, .slice A N c] 26)
  generalize w.alloc (.cells #[.int .i64 X, .int .i64 Y, .int .i64 W, .int .i64 H, .slice A N c] 26) = w0 at *
  generalize w.heap.size = hf at *
  have f0 := kF.cell 0
  have f1 := kF.cell 1
  have f2 := kF.cell 2
  have f3 := kF.cell 3
  have f4 := kF.cell 4
  go_wp2_with (go_at_call 84; refine ((HO _ hx0).out).mono ?_; rintro e w1 ⟨rfl, hx1⟩)
  go_ret2
  exact ⟨rfl, hx0.trans hx1⟩
set_option maxRecDepth 100000 in
set_option maxHeartbeats 6400000 in
theorem Bed_err (X Y : Int) (Wn Hn : Nat) (A : Option Addr) (N c : Nat) (lf : List Nat) (B : Option Addr) (n d : Nat) (l : List (Int × Int)) (most : Nat) (w : World) (hr : Reg X Y Wn Hn) (hN : N = Wn * Hn) (hlf : lf.length = N) (hV : Rd w A (flt lf)) (hn : l.length = n) (hP : Rd w B (ptv l)) (h0 : fieldE X Y Wn Hn lf = 0) (hW : wayE (outP X Y Wn Hn) l = 0) (how : Int) (hE : bedE how most ≠ 0) :
    Calls Try.prog 47 #[.agg #[.int .i64 X, .int .i64 Y, .int .i64 (Wn : Int), .int .i64 (Hn : Int), .slice A N c], .slice B n d, .int .i64 how, .float .f32 most] w fun e w' => e = .returned (.tuple #[.slice none 0 0, .int .i64 (bedE how most)]) ∧ Ext w w' := by
  have hok := wayOk hW
  have hn6 : n ≤ 65536 := by have := hok.le; omega
  have hn1 : 1 ≤ n := by have := hok.pos; omega
  have hb : N ≤ 140737488351232 := by have := hr.n; omega
  have HO := fun (w' : World) (h : Ext w w') => hidA (onField_any X Y Wn Hn A N c lf B n d l w' hlf (hV.ext h) hb hn (hP.ext h))
  rw [h0, hW] at HO
  simp only [ne_eq, not_true_eq_false, if_false] at HO
  have HHe := fun (g : Nat) (w' : World) (h : Bk w' g 27 #[.float .f32 most]) => hidA (heights_any (some ⟨g, 0, none⟩) 1 1 [most] w' rfl (fun _ => ⟨_, rfl, h.lt, fun j u hu => by rw [lit_add, h.cell]; simpa [flt] using hu⟩) (by omega))
  have HE : Hid (bedE how most = if how < 1 ∨ 3 < how then 1 else if numE [most] ≠ 0 then numE [most] else if lt most 0 = true ∨ gt most 1149239296 = true then 3 else 0) := rfl
  generalize bedE how most = E at *
  clear hr hN hlf hV hn hP h0 hW hok hb
  go_enter Try.func47, Try.ntmps47
  go_upto_region 1 with fail
  have kF : Bk (w.alloc (.cells #[.int .i64 X, .int .i64 Y, .int .i64 (Wn : Int), .int .i64 (Hn : Int), .slice A N c] 26)) w.heap.size 26 #[.int .i64 X, .int .i64 Y, .int .i64 (Wn : Int), .int .i64 (Hn : Int), .slice A N c] := Bk.new' rfl
  have hx0 := (Ext.refl w).alloc (.cells #[.int .i64 X, .int .i64 Y, .int .i64 (Wn : Int), .int .i64 (Hn : Int), .slice A N c] 26)
  generalize w.alloc (.cells #[.int .i64 X, .int .i64 Y, .int .i64 (Wn : Int), .int .i64 (Hn : Int), .slice A N c] 26) = w0 at *
  generalize w.heap.size = hf at *
  have f0 := kF.cell 0
  have f1 := kF.cell 1
  have f2 := kF.cell 2
  have f3 := kF.cell 3
  have f4 := kF.cell 4
  go_upto_region 4 with (go_at_call 84; refine ((HO _ hx0).out).mono ?_; rintro e w1 ⟨rfl, hx1⟩)
  have hxa := hx0.trans hx1
  have kF1 := kF.ext hx1
  clear f0 f1 f2 f3 f4 kF HO hx0 hx1
  clear kF1
  by_cases q1 : how < 1
  · have HE2 := hidA (HE.out.trans (if_pos (.inl q1)))
    clear HE hE
    go_wp2
    go_ret2
    exact ⟨by rw [HE2.out]; rfl, hxa⟩
  · by_cases q2 : 3 < how
    · have HE2 := hidA (HE.out.trans (if_pos (.inr q2)))
      clear HE hE
      go_wp2
      go_ret2
      exact ⟨by rw [HE2.out]; rfl, hxa⟩
    · have HE2 := hidA (HE.out.trans (if_neg (by omega)))
      clear HE
      go_upto_region 6 with fail
      clear q1 q2
      by_cases q3 : numE [most] = 0
      · have HE3 := hidA (HE2.out.trans (if_neg (by simpa using q3)))
        rw [q3] at HHe
        have q5 : lt most 0 = true ∨ gt most 1149239296 = true := by
          by_cases h : lt most 0 = true ∨ gt most 1149239296 = true
          · exact h
          · exact absurd (HE3.out.trans (if_neg h)) hE
        have HE4 := hidA (HE3.out.trans (if_pos q5))
        clear HE2 HE3 q3 hE
        cases hl : lt most 0
        · have hg : gt most 1149239296 = true := by
            rcases q5 with h | h
            · rw [h] at hl; cases hl
            · exact h
          have hl' : (FloatKind.f32.format.order most 0 == some .lt) = false := hl
          have hg' : (FloatKind.f32.format.order most 1149239296 == some .gt) = true := hg
          clear hl hg q5
          go_wp2_with (go_at_call 59; refine ((HHe _ _ (Bk.new' rfl)).out).mono ?_; rintro e w2 ⟨rfl, hw2⟩; subst hw2)
          go_ret2
          exact ⟨by rw [HE4.out]; rfl, hxa.alloc _⟩
        · have hl' : (FloatKind.f32.format.order most 0 == some .lt) = true := hl
          clear hl q5
          go_wp2_with (go_at_call 59; refine ((HHe _ _ (Bk.new' rfl)).out).mono ?_; rintro e w2 ⟨rfl, hw2⟩; subst hw2)
          go_ret2
          exact ⟨by rw [HE4.out]; rfl, hxa.alloc _⟩
      · have HE3 := hidA (HE2.out.trans (if_pos (by simpa using q3)))
        have q4 : (numE [most] != 0) = true := by simpa using q3
        clear HE2 q3 hE
        generalize numE [most] = z at *
        go_wp2_with (go_at_call 59; refine ((HHe _ _ (Bk.new' rfl)).out).mono ?_; rintro e w2 ⟨rfl, hw2⟩; subst hw2)
        go_ret2
        exact ⟨by rw [HE3.out]; rfl, hxa.alloc _⟩
set_option maxRecDepth 100000 in
set_option maxHeartbeats 6400000 in
theorem Bed_good1 (X Y : Int) (Wn Hn : Nat) (A : Option Addr) (N c : Nat) (lf : List Nat) (B : Option Addr) (n d : Nat) (l : List (Int × Int)) (most : Nat) (w : World) (hr : Reg X Y Wn Hn) (hN : N = Wn * Hn) (hlf : lf.length = N) (hh : ∀ j, j < N → Bd 20 (lf.getD j 0)) (hV : Rd w A (flt lf)) (hn : l.length = n) (hP : Rd w B (ptv l)) (hnd : n ≤ d) (h0 : fieldE X Y Wn Hn lf = 0) (hW : wayE (outP X Y Wn Hn) l = 0) (h3 : numE [most] = 0) (hl : lt most 0 = false) (hg : gt most 1149239296 = false) (hM : Bd 10 most) (hM0 : 0 ≤ valI most) :
    Calls Try.prog 47 #[.agg #[.int .i64 X, .int .i64 Y, .int .i64 (Wn : Int), .int .i64 (Hn : Int), .slice A N c], .slice B n d, .int .i64 1, .float .f32 most] w fun e w' => BedPost w n ((List.range n).map (bedF 1 (drpX most l) (hgtY lf X Y Wn l) (n - 1))) e w' := by
  have hok := wayOk hW
  have hn6 : n ≤ 65536 := by have := hok.le; omega
  have hn1 : 1 ≤ n := by have := hok.pos; omega
  have hb : N ≤ 140737488351232 := by have := hr.n; omega
  have HO := fun (w' : World) (h : Ext w w') => hidA (onField_any X Y Wn Hn A N c lf B n d l w' hlf (hV.ext h) hb hn (hP.ext h))
  rw [h0, hW] at HO
  simp only [ne_eq, not_true_eq_false, if_false] at HO
  have HHe := fun (g : Nat) (w' : World) (h : Bk w' g 27 #[.float .f32 most]) => hidA (heights_any (some ⟨g, 0, none⟩) 1 1 [most] w' rfl (fun _ => ⟨_, rfl, h.lt, fun j u hu => by rw [lit_add, h.cell]; simpa [flt] using hu⟩) (by omega))
  have HH := fun (w' : World) (h : Ext w w') => hidA (heights_ok X Y Wn Hn A N c lf B n d l w' hr hN hlf (hV.ext h) hn (hP.ext h) hok)
  have HLn := fun (w' : World) (h : Ext w w') => hidA (lengths_any (fun p hp => outP_bd hr hp) B n d l w' hn (hP.ext h) hnd hok)
  obtain ⟨hdr, hmu⟩ := drp_ok hok hn hM hM0
  have hH := hgt_way hN hh hok hn
  have Hfin := hidA (fun k (h : k < n) => bedF_fin (how := 1) (m := n - 1) (k := k) (by rw [show n - 1 + 1 = n by omega]; exact hH) hdr (by omega))
  have HHt := hidA hH
  have Hnm9 := hidA (show n = n - 1 + 1 by omega)
  have HDr := hidA hdr
  have Hmu := hidA hmu
  rw [h3] at HHe
  clear hr hN hlf hh hV hn hP hnd h0 hW hok hb hdr hmu hH hM hM0 h3
  go_enter Try.func47, Try.ntmps47
  go_upto_region 1 with fail
  have kF : Bk (w.alloc (.cells #[.int .i64 X, .int .i64 Y, .int .i64 (Wn : Int), .int .i64 (Hn : Int), .slice A N c] 26)) w.heap.size 26 #[.int .i64 X, .int .i64 Y, .int .i64 (Wn : Int), .int .i64 (Hn : Int), .slice A N c] := Bk.new' rfl
  have hx0 := (Ext.refl w).alloc (.cells #[.int .i64 X, .int .i64 Y, .int .i64 (Wn : Int), .int .i64 (Hn : Int), .slice A N c] 26)
  generalize w.alloc (.cells #[.int .i64 X, .int .i64 Y, .int .i64 (Wn : Int), .int .i64 (Hn : Int), .slice A N c] 26) = w0 at *
  generalize w.heap.size = hf at *
  have f0 := kF.cell 0
  have f1 := kF.cell 1
  have f2 := kF.cell 2
  have f3 := kF.cell 3
  have f4 := kF.cell 4
  go_upto_region 4 with (go_at_call 84; refine ((HO _ hx0).out).mono ?_; rintro e w1 ⟨rfl, hx1⟩)
  have hxa := hx0.trans hx1
  have kF1 := kF.ext hx1
  clear f0 f1 f2 f3 f4 kF HO hx0 hx1
  have hl' : (FloatKind.f32.format.order most 0 == some .lt) = false := hl
  have hg' : (FloatKind.f32.format.order most 1149239296 == some .gt) = false := hg
  clear hl hg
  go_upto_region 11 with (go_at_call 59; refine ((HHe _ _ (Bk.new' rfl)).out).mono ?_; rintro e w2 ⟨rfl, hw2⟩; subst hw2)
  have hxb := hxa.alloc (.cells #[.float .f32 most] 27)
  have kF2 := kF1.alloc (.cells #[.float .f32 most] 27)
  clear kF1 hxa HHe hl' hg'
  generalize w1.alloc (.cells #[.float .f32 most] 27) = w2 at *
  have f0 := kF2.cell 0
  have f1 := kF2.cell 1
  have f2 := kF2.cell 2
  have f3 := kF2.cell 3
  have f4 := kF2.cell 4
  go_upto_region 12 with (go_at_call 85; refine ((HH _ hxb).out).mono ?_; rintro e w3 ⟨g, rfl, hgg, kG, hx3⟩)
  have hxc := hxb.trans hx3
  clear f0 f1 f2 f3 f4 kF2 HH hgg hx3 hxb
  go_upto_region 14 with (go_at_call 86; refine ((HLn _ hxc).out).mono ?_; rintro e w5 ⟨vl, rfl, hOl, hx5⟩; obtain ⟨AL, capL, rfl, hRl⟩ := hOl.any; rw [lnL_length])
  have hD0 : Ext w3 w5 ∧ (n - 1 = 0 ∨ ∃ gl, AL = some ⟨gl, 0, none⟩ ∧ w3.heap.size ≤ gl ∧ FX w3 gl capL (n - 1) (selX (drpX most l) (fun k => (lnL l (n - 1)).getD k 0) 0) w5) := by
    refine ⟨hx5, ?_⟩
    rcases Nat.eq_zero_or_pos (n - 1) with h | h
    · exact .inl h
    · right
      obtain ⟨gl, cap', hv, h1, h2, h3⟩ := hOl.fx hx5 (by intro e; have := congrArg List.length e; rw [lnL_length] at this; simp at this; omega)
      rw [lnL_length] at h2 h3 hv
      injection hv with e1 e2 e3
      subst e3
      exact ⟨gl, e1, h1, by rw [selX_zero]; exact h3⟩
  have HG := fun (w' : World) (h : Ext w3 w') => hidA (kG.ext h)
  have Hxc := hidA hxc
  clear hOl hRl hx5 kG hxc HLn
  go_loopw [50] (fun s50 wr => ∃ i : Nat, i ≤ n - 1 ∧ s50 = .int .i64 i ∧ Ext w3 wr ∧ (n - 1 = 0 ∨ ∃ gl, AL = some ⟨gl, 0, none⟩ ∧ w3.heap.size ≤ gl ∧ FX w3 gl capL (n - 1) (selX (drpX most l) (fun k => (lnL l (n - 1)).getD k 0) i) wr)) (fun s50 _ => n - (intOf s50).toNat)
  case atStart => exact ⟨0, Nat.zero_le _, rfl, hD0.1, hD0.2⟩
  case round =>
    clear hD0
    obtain ⟨i, hi, rfl, hx, hD⟩ := hrel
    by_cases him : i < n - 1
    · have Him := hidA him
      obtain ⟨gl, rfl, hgl, hF⟩ : ∃ gl, AL = some ⟨gl, 0, none⟩ ∧ w3.heap.size ≤ gl ∧ FX w3 gl capL (n - 1) (selX (drpX most l) (fun k => (lnL l (n - 1)).getD k 0) i) wr := by
        rcases hD with h | h
        · omega
        · exact h
      have c1 := hF.cell him
      rw [selX_at, lnL_get l (n - 1) i him] at c1
      have z1 := hF.frozen i
      have hft := Hmu.out i (by omega)
      have hrun := fun (w : World) => run_float_arith (P := Try.prog) w .mul 27 .f32 _ _ _ hft
      have hput := hF.put hgl i (drpX most l i)
      rw [selX_succ] at hput
      have HP := hidA hput
      have Hgl := hidA hgl
      have i0 : (0 : Int) ≤ i := by omega
      have i1 : (i : Int) < ((n - 1 : Nat) : Int) := by omega
      have i2 : (i : Int) ≤ 65536 := by omega
      clear hD hF hput hft hgl hi him hx
      generalize lenR (lpo l (i + 1)).1 (lpo l (i + 1)).2 = ln at *
      generalize drpX most l i = dd at *
      go_wp2
      go_roundw
      case rel => exact ⟨i + 1, Him.out, (by first | rfl | go_num), HP.out.x, .inr ⟨gl, rfl, Hgl.out, HP.out⟩⟩
      case measure => exact nxt_y Him.out
    · obtain rfl : i = n - 1 := by omega
      have hRd : Rd wr AL (flt ((List.range (n - 1)).map (drpX most l))) := by
        rcases hD with h | ⟨gl, e, _, hF⟩
        · rw [h]
          exact Rd.nil _ _
        · rw [e]
          have hF2 := hF.congr (f' := drpX most l) (fun k hk => by unfold selX; rw [if_pos hk])
          exact hF2.rd
      have hRg := heights_one (HG wr hx).out
      have Hxw := hidA (Hxc.out.trans hx)
      have HFc := fun (w' : World) (h : Ext wr w') => hidA (filled_any ⟨g, 0, none⟩ n n ((List.range n).map (hgtY lf X Y Wn l)) AL (n - 1) capL ((List.range (n - 1)).map (drpX most l)) w' (by simp) (hRg.ext h) (by simp) (hRd.ext h) Hnm9.out hn6
        (fun k hk => by have h9 := HHt.out k hk; rw [← range_getD (hgtY lf X Y Wn l) hk] at h9; exact h9) (fun k hk => by have h9 := HDr.out k hk; rw [← range_getD (drpX most l) hk] at h9; exact h9))
      clear hRd hRg HG hD hi him
      have HbF : Hid (bedF 1 (drpX most l) (hgtY lf X Y Wn l) (n - 1) = bedX true (drpX most l) (hgtY lf X Y Wn l) (n - 1)) := by
        show _ = _
        unfold bedF
        simp
      have Hcg := hidA (bed_congr (up := true) (m := n - 1) (fun k hk => (range_getD (hgtY lf X Y Wn l) (show k < n by omega))) (fun k hk => (range_getD (drpX most l) hk)))
      have Hnn := hidA (show n - 1 + 1 = n by omega)
      rw [Hnn.out, ← HbF.out] at Hcg
      obtain ⟨bf, hbf⟩ : ∃ bf, bf = bedF 1 (drpX most l) (hgtY lf X Y Wn l) (n - 1) := ⟨_, rfl⟩
      rw [← hbf] at Hfin Hcg
      have HbL := hidA (show (List.range n).map bf = (List.range n).map (bedF 1 (drpX most l) (hgtY lf X Y Wn l) (n - 1)) from by rw [hbf])
      clear hbf HbF
      go_upto_region 20 with fail
      generalize bedX true (fun k => ((List.range (n - 1)).map (drpX most l)).getD k 0) (fun k => ((List.range n).map (hgtY lf X Y Wn l)).getD k 0) (n - 1) = bg at *
      have HVq := fun (g2 cap2 : Nat) (w' : World) (h : FX wr g2 cap2 n bg w') => hidA (values_any (some ⟨g2, 0, none⟩) n cap2 ((List.range n).map bf) w' (by simp) (h.congr Hcg.out).rd (by omega) (fun x hx => by
        obtain ⟨k, hk, rfl⟩ := List.mem_map.1 hx
        exact Hfin.out k (List.mem_range.1 hk)))
      have HRd2 := fun (g2 cap2 : Nat) (w' : World) (h : FX wr g2 cap2 n bg w') => hidA (h.congr Hcg.out).rd
      generalize (List.range n).map bf = bv at *
      have hEe : ∃ E, E = numE bv := ⟨_, rfl⟩
      obtain ⟨E, hEe⟩ := hEe
      rw [← hEe] at HVq
      have HEe := hidA hEe
      clear hEe
      by_cases hE0 : E = 0
      · subst hE0
        simp only [if_true] at HVq
        go_wp2_with first | (go_at_call 88; refine ((HFc _ (Ext.refl _)).out).mono ?_; rintro e w7 ⟨g2, cap2, rfl, hg2, hcap2, hF7⟩; have hx7 := hF7.x; have HV7 := HVq _ _ _ hF7; have HR7 := HRd2 _ _ _ hF7) | (go_at_call 87; refine (HV7.out).mono ?_; rintro e w9 ⟨rfl, hw9⟩; subst w9)
        go_ret2
        rw [← HbL.out]
        exact ⟨_, _, rfl, Hxw.out.trans hx7, HEe.out, fun h => absurd rfl h, fun _ => ⟨_, _, rfl, HR7.out⟩⟩
      · simp only [if_neg hE0] at HVq
        have Hne := hidA hE0
        clear hE0
        go_wp2_with first | (go_at_call 88; refine ((HFc _ (Ext.refl _)).out).mono ?_; rintro e w7 ⟨g2, cap2, rfl, hg2, hcap2, hF7⟩; have hx7 := hF7.x; have HV7 := HVq _ _ _ hF7) | (go_at_call 87; refine (HV7.out).mono ?_; rintro e w9 ⟨rfl, hw9⟩; subst w9)
        go_ret2
        rw [← HbL.out]
        exact ⟨_, _, rfl, Hxw.out.trans hx7, HEe.out, fun _ => rfl, fun h => absurd h Hne.out⟩
set_option maxRecDepth 100000 in
set_option maxHeartbeats 6400000 in
theorem Bed_good2 (X Y : Int) (Wn Hn : Nat) (A : Option Addr) (N c : Nat) (lf : List Nat) (B : Option Addr) (n d : Nat) (l : List (Int × Int)) (most : Nat) (w : World) (hr : Reg X Y Wn Hn) (hN : N = Wn * Hn) (hlf : lf.length = N) (hh : ∀ j, j < N → Bd 20 (lf.getD j 0)) (hV : Rd w A (flt lf)) (hn : l.length = n) (hP : Rd w B (ptv l)) (hnd : n ≤ d) (h0 : fieldE X Y Wn Hn lf = 0) (hW : wayE (outP X Y Wn Hn) l = 0) (h3 : numE [most] = 0) (hl : lt most 0 = false) (hg : gt most 1149239296 = false) (hM : Bd 10 most) (hM0 : 0 ≤ valI most) :
    Calls Try.prog 47 #[.agg #[.int .i64 X, .int .i64 Y, .int .i64 (Wn : Int), .int .i64 (Hn : Int), .slice A N c], .slice B n d, .int .i64 2, .float .f32 most] w fun e w' => BedPost w n ((List.range n).map (bedF 2 (drpX most l) (hgtY lf X Y Wn l) (n - 1))) e w' := by
  have hok := wayOk hW
  have hn6 : n ≤ 65536 := by have := hok.le; omega
  have hn1 : 1 ≤ n := by have := hok.pos; omega
  have hb : N ≤ 140737488351232 := by have := hr.n; omega
  have HO := fun (w' : World) (h : Ext w w') => hidA (onField_any X Y Wn Hn A N c lf B n d l w' hlf (hV.ext h) hb hn (hP.ext h))
  rw [h0, hW] at HO
  simp only [ne_eq, not_true_eq_false, if_false] at HO
  have HHe := fun (g : Nat) (w' : World) (h : Bk w' g 27 #[.float .f32 most]) => hidA (heights_any (some ⟨g, 0, none⟩) 1 1 [most] w' rfl (fun _ => ⟨_, rfl, h.lt, fun j u hu => by rw [lit_add, h.cell]; simpa [flt] using hu⟩) (by omega))
  have HH := fun (w' : World) (h : Ext w w') => hidA (heights_ok X Y Wn Hn A N c lf B n d l w' hr hN hlf (hV.ext h) hn (hP.ext h) hok)
  have HLn := fun (w' : World) (h : Ext w w') => hidA (lengths_any (fun p hp => outP_bd hr hp) B n d l w' hn (hP.ext h) hnd hok)
  obtain ⟨hdr, hmu⟩ := drp_ok hok hn hM hM0
  have hH := hgt_way hN hh hok hn
  have Hfin := hidA (fun k (h : k < n) => bedF_fin (how := 2) (m := n - 1) (k := k) (by rw [show n - 1 + 1 = n by omega]; exact hH) hdr (by omega))
  have HHt := hidA hH
  have Hnm9 := hidA (show n = n - 1 + 1 by omega)
  have HDr := hidA hdr
  have Hmu := hidA hmu
  rw [h3] at HHe
  clear hr hN hlf hh hV hn hP hnd h0 hW hok hb hdr hmu hH hM hM0 h3
  go_enter Try.func47, Try.ntmps47
  go_upto_region 1 with fail
  have kF : Bk (w.alloc (.cells #[.int .i64 X, .int .i64 Y, .int .i64 (Wn : Int), .int .i64 (Hn : Int), .slice A N c] 26)) w.heap.size 26 #[.int .i64 X, .int .i64 Y, .int .i64 (Wn : Int), .int .i64 (Hn : Int), .slice A N c] := Bk.new' rfl
  have hx0 := (Ext.refl w).alloc (.cells #[.int .i64 X, .int .i64 Y, .int .i64 (Wn : Int), .int .i64 (Hn : Int), .slice A N c] 26)
  generalize w.alloc (.cells #[.int .i64 X, .int .i64 Y, .int .i64 (Wn : Int), .int .i64 (Hn : Int), .slice A N c] 26) = w0 at *
  generalize w.heap.size = hf at *
  have f0 := kF.cell 0
  have f1 := kF.cell 1
  have f2 := kF.cell 2
  have f3 := kF.cell 3
  have f4 := kF.cell 4
  go_upto_region 4 with (go_at_call 84; refine ((HO _ hx0).out).mono ?_; rintro e w1 ⟨rfl, hx1⟩)
  have hxa := hx0.trans hx1
  have kF1 := kF.ext hx1
  clear f0 f1 f2 f3 f4 kF HO hx0 hx1
  have hl' : (FloatKind.f32.format.order most 0 == some .lt) = false := hl
  have hg' : (FloatKind.f32.format.order most 1149239296 == some .gt) = false := hg
  clear hl hg
  go_upto_region 11 with (go_at_call 59; refine ((HHe _ _ (Bk.new' rfl)).out).mono ?_; rintro e w2 ⟨rfl, hw2⟩; subst hw2)
  have hxb := hxa.alloc (.cells #[.float .f32 most] 27)
  have kF2 := kF1.alloc (.cells #[.float .f32 most] 27)
  clear kF1 hxa HHe hl' hg'
  generalize w1.alloc (.cells #[.float .f32 most] 27) = w2 at *
  have f0 := kF2.cell 0
  have f1 := kF2.cell 1
  have f2 := kF2.cell 2
  have f3 := kF2.cell 3
  have f4 := kF2.cell 4
  go_upto_region 12 with (go_at_call 85; refine ((HH _ hxb).out).mono ?_; rintro e w3 ⟨g, rfl, hgg, kG, hx3⟩)
  have hxc := hxb.trans hx3
  clear f0 f1 f2 f3 f4 kF2 HH hgg hx3 hxb
  go_upto_region 14 with (go_at_call 86; refine ((HLn _ hxc).out).mono ?_; rintro e w5 ⟨vl, rfl, hOl, hx5⟩; obtain ⟨AL, capL, rfl, hRl⟩ := hOl.any; rw [lnL_length])
  have hD0 : Ext w3 w5 ∧ (n - 1 = 0 ∨ ∃ gl, AL = some ⟨gl, 0, none⟩ ∧ w3.heap.size ≤ gl ∧ FX w3 gl capL (n - 1) (selX (drpX most l) (fun k => (lnL l (n - 1)).getD k 0) 0) w5) := by
    refine ⟨hx5, ?_⟩
    rcases Nat.eq_zero_or_pos (n - 1) with h | h
    · exact .inl h
    · right
      obtain ⟨gl, cap', hv, h1, h2, h3⟩ := hOl.fx hx5 (by intro e; have := congrArg List.length e; rw [lnL_length] at this; simp at this; omega)
      rw [lnL_length] at h2 h3 hv
      injection hv with e1 e2 e3
      subst e3
      exact ⟨gl, e1, h1, by rw [selX_zero]; exact h3⟩
  have HG := fun (w' : World) (h : Ext w3 w') => hidA (kG.ext h)
  have Hxc := hidA hxc
  clear hOl hRl hx5 kG hxc HLn
  go_loopw [50] (fun s50 wr => ∃ i : Nat, i ≤ n - 1 ∧ s50 = .int .i64 i ∧ Ext w3 wr ∧ (n - 1 = 0 ∨ ∃ gl, AL = some ⟨gl, 0, none⟩ ∧ w3.heap.size ≤ gl ∧ FX w3 gl capL (n - 1) (selX (drpX most l) (fun k => (lnL l (n - 1)).getD k 0) i) wr)) (fun s50 _ => n - (intOf s50).toNat)
  case atStart => exact ⟨0, Nat.zero_le _, rfl, hD0.1, hD0.2⟩
  case round =>
    clear hD0
    obtain ⟨i, hi, rfl, hx, hD⟩ := hrel
    by_cases him : i < n - 1
    · have Him := hidA him
      obtain ⟨gl, rfl, hgl, hF⟩ : ∃ gl, AL = some ⟨gl, 0, none⟩ ∧ w3.heap.size ≤ gl ∧ FX w3 gl capL (n - 1) (selX (drpX most l) (fun k => (lnL l (n - 1)).getD k 0) i) wr := by
        rcases hD with h | h
        · omega
        · exact h
      have c1 := hF.cell him
      rw [selX_at, lnL_get l (n - 1) i him] at c1
      have z1 := hF.frozen i
      have hft := Hmu.out i (by omega)
      have hrun := fun (w : World) => run_float_arith (P := Try.prog) w .mul 27 .f32 _ _ _ hft
      have hput := hF.put hgl i (drpX most l i)
      rw [selX_succ] at hput
      have HP := hidA hput
      have Hgl := hidA hgl
      have i0 : (0 : Int) ≤ i := by omega
      have i1 : (i : Int) < ((n - 1 : Nat) : Int) := by omega
      have i2 : (i : Int) ≤ 65536 := by omega
      clear hD hF hput hft hgl hi him hx
      generalize lenR (lpo l (i + 1)).1 (lpo l (i + 1)).2 = ln at *
      generalize drpX most l i = dd at *
      go_wp2
      go_roundw
      case rel => exact ⟨i + 1, Him.out, (by first | rfl | go_num), HP.out.x, .inr ⟨gl, rfl, Hgl.out, HP.out⟩⟩
      case measure => exact nxt_y Him.out
    · obtain rfl : i = n - 1 := by omega
      have hRd : Rd wr AL (flt ((List.range (n - 1)).map (drpX most l))) := by
        rcases hD with h | ⟨gl, e, _, hF⟩
        · rw [h]
          exact Rd.nil _ _
        · rw [e]
          have hF2 := hF.congr (f' := drpX most l) (fun k hk => by unfold selX; rw [if_pos hk])
          exact hF2.rd
      have hRg := heights_one (HG wr hx).out
      have Hxw := hidA (Hxc.out.trans hx)
      have HFc := fun (w' : World) (h : Ext wr w') => hidA (cut_any ⟨g, 0, none⟩ n n ((List.range n).map (hgtY lf X Y Wn l)) AL (n - 1) capL ((List.range (n - 1)).map (drpX most l)) w' (by simp) (hRg.ext h) (by simp) (hRd.ext h) Hnm9.out hn6
        (fun k hk => by have h9 := HHt.out k hk; rw [← range_getD (hgtY lf X Y Wn l) hk] at h9; exact h9) (fun k hk => by have h9 := HDr.out k hk; rw [← range_getD (drpX most l) hk] at h9; exact h9))
      clear hRd hRg HG hD hi him
      have HbF : Hid (bedF 2 (drpX most l) (hgtY lf X Y Wn l) (n - 1) = bedX false (drpX most l) (hgtY lf X Y Wn l) (n - 1)) := by
        show _ = _
        unfold bedF
        simp
      have Hcg := hidA (bed_congr (up := false) (m := n - 1) (fun k hk => (range_getD (hgtY lf X Y Wn l) (show k < n by omega))) (fun k hk => (range_getD (drpX most l) hk)))
      have Hnn := hidA (show n - 1 + 1 = n by omega)
      rw [Hnn.out, ← HbF.out] at Hcg
      obtain ⟨bf, hbf⟩ : ∃ bf, bf = bedF 2 (drpX most l) (hgtY lf X Y Wn l) (n - 1) := ⟨_, rfl⟩
      rw [← hbf] at Hfin Hcg
      have HbL := hidA (show (List.range n).map bf = (List.range n).map (bedF 2 (drpX most l) (hgtY lf X Y Wn l) (n - 1)) from by rw [hbf])
      clear hbf HbF
      go_upto_region 22 with fail
      generalize bedX false (fun k => ((List.range (n - 1)).map (drpX most l)).getD k 0) (fun k => ((List.range n).map (hgtY lf X Y Wn l)).getD k 0) (n - 1) = bg at *
      have HVq := fun (g2 cap2 : Nat) (w' : World) (h : FX wr g2 cap2 n bg w') => hidA (values_any (some ⟨g2, 0, none⟩) n cap2 ((List.range n).map bf) w' (by simp) (h.congr Hcg.out).rd (by omega) (fun x hx => by
        obtain ⟨k, hk, rfl⟩ := List.mem_map.1 hx
        exact Hfin.out k (List.mem_range.1 hk)))
      have HRd2 := fun (g2 cap2 : Nat) (w' : World) (h : FX wr g2 cap2 n bg w') => hidA (h.congr Hcg.out).rd
      generalize (List.range n).map bf = bv at *
      have hEe : ∃ E, E = numE bv := ⟨_, rfl⟩
      obtain ⟨E, hEe⟩ := hEe
      rw [← hEe] at HVq
      have HEe := hidA hEe
      clear hEe
      by_cases hE0 : E = 0
      · subst hE0
        simp only [if_true] at HVq
        go_wp2_with first | (go_at_call 89; refine ((HFc _ (Ext.refl _)).out).mono ?_; rintro e w7 ⟨g2, cap2, rfl, hg2, hcap2, hF7⟩; have hx7 := hF7.x; have HV7 := HVq _ _ _ hF7; have HR7 := HRd2 _ _ _ hF7) | (go_at_call 87; refine (HV7.out).mono ?_; rintro e w9 ⟨rfl, hw9⟩; subst w9)
        go_ret2
        rw [← HbL.out]
        exact ⟨_, _, rfl, Hxw.out.trans hx7, HEe.out, fun h => absurd rfl h, fun _ => ⟨_, _, rfl, HR7.out⟩⟩
      · simp only [if_neg hE0] at HVq
        have Hne := hidA hE0
        clear hE0
        go_wp2_with first | (go_at_call 89; refine ((HFc _ (Ext.refl _)).out).mono ?_; rintro e w7 ⟨g2, cap2, rfl, hg2, hcap2, hF7⟩; have hx7 := hF7.x; have HV7 := HVq _ _ _ hF7) | (go_at_call 87; refine (HV7.out).mono ?_; rintro e w9 ⟨rfl, hw9⟩; subst w9)
        go_ret2
        rw [← HbL.out]
        exact ⟨_, _, rfl, Hxw.out.trans hx7, HEe.out, fun _ => rfl, fun h => absurd h Hne.out⟩
set_option maxRecDepth 100000 in
set_option maxHeartbeats 6400000 in
theorem Bed_good3 (X Y : Int) (Wn Hn : Nat) (A : Option Addr) (N c : Nat) (lf : List Nat) (B : Option Addr) (n d : Nat) (l : List (Int × Int)) (most : Nat) (w : World) (hr : Reg X Y Wn Hn) (hN : N = Wn * Hn) (hlf : lf.length = N) (hh : ∀ j, j < N → Bd 20 (lf.getD j 0)) (hV : Rd w A (flt lf)) (hn : l.length = n) (hP : Rd w B (ptv l)) (hnd : n ≤ d) (h0 : fieldE X Y Wn Hn lf = 0) (hW : wayE (outP X Y Wn Hn) l = 0) (h3 : numE [most] = 0) (hl : lt most 0 = false) (hg : gt most 1149239296 = false) (hM : Bd 10 most) (hM0 : 0 ≤ valI most) :
    Calls Try.prog 47 #[.agg #[.int .i64 X, .int .i64 Y, .int .i64 (Wn : Int), .int .i64 (Hn : Int), .slice A N c], .slice B n d, .int .i64 3, .float .f32 most] w fun e w' => BedPost w n ((List.range n).map (bedF 3 (drpX most l) (hgtY lf X Y Wn l) (n - 1))) e w' := by
  have hok := wayOk hW
  have hn6 : n ≤ 65536 := by have := hok.le; omega
  have hn1 : 1 ≤ n := by have := hok.pos; omega
  have hb : N ≤ 140737488351232 := by have := hr.n; omega
  have HO := fun (w' : World) (h : Ext w w') => hidA (onField_any X Y Wn Hn A N c lf B n d l w' hlf (hV.ext h) hb hn (hP.ext h))
  rw [h0, hW] at HO
  simp only [ne_eq, not_true_eq_false, if_false] at HO
  have HHe := fun (g : Nat) (w' : World) (h : Bk w' g 27 #[.float .f32 most]) => hidA (heights_any (some ⟨g, 0, none⟩) 1 1 [most] w' rfl (fun _ => ⟨_, rfl, h.lt, fun j u hu => by rw [lit_add, h.cell]; simpa [flt] using hu⟩) (by omega))
  have HH := fun (w' : World) (h : Ext w w') => hidA (heights_ok X Y Wn Hn A N c lf B n d l w' hr hN hlf (hV.ext h) hn (hP.ext h) hok)
  have HLn := fun (w' : World) (h : Ext w w') => hidA (lengths_any (fun p hp => outP_bd hr hp) B n d l w' hn (hP.ext h) hnd hok)
  obtain ⟨hdr, hmu⟩ := drp_ok hok hn hM hM0
  have hH := hgt_way hN hh hok hn
  have Hfin := hidA (fun k (h : k < n) => bedF_fin (how := 3) (m := n - 1) (k := k) (by rw [show n - 1 + 1 = n by omega]; exact hH) hdr (by omega))
  have HHt := hidA hH
  have Hnm9 := hidA (show n = n - 1 + 1 by omega)
  have HDr := hidA hdr
  have Hmu := hidA hmu
  rw [h3] at HHe
  clear hr hN hlf hh hV hn hP hnd h0 hW hok hb hdr hmu hH hM hM0 h3
  go_enter Try.func47, Try.ntmps47
  go_upto_region 1 with fail
  have kF : Bk (w.alloc (.cells #[.int .i64 X, .int .i64 Y, .int .i64 (Wn : Int), .int .i64 (Hn : Int), .slice A N c] 26)) w.heap.size 26 #[.int .i64 X, .int .i64 Y, .int .i64 (Wn : Int), .int .i64 (Hn : Int), .slice A N c] := Bk.new' rfl
  have hx0 := (Ext.refl w).alloc (.cells #[.int .i64 X, .int .i64 Y, .int .i64 (Wn : Int), .int .i64 (Hn : Int), .slice A N c] 26)
  generalize w.alloc (.cells #[.int .i64 X, .int .i64 Y, .int .i64 (Wn : Int), .int .i64 (Hn : Int), .slice A N c] 26) = w0 at *
  generalize w.heap.size = hf at *
  have f0 := kF.cell 0
  have f1 := kF.cell 1
  have f2 := kF.cell 2
  have f3 := kF.cell 3
  have f4 := kF.cell 4
  go_upto_region 4 with (go_at_call 84; refine ((HO _ hx0).out).mono ?_; rintro e w1 ⟨rfl, hx1⟩)
  have hxa := hx0.trans hx1
  have kF1 := kF.ext hx1
  clear f0 f1 f2 f3 f4 kF HO hx0 hx1
  have hl' : (FloatKind.f32.format.order most 0 == some .lt) = false := hl
  have hg' : (FloatKind.f32.format.order most 1149239296 == some .gt) = false := hg
  clear hl hg
  go_upto_region 11 with (go_at_call 59; refine ((HHe _ _ (Bk.new' rfl)).out).mono ?_; rintro e w2 ⟨rfl, hw2⟩; subst hw2)
  have hxb := hxa.alloc (.cells #[.float .f32 most] 27)
  have kF2 := kF1.alloc (.cells #[.float .f32 most] 27)
  clear kF1 hxa HHe hl' hg'
  generalize w1.alloc (.cells #[.float .f32 most] 27) = w2 at *
  have f0 := kF2.cell 0
  have f1 := kF2.cell 1
  have f2 := kF2.cell 2
  have f3 := kF2.cell 3
  have f4 := kF2.cell 4
  go_upto_region 12 with (go_at_call 85; refine ((HH _ hxb).out).mono ?_; rintro e w3 ⟨g, rfl, hgg, kG, hx3⟩)
  have hxc := hxb.trans hx3
  clear f0 f1 f2 f3 f4 kF2 HH hgg hx3 hxb
  go_upto_region 14 with (go_at_call 86; refine ((HLn _ hxc).out).mono ?_; rintro e w5 ⟨vl, rfl, hOl, hx5⟩; obtain ⟨AL, capL, rfl, hRl⟩ := hOl.any; rw [lnL_length])
  have hD0 : Ext w3 w5 ∧ (n - 1 = 0 ∨ ∃ gl, AL = some ⟨gl, 0, none⟩ ∧ w3.heap.size ≤ gl ∧ FX w3 gl capL (n - 1) (selX (drpX most l) (fun k => (lnL l (n - 1)).getD k 0) 0) w5) := by
    refine ⟨hx5, ?_⟩
    rcases Nat.eq_zero_or_pos (n - 1) with h | h
    · exact .inl h
    · right
      obtain ⟨gl, cap', hv, h1, h2, h3⟩ := hOl.fx hx5 (by intro e; have := congrArg List.length e; rw [lnL_length] at this; simp at this; omega)
      rw [lnL_length] at h2 h3 hv
      injection hv with e1 e2 e3
      subst e3
      exact ⟨gl, e1, h1, by rw [selX_zero]; exact h3⟩
  have HG := fun (w' : World) (h : Ext w3 w') => hidA (kG.ext h)
  have Hxc := hidA hxc
  clear hOl hRl hx5 kG hxc HLn
  go_loopw [50] (fun s50 wr => ∃ i : Nat, i ≤ n - 1 ∧ s50 = .int .i64 i ∧ Ext w3 wr ∧ (n - 1 = 0 ∨ ∃ gl, AL = some ⟨gl, 0, none⟩ ∧ w3.heap.size ≤ gl ∧ FX w3 gl capL (n - 1) (selX (drpX most l) (fun k => (lnL l (n - 1)).getD k 0) i) wr)) (fun s50 _ => n - (intOf s50).toNat)
  case atStart => exact ⟨0, Nat.zero_le _, rfl, hD0.1, hD0.2⟩
  case round =>
    clear hD0
    obtain ⟨i, hi, rfl, hx, hD⟩ := hrel
    by_cases him : i < n - 1
    · have Him := hidA him
      obtain ⟨gl, rfl, hgl, hF⟩ : ∃ gl, AL = some ⟨gl, 0, none⟩ ∧ w3.heap.size ≤ gl ∧ FX w3 gl capL (n - 1) (selX (drpX most l) (fun k => (lnL l (n - 1)).getD k 0) i) wr := by
        rcases hD with h | h
        · omega
        · exact h
      have c1 := hF.cell him
      rw [selX_at, lnL_get l (n - 1) i him] at c1
      have z1 := hF.frozen i
      have hft := Hmu.out i (by omega)
      have hrun := fun (w : World) => run_float_arith (P := Try.prog) w .mul 27 .f32 _ _ _ hft
      have hput := hF.put hgl i (drpX most l i)
      rw [selX_succ] at hput
      have HP := hidA hput
      have Hgl := hidA hgl
      have i0 : (0 : Int) ≤ i := by omega
      have i1 : (i : Int) < ((n - 1 : Nat) : Int) := by omega
      have i2 : (i : Int) ≤ 65536 := by omega
      clear hD hF hput hft hgl hi him hx
      generalize lenR (lpo l (i + 1)).1 (lpo l (i + 1)).2 = ln at *
      generalize drpX most l i = dd at *
      go_wp2
      go_roundw
      case rel => exact ⟨i + 1, Him.out, (by first | rfl | go_num), HP.out.x, .inr ⟨gl, rfl, Hgl.out, HP.out⟩⟩
      case measure => exact nxt_y Him.out
    · obtain rfl : i = n - 1 := by omega
      have hRd : Rd wr AL (flt ((List.range (n - 1)).map (drpX most l))) := by
        rcases hD with h | ⟨gl, e, _, hF⟩
        · rw [h]
          exact Rd.nil _ _
        · rw [e]
          have hF2 := hF.congr (f' := drpX most l) (fun k hk => by unfold selX; rw [if_pos hk])
          exact hF2.rd
      have hRg := heights_one (HG wr hx).out
      have Hxw := hidA (Hxc.out.trans hx)
      have HFc := fun (w' : World) (h : Ext wr w') => hidA (cut_any ⟨g, 0, none⟩ n n ((List.range n).map (hgtY lf X Y Wn l)) AL (n - 1) capL ((List.range (n - 1)).map (drpX most l)) w' (by simp) (hRg.ext h) (by simp) (hRd.ext h) Hnm9.out hn6
        (fun k hk => by have h9 := HHt.out k hk; rw [← range_getD (hgtY lf X Y Wn l) hk] at h9; exact h9) (fun k hk => by have h9 := HDr.out k hk; rw [← range_getD (drpX most l) hk] at h9; exact h9))
      have HFf := fun (w' : World) (h : Ext wr w') => hidA (filled_any ⟨g, 0, none⟩ n n ((List.range n).map (hgtY lf X Y Wn l)) AL (n - 1) capL ((List.range (n - 1)).map (drpX most l)) w' (by simp) (hRg.ext h) (by simp) (hRd.ext h) Hnm9.out hn6
        (fun k hk => by have h9 := HHt.out k hk; rw [← range_getD (hgtY lf X Y Wn l) hk] at h9; exact h9) (fun k hk => by have h9 := HDr.out k hk; rw [← range_getD (drpX most l) hk] at h9; exact h9))
      clear hRd hRg HG hD hi him
      have Hnn := hidA (show n - 1 + 1 = n by omega)
      have Hc1 := hidA (bed_congr (up := false) (m := n - 1) (fun k hk => (range_getD (hgtY lf X Y Wn l) (show k < n by omega))) (fun k hk => (range_getD (drpX most l) hk)))
      have Hc2 := hidA (bed_congr (up := true) (m := n - 1) (fun k hk => (range_getD (hgtY lf X Y Wn l) (show k < n by omega))) (fun k hk => (range_getD (drpX most l) hk)))
      have HB1 := hidA (HtB.bed (up := false) (m := n - 1) (h := hgtY lf X Y Wn l) (ds := drpX most l) (by rw [Hnn.out]; exact HHt.out) HDr.out)
      have HB2 := hidA (HtB.bed (up := true) (m := n - 1) (h := hgtY lf X Y Wn l) (ds := drpX most l) (by rw [Hnn.out]; exact HHt.out) HDr.out)
      rw [Hnn.out] at Hc1 Hc2 HB1 HB2
      have HbL : Hid (∀ k, k < n → meanX (bedX false (drpX most l) (hgtY lf X Y Wn l) (n - 1)) (bedX true (drpX most l) (hgtY lf X Y Wn l) (n - 1)) k = bedF 3 (drpX most l) (hgtY lf X Y Wn l) (n - 1) k) := fun k _ => by
        unfold bedF
        simp
      have HbF : Hid ((List.range n).map (meanX (bedX false (drpX most l) (hgtY lf X Y Wn l) (n - 1)) (bedX true (drpX most l) (hgtY lf X Y Wn l) (n - 1))) = (List.range n).map (bedF 3 (drpX most l) (hgtY lf X Y Wn l) (n - 1))) := List.map_congr_left (fun k hk => HbL.out k (List.mem_range.1 hk))
      have Hfn := hidA (fun k (h : k < n) => show finB (meanX (bedX false (drpX most l) (hgtY lf X Y Wn l) (n - 1)) (bedX true (drpX most l) (hgtY lf X Y Wn l) (n - 1)) k) = true from by rw [HbL.out k h]; exact Hfin.out k h)
      clear HbL Hfin
      have hnw : n ≤ 65536 := hn6
      generalize bedX false (drpX most l) (hgtY lf X Y Wn l) (n - 1) = fa at *
      generalize bedX true (drpX most l) (hgtY lf X Y Wn l) (n - 1) = fb at *
      generalize bedX false (fun k => ((List.range (n - 1)).map (drpX most l)).getD k 0) (fun k => ((List.range n).map (hgtY lf X Y Wn l)).getD k 0) (n - 1) = fa' at *
      generalize bedX true (fun k => ((List.range (n - 1)).map (drpX most l)).getD k 0) (fun k => ((List.range n).map (hgtY lf X Y Wn l)).getD k 0) (n - 1) = fb' at *
      go_upto_region 24 with (go_at_call 89; refine ((HFc _ (Ext.refl _)).out).mono ?_; rintro e w7 ⟨g1, cap1, rfl, hg1, hcap1, hF1⟩; have hx7 := hF1.x)
      go_upto_region 25 with (go_at_call 88; refine ((HFf _ hx7).out).mono ?_; rintro e w8 ⟨g2, cap2, rfl, hg2, hcap2, hF2⟩)
      have h3 : FX2 wr g1 cap1 g2 cap2 n (mnX fa fb 0) fb w8 := by
        rw [mnX_zero]
        exact FX2.mk' (hF1.congr Hc1.out) hg1 (Ext.refl _) (hF2.congr Hc2.out) hg2
      have Hx9 := hidA (Hxw.out)
      clear hF1 hF2 hg1 hg2 hcap1 hcap2 hx7 HFc HFf Hxw Hc1 Hc2
      generalize hwb : wr = wq at *
      clear hwb
      go_loopw [86] (fun s86 wr => ∃ i : Nat, i ≤ n ∧ s86 = .int .i64 i ∧ FX2 wq g1 cap1 g2 cap2 n (mnX fa fb i) fb wr) (fun s86 _ => n - (intOf s86).toNat)
      case atStart => exact ⟨0, Nat.zero_le _, rfl, h3⟩
      case round =>
        clear h3
        obtain ⟨i, hi, rfl, hF⟩ := hrel
        by_cases hin : i < n
        · have Hin := hidA hin
          obtain ⟨ha, hm, _⟩ := mean_ok HB1.out HB2.out hin
          have c1 := hF.a.cell hin
          rw [mnX_at] at c1
          have c2 := hF.cell2 hin
          have z1 := hF.a.frozen i
          have HF := hidA (hF.put i (meanX fa fb i))
          rw [mnX_succ] at HF
          have hr1 := fun (w : World) => run_float_arith (P := Try.prog) w .add 27 .f32 _ _ _ ha
          have hr2 := fun (w : World) => run_float_arith (P := Try.prog) w .mul 27 .f32 _ _ _ hm
          have i0 : (0 : Int) ≤ i := by omega
          have i1 : (i : Int) < n := by omega
          have i2 : (i : Int) ≤ 65536 := by omega
          clear ha hm hF hi hin
          generalize meanX fa fb i = z at *
          generalize fadd (fa i) (fb i) = y at *
          generalize fa i = a at *
          generalize fb i = b at *
          go_wp2
          clear c1 c2 z1
          go_roundw
          case rel => exact ⟨i + 1, Hin.out, (by first | rfl | go_num), HF.out⟩
          case measure => exact nxt_h Hin.out
        · obtain rfl : i = n := by omega
          have hFz := hF.a.congr (mnX_end fa fb i)
          have hx8 := hF.a.x
          have HVq := hidA (values_any (some ⟨g1, 0, none⟩) i cap1 ((List.range i).map (meanX fa fb)) wr (by simp) hFz.rd hnw (fun x hx => by
            obtain ⟨k, hk, rfl⟩ := List.mem_map.1 hx
            exact Hfn.out k (List.mem_range.1 hk)))
          have HRd2 := hidA hFz.rd
          have Hend := hidA (Hx9.out.trans hx8)
          clear hF hFz hx8 hi hin
          generalize (List.range i).map (meanX fa fb) = bv at *
          obtain ⟨E, hEe⟩ : ∃ E, E = numE bv := ⟨_, rfl⟩
          rw [← hEe] at HVq
          have HEe := hidA hEe
          clear hEe
          by_cases hE0 : E = 0
          · subst hE0
            simp only [if_true] at HVq
            go_wp2_with (go_at_call 87; refine (HVq.out).mono ?_; rintro e w9 ⟨rfl, hw9⟩; subst w9)
            go_ret2
            rw [← HbF.out]
            exact ⟨_, _, rfl, Hend.out, HEe.out, fun h => absurd rfl h, fun _ => ⟨_, _, rfl, HRd2.out⟩⟩
          · simp only [if_neg hE0] at HVq
            have Hne := hidA hE0
            clear hE0
            go_wp2_with (go_at_call 87; refine (HVq.out).mono ?_; rintro e w9 ⟨rfl, hw9⟩; subst w9)
            go_ret2
            rw [← HbF.out]
            exact ⟨_, _, rfl, Hend.out, HEe.out, fun _ => rfl, fun h => absurd h Hne.out⟩
end Go.Proofs.Ytpgdinpckolfpaa
