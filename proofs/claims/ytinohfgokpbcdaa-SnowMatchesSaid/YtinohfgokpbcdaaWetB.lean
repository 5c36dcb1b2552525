/- Contract: water.Wet. -/
import Derived.Test.YtinohfgokpbcdaaWetP
namespace Go.Proofs.Ytinohfgokpbcdaa
open Go.RowKit
attribute [local go_sem ↓] Go.wp_at_zero Go.wp_at_succ
attribute [local go_sem] run_store_float

theorem Cl.rd {w : World} {g cap N : Nat} {cur : Array Value} {f h : Nat → Nat} (hC : Cl w g cap cur N f) (hf : ∀ j, j < N → f j = h j) : Rd w (some ⟨g, 0, none⟩) (flt ((List.range N).map h)) := fun _ => ⟨_, rfl, hC.b.lt, fun j u hu => by
  have hj : j < N := by
    have := (List.getElem?_eq_some_iff.1 hu).1
    simpa [flt] using this
  rw [lit_add, hC.cell hj, hf j hj]
  rw [← hu]
  simp [flt, hj]⟩
/-- what Wet returns where its arguments are right -/
def WetPost (X Y : Int) (Wn Hn N : Nat) (v : List Nat) (w : World) (e : Ending) (w' : World) : Prop :=
  ∃ g cap, Rd w' (some ⟨g, 0, none⟩) (flt v) ∧ Ext w w' ∧
    (v.all hgtB = true ∧ e = .returned (.tuple #[.agg #[.int .i64 X, .int .i64 Y, .int .i64 (Wn : Int), .int .i64 (Hn : Int), .slice (some ⟨g, 0, none⟩) N cap], .int .i64 0]) ∨ v.all hgtB = false ∧ e = .returned (.tuple #[.agg #[.int .i64 0, .int .i64 0, .int .i64 0, .int .i64 0, .slice none 0 0], .int .i64 3]))
set_option maxRecDepth 100000 in
set_option maxHeartbeats 6400000 in
theorem Wet_ok (X Y : Int) (Wn Hn N : Nat) (A B : Option Addr) (c c' : Nat) (l : List Nat) (q : List Int) (w : World) (hr : Reg X Y Wn Hn) (hN : N = Wn * Hn) (hl : l.length = N) (hV : Rd w A (flt l)) (hQ : Rd w B (intC q)) (hf : fieldE X Y Wn Hn l = 0) (hq : numsE q N 1099511627776 = 0) :
    Calls Try.prog 36 #[.agg #[.int .i64 X, .int .i64 Y, .int .i64 (Wn : Int), .int .i64 (Hn : Int), .slice A N c], .slice B N c'] w fun e w' => WetPost X Y Wn Hn N ((List.range N).map (wetF (fun j => l.getD j 0) q Wn Hn)) w e w' := by
  have hN6 : N ≤ 65536 := by rw [hN]; exact hr.n
  have hN1 : 1 ≤ N := by rw [hN]; exact Nat.mul_pos hr.w1 hr.h1
  have hnum : numE l = 0 := by
    have hr0 : regE X Y Wn Hn = 0 := by
      unfold fieldE at hf
      split at hf
      · rename_i h; exact absurd hf h
      · rename_i h; simpa using h
    rw [← hf, fieldE_num hr0 (by rw [hl, hN, Int.natCast_mul])]
  have hh : ∀ j, j < N → Bd 20 (l.getD j 0) := fun j hj => by
    have hjl : j < l.length := by omega
    have e : l.getD j 0 = l[j] := by simp [List.getD_eq_getElem?_getD, hjl]
    rw [e]
    exact hgt_bd ((numE_zero hnum).2 _ (List.getElem_mem hjl))
  obtain ⟨q1, q2⟩ := nums_ok hq
  have HC := fun (w : World) (h : Rd w A (flt l)) => hidA (check_any X Y Wn Hn A N c l w hl h (by omega))
  rw [hf] at HC
  have HQ := fun (w : World) (h : Rd w B (intC q)) => hidA (checkNumbers_any X Y Wn Hn N N B c' q 1099511627776 w hr hN q1 h (by omega))
  rw [hq] at HQ
  have hkl0 : 0 < l.length := by omega
  obtain ⟨ad, hA, _, _⟩ := hV.at (k := 0) (by rw [flt_length]; exact hkl0)
  subst hA
  have HY := fun (w : World) (h : Rd w (some ad) (flt l)) => hidA (Copy_any X Y Wn Hn N c ad l w hl h hN1 (by omega))
  have HS := fun (k : Nat) (w : World) (h : Rd w (some ad) (flt l)) (hk : k < N) => hidA (steepest_any X Y Wn Hn N k (some ad) c l w hr hN hl h hh hk)
  have HW := fun (k : Nat) (hk : k < N) => hidA (wet_ok (v := fun j => l.getD j 0) (q := q) (Wn := Wn) (Hn := Hn) (k := k) (fun j hj => hh j (by rw [hN]; exact hj)) (by rw [← hN]; exact hk) (q2 k hk).1 (q2 k hk).2)
  have HR := fun (k : Nat) (hk : k < N) (w : World) => hidA (rootI_any (q.getD k 0) w (q2 k hk).1 (q2 k hk).2)
  have Hq1 := hidA q1
  have Hl := hidA hl
  clear hr hN hl hf hq hnum hh q1 q2 hkl0
  unfold rgv at HQ
  go_enter Try.func36, Try.ntmps36
  have kF0 : Bk ((w.alloc (.cells #[.int .i64 X, .int .i64 Y, .int .i64 (Wn : Int), .int .i64 (Hn : Int), .slice (some ad) N c] 26)).alloc (.cells #[.int .i64 0, .int .i64 0, .int .i64 0, .int .i64 0, .slice none 0 0] 26)) w.heap.size 26 #[.int .i64 X, .int .i64 Y, .int .i64 (Wn : Int), .int .i64 (Hn : Int), .slice (some ad) N c] := (Bk.new' rfl).alloc _
  have kZ0 : Bk ((w.alloc (.cells #[.int .i64 X, .int .i64 Y, .int .i64 (Wn : Int), .int .i64 (Hn : Int), .slice (some ad) N c] 26)).alloc (.cells #[.int .i64 0, .int .i64 0, .int .i64 0, .int .i64 0, .slice none 0 0] 26)) (w.heap.size + 1) 26 #[.int .i64 0, .int .i64 0, .int .i64 0, .int .i64 0, .slice none 0 0] := Bk.new' (by simp)
  have hx0 : Ext w ((w.alloc (.cells #[.int .i64 X, .int .i64 Y, .int .i64 (Wn : Int), .int .i64 (Hn : Int), .slice (some ad) N c] 26)).alloc (.cells #[.int .i64 0, .int .i64 0, .int .i64 0, .int .i64 0, .slice none 0 0] 26)) := ((Ext.refl w).alloc _).alloc _
  go_upto_region 1 with fail
  generalize (w.alloc (.cells #[.int .i64 X, .int .i64 Y, .int .i64 (Wn : Int), .int .i64 (Hn : Int), .slice (some ad) N c] 26)).alloc (.cells #[.int .i64 0, .int .i64 0, .int .i64 0, .int .i64 0, .slice none 0 0] 26) = w0 at *
  have b0 := kF0.cell 0
  have b1 := kF0.cell 1
  have b2 := kF0.cell 2
  have b3 := kF0.cell 3
  have b4 := kF0.cell 4
  go_upto_region 4 with (go_at_call 80; refine ((HC _ (hV.ext hx0)).out).mono ?_; rintro e w1 ⟨rfl, hx1⟩)
  have kF1 := kF0.ext hx1
  have kZ1 := kZ0.ext hx1
  have hxw1 := hx0.trans hx1
  clear b0 b1 b2 b3 b4 kF0 kZ0 hx0 HC hx1
  have b0 := kF1.cell 0
  have b1 := kF1.cell 1
  have b2 := kF1.cell 2
  have b3 := kF1.cell 3
  have b4 := kF1.cell 4
  go_upto_region 7 with (go_at_call 89; refine ((HQ _ (hQ.ext hxw1)).out).mono ?_; rintro e w2 ⟨rfl, hx2⟩)
  have kF2 := kF1.ext hx2
  have kZ2 := kZ1.ext hx2
  have hxw2 := hxw1.trans hx2
  clear b0 b1 b2 b3 b4 kF1 kZ1 hxw1 hx2 HQ
  have b0 := kF2.cell 0
  have b1 := kF2.cell 1
  have b2 := kF2.cell 2
  have b3 := kF2.cell 3
  have b4 := kF2.cell 4
  go_upto_region 8 with (go_at_call 90; refine ((HY _ (hV.ext hxw2)).out).mono ?_; rintro e w3 ⟨g, cap, cur, rfl, hge, hC, hx3⟩)
  have kF4 := (kF2.ext hx3).alloc (.cells #[.int .i64 X, .int .i64 Y, .int .i64 (Wn : Int), .int .i64 (Hn : Int), .slice (some ⟨g, 0, none⟩) N cap] 26)
  have kZ4 := (kZ2.ext hx3).alloc (.cells #[.int .i64 X, .int .i64 Y, .int .i64 (Wn : Int), .int .i64 (Hn : Int), .slice (some ⟨g, 0, none⟩) N cap] 26)
  have kO4 : Bk (w3.alloc (.cells #[.int .i64 X, .int .i64 Y, .int .i64 (Wn : Int), .int .i64 (Hn : Int), .slice (some ⟨g, 0, none⟩) N cap] 26)) w3.heap.size 26 #[.int .i64 X, .int .i64 Y, .int .i64 (Wn : Int), .int .i64 (Hn : Int), .slice (some ⟨g, 0, none⟩) N cap] := Bk.new' rfl
  have hC4 := hC.ext ((Ext.refl w3).alloc (.cells #[.int .i64 X, .int .i64 Y, .int .i64 (Wn : Int), .int .i64 (Hn : Int), .slice (some ⟨g, 0, none⟩) N cap] 26))
  have hx4 := (hxw2.trans hx3).alloc (.cells #[.int .i64 X, .int .i64 Y, .int .i64 (Wn : Int), .int .i64 (Hn : Int), .slice (some ⟨g, 0, none⟩) N cap] 26)
  have hgw : w.heap.size ≤ g := by have := hxw2.size; omega
  have hzl := (kZ2.ext hx3).lt
  clear b0 b1 b2 b3 b4 kF2 kZ2 hxw2 hx3 hC HY hge
  generalize w3.alloc (.cells #[.int .i64 X, .int .i64 Y, .int .i64 (Wn : Int), .int .i64 (Hn : Int), .slice (some ⟨g, 0, none⟩) N cap] 26) = w4 at *
  generalize w3.heap.size = ho at *
  go_wp2
  go_loopw [31] (fun s31 wr => ∃ (k : Nat) (cur : Array Value) (f : Nat → Nat), k ≤ N ∧ s31 = .int .i64 k ∧ Cl wr g cap cur N f ∧ (∀ j, j < k → f j = wetF (fun j => l.getD j 0) q Wn Hn j) ∧ Bk wr w.heap.size 26 #[.int .i64 X, .int .i64 Y, .int .i64 (Wn : Int), .int .i64 (Hn : Int), .slice (some ad) N c] ∧ Bk wr (w.heap.size + 1) 26 #[.int .i64 0, .int .i64 0, .int .i64 0, .int .i64 0, .slice none 0 0] ∧ Bk wr ho 26 #[.int .i64 X, .int .i64 Y, .int .i64 (Wn : Int), .int .i64 (Hn : Int), .slice (some ⟨g, 0, none⟩) N cap] ∧ Ext w wr) (fun s31 _ => N - (intOf s31).toNat)
  case atStart => exact ⟨0, _, _, Nat.zero_le _, rfl, hC4, fun j h => by omega, kF4, kZ4, kO4, hx4⟩
  case round =>
    clear kF4 kZ4 kO4 hC4 hx4
    obtain ⟨k, cur, f, hk, rfl, hC, hfk, kF, kZ, kO, hx⟩ := hrel
    have Hfk := hidA hfk
    clear hfk
    by_cases hkN : k < N
    · have hkq : k < q.length := by rw [Hq1.out]; exact hkN
      obtain ⟨ad2, rfl, hbk, hcv⟩ := (hQ.ext hx).at (k := k) (by rw [intC_length]; exact hkq)
      have ck := hcv k _ (intC_get hkq)
      obtain ⟨r1, r2, r3⟩ := (HW k hkN).out
      have HRk := HR k hkN
      have HSk := HS k wr (hV.ext hx) hkN
      have HE := hidA (show wetF (fun j => l.getD j 0) q Wn Hn k = wetF (fun j => l.getD j 0) q Wn Hn k from rfl)
      generalize hxe : wetF (fun j => l.getD j 0) q Wn Hn k = x at r2 r3 HE
      have Hx := hidA hxe
      clear hxe HW HR HS hcv hkq r3 HE
      generalize q.getD k 0 = n at *
      generalize stp (fun j => l.getD j 0) Wn Hn k 8 = rr at *
      have t1 := fun (w : World) => run_float_arith (P := Try.prog) w .add 27 .f32 _ _ _ r1
      have t2 := fun (w : World) => run_float_arith (P := Try.prog) w .quo 27 .f32 _ _ _ r2
      clear r1 r2
      have i0 : (0 : Int) ≤ k := by omega
      have i1 : (k : Int) < N := by omega
      have b0 := kF.cell 0
      have b1 := kF.cell 1
      have b2 := kF.cell 2
      have b3 := kF.cell 3
      have b4 := kF.cell 4
      go_upto_region 12 with (go_at_call 91; refine (HSk.out).mono ?_; rintro e w5 ⟨rfl, hx5⟩)
      have kF5 := kF.ext hx5
      have kZ5 := kZ.ext hx5
      have kO5 := kO.ext hx5
      have hC5 := hC.ext hx5
      have hxw5 := hx.trans hx5
      clear b0 b1 b2 b3 b4 kF kZ kO hC hx hx5 HSk ck hbk
      have hgo : ho ≠ g := Ne.symm (Bk.ne hC5.b kO5 (by decide))
      have g0 := hC5.cell hkN
      have g1 := hC5.b.frozen k
      have o4 : ∀ w', Bk w' ho 26 #[.int .i64 X, .int .i64 Y, .int .i64 (Wn : Int), .int .i64 (Hn : Int), .slice (some ⟨g, 0, none⟩) N cap] → w'.cell? ⟨ho, 4, none⟩ = some (.slice (some ⟨g, 0, none⟩) N cap) := fun w' h => h.cell 4
      refine wp_region_noPanic ?_
      refine wp_region_held_drew (S := fun w' => Bk w' ho 26 #[.int .i64 X, .int .i64 Y, .int .i64 (Wn : Int), .int .i64 (Hn : Int), .slice (some ⟨g, 0, none⟩) N cap]) (by kernel_rfl) ?_ (fun hHeld => ?_)
      · (first | exact kO5 | exact Bk.drew kO5 | exact Bk.far (Bk.drew kO5) hgo _ | exact Bk.far kO5 hgo _)
      refine wpAnyH_take (i := 0) (oi := ?o1x0) (v := ?v1x0) ?hi1x0 (by kernel_rfl) ?hf1x0 ?hr1x0 (fun _ _ _ h => h) ?hy1x0 (by assumption) ?rest1x0
      case hi1x0 => (simp only [List.getElem?_toArray, List.getElem?_cons_zero]; exact rfl)
      case hf1x0 => kernel_rfl
      case hr1x0 => kernel_rfl
      case hy1x0 => (refine Or.inl ⟨by rfl, ?_⟩; intro w hSw; (try dsimp only at hSw); go_simp; try with_reducible rfl)
      simp only [put_mk, List.set_cons_succ, List.set_cons_zero]
      refine wpAnyH_take (i := 1) (oi := ?o1x1) (v := ?v1x1) ?hi1x1 (by kernel_rfl) ?hf1x1 ?hr1x1 (fun _ _ _ h => h) ?hy1x1 (by assumption) ?rest1x1
      case hi1x1 => (simp only [List.getElem?_toArray, List.getElem?_cons_succ, List.getElem?_cons_zero]; exact rfl)
      case hf1x1 => kernel_rfl
      case hr1x1 => kernel_rfl
      case hy1x1 => (refine Or.inl ⟨by rfl, ?_⟩; intro w hSw; (try dsimp only at hSw); go_simp; try with_reducible rfl)
      simp only [put_mk, List.set_cons_succ, List.set_cons_zero]
      refine wpAnyH_take (i := 2) (oi := ?o1x2) (v := ?v1x2) ?hi1x2 (by kernel_rfl) ?hf1x2 ?hr1x2 (fun _ _ _ h => h) ?hy1x2 (by assumption) ?rest1x2
      case hi1x2 => (simp only [List.getElem?_toArray, List.getElem?_cons_succ, List.getElem?_cons_zero]; exact rfl)
      case hf1x2 => kernel_rfl
      case hr1x2 => kernel_rfl
      case hy1x2 => (refine Or.inl ⟨by rfl, ?_⟩; intro w hSw; (try dsimp only at hSw); go_simp; try with_reducible rfl)
      simp only [put_mk, List.set_cons_succ, List.set_cons_zero]
      refine wpAnyH_take (i := 3) (oi := ?o1x3) (v := ?v1x3) ?hi1x3 (by kernel_rfl) ?hf1x3 ?hr1x3 (fun _ _ _ h => h) ?hy1x3 (by assumption) ?rest1x3
      case hi1x3 => (simp only [List.getElem?_toArray, List.getElem?_cons_succ, List.getElem?_cons_zero]; exact rfl)
      case hf1x3 => kernel_rfl
      case hr1x3 => kernel_rfl
      case hy1x3 => (refine Or.inl ⟨by rfl, ?_⟩; intro w hSw; (try dsimp only at hSw); go_simp; try with_reducible rfl)
      simp only [put_mk, List.set_cons_succ, List.set_cons_zero]
      refine wpAnyH_take (i := 5) (oi := ?o1x5) (v := ?v1x5) ?hi1x5 (by kernel_rfl) ?hf1x5 ?hr1x5 (fun _ _ _ h => h) ?hy1x5 (by assumption) ?rest1x5
      case hi1x5 => (simp only [List.getElem?_toArray, List.getElem?_cons_succ, List.getElem?_cons_zero]; exact rfl)
      case hf1x5 => kernel_rfl
      case hr1x5 => kernel_rfl
      case hy1x5 => (refine Or.inl ⟨by rfl, ?_⟩; intro w hSw; (try dsimp only at hSw); go_simp; try with_reducible rfl)
      simp only [put_mk, List.set_cons_succ, List.set_cons_zero]
      refine wpAnyH_take (i := 6) (oi := ?o1x6) (v := ?v1x6) ?hi1x6 (by kernel_rfl) ?hf1x6 ?hr1x6 (fun _ _ _ h => h) ?hy1x6 (by assumption) ?rest1x6
      case hi1x6 => (simp only [List.getElem?_toArray, List.getElem?_cons_succ, List.getElem?_cons_zero]; exact rfl)
      case hf1x6 => kernel_rfl
      case hr1x6 => kernel_rfl
      case hy1x6 => (refine Or.inl ⟨by rfl, ?_⟩; intro w hSw; (try dsimp only at hSw); go_simp; try with_reducible rfl)
      simp only [put_mk, List.set_cons_succ, List.set_cons_zero]
      refine wpAnyH_ready (rs := [4]) (by kernel_rfl) (by simp) ?_
      refine AllReadyH.cons (o := ?o1x4) ?hi1x4 (fun K hK => ?_) AllReadyH.nil
      case hi1x4 => (simp only [List.getElem?_toArray, List.getElem?_cons_succ, List.getElem?_cons_zero]; exact rfl)
      go_simp
      refine ((HRk _).out).mono ?_
      rintro e w' ⟨rfl, hw'⟩
      subst hw'
      refine hK.out _ _ ?_ (fun hHeld => ?_)
      · (first | exact kO5 | exact Bk.drew kO5 | exact Bk.far (Bk.drew kO5) hgo _ | exact Bk.far kO5 hgo _)
      clear hK K
      refine wpAnyH_take (i := 7) (oi := ?o1x7) (v := ?v1x7) ?hi1x7 (by kernel_rfl) ?hf1x7 ?hr1x7 (fun _ _ _ h => h) ?hy1x7 (by assumption) ?rest1x7
      case hi1x7 => (simp only [List.getElem?_toArray, List.getElem?_cons_succ, List.getElem?_cons_zero]; exact rfl)
      case hf1x7 => kernel_rfl
      case hr1x7 => kernel_rfl
      case hy1x7 => (refine Or.inl ⟨by rfl, ?_⟩; intro w hSw; (try dsimp only at hSw); go_simp; try with_reducible rfl)
      simp only [put_mk, List.set_cons_succ, List.set_cons_zero]
      refine wpAnyH_take (i := 8) (oi := ?o1x8) (v := ?v1x8) ?hi1x8 (by kernel_rfl) ?hf1x8 ?hr1x8 (fun _ _ _ h => h) ?hy1x8 (by assumption) ?rest1x8
      case hi1x8 => (simp only [List.getElem?_toArray, List.getElem?_cons_succ, List.getElem?_cons_zero]; exact rfl)
      case hf1x8 => kernel_rfl
      case hr1x8 => kernel_rfl
      case hy1x8 => (refine Or.inl ⟨by rfl, ?_⟩; intro w hSw; (try dsimp only at hSw); go_simp; try with_reducible rfl)
      simp only [put_mk, List.set_cons_succ, List.set_cons_zero]
      refine wpAnyH_ready (rs := [9]) (by kernel_rfl) (by simp) ?_
      refine AllReadyH.cons (o := ?o1x9) ?hi1x9 (fun K hK => ?_) AllReadyH.nil
      case hi1x9 => (simp only [List.getElem?_toArray, List.getElem?_cons_succ, List.getElem?_cons_zero]; exact rfl)
      go_simp
      refine hK.out _ _ ?_ (fun hHeld => ?_)
      · (first | exact kO5 | exact Bk.drew kO5 | exact Bk.far (Bk.drew kO5) hgo _ | exact Bk.far kO5 hgo _)
      clear hK K
      refine wpAnyH_done (by kernel_rfl) ?_ _
      refine NoPanic.normal ?_
      have hC6 := hidA (Cl.put hC5 k x)
      have hF6 := hidA (kF5.far (p := ⟨g, k, none⟩) (Bk.ne kF5 hC5.b (by decide)) (.float .f32 x))
      have hZ6 := hidA (kZ5.far (p := ⟨g, k, none⟩) (Bk.ne kZ5 hC5.b (by decide)) (.float .f32 x))
      have hO6 := hidA (kO5.far (p := ⟨g, k, none⟩) hgo (.float .f32 x))
      have hx6 := hidA (hxw5.setCell (p := ⟨g, k, none⟩) hgw (.float .f32 x))
      clear hC5 kF5 kZ5 kO5 hxw5 g0 g1 o4 hHeld t1 t2 HRk
      go_wp2
      go_roundw
      case rel =>
        refine ⟨k + 1, _, _, by omega, by go_num, (Cl.ext hC6.out ((Ext.refl _).drew)), fun j hj => ?_, Bk.drew hF6.out, Bk.drew hZ6.out, Bk.drew hO6.out, Ext.drew hx6.out⟩
        unfold updF
        by_cases hjk : j = k
        · subst hjk
          rw [if_pos rfl]
          exact Hx.out.symm
        · rw [if_neg hjk]
          exact Hfk.out j (by omega)
      case measure => simp [intOf]; omega
    · have hkN' : k = N := by omega
      subst hkN'
      have hRv := hC.rd Hfk.out
      have b0 := kO.cell 0
      have b1 := kO.cell 1
      have b2 := kO.cell 2
      have b3 := kO.cell 3
      have b4 := kO.cell 4
      have hlv : ((List.range k).map (wetF (fun j => l.getD j 0) q Wn Hn)).length = k := by simp
      have HRS := fun (w : World) (h : Rd w (some ⟨g, 0, none⟩) (flt ((List.range k).map (wetF (fun j => l.getD j 0) q Wn Hn)))) => hidA (result_one X Y Wn Hn (some ⟨g, 0, none⟩) k cap ((List.range k).map (wetF (fun j => l.getD j 0) q Wn Hn)) w hlv h (by omega))
      generalize hvv : (List.range k).map (wetF (fun j => l.getD j 0) q Wn Hn) = vv at *
      have Hvv := hidA hvv
      have HC := hidA hC
      have Hfk2 := hidA Hfk.out
      clear HW HR HS hlv hC hvv
      go_wp2_with (go_at_call 82; refine ((HRS _ (hRv.ext (by repeat (first | exact Ext.refl _ | assumption | refine Ext.setCell ?_ (by first | (simp; done) | (simp; omega)) _ | refine Ext.drewN ?_ _ | refine Ext.alloc ?_ _ | refine Ext.drew ?_ | refine Ext.trans ?_ (by assumption))))).out).mono ?_; rintro e w4 ⟨a, b, c', d, vA, vn, vc, ec, rfl, hrel, hx4⟩; have kZ4 := kZ.ext (Ext.trans (by repeat (first | exact Ext.refl _ | assumption | refine Ext.setCell ?_ (by first | (simp; done) | (simp; omega)) _ | refine Ext.drewN ?_ _ | refine Ext.alloc ?_ _ | refine Ext.drew ?_ | refine Ext.trans ?_ (by assumption))) hx4); have z0 := kZ4.cell 0; have z1 := kZ4.cell 1; have z2 := kZ4.cell 2; have z3 := kZ4.cell 3; have z4 := kZ4.cell 4; have y0 := kZ4.frozen 0; have y1 := kZ4.frozen 1; have y2 := kZ4.frozen 2; have y3 := kZ4.frozen 3; have y4 := kZ4.frozen 4)
      have hgz : g ≠ w.heap.size + 1 := Bk.ne HC.out.b kZ (by decide)
      have hxw4 := hx.trans (Ext.trans (by repeat (first | exact Ext.refl _ | assumption | refine Ext.setCell ?_ (by first | (simp; done) | (simp; omega)) _ | refine Ext.drewN ?_ _ | refine Ext.alloc ?_ _ | refine Ext.drew ?_ | refine Ext.trans ?_ (by assumption))) hx4)
      have hC5 := (((((HC.out.ext (Ext.trans (by repeat (first | exact Ext.refl _ | assumption | refine Ext.setCell ?_ (by first | (simp; done) | (simp; omega)) _ | refine Ext.drewN ?_ _ | refine Ext.alloc ?_ _ | refine Ext.drew ?_ | refine Ext.trans ?_ (by assumption))) hx4)).far (p := ⟨w.heap.size + 1, 0, none⟩) hgz (.int .i64 a)).far (p := ⟨w.heap.size + 1, 1, none⟩) hgz (.int .i64 b)).far (p := ⟨w.heap.size + 1, 2, none⟩) hgz (.int .i64 c')).far (p := ⟨w.heap.size + 1, 3, none⟩) hgz (.int .i64 d)).far (p := ⟨w.heap.size + 1, 4, none⟩) hgz (.slice vA vn vc)
      have hx5 := ((((hxw4.setCell (p := ⟨w.heap.size + 1, 0, none⟩) (by simp) (.int .i64 a)).setCell (p := ⟨w.heap.size + 1, 1, none⟩) (by simp) (.int .i64 b)).setCell (p := ⟨w.heap.size + 1, 2, none⟩) (by simp) (.int .i64 c')).setCell (p := ⟨w.heap.size + 1, 3, none⟩) (by simp) (.int .i64 d)).setCell (p := ⟨w.heap.size + 1, 4, none⟩) (by simp) (.slice vA vn vc)
      refine bodyPost_ret (v := .tuple #[.agg #[.int .i64 a, .int .i64 b, .int .i64 c', .int .i64 d, .slice vA vn vc], .int .i64 ec]) (by simp [results, Try.results36, go_sem, z0, z1, z2, z3, z4]) rfl ?_
      refine ⟨g, cap, hC5.rd Hfk2.out, hx5, ?_⟩
      rw [Hvv.out]
      rcases hrel with ⟨h1, rfl, rfl, rfl, rfl, h6, rfl⟩ | ⟨h1, rfl, rfl, rfl, rfl, h6, rfl⟩
      · exact .inl ⟨h1, by rw [h6]⟩
      · exact .inr ⟨h1, by rw [h6]⟩
theorem field_zero {X Y W H : Int} {l : List Nat} (h : fieldE X Y W H l = 0) : ∃ Wn Hn : Nat, W = Wn ∧ H = Hn ∧ Reg X Y Wn Hn ∧ l.length = Wn * Hn := by
  unfold fieldE at h
  split at h
  · rename_i h0; exact absurd h h0
  · rename_i h0
    split at h
    · exact absurd h (by decide)
    · rename_i h2
      obtain ⟨Wn, Hn, rfl, rfl, hr⟩ := Reg.of_zero (by simpa using h0)
      refine ⟨Wn, Hn, rfl, rfl, hr, ?_⟩
      have h3 : (l.length : Int) = (Wn : Int) * (Hn : Int) := by simpa using h2
      rw [← Int.natCast_mul] at h3
      exact Int.ofNat.inj h3
/-- the error of Wet's arguments -/
def wetE (X Y W H : Int) (l : List Nat) (q : List Int) : Int := if fieldE X Y W H l ≠ 0 then fieldE X Y W H l else numsE q l.length 1099511627776
set_option maxRecDepth 100000 in
set_option maxHeartbeats 6400000 in
theorem Wet_bad (X Y W H : Int) (N n : Nat) (A B : Option Addr) (c c' : Nat) (l : List Nat) (q : List Int) (w : World) (hl : l.length = N) (hn : q.length = n) (hV : Rd w A (flt l)) (hQ : Rd w B (intC q)) (hb : N ≤ 140737488351232) (hb2 : n ≤ 140737488351232) (hE : wetE X Y W H l q ≠ 0) :
    Calls Try.prog 36 #[.agg #[.int .i64 X, .int .i64 Y, .int .i64 W, .int .i64 H, .slice A N c], .slice B n c'] w fun e w' => e = .returned (.tuple #[.agg #[.int .i64 0, .int .i64 0, .int .i64 0, .int .i64 0, .slice none 0 0], .int .i64 (wetE X Y W H l q)]) ∧ Ext w w' := by
  have HC := fun (w : World) (h : Rd w A (flt l)) => hidA (check_any X Y W H A N c l w hl h hb)
  unfold wetE at hE ⊢
  by_cases h1 : fieldE X Y W H l = 0
  · rw [if_neg (by simpa using h1)] at hE ⊢
    obtain ⟨Wn, Hn, rfl, rfl, hr, hlen⟩ := field_zero h1
    have HQ := fun (w : World) (h : Rd w B (intC q)) => hidA (checkNumbers_any X Y Wn Hn N n B c' q 1099511627776 w hr (by rw [← hl]; exact hlen) hn h hb2)
    rw [h1] at HC
    rw [hl] at hE ⊢
    generalize numsE q N 1099511627776 = E at *
    have hE' : (E != 0) = true := by simpa using hE
    clear hl hn hb hb2 hE h1 hlen hr
    unfold rgv at HQ
    go_enter Try.func36, Try.ntmps36
    have kF0 : Bk ((w.alloc (.cells #[.int .i64 X, .int .i64 Y, .int .i64 (Wn : Int), .int .i64 (Hn : Int), .slice A N c] 26)).alloc (.cells #[.int .i64 0, .int .i64 0, .int .i64 0, .int .i64 0, .slice none 0 0] 26)) w.heap.size 26 #[.int .i64 X, .int .i64 Y, .int .i64 (Wn : Int), .int .i64 (Hn : Int), .slice A N c] := (Bk.new' rfl).alloc _
    have kZ0 : Bk ((w.alloc (.cells #[.int .i64 X, .int .i64 Y, .int .i64 (Wn : Int), .int .i64 (Hn : Int), .slice A N c] 26)).alloc (.cells #[.int .i64 0, .int .i64 0, .int .i64 0, .int .i64 0, .slice none 0 0] 26)) (w.heap.size + 1) 26 #[.int .i64 0, .int .i64 0, .int .i64 0, .int .i64 0, .slice none 0 0] := Bk.new' (by simp)
    have hx0 : Ext w ((w.alloc (.cells #[.int .i64 X, .int .i64 Y, .int .i64 (Wn : Int), .int .i64 (Hn : Int), .slice A N c] 26)).alloc (.cells #[.int .i64 0, .int .i64 0, .int .i64 0, .int .i64 0, .slice none 0 0] 26)) := ((Ext.refl w).alloc _).alloc _
    go_upto_region 1 with fail
    generalize (w.alloc (.cells #[.int .i64 X, .int .i64 Y, .int .i64 (Wn : Int), .int .i64 (Hn : Int), .slice A N c] 26)).alloc (.cells #[.int .i64 0, .int .i64 0, .int .i64 0, .int .i64 0, .slice none 0 0] 26) = w0 at *
    have b0 := kF0.cell 0
    have b1 := kF0.cell 1
    have b2 := kF0.cell 2
    have b3 := kF0.cell 3
    have b4 := kF0.cell 4
    go_upto_region 4 with (go_at_call 80; refine ((HC _ (hV.ext hx0)).out).mono ?_; rintro e w1 ⟨rfl, hx1⟩)
    have kF1 := kF0.ext hx1
    have kZ1 := kZ0.ext hx1
    have hxw1 := hx0.trans hx1
    clear b0 b1 b2 b3 b4 kF0 kZ0 hx0 HC hx1
    have b0 := kF1.cell 0
    have b1 := kF1.cell 1
    have b2 := kF1.cell 2
    have b3 := kF1.cell 3
    have b4 := kF1.cell 4
    go_wp2_with (go_at_call 89; refine ((HQ _ (hQ.ext hxw1)).out).mono ?_; rintro e w2 ⟨rfl, hx2⟩; have kZ2 := kZ1.ext hx2; have z0 := kZ2.cell 0; have z1 := kZ2.cell 1; have z2 := kZ2.cell 2; have z3 := kZ2.cell 3; have z4 := kZ2.cell 4; have y0 := kZ2.frozen 0; have y1 := kZ2.frozen 1; have y2 := kZ2.frozen 2; have y3 := kZ2.frozen 3; have y4 := kZ2.frozen 4)
    have hxw2 := hxw1.trans hx2
    refine bodyPost_ret (v := .tuple #[.agg #[.int .i64 0, .int .i64 0, .int .i64 0, .int .i64 0, .slice none 0 0], .int .i64 E]) (by simp [results, Try.results36, go_sem, z0, z1, z2, z3, z4]) rfl ⟨rfl, ?_⟩
    repeat (first | (with_reducible exact hxw2) | (with_reducible refine Ext.setCell ?_ (by simp) _))
  · rw [if_pos h1] at hE ⊢
    generalize fieldE X Y W H l = E at *
    have hE' : (E != 0) = true := by simpa using hE
    clear hl hn hb hb2 hE h1 hQ
    go_enter Try.func36, Try.ntmps36
    have kZ0 : Bk ((w.alloc (.cells #[.int .i64 X, .int .i64 Y, .int .i64 W, .int .i64 H, .slice A N c] 26)).alloc (.cells #[.int .i64 0, .int .i64 0, .int .i64 0, .int .i64 0, .slice none 0 0] 26)) (w.heap.size + 1) 26 #[.int .i64 0, .int .i64 0, .int .i64 0, .int .i64 0, .slice none 0 0] := Bk.new' (by simp)
    have hx0 : Ext w ((w.alloc (.cells #[.int .i64 X, .int .i64 Y, .int .i64 W, .int .i64 H, .slice A N c] 26)).alloc (.cells #[.int .i64 0, .int .i64 0, .int .i64 0, .int .i64 0, .slice none 0 0] 26)) := ((Ext.refl w).alloc _).alloc _
    go_wp2_with (go_at_call 80; refine ((HC _ (hV.ext hx0)).out).mono ?_; rintro e w1 ⟨rfl, hx1⟩; have kZ2 := kZ0.ext hx1; have z0 := kZ2.cell 0; have z1 := kZ2.cell 1; have z2 := kZ2.cell 2; have z3 := kZ2.cell 3; have z4 := kZ2.cell 4; have y0 := kZ2.frozen 0; have y1 := kZ2.frozen 1; have y2 := kZ2.frozen 2; have y3 := kZ2.frozen 3; have y4 := kZ2.frozen 4)
    have hxw2 := hx0.trans hx1
    refine bodyPost_ret (v := .tuple #[.agg #[.int .i64 0, .int .i64 0, .int .i64 0, .int .i64 0, .slice none 0 0], .int .i64 E]) (by simp [results, Try.results36, go_sem, z0, z1, z2, z3, z4]) rfl ⟨rfl, ?_⟩
    repeat (first | (with_reducible exact hxw2) | (with_reducible refine Ext.setCell ?_ (by simp) _))
end Go.Proofs.Ytinohfgokpbcdaa
