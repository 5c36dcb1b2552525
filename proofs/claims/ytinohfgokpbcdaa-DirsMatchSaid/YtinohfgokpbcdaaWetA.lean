/- Contracts: water.checkNumbers, slices.Clone at []float32, field.Copy. -/
import Derived.Test.YtinohfgokpbcdaaSteepC
import Derived.Laws.AppendOwn
import Derived.Lib.SliceRun
namespace Go.Proofs.Ytinohfgokpbcdaa
open Go.RowKit
attribute [local go_sem ↓] Go.wp_at_zero Go.wp_at_succ
attribute [local go_sem] run_store_float

/-- a slice of integers, read -/
def intC (q : List Int) : List Value := q.map (.int .i64)
theorem intC_length (q : List Int) : (intC q).length = q.length := by simp [intC]
theorem intC_get {q : List Int} {k : Nat} (h : k < q.length) : (intC q)[k]? = some (.int .i64 (q.getD k 0)) := by
  unfold intC
  rw [List.getElem?_map, List.getElem?_eq_getElem h]
  simp [List.getD_eq_getElem?_getD, h]
/-- the error of numbers -/
def numsE (q : List Int) (N : Nat) (most : Int) : Int := if q.length ≠ N then 2 else if ∃ k, k < q.length ∧ (q.getD k 0 < 0 ∨ most < q.getD k 0) then 3 else 0
set_option maxRecDepth 100000 in
set_option maxHeartbeats 3200000 in
theorem checkNumbers_any (X Y : Int) (Wn Hn N n : Nat) (B : Option Addr) (c : Nat) (q : List Int) (most : Int) (w : World) (hr : Reg X Y Wn Hn) (hN : N = Wn * Hn) (hq : q.length = n) (hV : Rd w B (intC q)) (hb : n ≤ 140737488351232) :
    Calls Try.prog 89 #[rgv X Y Wn Hn, .slice B n c, .int .i64 most] w fun e w' => e = .returned (.int .i64 (numsE q N most)) ∧ Ext w w' := by
  have hN6 : N ≤ 65536 := by rw [hN]; exact hr.n
  have W1 : wrap64 ((Wn : Int) * (Hn : Int)) = (N : Int) := by rw [← Int.natCast_mul, ← hN]; exact IntWalk.wrap64_in _ ⟨by omega, by omega⟩
  have W2 : (Wn : Int) * (Hn : Int) = (N : Int) := by rw [← Int.natCast_mul, ← hN]
  have HE := hidA (show numsE q N most = if q.length ≠ N then 2 else if ∃ k, k < q.length ∧ (q.getD k 0 < 0 ∨ most < q.getD k 0) then 3 else 0 from rfl)
  generalize numsE q N most = E at *
  clear hr hN
  unfold rgv
  by_cases hl : n = N
  · subst hl
    have Hq := hidA hq
    clear hq
    go_enter Try.func89, Try.ntmps89
    go_wp2
    clear W1 W2
    go_loopw [19] (fun s19 wr => ∃ k : Nat, k ≤ n ∧ s19 = .int .i64 k ∧ (∀ j, j < k → ¬ (q.getD j 0 < 0 ∨ most < q.getD j 0)) ∧ Ext w wr) (fun s19 _ => n - (intOf s19).toNat)
    case atStart => exact ⟨0, Nat.zero_le _, rfl, fun j h => by omega, (Ext.refl w).alloc _⟩
    case round =>
      obtain ⟨k, hk, rfl, hal, hx⟩ := hrel
      have Hal := hidA hal
      clear hal
      by_cases hkn : k < n
      · have hkl : k < q.length := by rw [Hq.out]; exact hkn
        obtain ⟨ad, rfl, hbk, hcv⟩ := (hV.ext hx).at (k := k) (by rw [intC_length]; exact hkl)
        have ck := hcv k _ (intC_get hkl)
        obtain ⟨z, hz⟩ : ∃ z, z = q.getD k 0 := ⟨_, rfl⟩
        rw [← hz] at ck
        have Hz := hidA hz
        have Hkl := hidA hkl
        clear hz hcv hkl
        have i0 : (0 : Int) ≤ k := by omega
        have i1 : (k : Int) < n := by omega
        have hc : z < 0 ∨ (¬ z < 0 ∧ most < z) ∨ (¬ z < 0 ∧ ¬ most < z) := by omega
        rcases hc with h1 | ⟨h1, h2⟩ | ⟨h1, h2⟩
        · have hv : Hid (E = 3) := by show E = _; rw [HE.out, if_neg (by rw [Hq.out]; simp), if_pos ⟨k, Hkl.out, .inl (by rw [← Hz.out]; exact h1)⟩]
          go_wp2
          go_ret
          exact ⟨ret_i hv.out.symm, (by repeat (first | (with_reducible exact Ext.refl _) | (with_reducible assumption) | (with_reducible refine Ext.setCell ?_ (by first | (simp; done) | (simp; omega)) _) | (with_reducible refine Ext.drewN ?_ _) | (with_reducible refine Ext.alloc ?_ _) | (with_reducible refine Ext.drew ?_) | (with_reducible refine Ext.trans ?_ (by assumption))))⟩
        · have hv : Hid (E = 3) := by show E = _; rw [HE.out, if_neg (by rw [Hq.out]; simp), if_pos ⟨k, Hkl.out, .inr (by rw [← Hz.out]; exact h2)⟩]
          go_wp2
          go_ret
          exact ⟨ret_i hv.out.symm, (by repeat (first | (with_reducible exact Ext.refl _) | (with_reducible assumption) | (with_reducible refine Ext.setCell ?_ (by first | (simp; done) | (simp; omega)) _) | (with_reducible refine Ext.drewN ?_ _) | (with_reducible refine Ext.alloc ?_ _) | (with_reducible refine Ext.drew ?_) | (with_reducible refine Ext.trans ?_ (by assumption))))⟩
        · go_wp2
          go_roundw
          case rel =>
            refine ⟨k + 1, by omega, by go_num, fun j hj => ?_, hx⟩
            by_cases hjk : j = k
            · subst hjk
              rw [← Hz.out]
              omega
            · exact Hal.out j (by omega)
          case measure => simp [intOf]; omega
      · have hv : Hid (E = 0) := by
          show E = _
          rw [HE.out, if_neg (by rw [Hq.out]; simp), if_neg]
          rintro ⟨j, hj, h⟩
          exact Hal.out j (by have := Hq.out; omega) h
        go_wp2
        go_ret
        exact ⟨ret_i hv.out.symm, (by repeat (first | (with_reducible exact Ext.refl _) | (with_reducible assumption) | (with_reducible refine Ext.setCell ?_ (by first | (simp; done) | (simp; omega)) _) | (with_reducible refine Ext.drewN ?_ _) | (with_reducible refine Ext.alloc ?_ _) | (with_reducible refine Ext.drew ?_) | (with_reducible refine Ext.trans ?_ (by assumption))))⟩
  · have hv : Hid (E = 2) := by show E = _; rw [HE.out, if_pos (by rw [hq]; exact hl)]
    have hl' : ((n : Int) != (N : Int)) = true := by simp; omega
    clear hq
    go_enter Try.func89, Try.ntmps89
    go_wp2
    go_ret
    exact ⟨ret_i hv.out.symm, (by repeat (first | (with_reducible exact Ext.refl _) | (with_reducible assumption) | (with_reducible refine Ext.setCell ?_ (by first | (simp; done) | (simp; omega)) _) | (with_reducible refine Ext.drewN ?_ _) | (with_reducible refine Ext.alloc ?_ _) | (with_reducible refine Ext.drew ?_) | (with_reducible refine Ext.trans ?_ (by assumption))))⟩

/-- a copy of a slice of singles lies in a block of its own -/
structure Cl (w : World) (g cap : Nat) (cur : Array Value) (N : Nat) (f : Nat → Nat) : Prop where
  b : Bk w g 27 cur
  n : N ≤ cap
  s : cur.size = cap
  c : ∀ k, k < N → cur[k]? = some (.float .f32 (f k))
theorem Cl.ext {w w' : World} {g cap N : Nat} {cur : Array Value} {f : Nat → Nat} (h : Cl w g cap cur N f) (hx : Ext w w') : Cl w' g cap cur N f := ⟨h.b.ext hx, h.n, h.s, h.c⟩
theorem Cl.cell {w : World} {g cap N k : Nat} {cur : Array Value} {f : Nat → Nat} (h : Cl w g cap cur N f) (hk : k < N) : w.cell? ⟨g, k, none⟩ = some (.float .f32 (f k)) := by rw [h.b.cell]; exact h.c k hk
theorem Cl.far {w : World} {g cap N : Nat} {cur : Array Value} {f : Nat → Nat} (h : Cl w g cap cur N f) {p : Addr} (hp : g ≠ p.block) (u : Value) : Cl (w.setCell p u) g cap cur N f := ⟨h.b.far hp u, h.n, h.s, h.c⟩
theorem Cl.put {w : World} {g cap N : Nat} {cur : Array Value} {f : Nat → Nat} (h : Cl w g cap cur N f) (k x : Nat) : Cl (w.setCell ⟨g, k, none⟩ (.float .f32 x)) g cap (cur.setIfInBounds k (.float .f32 x)) N (updF f k x) := by
  refine ⟨Bk.set h.b k _, h.n, by simp [h.s], fun j hj => ?_⟩
  have hjs : j < cur.size := by have := h.n; have := h.s; omega
  rw [Array.getElem?_setIfInBounds]
  unfold updF
  by_cases e : k = j
  · subst e
    rw [if_pos rfl, if_pos hjs, if_pos rfl]
  · rw [if_neg e, if_neg (fun q => e q.symm)]
    exact h.c j hj
theorem infoFl : (Try.prog.info? 27).map (fun i => (i.zero, i.size, i.bytes)) = some (some (.float .f32 0), 1, 4) := by kernel_rfl
set_option maxRecDepth 100000 in
set_option maxHeartbeats 3200000 in
theorem Clone_any (ad : Addr) (N c : Nat) (l : List Nat) (w : World) (hl : l.length = N) (hV : Rd w (some ad) (flt l)) (h1 : 1 ≤ N) (hb : N ≤ 262144) :
    Calls Try.prog 61 #[.slice (some ad) N c] w fun e w' => ∃ g cap cur, e = .returned (.slice (some ⟨g, 0, none⟩) N cap) ∧ w.heap.size ≤ g ∧ Cl w' g cap cur N (fun k => l.getD k 0) ∧ Ext w w' := by
  obtain ⟨i0, hi0, hz0, hz1, hz2⟩ := info_parts infoFl
  have q22 : ∀ (w : World) (a : Option Addr) (n c n' c' : Nat), (binOp .eql 24 (.slice a n c) (.slice none n' c')).run Try.prog w = .ok (.bool a.isNone) w := fun w a n c n' c' => Lib.run_eql_slice_nil w _ _ a n c n' c' Try.underlying24
  have Hl := hidA hl
  have HV := hidA hV
  clear hl hV
  go_enter Try.func61, Try.ntmps61
  go_wp2_with (at_builtin; refine wpList_append_own _ rfl _ _ 24 rfl w.heap.size 27 i0 (.float .f32 0) 1 4 Try.underlying24 hi0 hz0 hz1 hz2 rfl (by decide) _ _ _ rfl (World.ownsRow_made w #[] 0 (Nat.le_refl _) (Nat.zero_le _) rfl) ad N c (flt l) rfl ?qc1 ?qc2 ?qc3 ?qc4 ?qc5 ?qc6 ?_)
  case qc2 =>
    intro j u hj
    have hjl : j < (flt l).length := (List.getElem?_eq_some_iff.1 hj).1
    obtain ⟨ad', e, _, hcv⟩ := (HV.out.ext ((Ext.refl w).alloc (.cells #[] 27))).at (k := j) hjl
    cases e
    exact hcv j u hj
  case qc3 =>
    intro u hu
    simp [flt] at hu
    obtain ⟨x, _, rfl⟩ := hu
    rfl
  case qc4 => unfold maxLen; omega
  case qc5 => omega
  case qc6 => simp
  case qc1 => simp [flt, Hl.out]
  intro v' w1 hown hgrow hnil
  have hx : Ext w w1 := Ext.grown ((Ext.refl w).alloc _) hgrow (by intro k hk; simp [Value.ownBlock] at hk; omega)
  rcases hown.2 with ⟨_, h0⟩ | ⟨g, cap, cur, hv, hge, hblk, hle, hmax, hsz, htake⟩
  · omega
  · subst hv
    have hC : Cl w1 g cap cur N (fun k => l.getD k 0) := by
      refine ⟨hblk, by omega, by simpa using hsz, fun k hk => ?_⟩
      have hkl : k < l.length := by rw [Hl.out]; exact hk
      have e1 : (cur.toList.take (N * 1))[k]? = some (.float .f32 (l.getD k 0)) := by
        rw [htake, flt_get hkl]
        simp [List.getD_eq_getElem?_getD, hkl]
      rw [List.getElem?_take, if_pos (by omega)] at e1
      simpa using e1
    have HC := hidA hC
    clear hC hown hnil hblk htake hgrow
    go_wp2
    go_ret
    exact ⟨g, cap, cur, by simp, by omega, HC.out, hx⟩
set_option maxRecDepth 100000 in
set_option maxHeartbeats 3200000 in
theorem Copy_any (X Y : Int) (Wn Hn N c : Nat) (ad : Addr) (l : List Nat) (w : World) (hl : l.length = N) (hV : Rd w (some ad) (flt l)) (h1 : 1 ≤ N) (hb : N ≤ 262144) :
    Calls Try.prog 90 #[.agg #[.int .i64 X, .int .i64 Y, .int .i64 (Wn : Int), .int .i64 (Hn : Int), .slice (some ad) N c]] w fun e w' => ∃ g cap cur, e = .returned (.agg #[.int .i64 X, .int .i64 Y, .int .i64 (Wn : Int), .int .i64 (Hn : Int), .slice (some ⟨g, 0, none⟩) N cap]) ∧ w.heap.size ≤ g ∧ Cl w' g cap cur N (fun k => l.getD k 0) ∧ Ext w w' := by
  have HC := fun (wa : World) (hx : Ext w wa) => hidA (Clone_any ad N c l wa hl (hV.ext hx) h1 hb)
  clear hl hV
  go_enter Try.func90, Try.ntmps90
  go_upto_region 1 with fail
  have kA : Bk (w.alloc (.cells #[.int .i64 X, .int .i64 Y, .int .i64 (Wn : Int), .int .i64 (Hn : Int), .slice (some ad) N c] 26)) w.heap.size 26 #[.int .i64 X, .int .i64 Y, .int .i64 (Wn : Int), .int .i64 (Hn : Int), .slice (some ad) N c] := Bk.new' rfl
  have hxA : Ext w (w.alloc (.cells #[.int .i64 X, .int .i64 Y, .int .i64 (Wn : Int), .int .i64 (Hn : Int), .slice (some ad) N c] 26)) := (Ext.refl w).alloc _
  have hsz : (w.alloc (.cells #[.int .i64 X, .int .i64 Y, .int .i64 (Wn : Int), .int .i64 (Hn : Int), .slice (some ad) N c] 26)).heap.size = w.heap.size + 1 := by simp
  generalize w.alloc (.cells #[.int .i64 X, .int .i64 Y, .int .i64 (Wn : Int), .int .i64 (Hn : Int), .slice (some ad) N c] 26) = w0 at *
  have c0 : ∀ w', Ext w0 w' → w'.cell? ⟨w.heap.size, 0, none⟩ = some (.int .i64 X) := fun w' h => (kA.ext h).cell 0
  have c1 : ∀ w', Ext w0 w' → w'.cell? ⟨w.heap.size, 1, none⟩ = some (.int .i64 Y) := fun w' h => (kA.ext h).cell 1
  have c2 : ∀ w', Ext w0 w' → w'.cell? ⟨w.heap.size, 2, none⟩ = some (.int .i64 (Wn : Int)) := fun w' h => (kA.ext h).cell 2
  have c3 : ∀ w', Ext w0 w' → w'.cell? ⟨w.heap.size, 3, none⟩ = some (.int .i64 (Hn : Int)) := fun w' h => (kA.ext h).cell 3
  have c4 : ∀ w', Ext w0 w' → w'.cell? ⟨w.heap.size, 4, none⟩ = some (.slice (some ad) N c) := fun w' h => (kA.ext h).cell 4
  have kB : Bk (w0.alloc (.cells #[.int .i64 0, .int .i64 0, .int .i64 0, .int .i64 0, .slice none 0 0] 26)) (w.heap.size + 1) 26 #[.int .i64 0, .int .i64 0, .int .i64 0, .int .i64 0, .slice none 0 0] := Bk.new' hsz.symm
  have hle : w0.heap.size ≤ w.heap.size + 1 := by omega
  have hxB : Ext w0 (w0.alloc (.cells #[.int .i64 0, .int .i64 0, .int .i64 0, .int .i64 0, .slice none 0 0] 26)) := (Ext.refl w0).alloc _
  refine wp_region_noPanic ?_
  refine wp_region_held_drew (S := fun w' => Ext w0 w') (by kernel_rfl) ?_ (fun hHeld => ?_)
  · (repeat (first | (with_reducible exact Ext.refl _) | (with_reducible assumption) | (with_reducible refine Ext.setCell ?_ (by first | (simp; done) | (simp; omega)) _) | (with_reducible refine Ext.drewN ?_ _) | (with_reducible refine Ext.alloc ?_ _) | (with_reducible refine Ext.drew ?_) | (with_reducible refine Ext.trans ?_ (by assumption))))
  refine wpAnyH_take (i := 0) (oi := ?o1x0) (v := ?v1x0) ?hi1x0 (by kernel_rfl) ?hf1x0 ?hr1x0 (fun _ _ _ h => h) ?hy1x0 (by assumption) ?rest1x0
  case hi1x0 => (simp only [List.getElem?_toArray, List.getElem?_cons_zero]; exact rfl)
  case hf1x0 => kernel_rfl
  case hr1x0 => kernel_rfl
  case hy1x0 => (refine Or.inl ⟨by rfl, ?_⟩; intro w hSw; (try dsimp only at hSw); go_simp; try with_reducible rfl)
  simp only [put_mk, List.set_cons_succ, List.set_cons_zero]
  refine wpAnyH_take (i := 1) (oi := ?o1x1) (v := ?v1x1) ?hi1x1 (by kernel_rfl) ?hf1x1 ?hr1x1 (fun _ _ _ h => h) ?hy1x1 (by assumption) ?rest1x1
  case hi1x1 => (simp only [List.getElem?_toArray, List.getElem?_cons_succ, List.getElem?_cons_zero]; exact rfl)
  case hf1x1 => kernel_rfl
  case hr1x1 => kernel_rfl
  case hy1x1 => (refine Or.inl ⟨by rfl, ?_⟩; intro w hSw; (try dsimp only at hSw); go_simp; try with_reducible rfl)
  simp only [put_mk, List.set_cons_succ, List.set_cons_zero]
  refine wpAnyH_take (i := 2) (oi := ?o1x2) (v := ?v1x2) ?hi1x2 (by kernel_rfl) ?hf1x2 ?hr1x2 (fun _ _ _ h => h) ?hy1x2 (by assumption) ?rest1x2
  case hi1x2 => (simp only [List.getElem?_toArray, List.getElem?_cons_succ, List.getElem?_cons_zero]; exact rfl)
  case hf1x2 => kernel_rfl
  case hr1x2 => kernel_rfl
  case hy1x2 => (refine Or.inl ⟨by rfl, ?_⟩; intro w hSw; (try dsimp only at hSw); go_simp; try with_reducible rfl)
  simp only [put_mk, List.set_cons_succ, List.set_cons_zero]
  refine wpAnyH_take (i := 3) (oi := ?o1x3) (v := ?v1x3) ?hi1x3 (by kernel_rfl) ?hf1x3 ?hr1x3 (fun _ _ _ h => h) ?hy1x3 (by assumption) ?rest1x3
  case hi1x3 => (simp only [List.getElem?_toArray, List.getElem?_cons_succ, List.getElem?_cons_zero]; exact rfl)
  case hf1x3 => kernel_rfl
  case hr1x3 => kernel_rfl
  case hy1x3 => (refine Or.inl ⟨by rfl, ?_⟩; intro w hSw; (try dsimp only at hSw); go_simp; try with_reducible rfl)
  simp only [put_mk, List.set_cons_succ, List.set_cons_zero]
  refine wpAnyH_ready (rs := [4]) (by kernel_rfl) (by simp) ?_
  refine AllReadyH.cons (o := ?o1x4) ?hi1x4 (fun K hK => ?_) AllReadyH.nil
  case hi1x4 => (simp only [List.getElem?_toArray, List.getElem?_cons_succ, List.getElem?_cons_zero]; exact rfl)
  go_simp
  refine ((HC _ (hxA.trans (by repeat (first | (with_reducible exact Ext.refl _) | (with_reducible assumption) | (with_reducible refine Ext.setCell ?_ (by first | (simp; done) | (simp; omega)) _) | (with_reducible refine Ext.drewN ?_ _) | (with_reducible refine Ext.alloc ?_ _) | (with_reducible refine Ext.drew ?_) | (with_reducible refine Ext.trans ?_ (by assumption)))))).out).mono ?_
  rintro e w3 ⟨g, cap, cur, rfl, hge, hC, hx3⟩
  have kB3 := (Bk.drew kB).ext hx3
  have z0 := kB3.cell 0
  have z1 := kB3.cell 1
  have z2 := kB3.cell 2
  have z3 := kB3.cell 3
  have z4 := kB3.cell 4
  have y0 := kB3.frozen 0
  have y1 := kB3.frozen 1
  have y2 := kB3.frozen 2
  have y3 := kB3.frozen 3
  have y4 := kB3.frozen 4
  refine hK.out _ _ ?_ (fun hHeld => ?_)
  · (repeat (first | (with_reducible exact Ext.refl _) | (with_reducible assumption) | (with_reducible refine Ext.setCell ?_ (by first | (simp; done) | (simp; omega)) _) | (with_reducible refine Ext.drewN ?_ _) | (with_reducible refine Ext.alloc ?_ _) | (with_reducible refine Ext.drew ?_) | (with_reducible refine Ext.trans ?_ (by assumption))))
  clear hK K
  refine wpAnyH_take (i := 5) (oi := ?o1x5) (v := ?v1x5) ?hi1x5 (by kernel_rfl) ?hf1x5 ?hr1x5 (fun _ _ _ h => h) ?hy1x5 (by assumption) ?rest1x5
  case hi1x5 => (simp only [List.getElem?_toArray, List.getElem?_cons_succ, List.getElem?_cons_zero]; exact rfl)
  case hf1x5 => kernel_rfl
  case hr1x5 => kernel_rfl
  case hy1x5 => (refine Or.inl ⟨by rfl, ?_⟩; intro w hSw; (try dsimp only at hSw); go_simp; try with_reducible rfl)
  simp only [put_mk, List.set_cons_succ, List.set_cons_zero]
  refine wpAnyH_ready (rs := [6]) (by kernel_rfl) (by simp) ?_
  refine AllReadyH.cons (o := ?o1x6) ?hi1x6 (fun K hK => ?_) AllReadyH.nil
  case hi1x6 => (simp only [List.getElem?_toArray, List.getElem?_cons_succ, List.getElem?_cons_zero]; exact rfl)
  go_simp
  refine hK.out _ _ ?_ (fun hHeld => ?_)
  · (repeat (first | (with_reducible exact Ext.refl _) | (with_reducible assumption) | (with_reducible refine Ext.setCell ?_ (by first | (simp; done) | (simp; omega)) _) | (with_reducible refine Ext.drewN ?_ _) | (with_reducible refine Ext.alloc ?_ _) | (with_reducible refine Ext.drew ?_) | (with_reducible refine Ext.trans ?_ (by assumption))))
  clear hK K
  refine wpAnyH_done (by kernel_rfl) ?_ _
  refine NoPanic.normal ?_
  have hgn : g ≠ w.heap.size + 1 := by simp at hge; omega
  have hgw : w.heap.size ≤ g := by simp at hge; omega
  have hxw : Ext w w3 := hxA.trans ((hxB.drew).trans hx3)
  have hC5 := ((((hC.far (p := ⟨w.heap.size + 1, 0, none⟩) hgn (.int .i64 X)).far (p := ⟨w.heap.size + 1, 1, none⟩) hgn (.int .i64 Y)).far (p := ⟨w.heap.size + 1, 2, none⟩) hgn (.int .i64 (Wn : Int))).far (p := ⟨w.heap.size + 1, 3, none⟩) hgn (.int .i64 (Hn : Int))).far (p := ⟨w.heap.size + 1, 4, none⟩) hgn (.slice (some ⟨g, 0, none⟩) N cap)
  have hx5 := ((((hxw.setCell (p := ⟨w.heap.size + 1, 0, none⟩) (by simp) (.int .i64 X)).setCell (p := ⟨w.heap.size + 1, 1, none⟩) (by simp) (.int .i64 Y)).setCell (p := ⟨w.heap.size + 1, 2, none⟩) (by simp) (.int .i64 (Wn : Int))).setCell (p := ⟨w.heap.size + 1, 3, none⟩) (by simp) (.int .i64 (Hn : Int))).setCell (p := ⟨w.heap.size + 1, 4, none⟩) (by simp) (.slice (some ⟨g, 0, none⟩) N cap)
  have HC5 := hidA hC5
  have HX5 := hidA hx5
  clear hC5 hx5 hxw hC hx3 hHeld
  go_wp2
  refine bodyPost_ret (v := .agg #[.int .i64 X, .int .i64 Y, .int .i64 (Wn : Int), .int .i64 (Hn : Int), .slice (some ⟨g, 0, none⟩) N cap]) (by simp [results, Try.results90, go_sem, z0, z1, z2, z3, z4]) rfl ?_
  exact ⟨g, cap, cur, rfl, hgw, HC5.out, HX5.out⟩
end Go.Proofs.Ytinohfgokpbcdaa
