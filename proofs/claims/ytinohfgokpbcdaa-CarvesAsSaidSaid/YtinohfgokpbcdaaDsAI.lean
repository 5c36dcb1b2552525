/- Pure: a lower neighbour gives a drop above zero; ranks over level ground. No program in sight. -/
import Derived.Test.YtinohfgokpbcdaaDsAH
import Derived.Laws.AppendOwn
import Derived.Lib.SliceRun
import Derived.Test.YtinohfgokpbcdaaDsAG
import Derived.Laws.Closers25b
namespace Go.Proofs.Ytinohfgokpbcdaa
open Go.RowKit
attribute [local go_sem ↓] Go.wp_at_zero Go.wp_at_succ
attribute [local go_sem] run_store_float

/-- a slice of integers, read -/
def intC (q : List Int) : List Value := q.map (.int .i64)
theorem intC_length (q : List Int) : (intC q).length = q.length := by simp [intC]
theorem intC_get {q : List Int} {k : Nat} (h : k < q.length) : (intC q)[k]? = some (.int .i64 (q.getD k 0)) := by
  unfold intC
  rw [List.getElem?_map, List.getElem?_eq_getElem h]
  simp [List.getD_eq_getElem?_getD, h]
/-- the error of numbers -/
def numsE (q : List Int) (N : Nat) (most : Int) : Int := if q.length ≠ N then 2 else if ∃ k, k < q.length ∧ (q.getD k 0 < 0 ∨ most < q.getD k 0) then 3 else 0
set_option maxRecDepth 100000 in
set_option maxHeartbeats 3200000 in
theorem checkNumbers_any (X Y : Int) (Wn Hn N n : Nat) (B : Option Addr) (c : Nat) (q : List Int) (most : Int) (w : World) (hr : Reg X Y Wn Hn) (hN : N = Wn * Hn) (hq : q.length = n) (hV : Rd w B (intC q)) (hb : n ≤ 140737488351232) :
    Calls Try.prog 89 #[rgv X Y Wn Hn, .slice B n c, .int .i64 most] w fun e w' => e = .returned (.int .i64 (numsE q N most)) ∧ Ext w w' := by
  have hN6 : N ≤ 65536 := by rw [hN]; exact hr.n
  have W1 : wrap64 ((Wn : Int) * (Hn : Int)) = (N : Int) := by rw [← Int.natCast_mul, ← hN]; exact IntWalk.wrap64_in _ ⟨by omega, by omega⟩
  have W2 : (Wn : Int) * (Hn : Int) = (N : Int) := by rw [← Int.natCast_mul, ← hN]
  have HE := hidA (show numsE q N most = if q.length ≠ N then 2 else if ∃ k, k < q.length ∧ (q.getD k 0 < 0 ∨ most < q.getD k 0) then 3 else 0 from rfl)
  generalize numsE q N most = E at *
  clear hr hN
  unfold rgv
  by_cases hl : n = N
  · subst hl
    have Hq := hidA hq
    clear hq
    go_enter Try.func89, Try.ntmps89
    go_wp2
    clear W1 W2
    go_loopw [19] (fun s19 wr => ∃ k : Nat, k ≤ n ∧ s19 = .int .i64 k ∧ (∀ j, j < k → ¬ (q.getD j 0 < 0 ∨ most < q.getD j 0)) ∧ Ext w wr) (fun s19 _ => n - (intOf s19).toNat)
    case atStart => exact ⟨0, Nat.zero_le _, rfl, fun j h => by omega, (Ext.refl w).alloc _⟩
    case round =>
      obtain ⟨k, hk, rfl, hal, hx⟩ := hrel
      have Hal := hidA hal
      clear hal
      by_cases hkn : k < n
      · have hkl : k < q.length := by rw [Hq.out]; exact hkn
        obtain ⟨ad, rfl, hbk, hcv⟩ := (hV.ext hx).at (k := k) (by rw [intC_length]; exact hkl)
        have ck := hcv k _ (intC_get hkl)
        obtain ⟨z, hz⟩ : ∃ z, z = q.getD k 0 := ⟨_, rfl⟩
        rw [← hz] at ck
        have Hz := hidA hz
        have Hkl := hidA hkl
        clear hz hcv hkl
        have i0 : (0 : Int) ≤ k := by omega
        have i1 : (k : Int) < n := by omega
        have hc : z < 0 ∨ (¬ z < 0 ∧ most < z) ∨ (¬ z < 0 ∧ ¬ most < z) := by omega
        rcases hc with h1 | ⟨h1, h2⟩ | ⟨h1, h2⟩
        · have hv : Hid (E = 3) := by show E = _; rw [HE.out, if_neg (by rw [Hq.out]; simp), if_pos ⟨k, Hkl.out, .inl (by rw [← Hz.out]; exact h1)⟩]
          go_wp2
          go_ret
          exact ⟨ret_i hv.out.symm, (by repeat (first | (with_reducible exact Ext.refl _) | (with_reducible assumption) | (with_reducible refine Ext.setCell ?_ (by first | (simp; done) | (simp; omega)) _) | (with_reducible refine Ext.drewN ?_ _) | (with_reducible refine Ext.alloc ?_ _) | (with_reducible refine Ext.drew ?_) | (with_reducible refine Ext.trans ?_ (by assumption))))⟩
        · have hv : Hid (E = 3) := by show E = _; rw [HE.out, if_neg (by rw [Hq.out]; simp), if_pos ⟨k, Hkl.out, .inr (by rw [← Hz.out]; exact h2)⟩]
          go_wp2
          go_ret
          exact ⟨ret_i hv.out.symm, (by repeat (first | (with_reducible exact Ext.refl _) | (with_reducible assumption) | (with_reducible refine Ext.setCell ?_ (by first | (simp; done) | (simp; omega)) _) | (with_reducible refine Ext.drewN ?_ _) | (with_reducible refine Ext.alloc ?_ _) | (with_reducible refine Ext.drew ?_) | (with_reducible refine Ext.trans ?_ (by assumption))))⟩
        · go_wp2
          go_roundw
          case rel =>
            refine ⟨k + 1, by omega, by go_num, fun j hj => ?_, hx⟩
            by_cases hjk : j = k
            · subst hjk
              rw [← Hz.out]
              omega
            · exact Hal.out j (by omega)
          case measure => simp [intOf]; omega
      · have hv : Hid (E = 0) := by
          show E = _
          rw [HE.out, if_neg (by rw [Hq.out]; simp), if_neg]
          rintro ⟨j, hj, h⟩
          exact Hal.out j (by have := Hq.out; omega) h
        go_wp2
        go_ret
        exact ⟨ret_i hv.out.symm, (by repeat (first | (with_reducible exact Ext.refl _) | (with_reducible assumption) | (with_reducible refine Ext.setCell ?_ (by first | (simp; done) | (simp; omega)) _) | (with_reducible refine Ext.drewN ?_ _) | (with_reducible refine Ext.alloc ?_ _) | (with_reducible refine Ext.drew ?_) | (with_reducible refine Ext.trans ?_ (by assumption))))⟩
  · have hv : Hid (E = 2) := by show E = _; rw [HE.out, if_pos (by rw [hq]; exact hl)]
    have hl' : ((n : Int) != (N : Int)) = true := by simp; omega
    clear hq
    go_enter Try.func89, Try.ntmps89
    go_wp2
    go_ret
    exact ⟨ret_i hv.out.symm, (by repeat (first | (with_reducible exact Ext.refl _) | (with_reducible assumption) | (with_reducible refine Ext.setCell ?_ (by first | (simp; done) | (simp; omega)) _) | (with_reducible refine Ext.drewN ?_ _) | (with_reducible refine Ext.alloc ?_ _) | (with_reducible refine Ext.drew ?_) | (with_reducible refine Ext.trans ?_ (by assumption))))⟩

/-- a copy of a slice of singles lies in a block of its own -/
structure Cl (w : World) (g cap : Nat) (cur : Array Value) (N : Nat) (f : Nat → Nat) : Prop where
  b : Bk w g 27 cur
  n : N ≤ cap
  s : cur.size = cap
  c : ∀ k, k < N → cur[k]? = some (.float .f32 (f k))
theorem Cl.ext {w w' : World} {g cap N : Nat} {cur : Array Value} {f : Nat → Nat} (h : Cl w g cap cur N f) (hx : Ext w w') : Cl w' g cap cur N f := ⟨h.b.ext hx, h.n, h.s, h.c⟩
theorem Cl.cell {w : World} {g cap N k : Nat} {cur : Array Value} {f : Nat → Nat} (h : Cl w g cap cur N f) (hk : k < N) : w.cell? ⟨g, k, none⟩ = some (.float .f32 (f k)) := by rw [h.b.cell]; exact h.c k hk
theorem Cl.far {w : World} {g cap N : Nat} {cur : Array Value} {f : Nat → Nat} (h : Cl w g cap cur N f) {p : Addr} (hp : g ≠ p.block) (u : Value) : Cl (w.setCell p u) g cap cur N f := ⟨h.b.far hp u, h.n, h.s, h.c⟩
theorem Cl.put {w : World} {g cap N : Nat} {cur : Array Value} {f : Nat → Nat} (h : Cl w g cap cur N f) (k x : Nat) : Cl (w.setCell ⟨g, k, none⟩ (.float .f32 x)) g cap (cur.setIfInBounds k (.float .f32 x)) N (updF f k x) := by
  refine ⟨Bk.set h.b k _, h.n, by simp [h.s], fun j hj => ?_⟩
  have hjs : j < cur.size := by have := h.n; have := h.s; omega
  rw [Array.getElem?_setIfInBounds]
  unfold updF
  by_cases e : k = j
  · subst e
    rw [if_pos rfl, if_pos hjs, if_pos rfl]
  · rw [if_neg e, if_neg (fun q => e q.symm)]
    exact h.c j hj
theorem infoFl : (Try.prog.info? 27).map (fun i => (i.zero, i.size, i.bytes)) = some (some (.float .f32 0), 1, 4) := by kernel_rfl
set_option maxRecDepth 100000 in
set_option maxHeartbeats 3200000 in
theorem Clone_any (ad : Addr) (N c : Nat) (l : List Nat) (w : World) (hl : l.length = N) (hV : Rd w (some ad) (flt l)) (h1 : 1 ≤ N) (hb : N ≤ 262144) :
    Calls Try.prog 61 #[.slice (some ad) N c] w fun e w' => ∃ g cap cur, e = .returned (.slice (some ⟨g, 0, none⟩) N cap) ∧ w.heap.size ≤ g ∧ Cl w' g cap cur N (fun k => l.getD k 0) ∧ Ext w w' := by
  obtain ⟨i0, hi0, hz0, hz1, hz2⟩ := info_parts infoFl
  have q22 : ∀ (w : World) (a : Option Addr) (n c n' c' : Nat), (binOp .eql 24 (.slice a n c) (.slice none n' c')).run Try.prog w = .ok (.bool a.isNone) w := fun w a n c n' c' => Lib.run_eql_slice_nil w _ _ a n c n' c' Try.underlying24
  have Hl := hidA hl
  have HV := hidA hV
  clear hl hV
  go_enter Try.func61, Try.ntmps61
  go_wp2_with (at_builtin; refine wpList_append_own _ rfl _ _ 24 rfl w.heap.size 27 i0 (.float .f32 0) 1 4 Try.underlying24 hi0 hz0 hz1 hz2 rfl (by decide) _ _ _ rfl (World.ownsRow_made w #[] 0 (Nat.le_refl _) (Nat.zero_le _) rfl) ad N c (flt l) rfl ?qc1 ?qc2 ?qc3 ?qc4 ?qc5 ?qc6 ?_)
  case qc2 =>
    intro j u hj
    have hjl : j < (flt l).length := (List.getElem?_eq_some_iff.1 hj).1
    obtain ⟨ad', e, _, hcv⟩ := (HV.out.ext ((Ext.refl w).alloc (.cells #[] 27))).at (k := j) hjl
    cases e
    exact hcv j u hj
  case qc3 =>
    intro u hu
    simp [flt] at hu
    obtain ⟨x, _, rfl⟩ := hu
    rfl
  case qc4 => unfold maxLen; omega
  case qc5 => omega
  case qc6 => simp
  case qc1 => simp [flt, Hl.out]
  intro v' w1 hown hgrow hnil
  have hx : Ext w w1 := Ext.grown ((Ext.refl w).alloc _) hgrow (by intro k hk; simp [Value.ownBlock] at hk; omega)
  rcases hown.2 with ⟨_, h0⟩ | ⟨g, cap, cur, hv, hge, hblk, hle, hmax, hsz, htake⟩
  · omega
  · subst hv
    have hC : Cl w1 g cap cur N (fun k => l.getD k 0) := by
      refine ⟨hblk, by omega, by simpa using hsz, fun k hk => ?_⟩
      have hkl : k < l.length := by rw [Hl.out]; exact hk
      have e1 : (cur.toList.take (N * 1))[k]? = some (.float .f32 (l.getD k 0)) := by
        rw [htake, flt_get hkl]
        simp [List.getD_eq_getElem?_getD, hkl]
      rw [List.getElem?_take, if_pos (by omega)] at e1
      simpa using e1
    have HC := hidA hC
    clear hC hown hnil hblk htake hgrow
    go_wp2
    go_ret
    exact ⟨g, cap, cur, by simp, by omega, HC.out, hx⟩
set_option maxRecDepth 100000 in
set_option maxHeartbeats 3200000 in
theorem Copy_any (X Y : Int) (Wn Hn N c : Nat) (ad : Addr) (l : List Nat) (w : World) (hl : l.length = N) (hV : Rd w (some ad) (flt l)) (h1 : 1 ≤ N) (hb : N ≤ 262144) :
    Calls Try.prog 90 #[.agg #[.int .i64 X, .int .i64 Y, .int .i64 (Wn : Int), .int .i64 (Hn : Int), .slice (some ad) N c]] w fun e w' => ∃ g cap cur, e = .returned (.agg #[.int .i64 X, .int .i64 Y, .int .i64 (Wn : Int), .int .i64 (Hn : Int), .slice (some ⟨g, 0, none⟩) N cap]) ∧ w.heap.size ≤ g ∧ Cl w' g cap cur N (fun k => l.getD k 0) ∧ Ext w w' := by
  have HC := fun (wa : World) (hx : Ext w wa) => hidA (Clone_any ad N c l wa hl (hV.ext hx) h1 hb)
  clear hl hV
  go_enter Try.func90, Try.ntmps90
  go_upto_region 1 with fail
  have kA : Bk (w.alloc (.cells #[.int .i64 X, .int .i64 Y, .int .i64 (Wn : Int), .int .i64 (Hn : Int), .slice (some ad) N c] 26)) w.heap.size 26 #[.int .i64 X, .int .i64 Y, .int .i64 (Wn : Int), .int .i64 (Hn : Int), .slice (some ad) N c] := Bk.new' rfl
  have hxA : Ext w (w.alloc (.cells #[.int .i64 X, .int .i64 Y, .int .i64 (Wn : Int), .int .i64 (Hn : Int), .slice (some ad) N c] 26)) := (Ext.refl w).alloc _
  have hsz : (w.alloc (.cells #[.int .i64 X, .int .i64 Y, .int .i64 (Wn : Int), .int .i64 (Hn : Int), .slice (some ad) N c] 26)).heap.size = w.heap.size + 1 := by simp
  generalize w.alloc (.cells #[.int .i64 X, .int .i64 Y, .int .i64 (Wn : Int), .int .i64 (Hn : Int), .slice (some ad) N c] 26) = w0 at *
  have c0 : ∀ w', Ext w0 w' → w'.cell? ⟨w.heap.size, 0, none⟩ = some (.int .i64 X) := fun w' h => (kA.ext h).cell 0
  have c1 : ∀ w', Ext w0 w' → w'.cell? ⟨w.heap.size, 1, none⟩ = some (.int .i64 Y) := fun w' h => (kA.ext h).cell 1
  have c2 : ∀ w', Ext w0 w' → w'.cell? ⟨w.heap.size, 2, none⟩ = some (.int .i64 (Wn : Int)) := fun w' h => (kA.ext h).cell 2
  have c3 : ∀ w', Ext w0 w' → w'.cell? ⟨w.heap.size, 3, none⟩ = some (.int .i64 (Hn : Int)) := fun w' h => (kA.ext h).cell 3
  have c4 : ∀ w', Ext w0 w' → w'.cell? ⟨w.heap.size, 4, none⟩ = some (.slice (some ad) N c) := fun w' h => (kA.ext h).cell 4
  have kB : Bk (w0.alloc (.cells #[.int .i64 0, .int .i64 0, .int .i64 0, .int .i64 0, .slice none 0 0] 26)) (w.heap.size + 1) 26 #[.int .i64 0, .int .i64 0, .int .i64 0, .int .i64 0, .slice none 0 0] := Bk.new' hsz.symm
  have hle : w0.heap.size ≤ w.heap.size + 1 := by omega
  have hxB : Ext w0 (w0.alloc (.cells #[.int .i64 0, .int .i64 0, .int .i64 0, .int .i64 0, .slice none 0 0] 26)) := (Ext.refl w0).alloc _
  refine wp_region_noPanic ?_
  refine wp_region_held_drew (S := fun w' => Ext w0 w') (by kernel_rfl) ?_ (fun hHeld => ?_)
  · (repeat (first | (with_reducible exact Ext.refl _) | (with_reducible assumption) | (with_reducible refine Ext.setCell ?_ (by first | (simp; done) | (simp; omega)) _) | (with_reducible refine Ext.drewN ?_ _) | (with_reducible refine Ext.alloc ?_ _) | (with_reducible refine Ext.drew ?_) | (with_reducible refine Ext.trans ?_ (by assumption))))
  refine wpAnyH_take (i := 0) (oi := ?o1x0) (v := ?v1x0) ?hi1x0 (by kernel_rfl) ?hf1x0 ?hr1x0 (fun _ _ _ h => h) ?hy1x0 (by assumption) ?rest1x0
  case hi1x0 => (simp only [List.getElem?_toArray, List.getElem?_cons_zero]; exact rfl)
  case hf1x0 => kernel_rfl
  case hr1x0 => kernel_rfl
  case hy1x0 => (refine Or.inl ⟨by rfl, ?_⟩; intro w hSw; (try dsimp only at hSw); go_simp; try with_reducible rfl)
  simp only [put_mk, List.set_cons_succ, List.set_cons_zero]
  refine wpAnyH_take (i := 1) (oi := ?o1x1) (v := ?v1x1) ?hi1x1 (by kernel_rfl) ?hf1x1 ?hr1x1 (fun _ _ _ h => h) ?hy1x1 (by assumption) ?rest1x1
  case hi1x1 => (simp only [List.getElem?_toArray, List.getElem?_cons_succ, List.getElem?_cons_zero]; exact rfl)
  case hf1x1 => kernel_rfl
  case hr1x1 => kernel_rfl
  case hy1x1 => (refine Or.inl ⟨by rfl, ?_⟩; intro w hSw; (try dsimp only at hSw); go_simp; try with_reducible rfl)
  simp only [put_mk, List.set_cons_succ, List.set_cons_zero]
  refine wpAnyH_take (i := 2) (oi := ?o1x2) (v := ?v1x2) ?hi1x2 (by kernel_rfl) ?hf1x2 ?hr1x2 (fun _ _ _ h => h) ?hy1x2 (by assumption) ?rest1x2
  case hi1x2 => (simp only [List.getElem?_toArray, List.getElem?_cons_succ, List.getElem?_cons_zero]; exact rfl)
  case hf1x2 => kernel_rfl
  case hr1x2 => kernel_rfl
  case hy1x2 => (refine Or.inl ⟨by rfl, ?_⟩; intro w hSw; (try dsimp only at hSw); go_simp; try with_reducible rfl)
  simp only [put_mk, List.set_cons_succ, List.set_cons_zero]
  refine wpAnyH_take (i := 3) (oi := ?o1x3) (v := ?v1x3) ?hi1x3 (by kernel_rfl) ?hf1x3 ?hr1x3 (fun _ _ _ h => h) ?hy1x3 (by assumption) ?rest1x3
  case hi1x3 => (simp only [List.getElem?_toArray, List.getElem?_cons_succ, List.getElem?_cons_zero]; exact rfl)
  case hf1x3 => kernel_rfl
  case hr1x3 => kernel_rfl
  case hy1x3 => (refine Or.inl ⟨by rfl, ?_⟩; intro w hSw; (try dsimp only at hSw); go_simp; try with_reducible rfl)
  simp only [put_mk, List.set_cons_succ, List.set_cons_zero]
  refine wpAnyH_ready (rs := [4]) (by kernel_rfl) (by simp) ?_
  refine AllReadyH.cons (o := ?o1x4) ?hi1x4 (fun K hK => ?_) AllReadyH.nil
  case hi1x4 => (simp only [List.getElem?_toArray, List.getElem?_cons_succ, List.getElem?_cons_zero]; exact rfl)
  go_simp
  refine ((HC _ (hxA.trans (by repeat (first | (with_reducible exact Ext.refl _) | (with_reducible assumption) | (with_reducible refine Ext.setCell ?_ (by first | (simp; done) | (simp; omega)) _) | (with_reducible refine Ext.drewN ?_ _) | (with_reducible refine Ext.alloc ?_ _) | (with_reducible refine Ext.drew ?_) | (with_reducible refine Ext.trans ?_ (by assumption)))))).out).mono ?_
  rintro e w3 ⟨g, cap, cur, rfl, hge, hC, hx3⟩
  have kB3 := (Bk.drew kB).ext hx3
  have z0 := kB3.cell 0
  have z1 := kB3.cell 1
  have z2 := kB3.cell 2
  have z3 := kB3.cell 3
  have z4 := kB3.cell 4
  have y0 := kB3.frozen 0
  have y1 := kB3.frozen 1
  have y2 := kB3.frozen 2
  have y3 := kB3.frozen 3
  have y4 := kB3.frozen 4
  refine hK.out _ _ ?_ (fun hHeld => ?_)
  · (repeat (first | (with_reducible exact Ext.refl _) | (with_reducible assumption) | (with_reducible refine Ext.setCell ?_ (by first | (simp; done) | (simp; omega)) _) | (with_reducible refine Ext.drewN ?_ _) | (with_reducible refine Ext.alloc ?_ _) | (with_reducible refine Ext.drew ?_) | (with_reducible refine Ext.trans ?_ (by assumption))))
  clear hK K
  refine wpAnyH_take (i := 5) (oi := ?o1x5) (v := ?v1x5) ?hi1x5 (by kernel_rfl) ?hf1x5 ?hr1x5 (fun _ _ _ h => h) ?hy1x5 (by assumption) ?rest1x5
  case hi1x5 => (simp only [List.getElem?_toArray, List.getElem?_cons_succ, List.getElem?_cons_zero]; exact rfl)
  case hf1x5 => kernel_rfl
  case hr1x5 => kernel_rfl
  case hy1x5 => (refine Or.inl ⟨by rfl, ?_⟩; intro w hSw; (try dsimp only at hSw); go_simp; try with_reducible rfl)
  simp only [put_mk, List.set_cons_succ, List.set_cons_zero]
  refine wpAnyH_ready (rs := [6]) (by kernel_rfl) (by simp) ?_
  refine AllReadyH.cons (o := ?o1x6) ?hi1x6 (fun K hK => ?_) AllReadyH.nil
  case hi1x6 => (simp only [List.getElem?_toArray, List.getElem?_cons_succ, List.getElem?_cons_zero]; exact rfl)
  go_simp
  refine hK.out _ _ ?_ (fun hHeld => ?_)
  · (repeat (first | (with_reducible exact Ext.refl _) | (with_reducible assumption) | (with_reducible refine Ext.setCell ?_ (by first | (simp; done) | (simp; omega)) _) | (with_reducible refine Ext.drewN ?_ _) | (with_reducible refine Ext.alloc ?_ _) | (with_reducible refine Ext.drew ?_) | (with_reducible refine Ext.trans ?_ (by assumption))))
  clear hK K
  refine wpAnyH_done (by kernel_rfl) ?_ _
  refine NoPanic.normal ?_
  have hgn : g ≠ w.heap.size + 1 := by simp at hge; omega
  have hgw : w.heap.size ≤ g := by simp at hge; omega
  have hxw : Ext w w3 := hxA.trans ((hxB.drew).trans hx3)
  have hC5 := ((((hC.far (p := ⟨w.heap.size + 1, 0, none⟩) hgn (.int .i64 X)).far (p := ⟨w.heap.size + 1, 1, none⟩) hgn (.int .i64 Y)).far (p := ⟨w.heap.size + 1, 2, none⟩) hgn (.int .i64 (Wn : Int))).far (p := ⟨w.heap.size + 1, 3, none⟩) hgn (.int .i64 (Hn : Int))).far (p := ⟨w.heap.size + 1, 4, none⟩) hgn (.slice (some ⟨g, 0, none⟩) N cap)
  have hx5 := ((((hxw.setCell (p := ⟨w.heap.size + 1, 0, none⟩) (by simp) (.int .i64 X)).setCell (p := ⟨w.heap.size + 1, 1, none⟩) (by simp) (.int .i64 Y)).setCell (p := ⟨w.heap.size + 1, 2, none⟩) (by simp) (.int .i64 (Wn : Int))).setCell (p := ⟨w.heap.size + 1, 3, none⟩) (by simp) (.int .i64 (Hn : Int))).setCell (p := ⟨w.heap.size + 1, 4, none⟩) (by simp) (.slice (some ⟨g, 0, none⟩) N cap)
  have HC5 := hidA hC5
  have HX5 := hidA hx5
  clear hC5 hx5 hxw hC hx3 hHeld
  go_wp2
  refine bodyPost_ret (v := .agg #[.int .i64 X, .int .i64 Y, .int .i64 (Wn : Int), .int .i64 (Hn : Int), .slice (some ⟨g, 0, none⟩) N cap]) (by simp [results, Try.results90, go_sem, z0, z1, z2, z3, z4]) rfl ?_
  exact ⟨g, cap, cur, rfl, hgw, HC5.out, HX5.out⟩
end Go.Proofs.Ytinohfgokpbcdaa
namespace Go.Proofs.Ytinohfgokpbcdaa
open Go.RowKit
attribute [local go_sem ↓] Go.wp_at_zero Go.wp_at_succ

/-- the error of carving -/
def carvE (r le mo : Nat) (st : Int) : Int :=
  if numE [r, le, mo] ≠ 0 then numE [r, le, mo] else if lt r 0 = true ∨ gt r 1065353216 = true ∨ lt le 0 = true then 3 else if lt mo le = true then 8 else if st < 0 ∨ 50 < st then 3 else 0
set_option maxRecDepth 100000 in
set_option maxHeartbeats 3200000 in
theorem checkCarving_any (r le mo : Nat) (st : Int) (w : World) : Calls Try.prog 33 #[.agg #[.float .f32 r, .float .f32 le, .float .f32 mo, .int .i64 st]] w fun e w' => e = .returned (.int .i64 (carvE r le mo st)) ∧ Ext w w' := by
  have HN := fun (B : Option Addr) (w : World) (h : Rd w B (flt [r, le, mo])) => hidA (heights_any B 3 3 [r, le, mo] w rfl h (by omega))
  have b1 : (FloatKind.f32.format.order r 0 == some .lt) = lt r 0 := rfl
  have b2 : (FloatKind.f32.format.order r 1065353216 == some .gt) = gt r 1065353216 := rfl
  have b3 : (FloatKind.f32.format.order le 0 == some .lt) = lt le 0 := rfl
  have b4 : (FloatKind.f32.format.order mo le == some .lt) = lt mo le := rfl
  have hE : carvE r le mo st = if numE [r, le, mo] ≠ 0 then numE [r, le, mo] else if lt r 0 = true ∨ gt r 1065353216 = true ∨ lt le 0 = true then 3 else if lt mo le = true then 8 else if st < 0 ∨ 50 < st then 3 else 0 := rfl
  have HE := hidA hE
  generalize numE [r, le, mo] = f at *
  generalize carvE r le mo st = E at *
  generalize lt r 0 = B1 at *
  generalize gt r 1065353216 = B2 at *
  generalize lt le 0 = B3 at *
  generalize lt mo le = B4 at *
  clear hE
  by_cases hf : f = 0
  · subst hf
    have hc : B1 = true ∨ (B1 = false ∧ B2 = true) ∨ (B1 = false ∧ B2 = false ∧ B3 = true) ∨ (B1 = false ∧ B2 = false ∧ B3 = false ∧ B4 = true) ∨ (B1 = false ∧ B2 = false ∧ B3 = false ∧ B4 = false) := by
      cases B1 <;> cases B2 <;> cases B3 <;> cases B4 <;> simp
    rcases hc with rfl | ⟨rfl, rfl⟩ | ⟨rfl, rfl, rfl⟩ | ⟨rfl, rfl, rfl, rfl⟩ | ⟨rfl, rfl, rfl, rfl⟩
    · have hv : Hid (E = 3) := by show E = _; rw [HE.out]; simp
      go_enter Try.func33, Try.ntmps33
      go_wp2_with (go_at_call 81; refine ((HN _ _ (Rd.new (by first | rfl | simp) (by first | rfl | simp))).out).mono ?_; rintro e w1 ⟨rfl, rfl⟩)
      go_ret
      exact ⟨ret_i hv.out.symm, (by repeat (first | (with_reducible exact Ext.refl _) | (with_reducible assumption) | (with_reducible refine Ext.setCell ?_ (by first | (simp; done) | (simp; omega)) _) | (with_reducible refine Ext.drewN ?_ _) | (with_reducible refine Ext.alloc ?_ _) | (with_reducible refine Ext.drew ?_) | (with_reducible refine Ext.trans ?_ (by assumption))))⟩
    · have hv : Hid (E = 3) := by show E = _; rw [HE.out]; simp
      go_enter Try.func33, Try.ntmps33
      go_wp2_with (go_at_call 81; refine ((HN _ _ (Rd.new (by first | rfl | simp) (by first | rfl | simp))).out).mono ?_; rintro e w1 ⟨rfl, rfl⟩)
      go_ret
      exact ⟨ret_i hv.out.symm, (by repeat (first | (with_reducible exact Ext.refl _) | (with_reducible assumption) | (with_reducible refine Ext.setCell ?_ (by first | (simp; done) | (simp; omega)) _) | (with_reducible refine Ext.drewN ?_ _) | (with_reducible refine Ext.alloc ?_ _) | (with_reducible refine Ext.drew ?_) | (with_reducible refine Ext.trans ?_ (by assumption))))⟩
    · have hv : Hid (E = 3) := by show E = _; rw [HE.out]; simp
      go_enter Try.func33, Try.ntmps33
      go_wp2_with (go_at_call 81; refine ((HN _ _ (Rd.new (by first | rfl | simp) (by first | rfl | simp))).out).mono ?_; rintro e w1 ⟨rfl, rfl⟩)
      go_ret
      exact ⟨ret_i hv.out.symm, (by repeat (first | (with_reducible exact Ext.refl _) | (with_reducible assumption) | (with_reducible refine Ext.setCell ?_ (by first | (simp; done) | (simp; omega)) _) | (with_reducible refine Ext.drewN ?_ _) | (with_reducible refine Ext.alloc ?_ _) | (with_reducible refine Ext.drew ?_) | (with_reducible refine Ext.trans ?_ (by assumption))))⟩
    · have hv : Hid (E = 8) := by show E = _; rw [HE.out]; simp
      go_enter Try.func33, Try.ntmps33
      go_wp2_with (go_at_call 81; refine ((HN _ _ (Rd.new (by first | rfl | simp) (by first | rfl | simp))).out).mono ?_; rintro e w1 ⟨rfl, rfl⟩)
      go_ret
      exact ⟨ret_i hv.out.symm, (by repeat (first | (with_reducible exact Ext.refl _) | (with_reducible assumption) | (with_reducible refine Ext.setCell ?_ (by first | (simp; done) | (simp; omega)) _) | (with_reducible refine Ext.drewN ?_ _) | (with_reducible refine Ext.alloc ?_ _) | (with_reducible refine Ext.drew ?_) | (with_reducible refine Ext.trans ?_ (by assumption))))⟩
    · have hc2 : st < 0 ∨ (¬ st < 0 ∧ 50 < st) ∨ (¬ st < 0 ∧ ¬ 50 < st) := by omega
      rcases hc2 with c1 | ⟨c1, c2⟩ | ⟨c1, c2⟩
      · have hv : Hid (E = 3) := by show E = _; rw [HE.out]; simp [c1]
        go_enter Try.func33, Try.ntmps33
        go_wp2_with (go_at_call 81; refine ((HN _ _ (Rd.new (by first | rfl | simp) (by first | rfl | simp))).out).mono ?_; rintro e w1 ⟨rfl, rfl⟩)
        go_ret
        exact ⟨ret_i hv.out.symm, (by repeat (first | (with_reducible exact Ext.refl _) | (with_reducible assumption) | (with_reducible refine Ext.setCell ?_ (by first | (simp; done) | (simp; omega)) _) | (with_reducible refine Ext.drewN ?_ _) | (with_reducible refine Ext.alloc ?_ _) | (with_reducible refine Ext.drew ?_) | (with_reducible refine Ext.trans ?_ (by assumption))))⟩
      · have hv : Hid (E = 3) := by show E = _; rw [HE.out]; simp [c2]
        go_enter Try.func33, Try.ntmps33
        go_wp2_with (go_at_call 81; refine ((HN _ _ (Rd.new (by first | rfl | simp) (by first | rfl | simp))).out).mono ?_; rintro e w1 ⟨rfl, rfl⟩)
        go_ret
        exact ⟨ret_i hv.out.symm, (by repeat (first | (with_reducible exact Ext.refl _) | (with_reducible assumption) | (with_reducible refine Ext.setCell ?_ (by first | (simp; done) | (simp; omega)) _) | (with_reducible refine Ext.drewN ?_ _) | (with_reducible refine Ext.alloc ?_ _) | (with_reducible refine Ext.drew ?_) | (with_reducible refine Ext.trans ?_ (by assumption))))⟩
      · have hv : Hid (E = 0) := by show E = _; rw [HE.out]; simp; omega
        go_enter Try.func33, Try.ntmps33
        go_wp2_with (go_at_call 81; refine ((HN _ _ (Rd.new (by first | rfl | simp) (by first | rfl | simp))).out).mono ?_; rintro e w1 ⟨rfl, rfl⟩)
        go_ret
        exact ⟨ret_i hv.out.symm, (by repeat (first | (with_reducible exact Ext.refl _) | (with_reducible assumption) | (with_reducible refine Ext.setCell ?_ (by first | (simp; done) | (simp; omega)) _) | (with_reducible refine Ext.drewN ?_ _) | (with_reducible refine Ext.alloc ?_ _) | (with_reducible refine Ext.drew ?_) | (with_reducible refine Ext.trans ?_ (by assumption))))⟩
  · have hf' : (f != 0) = true := by simpa using hf
    have hv : Hid (E = f) := by show E = _; rw [HE.out, if_pos hf]
    clear hf b1 b2 b3 b4
    go_enter Try.func33, Try.ntmps33
    go_wp2_with (go_at_call 81; refine ((HN _ _ (Rd.new (by first | rfl | simp) (by first | rfl | simp))).out).mono ?_; rintro e w1 ⟨rfl, rfl⟩)
    go_ret
    exact ⟨ret_i hv.out.symm, (by repeat (first | (with_reducible exact Ext.refl _) | (with_reducible assumption) | (with_reducible refine Ext.setCell ?_ (by first | (simp; done) | (simp; omega)) _) | (with_reducible refine Ext.drewN ?_ _) | (with_reducible refine Ext.alloc ?_ _) | (with_reducible refine Ext.drew ?_) | (with_reducible refine Ext.trans ?_ (by assumption))))⟩

set_option maxRecDepth 100000 in
set_option maxHeartbeats 3200000 in
theorem carvingError_any (r le mo : Nat) (st : Int) (w : World) : Calls Try.prog 32 #[.agg #[.float .f32 r, .float .f32 le, .float .f32 mo, .int .i64 st]] w fun e w' => e = .returned (.int .i64 (carvE r le mo st)) ∧ Ext w w' := by
  have HN := fun (B : Option Addr) (w : World) (h : Rd w B (flt [r, le, mo])) => hidA (numberError_any B 3 3 [r, le, mo] w rfl h (by omega))
  have b1 : (FloatKind.f32.format.order r 0 == some .lt) = lt r 0 := rfl
  have b2 : (FloatKind.f32.format.order r 1065353216 == some .gt) = gt r 1065353216 := rfl
  have b3 : (FloatKind.f32.format.order le 0 == some .lt) = lt le 0 := rfl
  have b4 : (FloatKind.f32.format.order mo le == some .lt) = lt mo le := rfl
  have hE : carvE r le mo st = if numE [r, le, mo] ≠ 0 then numE [r, le, mo] else if lt r 0 = true ∨ gt r 1065353216 = true ∨ lt le 0 = true then 3 else if lt mo le = true then 8 else if st < 0 ∨ 50 < st then 3 else 0 := rfl
  have HE := hidA hE
  generalize numE [r, le, mo] = f at *
  generalize carvE r le mo st = E at *
  generalize lt r 0 = B1 at *
  generalize gt r 1065353216 = B2 at *
  generalize lt le 0 = B3 at *
  generalize lt mo le = B4 at *
  clear hE
  by_cases hf : f = 0
  · subst hf
    have hc : B1 = true ∨ (B1 = false ∧ B2 = true) ∨ (B1 = false ∧ B2 = false ∧ B3 = true) ∨ (B1 = false ∧ B2 = false ∧ B3 = false ∧ B4 = true) ∨ (B1 = false ∧ B2 = false ∧ B3 = false ∧ B4 = false) := by
      cases B1 <;> cases B2 <;> cases B3 <;> cases B4 <;> simp
    rcases hc with rfl | ⟨rfl, rfl⟩ | ⟨rfl, rfl, rfl⟩ | ⟨rfl, rfl, rfl, rfl⟩ | ⟨rfl, rfl, rfl, rfl⟩
    · have hv : Hid (E = 3) := by show E = _; rw [HE.out]; simp
      go_enter Try.func32, Try.ntmps32
      go_wp2_with (go_at_call 18; refine ((HN _ _ (Rd.new (by first | rfl | simp) (by first | rfl | simp))).out).mono ?_; rintro e w1 ⟨rfl, rfl⟩)
      go_ret
      exact ⟨ret_i hv.out.symm, (by repeat (first | (with_reducible exact Ext.refl _) | (with_reducible assumption) | (with_reducible refine Ext.setCell ?_ (by first | (simp; done) | (simp; omega)) _) | (with_reducible refine Ext.drewN ?_ _) | (with_reducible refine Ext.alloc ?_ _) | (with_reducible refine Ext.drew ?_) | (with_reducible refine Ext.trans ?_ (by assumption))))⟩
    · have hv : Hid (E = 3) := by show E = _; rw [HE.out]; simp
      go_enter Try.func32, Try.ntmps32
      go_wp2_with (go_at_call 18; refine ((HN _ _ (Rd.new (by first | rfl | simp) (by first | rfl | simp))).out).mono ?_; rintro e w1 ⟨rfl, rfl⟩)
      go_ret
      exact ⟨ret_i hv.out.symm, (by repeat (first | (with_reducible exact Ext.refl _) | (with_reducible assumption) | (with_reducible refine Ext.setCell ?_ (by first | (simp; done) | (simp; omega)) _) | (with_reducible refine Ext.drewN ?_ _) | (with_reducible refine Ext.alloc ?_ _) | (with_reducible refine Ext.drew ?_) | (with_reducible refine Ext.trans ?_ (by assumption))))⟩
    · have hv : Hid (E = 3) := by show E = _; rw [HE.out]; simp
      go_enter Try.func32, Try.ntmps32
      go_wp2_with (go_at_call 18; refine ((HN _ _ (Rd.new (by first | rfl | simp) (by first | rfl | simp))).out).mono ?_; rintro e w1 ⟨rfl, rfl⟩)
      go_ret
      exact ⟨ret_i hv.out.symm, (by repeat (first | (with_reducible exact Ext.refl _) | (with_reducible assumption) | (with_reducible refine Ext.setCell ?_ (by first | (simp; done) | (simp; omega)) _) | (with_reducible refine Ext.drewN ?_ _) | (with_reducible refine Ext.alloc ?_ _) | (with_reducible refine Ext.drew ?_) | (with_reducible refine Ext.trans ?_ (by assumption))))⟩
    · have hv : Hid (E = 8) := by show E = _; rw [HE.out]; simp
      go_enter Try.func32, Try.ntmps32
      go_wp2_with (go_at_call 18; refine ((HN _ _ (Rd.new (by first | rfl | simp) (by first | rfl | simp))).out).mono ?_; rintro e w1 ⟨rfl, rfl⟩)
      go_ret
      exact ⟨ret_i hv.out.symm, (by repeat (first | (with_reducible exact Ext.refl _) | (with_reducible assumption) | (with_reducible refine Ext.setCell ?_ (by first | (simp; done) | (simp; omega)) _) | (with_reducible refine Ext.drewN ?_ _) | (with_reducible refine Ext.alloc ?_ _) | (with_reducible refine Ext.drew ?_) | (with_reducible refine Ext.trans ?_ (by assumption))))⟩
    · have hc2 : st < 0 ∨ (¬ st < 0 ∧ 50 < st) ∨ (¬ st < 0 ∧ ¬ 50 < st) := by omega
      rcases hc2 with c1 | ⟨c1, c2⟩ | ⟨c1, c2⟩
      · have hv : Hid (E = 3) := by show E = _; rw [HE.out]; simp [c1]
        go_enter Try.func32, Try.ntmps32
        go_wp2_with (go_at_call 18; refine ((HN _ _ (Rd.new (by first | rfl | simp) (by first | rfl | simp))).out).mono ?_; rintro e w1 ⟨rfl, rfl⟩)
        go_ret
        exact ⟨ret_i hv.out.symm, (by repeat (first | (with_reducible exact Ext.refl _) | (with_reducible assumption) | (with_reducible refine Ext.setCell ?_ (by first | (simp; done) | (simp; omega)) _) | (with_reducible refine Ext.drewN ?_ _) | (with_reducible refine Ext.alloc ?_ _) | (with_reducible refine Ext.drew ?_) | (with_reducible refine Ext.trans ?_ (by assumption))))⟩
      · have hv : Hid (E = 3) := by show E = _; rw [HE.out]; simp [c2]
        go_enter Try.func32, Try.ntmps32
        go_wp2_with (go_at_call 18; refine ((HN _ _ (Rd.new (by first | rfl | simp) (by first | rfl | simp))).out).mono ?_; rintro e w1 ⟨rfl, rfl⟩)
        go_ret
        exact ⟨ret_i hv.out.symm, (by repeat (first | (with_reducible exact Ext.refl _) | (with_reducible assumption) | (with_reducible refine Ext.setCell ?_ (by first | (simp; done) | (simp; omega)) _) | (with_reducible refine Ext.drewN ?_ _) | (with_reducible refine Ext.alloc ?_ _) | (with_reducible refine Ext.drew ?_) | (with_reducible refine Ext.trans ?_ (by assumption))))⟩
      · have hv : Hid (E = 0) := by show E = _; rw [HE.out]; simp; omega
        go_enter Try.func32, Try.ntmps32
        go_wp2_with (go_at_call 18; refine ((HN _ _ (Rd.new (by first | rfl | simp) (by first | rfl | simp))).out).mono ?_; rintro e w1 ⟨rfl, rfl⟩)
        go_ret
        exact ⟨ret_i hv.out.symm, (by repeat (first | (with_reducible exact Ext.refl _) | (with_reducible assumption) | (with_reducible refine Ext.setCell ?_ (by first | (simp; done) | (simp; omega)) _) | (with_reducible refine Ext.drewN ?_ _) | (with_reducible refine Ext.alloc ?_ _) | (with_reducible refine Ext.drew ?_) | (with_reducible refine Ext.trans ?_ (by assumption))))⟩
  · have hf' : (f != 0) = true := by simpa using hf
    have hv : Hid (E = f) := by show E = _; rw [HE.out, if_pos hf]
    clear hf b1 b2 b3 b4
    go_enter Try.func32, Try.ntmps32
    go_wp2_with (go_at_call 18; refine ((HN _ _ (Rd.new (by first | rfl | simp) (by first | rfl | simp))).out).mono ?_; rintro e w1 ⟨rfl, rfl⟩)
    go_ret
    exact ⟨ret_i hv.out.symm, (by repeat (first | (with_reducible exact Ext.refl _) | (with_reducible assumption) | (with_reducible refine Ext.setCell ?_ (by first | (simp; done) | (simp; omega)) _) | (with_reducible refine Ext.drewN ?_ _) | (with_reducible refine Ext.alloc ?_ _) | (with_reducible refine Ext.drew ?_) | (with_reducible refine Ext.trans ?_ (by assumption))))⟩

end Go.Proofs.Ytinohfgokpbcdaa
namespace Go.Proofs.Ytinohfgokpbcdaa
open Go.RowKit Ieee
attribute [local go_sem ↓] Go.wp_at_zero Go.wp_at_succ

theorem int_pos {n : Int} (h : 0 ≤ n) : floatOfInt .f32 n < 2147483648 := by
  have e : floatOfInt .f32 n = single.nearest (decide (n < 0)) n.natAbs 0 := rfl
  rw [e, show decide (n < 0) = false by simp; omega]
  exact near_false _ _
/-- the root of an integer -/
def rootI (n : Int) : Nat := rootB (floatOfInt .f32 n)
theorem rootI_bd {n : Int} (h0 : 0 ≤ n) (h : n ≤ 1099511627776) : Bd 41 (floatOfInt .f32 n) ∧ Bd 48 (rootI n) := by
  have hb := int_bd (K := 41) (n := n) (by omega) (by omega)
  obtain ⟨_, _, _, _, _, h5, _⟩ := root_ok hb (int_pos h0) (by omega)
  exact ⟨hb, h5⟩
set_option maxHeartbeats 800000 in
theorem rootI_any (n : Int) (w : World) (h0 : 0 ≤ n) (h : n ≤ 1099511627776) : Calls Try.prog 92 #[.int .i64 n] w fun e w' => e = .returned (.float .f32 (rootI n)) ∧ w = w' := by
  have HR := fun (w : World) => hidA (noiseRoot_any (rootI_bd h0 h).1 (int_pos h0) (by omega) w)
  go_enter Try.func92, Try.ntmps92
  go_wp2_with (go_at_call 142; refine ((HR _).out).mono ?_; rintro e w1 ⟨rfl, rfl⟩)
  go_ret
  exact ⟨rfl, rfl⟩
/-- the lesser of two -/
def lesserB (a b : Nat) : Nat := if lt b a = true then b else a
set_option maxHeartbeats 800000 in
theorem lesser_any (a b : Nat) (w : World) : Calls Try.prog 96 #[.float .f32 a, .float .f32 b] w fun e w' => e = .returned (.float .f32 (lesserB a b)) ∧ w = w' := by
  have hb : (FloatKind.f32.format.order b a == some .lt) = lt b a := rfl
  unfold lesserB
  cases h : lt b a
  all_goals
    rw [h] at hb
    clear h
    go_enter Try.func96, Try.ntmps96
    go_wp2
    go_ret
    exact ⟨rfl, rfl⟩
/-- how deep water cuts -/
def depF (r le mo : Nat) (n : Int) (drop : Nat) : Nat :=
  if n < 1 ∨ gt drop 0 = false then 0 else
    if lt (fmul (fmul r (rootI n)) drop) le = true then 0 else lesserB (lesserB (fmul (fmul r (rootI n)) drop) mo) (fmul drop 1056964608)
theorem dep_ok {r n : Nat} {drop : Nat} (hr : Bd 20 r) (hn : Bd 48 n) (hd : Bd 20 drop) : floatBits .mul .f32 r n = some (fmul r n) ∧ floatBits .mul .f32 (fmul r n) drop = some (fmul (fmul r n) drop) ∧ floatBits .mul .f32 drop 1056964608 = some (fmul drop 1056964608) := by
  obtain ⟨a1, a2⟩ := fmul_ok hr hn (by omega)
  obtain ⟨b1, b2⟩ := fmul_ok a2 hd (by omega)
  exact ⟨a1, b1, (fmul_ok hd half_bd (by omega)).1⟩
theorem leq_gt {d : Nat} (h : Bd 20 d) : (FloatKind.f32.format.order d 0 == some .lt || FloatKind.f32.format.order d 0 == some .eq) = !gt d 0 := by
  have e := ord_valI (bd_Fin h (by omega)) (show Fin 0 by unfold Fin; omega)
  unfold gt
  rw [ord_def, e]
  cases compare (valI d) (valI 0) <;> rfl

set_option maxRecDepth 100000 in
set_option maxHeartbeats 3200000 in
theorem depth_any (r le mo : Nat) (st n : Int) (drop : Nat) (w : World) (hr : Bd 20 r) (hd : Bd 20 drop) (hn : n ≤ 1099511627776) : Calls Try.prog 88 #[.agg #[.float .f32 r, .float .f32 le, .float .f32 mo, .int .i64 st], .int .i64 n, .float .f32 drop] w fun e w' => e = .returned (.float .f32 (depF r le mo n drop)) ∧ Ext w w' := by
  have hd0 : (FloatKind.f32.format.order drop 0 == some .lt || FloatKind.f32.format.order drop 0 == some .eq) = !gt drop 0 := leq_gt hd
  have hd1 : (FloatKind.f32.format.order drop 0 == some .gt) = gt drop 0 := rfl
  have hE : depF r le mo n drop = if n < 1 ∨ gt drop 0 = false then 0 else if lt (fmul (fmul r (rootI n)) drop) le = true then 0 else lesserB (lesserB (fmul (fmul r (rootI n)) drop) mo) (fmul drop 1056964608) := rfl
  have HE := hidA hE
  generalize depF r le mo n drop = E at *
  clear hE
  by_cases h1 : n < 1
  · have hv : Hid (E = 0) := by show E = _; rw [HE.out, if_pos (.inl h1)]
    clear hd0 hd1
    go_enter Try.func88, Try.ntmps88
    go_wp2
    go_ret
    exact ⟨ret_f hv.out.symm, (by repeat (first | (with_reducible exact Ext.refl _) | (with_reducible assumption) | (with_reducible refine Ext.setCell ?_ (by first | (simp; done) | (simp; omega)) _) | (with_reducible refine Ext.drewN ?_ _) | (with_reducible refine Ext.alloc ?_ _) | (with_reducible refine Ext.drew ?_) | (with_reducible refine Ext.trans ?_ (by assumption))))⟩
  · cases h2 : gt drop 0
    · have hv : Hid (E = 0) := by show E = _; rw [HE.out, if_pos (.inr h2)]
      rw [h2] at hd0
      clear h2 hd1
      have hd2 : (FloatKind.f32.format.order drop 0 == some .lt || FloatKind.f32.format.order drop 0 == some .eq) = true := hd0
      clear hd0
      go_enter Try.func88, Try.ntmps88
      go_wp2
      go_ret
      exact ⟨ret_f hv.out.symm, (by repeat (first | (with_reducible exact Ext.refl _) | (with_reducible assumption) | (with_reducible refine Ext.setCell ?_ (by first | (simp; done) | (simp; omega)) _) | (with_reducible refine Ext.drewN ?_ _) | (with_reducible refine Ext.alloc ?_ _) | (with_reducible refine Ext.drew ?_) | (with_reducible refine Ext.trans ?_ (by assumption))))⟩
    · obtain ⟨m1, m2, m3⟩ := dep_ok hr (rootI_bd (show 0 ≤ n by omega) hn).2 hd
      have r1 := fun (w : World) => run_float_arith (P := Try.prog) w .mul 27 .f32 _ _ _ m1
      have r2 := fun (w : World) => run_float_arith (P := Try.prog) w .mul 27 .f32 _ _ _ m2
      have r3 := fun (w : World) => run_float_arith (P := Try.prog) w .mul 27 .f32 _ _ _ m3
      have HR := fun (w : World) => hidA (rootI_any n w (by omega) hn)
      have hv : Hid (E = if lt (fmul (fmul r (rootI n)) drop) le = true then 0 else lesserB (lesserB (fmul (fmul r (rootI n)) drop) mo) (fmul drop 1056964608)) := by show E = _; rw [HE.out, if_neg (by rw [h2]; simp; omega)]
      have hd2 : (FloatKind.f32.format.order drop 0 == some .lt || FloatKind.f32.format.order drop 0 == some .eq) = false := by rw [hd0, h2]; rfl
      clear m1 m2 m3 hd0 hd1 h2 HE hr hd hn
      generalize rootI n = q at *
      generalize fmul r q = m at *
      generalize fmul m drop = d at *
      generalize fmul drop 1056964608 = hf at *
      have hb : (FloatKind.f32.format.order d le == some .lt) = lt d le := rfl
      cases h3 : lt d le
      · have hv2 : Hid (E = lesserB (lesserB d mo) hf) := by show E = _; rw [hv.out, if_neg (by rw [h3]; decide)]
        rw [h3] at hb
        clear h3 hv
        go_enter Try.func88, Try.ntmps88
        go_wp2
        go_quiet ((go_at_call 92; exact Calls.quiet_of_same ((HR _).out.mono fun e w' h => ⟨h.1, h.2.symm⟩)))
        go_wp2_with (go_at_call 96; refine (lesser_any _ _ _).mono ?_; rintro e w1 ⟨rfl, rfl⟩)
        go_ret
        exact ⟨ret_f hv2.out.symm, (by repeat (first | (with_reducible exact Ext.refl _) | (with_reducible assumption) | (with_reducible refine Ext.setCell ?_ (by first | (simp; done) | (simp; omega)) _) | (with_reducible refine Ext.drewN ?_ _) | (with_reducible refine Ext.alloc ?_ _) | (with_reducible refine Ext.drew ?_) | (with_reducible refine Ext.trans ?_ (by assumption))))⟩
      · have hv2 : Hid (E = 0) := by show E = _; rw [hv.out, if_pos h3]
        rw [h3] at hb
        clear h3 hv
        go_enter Try.func88, Try.ntmps88
        go_wp2
        go_quiet ((go_at_call 92; exact Calls.quiet_of_same ((HR _).out.mono fun e w' h => ⟨h.1, h.2.symm⟩)))
        go_wp2
        go_ret
        exact ⟨ret_f hv2.out.symm, (by repeat (first | (with_reducible exact Ext.refl _) | (with_reducible assumption) | (with_reducible refine Ext.setCell ?_ (by first | (simp; done) | (simp; omega)) _) | (with_reducible refine Ext.drewN ?_ _) | (with_reducible refine Ext.alloc ?_ _) | (with_reducible refine Ext.drew ?_) | (with_reducible refine Ext.trans ?_ (by assumption))))⟩

set_option maxRecDepth 100000 in
set_option maxHeartbeats 3200000 in
theorem depthOf_any (r le mo : Nat) (st n : Int) (drop : Nat) (w : World) (hr : Bd 20 r) (hd : Bd 20 drop) (hn : n ≤ 1099511627776) : Calls Try.prog 34 #[.agg #[.float .f32 r, .float .f32 le, .float .f32 mo, .int .i64 st], .int .i64 n, .float .f32 drop] w fun e w' => e = .returned (.float .f32 (depF r le mo n drop)) ∧ Ext w w' := by
  have hd0 : (FloatKind.f32.format.order drop 0 == some .lt || FloatKind.f32.format.order drop 0 == some .eq) = !gt drop 0 := leq_gt hd
  have hd1 : (FloatKind.f32.format.order drop 0 == some .gt) = gt drop 0 := rfl
  have hE : depF r le mo n drop = if n < 1 ∨ gt drop 0 = false then 0 else if lt (fmul (fmul r (rootI n)) drop) le = true then 0 else lesserB (lesserB (fmul (fmul r (rootI n)) drop) mo) (fmul drop 1056964608) := rfl
  have HE := hidA hE
  generalize depF r le mo n drop = E at *
  clear hE
  by_cases h1 : n < 1
  · have hv : Hid (E = 0) := by show E = _; rw [HE.out, if_pos (.inl h1)]
    clear hd0 hd1
    go_enter Try.func34, Try.ntmps34
    go_wp2
    go_ret
    exact ⟨ret_f hv.out.symm, (by repeat (first | (with_reducible exact Ext.refl _) | (with_reducible assumption) | (with_reducible refine Ext.setCell ?_ (by first | (simp; done) | (simp; omega)) _) | (with_reducible refine Ext.drewN ?_ _) | (with_reducible refine Ext.alloc ?_ _) | (with_reducible refine Ext.drew ?_) | (with_reducible refine Ext.trans ?_ (by assumption))))⟩
  · cases h2 : gt drop 0
    · have hv : Hid (E = 0) := by show E = _; rw [HE.out, if_pos (.inr h2)]
      rw [h2] at hd1
      clear h2 hd0
      go_enter Try.func34, Try.ntmps34
      go_wp2
      go_ret
      exact ⟨ret_f hv.out.symm, (by repeat (first | (with_reducible exact Ext.refl _) | (with_reducible assumption) | (with_reducible refine Ext.setCell ?_ (by first | (simp; done) | (simp; omega)) _) | (with_reducible refine Ext.drewN ?_ _) | (with_reducible refine Ext.alloc ?_ _) | (with_reducible refine Ext.drew ?_) | (with_reducible refine Ext.trans ?_ (by assumption))))⟩
    · obtain ⟨m1, m2, m3⟩ := dep_ok hr (rootI_bd (show 0 ≤ n by omega) hn).2 hd
      have r1 := fun (w : World) => run_float_arith (P := Try.prog) w .mul 27 .f32 _ _ _ m1
      have r2 := fun (w : World) => run_float_arith (P := Try.prog) w .mul 27 .f32 _ _ _ m2
      have r3 := fun (w : World) => run_float_arith (P := Try.prog) w .mul 27 .f32 _ _ _ m3
      have HR : ∀ w : World, Hid (Calls Try.prog 38 #[.float .f32 (floatOfInt .f32 n)] w fun e w' => e = .returned (.float .f32 (rootI n)) ∧ w' = w) := fun w => refRoot_any (rootI_bd (show 0 ≤ n by omega) hn).1 (int_pos (by omega)) (by omega) w
      have hv : Hid (E = if lt (fmul (fmul r (rootI n)) drop) le = true then 0 else lesserB (lesserB (fmul (fmul r (rootI n)) drop) mo) (fmul drop 1056964608)) := by show E = _; rw [HE.out, if_neg (by rw [h2]; simp; omega)]
      rw [h2] at hd1
      clear m1 m2 m3 hd0 h2 HE hr hd hn
      generalize rootI n = q at *
      generalize fmul r q = m at *
      generalize fmul m drop = d at *
      generalize fmul drop 1056964608 = hf at *
      have hb : (FloatKind.f32.format.order d le == some .lt) = lt d le := rfl
      cases h3 : lt d le
      · have hv2 : Hid (E = lesserB (lesserB d mo) hf) := by show E = _; rw [hv.out, if_neg (by rw [h3]; decide)]
        rw [h3] at hb
        clear h3 hv
        have hb2 : (FloatKind.f32.format.order mo d == some .lt) = lt mo d := rfl
        cases h4 : lt mo d
        · rw [h4] at hb2
          have hb3 : (FloatKind.f32.format.order hf d == some .lt) = lt hf d := rfl
          cases h5 : lt hf d
          · have hv3 : Hid (E = d) := by show E = _; rw [hv2.out]; unfold lesserB; simp [h4, h5]
            rw [h5] at hb3
            clear h4 h5 hv2
            go_enter Try.func34, Try.ntmps34
            go_wp2
            go_quiet ((go_at_call 38; exact Calls.quiet_of_same (HR _).out))
            go_wp2
            go_ret
            exact ⟨ret_f hv3.out.symm, (by repeat (first | (with_reducible exact Ext.refl _) | (with_reducible assumption) | (with_reducible refine Ext.setCell ?_ (by first | (simp; done) | (simp; omega)) _) | (with_reducible refine Ext.drewN ?_ _) | (with_reducible refine Ext.alloc ?_ _) | (with_reducible refine Ext.drew ?_) | (with_reducible refine Ext.trans ?_ (by assumption))))⟩
          · have hv3 : Hid (E = hf) := by show E = _; rw [hv2.out]; unfold lesserB; simp [h4, h5]
            rw [h5] at hb3
            clear h4 h5 hv2
            go_enter Try.func34, Try.ntmps34
            go_wp2
            go_quiet ((go_at_call 38; exact Calls.quiet_of_same (HR _).out))
            go_wp2
            go_ret
            exact ⟨ret_f hv3.out.symm, (by repeat (first | (with_reducible exact Ext.refl _) | (with_reducible assumption) | (with_reducible refine Ext.setCell ?_ (by first | (simp; done) | (simp; omega)) _) | (with_reducible refine Ext.drewN ?_ _) | (with_reducible refine Ext.alloc ?_ _) | (with_reducible refine Ext.drew ?_) | (with_reducible refine Ext.trans ?_ (by assumption))))⟩
        · rw [h4] at hb2
          have hb3 : (FloatKind.f32.format.order hf mo == some .lt) = lt hf mo := rfl
          cases h5 : lt hf mo
          · have hv3 : Hid (E = mo) := by show E = _; rw [hv2.out]; unfold lesserB; simp [h4, h5]
            rw [h5] at hb3
            clear h4 h5 hv2
            go_enter Try.func34, Try.ntmps34
            go_wp2
            go_quiet ((go_at_call 38; exact Calls.quiet_of_same (HR _).out))
            go_wp2
            go_ret
            exact ⟨ret_f hv3.out.symm, (by repeat (first | (with_reducible exact Ext.refl _) | (with_reducible assumption) | (with_reducible refine Ext.setCell ?_ (by first | (simp; done) | (simp; omega)) _) | (with_reducible refine Ext.drewN ?_ _) | (with_reducible refine Ext.alloc ?_ _) | (with_reducible refine Ext.drew ?_) | (with_reducible refine Ext.trans ?_ (by assumption))))⟩
          · have hv3 : Hid (E = hf) := by show E = _; rw [hv2.out]; unfold lesserB; simp [h4, h5]
            rw [h5] at hb3
            clear h4 h5 hv2
            go_enter Try.func34, Try.ntmps34
            go_wp2
            go_quiet ((go_at_call 38; exact Calls.quiet_of_same (HR _).out))
            go_wp2
            go_ret
            exact ⟨ret_f hv3.out.symm, (by repeat (first | (with_reducible exact Ext.refl _) | (with_reducible assumption) | (with_reducible refine Ext.setCell ?_ (by first | (simp; done) | (simp; omega)) _) | (with_reducible refine Ext.drewN ?_ _) | (with_reducible refine Ext.alloc ?_ _) | (with_reducible refine Ext.drew ?_) | (with_reducible refine Ext.trans ?_ (by assumption))))⟩
      · have hv3 : Hid (E = 0) := by show E = _; rw [hv.out, if_pos h3]
        rw [h3] at hb
        clear h3 hv
        go_enter Try.func34, Try.ntmps34
        go_wp2
        go_quiet ((go_at_call 38; exact Calls.quiet_of_same (HR _).out))
        go_wp2
        go_ret
        exact ⟨ret_f hv3.out.symm, (by repeat (first | (with_reducible exact Ext.refl _) | (with_reducible assumption) | (with_reducible refine Ext.setCell ?_ (by first | (simp; done) | (simp; omega)) _) | (with_reducible refine Ext.drewN ?_ _) | (with_reducible refine Ext.alloc ?_ _) | (with_reducible refine Ext.drew ?_) | (with_reducible refine Ext.trans ?_ (by assumption))))⟩
end Go.Proofs.Ytinohfgokpbcdaa
namespace Go.Proofs.Ytinohfgokpbcdaa
open Go.RowKit

theorem keyI_pos {b : Nat} (h : 0 ≤ valI b) (h2 : valN (b % 2147483648) ≠ 0) : b / 2147483648 % 2 ≠ 1 := by
  intro e
  unfold valI at h
  rw [if_pos e] at h
  omega
/-- one and what is not less than zero is not less than one -/
theorem one_more {K x : Nat} (hx : Bd K x) (hK : K ≤ 100) (h0 : 0 ≤ valI x) : Ge1 (fadd 1065353216 x) := by
  have h1 := fadd_ge (K := K) (one_bd.mono (Nat.zero_le K)) hx (by omega) h0
  have hb := (fadd_ok (K := K) (one_bd.mono (Nat.zero_le K)) hx (by omega)).2
  have hF := bd_Fin hb (by omega : K + 2 ≤ 127)
  generalize fadd 1065353216 x = y at *
  refine ⟨?_, hF⟩
  rcases Nat.lt_or_ge (y % 2147483648) (127 * 8388608) with hlt | hge
  · exfalso
    have h2 := valN_lt hlt
    have e1 : valI 1065353216 = (valN (127 * 8388608) : Nat) := by decide +kernel
    rw [e1] at h1
    unfold valI at h1
    split at h1 <;> omega
  · exact hge
theorem stp_nonneg {v : Nat → Nat} {Wn Hn k : Nat} (hv : ∀ j, j < Wn * Hn → Bd 20 (v j)) (hk : k < Wn * Hn) (d : Nat) : 0 ≤ valI (stp v Wn Hn k d).2 := by
  induction d with
  | zero =>
    show (0 : Int) ≤ valI 0
    rw [val_zero]
    exact Int.le_refl _
  | succ d ih =>
    cases h : nbr Wn Hn k d with
    | none => rw [stp_none h]; exact ih
    | some n =>
      rw [stp_some h]
      split
      · rename_i hg
        have hb := (drop_ok d (hv _ hk) (hv _ (nbr_lt h))).2.2
        rw [gt_val (bd_Fin hb (by omega)) (bd_Fin (stp_bd hv hk (fun d n h => nbr_lt h) d) (by omega))] at hg
        simp at hg
        show 0 ≤ valI (dropF v k n d)
        omega
      · exact ih
/-- how wet a cell is -/
def wetF (v : Nat → Nat) (q : List Int) (Wn Hn k : Nat) : Nat := fdiv (rootI (q.getD k 0)) (fadd 1065353216 (stp v Wn Hn k 8).2)
theorem wet_ok {v : Nat → Nat} {q : List Int} {Wn Hn k : Nat} (hv : ∀ j, j < Wn * Hn → Bd 20 (v j)) (hk : k < Wn * Hn) (h0 : 0 ≤ q.getD k 0) (h1 : q.getD k 0 ≤ 1099511627776) :
    floatBits .add .f32 1065353216 (stp v Wn Hn k 8).2 = some (fadd 1065353216 (stp v Wn Hn k 8).2) ∧ floatBits .quo .f32 (rootI (q.getD k 0)) (fadd 1065353216 (stp v Wn Hn k 8).2) = some (wetF v q Wn Hn k) ∧ Bd 50 (wetF v q Wn Hn k) := by
  have hb := stp_bd hv hk (fun d n h => nbr_lt h) 8
  have h2 := one_more hb (by omega) (stp_nonneg hv hk 8)
  obtain ⟨r, h3, h4⟩ := fdiv_bd (rootI_bd h0 h1).2 h2 (by omega)
  have h5 : floatBits .quo .f32 (rootI (q.getD k 0)) (fadd 1065353216 (stp v Wn Hn k 8).2) = some r := h3
  have h6 : wetF v q Wn Hn k = r := by unfold wetF fdiv; rw [h5]; rfl
  exact ⟨(fadd_ok (one_bd.mono (Nat.zero_le 24)) hb (by omega)).1, by rw [h6]; exact h5, by rw [h6]; exact h4⟩
theorem nums_ok {q : List Int} {N : Nat} {most : Int} (h : numsE q N most = 0) : q.length = N ∧ ∀ k, k < N → 0 ≤ q.getD k 0 ∧ q.getD k 0 ≤ most := by
  unfold numsE at h
  split at h
  · exact absurd h (by decide)
  · rename_i h1
    split at h
    · exact absurd h (by decide)
    · rename_i h2
      refine ⟨by omega, fun k hk => ?_⟩
      have h3 : ¬ (q.getD k 0 < 0 ∨ most < q.getD k 0) := fun e => h2 ⟨k, by omega, e⟩
      omega
end Go.Proofs.Ytinohfgokpbcdaa
namespace Go.Proofs.Ytinohfgokpbcdaa
open Go.RowKit Ieee

theorem cut_one {neg : Bool} {n drop : Nat} (h : 2 ^ drop < 2 * n) : 1 ≤ Toward.even.cut neg n drop := by
  have hn : n ≠ 0 := by
    rintro rfl
    have := Nat.two_pow_pos drop
    omega
  have hl : n < 2 ^ (n.log2 + 1) := Nat.lt_log2_self
  have hd : drop < n.log2 + 2 := by
    refine (Nat.pow_lt_pow_iff_right (by omega : 1 < 2)).1 ?_
    rw [Nat.pow_succ]
    omega
  unfold Toward.cut
  simp only [Nat.shiftLeft_eq, Nat.one_mul]
  rw [Nat.min_eq_left (by omega)]
  rcases Nat.lt_or_ge n (2 ^ drop) with h1 | h1
  · rw [Nat.div_eq_of_lt h1, Nat.mod_eq_of_lt h1]
    simp [h]
  · have := (Nat.one_le_div_iff (Nat.two_pow_pos drop)).2 h1
    omega
theorem near_pos {m k N : Nat} (h0 : 2 ^ N < 2 * (m * 2 ^ (k + 149))) : 0 < valI (single.nearest false m ((k : Int) - N)) := by
  have hm : m ≠ 0 := by
    rintro rfl
    simp at h0
  have hlt := near_false m ((k : Int) - N)
  have hpos : single.nearest false m ((k : Int) - N) % 2147483648 ≠ 0 := by
    unfold Format.nearest
    rw [if_neg hm]
    simp only [single_binade, single_inf, single_least, single_frac]
    have hm1 : 2 ^ m.log2 ≤ m := Nat.log2_self_le hm
    have hc : ∀ last : Int, last = max ((k : Int) - N + m.log2 - 23) (-149) → 1 ≤ Toward.even.cut false (m <<< ((k : Int) - N - last).toNat) (last - ((k : Int) - N)).toNat := by
      intro last hlast
      refine cut_one ?_
      rw [Nat.shiftLeft_eq]
      have hs := Nat.two_pow_pos ((k : Int) - N - last).toNat
      have hge : m * 1 ≤ m * 2 ^ ((k : Int) - N - last).toNat := Nat.mul_le_mul_left _ hs
      by_cases h1 : (-149 : Int) ≤ (k : Int) - N + m.log2 - 23
      · have e : last = (k : Int) - N + m.log2 - 23 := by omega
        have h2 : (last - ((k : Int) - N)).toNat ≤ m.log2 := by omega
        have h3 : (2 : Nat) ^ (last - ((k : Int) - N)).toNat ≤ 2 ^ m.log2 := Nat.pow_le_pow_right (by omega) h2
        omega
      · have e : last = -149 := by omega
        by_cases h2 : k + 149 ≤ N
        · have e2 : (last - ((k : Int) - N)).toNat = N - (k + 149) := by omega
          rw [e2]
          have e3 : (2 : Nat) ^ N = 2 ^ (N - (k + 149)) * 2 ^ (k + 149) := by rw [← Nat.pow_add]; congr 1; omega
          rw [e3, ← Nat.mul_assoc] at h0
          have h4 := Nat.lt_of_mul_lt_mul_right h0
          omega
        · have e2 : (last - ((k : Int) - N)).toNat = 0 := by omega
          rw [e2, Nat.pow_zero]
          omega
    have h5 := hc _ rfl
    rw [word_rung (by omega)]
    simp only [show ((23 : Nat) : Int) = 23 from rfl] at *
    omega
  generalize single.nearest false m ((k : Int) - N) = r at *
  have h6 := valN_pos (Nat.pos_of_ne_zero hpos)
  unfold valI
  rw [Nat.div_eq_of_lt hlt]
  simpa using h6
theorem long_read (d : Nat) : ∃ n : Nat, single.read (longN d) = .number false n (((126 : Nat) : Int) - 149) ∧ 8388608 ≤ n ∧ n ≤ 11863283 ∧ n.log2 = 23 := by
  unfold longN
  split
  · exact ⟨11863283, by decide +kernel, by omega, by omega, by decide +kernel⟩
  · exact ⟨8388608, by decide +kernel, by omega, by omega, by decide +kernel⟩
theorem quo_pos {K x : Nat} (d : Nat) (hx : Bd K x) (hK : K ≤ 100) (h : 0 < valI x) : 0 < valI (fdiv x (longN d)) := by
  have hF : x % 2147483648 < 2139095040 := bd_Fin hx (by omega)
  have hx0 : x % 2147483648 ≠ 0 := fun h0 => by
    unfold valI at h
    rw [h0, valN_zero] at h
    split at h <;> omega
  obtain ⟨s, m, k, e1, hm, hl, _, _⟩ := read_num hF hx0
  obtain ⟨s', m', k', e', hsv, _, _⟩ := read_val hF
  have hee := e1.symm.trans e'
  simp only [Datum.number.injEq] at hee
  obtain ⟨rfl, rfl, hkk⟩ := hee
  obtain rfl : k = k' := by omega
  have hs0 : s = false := by
    cases s
    · rfl
    · rw [← hsv, signed_val, if_pos rfl] at h
      have := Nat.zero_le (m * 2 ^ k)
      omega
  subst hs0
  obtain ⟨n, e2, hn1, hn2, hn3⟩ := long_read d
  have hd : floatBits .quo .f32 x (longN d) = single.div x (longN d) := rfl
  unfold fdiv
  rw [hd]
  unfold Format.div
  rw [e1, e2]
  have hn : n ≠ 0 := by omega
  simp only [Datum.quotient, if_neg hn, Option.map_some, Option.getD_some, Format.write, single_frac]
  have hmore : 23 + 2 + n.log2 - m.log2 = 48 - m.log2 := by omega
  rw [hmore]
  generalize hE : 48 - m.log2 = more at *
  rw [show ((k : Int) - 149 - (((126 : Nat) : Int) - 149) - more - 1) = (k : Int) - ((126 + more + 1 : Nat) : Int) by omega]
  refine near_pos ?_
  rw [Nat.shiftLeft_eq]
  have hM48 : 2 ^ 48 ≤ m * 2 ^ more := by
    have h1 : 2 ^ m.log2 * 2 ^ more ≤ m * 2 ^ more := Nat.mul_le_mul_right _ (Nat.log2_self_le hm)
    rw [← Nat.pow_add, show m.log2 + more = 48 by omega] at h1
    exact h1
  have hMm : 1 * 2 ^ more ≤ m * 2 ^ more := Nat.mul_le_mul_right _ (Nat.pos_of_ne_zero hm)
  have hdm := Nat.div_add_mod (m * 2 ^ more) n
  have hml := Nat.mod_lt (m * 2 ^ more) (show 0 < n by omega)
  generalize (m * 2 ^ more % n != 0).toNat = st at *
  generalize hq : m * 2 ^ more / n = q at *
  generalize m * 2 ^ more % n = rr at *
  generalize m * 2 ^ more = M at *
  have hk : (2 : Nat) ^ (126 + more + 1) = 2 ^ 127 * 2 ^ more := by rw [← Nat.pow_add]; congr 1; omega
  have hk2 : (2 : Nat) ^ (k + 149) = 2 ^ 127 * (2 ^ 22 * 2 ^ k) := by rw [← Nat.pow_add, ← Nat.pow_add]; congr 1; omega
  rw [hk, hk2]
  generalize 2 ^ more = E at *
  have hP := Nat.two_pow_pos k
  generalize 2 ^ k = P at *
  have h7 : E < (2 * q + st) * 2 ^ 23 := by
    have h8 : E * 11863283 < (2 * q) * 2 ^ 23 * 11863283 := by
      have h9 : n * q ≤ 11863283 * q := Nat.mul_le_mul_right _ hn2
      have e23 : (2 : Nat) ^ 23 = 8388608 := by decide
      have e48 : (2 : Nat) ^ 48 = 281474976710656 := by decide
      rw [e23]
      rw [e48] at hM48
      omega
    have h10 : E < 2 * q * 2 ^ 23 := Nat.lt_of_mul_lt_mul_right h8
    exact Nat.lt_of_lt_of_le h10 (Nat.mul_le_mul_right _ (Nat.le_add_right _ _))
  have h11 : (2 * q + st) * 2 ^ 23 * 1 ≤ (2 * q + st) * 2 ^ 23 * P := Nat.mul_le_mul_left _ hP
  have e : 2 * ((2 * q + st) * (2 ^ 127 * (2 ^ 22 * P))) = 2 ^ 127 * ((2 * q + st) * 2 ^ 23 * P) := by
    have e23 : (2 : Nat) ^ 23 = 2 * 2 ^ 22 := by decide
    rw [e23]
    clear h7 h11 hk hk2 hM48 hMm e23
    generalize (2 : Nat) ^ 127 = Z
    generalize (2 : Nat) ^ 22 = Y
    generalize 2 * q + st = u
    ac_rfl
  rw [e]
  exact Nat.mul_lt_mul_of_pos_left (by omega) (Nat.two_pow_pos _)
theorem drop_pos {v : Nat → Nat} {k n : Nat} (d : Nat) (hk : Bd 20 (v k)) (hn : Bd 20 (v n)) (h : valI (v n) < valI (v k)) : 0 < valI (dropF v k n d) := by
  obtain ⟨h1, h2⟩ := fsub_ok hk hn (by omega)
  refine quo_pos d h2 (by omega) ?_
  have hkey := fsub_key (K := 20) hk hn (by omega)
  have hm := rkey_mono (show (1 : Int) ≤ valI (v k) - valI (v n) by omega)
  rw [← hkey] at hm
  have e1 : rkey 1 = 1 := by decide +kernel
  rw [e1] at hm
  have e0 : keyI 0 = 0 := by decide +kernel
  have := (val_key (x := 0) (y := fsub (v k) (v n))).2 (by rw [e0]; omega)
  rwa [val_zero] at this
theorem stp_neg {v : Nat → Nat} {Wn Hn k : Nat} : ∀ d, (stp v Wn Hn k d).1 < 0 → stp v Wn Hn k d = (-1, 0)
  | 0, _ => rfl
  | d + 1, h => by
    cases hn : nbr Wn Hn k d with
    | none =>
      rw [stp_none hn] at h ⊢
      exact stp_neg d h
    | some n =>
      rw [stp_some hn] at h ⊢
      split at h
      · simp at h
        omega
      · rename_i hg
        rw [if_neg hg]
        exact stp_neg d h
theorem stp_up1 {v : Nat → Nat} {Wn Hn k d : Nat} (h : 0 ≤ (stp v Wn Hn k d).1) : 0 ≤ (stp v Wn Hn k (d + 1)).1 := by
  cases hn : nbr Wn Hn k d with
  | none => rw [stp_none hn]; exact h
  | some n =>
    rw [stp_some hn]
    split
    · show (0 : Int) ≤ (d : Int)
      omega
    · exact h
theorem stp_upN {v : Nat → Nat} {Wn Hn k d : Nat} (h : 0 ≤ (stp v Wn Hn k d).1) : ∀ e, 0 ≤ (stp v Wn Hn k (d + e)).1
  | 0 => h
  | e + 1 => stp_up1 (stp_upN h e)
theorem stp_low {v : Nat → Nat} {Wn Hn k d n : Nat} (hv : ∀ j, j < Wn * Hn → Bd 20 (v j)) (hk : k < Wn * Hn) (hd : d < 8) (hn : nbr Wn Hn k d = some n) (h : valI (v n) < valI (v k)) : 0 ≤ (stp v Wn Hn k 8).1 := by
  have hp := drop_pos d (hv k hk) (hv n (nbr_lt hn)) h
  have h1 : 0 ≤ (stp v Wn Hn k (d + 1)).1 := by
    rcases Int.lt_or_le (stp v Wn Hn k d).1 0 with h2 | h2
    · have e := stp_neg d h2
      have hb := (drop_ok d (hv k hk) (hv n (nbr_lt hn))).2.2
      rw [stp_some hn, e, if_pos (by rw [gt_val (bd_Fin hb (by omega)) (show Fin 0 by unfold Fin; omega), val_zero]; simpa using hp)]
      show (0 : Int) ≤ (d : Int)
      omega
    · exact stp_up1 h2
  have := stp_upN h1 (7 - d)
  rwa [show d + 1 + (7 - d) = 8 by omega] at this
end Go.Proofs.Ytinohfgokpbcdaa
