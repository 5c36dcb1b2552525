/- Contract: water.Gather where its arguments are right. -/
import Derived.Test.YtinohfgokpbcdaaDiAD
import Derived.RegionTactic
import Derived.ChangeAlike
import Derived.Test.YtinohfgokpbcdaaWetA
namespace Go.Proofs.Ytinohfgokpbcdaa
open Go.RowKit
attribute [local go_sem ↓] Go.wp_at_zero Go.wp_at_succ
attribute [local go_sem] run_store_float

/-- the first N cells of a block of integers of cp cells -/
def CI (w : World) (g cp N : Nat) (f : Nat → Int) : Prop := ∃ cur, Bk w g 3 cur ∧ N ≤ cp ∧ cur.size = cp ∧ ∀ k, k < N → cur[k]? = some (.int .i64 (f k))
theorem CI.ext {w w' : World} {g cp N : Nat} {f : Nat → Int} (h : CI w g cp N f) (hx : Ext w w') : CI w' g cp N f := let ⟨_, h1, h2⟩ := h; ⟨_, h1.ext hx, h2⟩
theorem CI.far {w : World} {g cp N : Nat} {f : Nat → Int} (h : CI w g cp N f) {p : Addr} (hp : g ≠ p.block) (u : Value) : CI (w.setCell p u) g cp N f := let ⟨_, h1, h2⟩ := h; ⟨_, h1.far hp u, h2⟩
theorem CI.put {w : World} {g cp N : Nat} {f : Nat → Int} (h : CI w g cp N f) (k : Nat) (x : Int) : CI (w.setCell ⟨g, k, none⟩ (.int .i64 x)) g cp N (updF f k x) := by
  obtain ⟨cur, h1, h2, h3, h4⟩ := h
  refine ⟨_, Bk.set h1 k (.int .i64 x), h2, by simp [h3], fun j hj => ?_⟩
  rw [Array.getElem?_setIfInBounds]
  unfold updF
  by_cases e : k = j
  · subst e
    rw [if_pos rfl, if_pos (by omega), if_pos rfl]
  · rw [if_neg e, if_neg (fun q => e q.symm)]
    exact h4 j hj
theorem CI.cell {w : World} {g cp N k : Nat} {f : Nat → Int} (h : CI w g cp N f) (hk : k < N) : w.cell? ⟨g, k, none⟩ = some (.int .i64 (f k)) := by
  obtain ⟨cur, h1, _, _, h4⟩ := h
  rw [h1.cell]
  exact h4 k hk
theorem CI.frozen {w : World} {g cp N : Nat} {f : Nat → Int} (h : CI w g cp N f) (k : Nat) : w.frozen? ⟨g, k, none⟩ = false := let ⟨_, h1, _⟩ := h; h1.frozen k
theorem CI.lt {w : World} {g cp N : Nat} {f : Nat → Int} (h : CI w g cp N f) : g < w.heap.size := let ⟨_, h1, _⟩ := h; h1.lt
theorem CI.ne {w : World} {g cp N b : Nat} {f : Nat → Int} {t : TypeId} {cs : Array Value} (h : CI w g cp N f) (hb : Bk w b t cs) (ht : t ≠ 3) : b ≠ g := let ⟨_, h1, _⟩ := h; Bk.ne hb h1 ht
theorem CI.congr {w : World} {g cp N : Nat} {f f' : Nat → Int} (h : CI w g cp N f) (e : ∀ k, k < N → f k = f' k) : CI w g cp N f' := let ⟨cur, h1, h2, h3, h4⟩ := h; ⟨cur, h1, h2, h3, fun k hk => by rw [← e k hk]; exact h4 k hk⟩
theorem CI.of_bk {w : World} {g N : Nat} {f : Nat → Int} (h : Bk w g 3 (intB N f)) : CI w g N N f := ⟨_, h, Nat.le_refl _, by simp [intB], fun _ hk => intB_get _ hk⟩
theorem CI.dirs {w : World} {g cp N : Nat} {f : Nat → Int} (h : CI w g cp N f) : DirsAt w (some ⟨g, 0, none⟩) N f := fun _ => by
  refine ⟨_, rfl, h.lt, fun j u hu => ?_⟩
  have hj : j < N := by
    have := (List.getElem?_eq_some_iff.1 hu).1
    simpa [intL] using this
  rw [lit_add, h.cell hj]
  simpa [intL, hj] using hu
/-- what gather holds in memory -/
structure GW (W0 w : World) (hr go cp : Nat) (X Y : Int) (Wn Hn N B : Nat) (Q : Option Addr) (cap : Nat) (L : List Nat) (O : Nat → Int) : Prop where
  rb : Bk w hr 23 #[.int .i64 X, .int .i64 Y, .int .i64 (Wn : Int), .int .i64 (Hn : Int)]
  ob : CI w go cp N O
  qs : Qs w B 3 Q L.length cap (inq L)
  ext : Ext W0 w
  b1 : W0.heap.size ≤ go
  b2 : go < B
section
variable {W0 w : World} {hr go cp : Nat} {X Y : Int} {Wn Hn N B : Nat} {Q : Option Addr} {cap : Nat} {L : List Nat} {O : Nat → Int}
theorem GW.step (h : GW W0 w hr go cp X Y Wn Hn N B Q cap L O) {w' : World} (hx : Ext w w') : GW W0 w' hr go cp X Y Wn Hn N B Q cap L O := ⟨h.rb.ext hx, h.ob.ext hx, h.qs.kept (fun _ _ hl => hx.block _ hl), h.ext.trans hx, h.b1, h.b2⟩
theorem GW.put (h : GW W0 w hr go cp X Y Wn Hn N B Q cap L O) (n : Nat) (x : Int) : GW W0 (w.setCell ⟨go, n, none⟩ (.int .i64 x)) hr go cp X Y Wn Hn N B Q cap L (updF O n x) :=
  ⟨h.rb.far (h.ob.ne h.rb (by decide)) _, h.ob.put n x, h.qs.kept (fun a ha _ => Below.heap_setCell w _ _ _ (fun e => by
    have h1 := (h.qs.lt ha).1
    have h2 := h.b2
    have e2 : a.block = go := e
    omega)), h.ext.setCell (p := ⟨go, n, none⟩) h.b1 _, h.b1, h.b2⟩
end
set_option maxRecDepth 100000 in
set_option maxHeartbeats 6400000 in
theorem gather_any (X Y : Int) (Wn Hn N c cR : Nat) (A R : Option Addr) (D : Nat → Int) (m : Nat → Nat) (tr : Nat → List Nat) (rain : Nat → Int) (w : World) (hr : Reg X Y Wn Hn) (hN : N = Wn * Hn) (hD : DirsAt w A N D) (hL : Lead Wn Hn N D m) (htr : ∀ k, k < N → IsTr D Wn Hn k (tr k))
    (hR : DirsAt w R N rain) (hb : ∀ k, k < N → 0 ≤ rain k ∧ rain k ≤ 1073741824) :
    Calls Try.prog 108 #[rgv X Y Wn Hn, .slice A N c, .slice R N cR] w fun e w' => ∃ g cp, e = .returned (.slice (some ⟨g, 0, none⟩) N cp) ∧ CI w' g cp N (gatV tr rain N) ∧ w.heap.size ≤ g ∧ Ext w w' := by
  have hN6 : N ≤ 65536 := by rw [hN]; exact hr.n
  have hN1 : 1 ≤ N := by rw [hN]; exact Nat.mul_pos hr.w1 hr.h1
  have HNx := hidA (fun (k : Nat) (w' : World) (hk : k < N) (h : Ext w w') => next_any X Y Wn Hn N k c A D w' hr hN (hD.ext h) hk (hL.rng k hk).1 (hL.rng k hk).2 (hL.valid.into k hk))
  have HDn := hidA (fun (w' : World) (h : Ext w w') => downward_any X Y Wn Hn N c A D w' hr hN (hD.ext h) hL.valid)
  unfold rgv at HNx HDn ⊢
  obtain ⟨i0, hi0, hz0, hz1, hz2⟩ := info_parts infoIntW
  have Hlt := hidA (fun (k n : Nat) (h : nxtD D Wn Hn k = some n) => show n < N from by rw [hN]; exact nxt_lt h)
  have Hall := hidA (fun (L : List Nat) (h : Topo (nxtD D Wn Hn) N L) => h.all m (fun p n hp hn => (hL.nxt hN hp hn).2))
  have Hgn := hidA (fun (P : List Nat) (q : Nat) (hq : q ∉ P) (hn : nxtD D Wn Hn q = none) => gat_none (rain := rain) htr hq hn)
  have Hgs := hidA (fun (P : List Nat) (q n : Nat) (hq : q ∉ P) (hn : nxtD D Wn Hn q = some n) (hnP : n ∉ P) (hnq : n ≠ q) => gat_some (rain := rain) htr hq hn hnP hnq)
  have Hge := hidA (fun (P : List Nat) (hP : ∀ k, k < N → k ∈ P) => gat_end (rain := rain) htr hN hP)
  have Hgb := hidA (fun (P : List Nat) (c : Nat) => gatP_bd (tr := tr) (show (0 : Int) ≤ 1073741824 by omega) hb P c)
  obtain ⟨ad, rfl, _, _⟩ := hR.cell (k := 0) (by omega)
  have HR := hidA hR
  have kR : Bk (w.alloc (.cells #[.int .i64 X, .int .i64 Y, .int .i64 (Wn : Int), .int .i64 (Hn : Int)] 23)) w.heap.size 23 #[.int .i64 X, .int .i64 Y, .int .i64 (Wn : Int), .int .i64 (Hn : Int)] := Bk.new' rfl
  have hx0 : Ext w (w.alloc (.cells #[.int .i64 X, .int .i64 Y, .int .i64 (Wn : Int), .int .i64 (Hn : Int)] 23)) := (Ext.refl w).alloc _
  clear hr hN hD hL htr hR hb
  generalize nxtD D Wn Hn = nx at *
  go_enter Try.func108, Try.ntmps108
  go_upto_region 1 with fail
  generalize hw1 : w.alloc (.cells #[.int .i64 X, .int .i64 Y, .int .i64 (Wn : Int), .int .i64 (Hn : Int)] 23) = w1 at *
  clear hw1
  generalize hhr : w.heap.size = hr at kR ⊢
  have Hhr := hidA hhr
  clear hhr
  go_upto_region 2 with (at_builtin; refine wpList_append_own _ rfl _ _ 41 rfl w1.heap.size 3 i0 (.int .i64 0) 1 8 Try.underlying41 hi0 hz0 hz1 hz2 rfl (by decide) _ _ _ rfl (World.ownsRow_nil w1 _ _ 1) ad N cR (intL ((List.range N).map rain)) rfl ?qc1 ?qc2 ?qc3 ?qc4 ?qc5 ?qc6 ?_)
  case qc2 =>
    intro j u hj
    have hjl : j < (intL ((List.range N).map rain)).length := (List.getElem?_eq_some_iff.1 hj).1
    obtain ⟨ad', e, _, hcv⟩ := (HR.out.ext hx0).at (k := j) hjl
    cases e
    exact hcv j u hj
  case qc3 =>
    intro u hu
    simp [intL] at hu
    obtain ⟨x, _, rfl⟩ := hu
    rfl
  case qc4 => unfold maxLen; omega
  case qc5 => omega
  case qc6 => simp
  case qc1 => simp [intL]
  intro vv w3 hown hgrow hnil
  have hx3 : Ext w1 w3 := Ext.grown (Ext.refl w1) hgrow (by intro k hk; simp [Value.ownBlock] at hk)
  obtain ⟨go, cp, rfl, hge, hC⟩ : ∃ gv cp, vv = .slice (some ⟨gv, 0, none⟩) N cp ∧ w1.heap.size ≤ gv ∧ CI w3 gv cp N rain := by
    rcases hown.2 with ⟨_, h0⟩ | ⟨g, cap, cur, hv, hge, hblk, hle, hmax, hsz, htake⟩
    · omega
    · refine ⟨g, cap, hv, hge, cur, hblk, by omega, by simpa using hsz, fun k hk => ?_⟩
      have e1 : (cur.toList.take (N * 1))[k]? = some (.int .i64 (rain k)) := by
        rw [htake]
        simp [intL, hk]
      rw [List.getElem?_take, if_pos (by omega)] at e1
      simpa using e1
  have hgl := hC.lt
  have kR3 := kR.ext hx3
  have hxw := hx0.trans hx3
  have hw1s := hx0.size
  clear hown hgrow hnil hx3 kR hx0
  have c0 := kR3.cell 0
  have c1 := kR3.cell 1
  have c2 := kR3.cell 2
  have c3 := kR3.cell 3
  go_upto_region 3 with (go_at_call 105; refine (HDn.out _ hxw).mono ?_; rintro e w4 ⟨Q, cap, L, rfl, hQ, hT, hx4⟩)
  have hS : GW w w4 hr go cp X Y Wn Hn N w3.heap.size Q cap L (gatP tr rain (L.take 0) N) :=
    ⟨kR3.ext hx4, (hC.ext hx4).congr fun k hk => by rw [List.take_zero, gat_start hk], hQ, hxw.trans hx4, by omega, hgl⟩
  have HT := hidA hT
  clear hT hQ hx4 hC kR3 c0 c1 c2 c3 HDn hgl hxw
  generalize w3.heap.size = bs at *
  go_loopw [17] (fun s17 wr => ∃ (i : Nat), i ≤ L.length ∧ s17 = .int .i64 i ∧ GW w wr hr go cp X Y Wn Hn N bs Q cap L (gatP tr rain (L.take i) N)) (fun s17 _ => L.length - (intOf s17).toNat)
  case atStart => exact ⟨0, Nat.zero_le _, rfl, hS⟩
  case round =>
    clear hS
    obtain ⟨i, hi, rfl, hS⟩ := hrel
    by_cases hiL : i < L.length
    · have i1 : (0 : Int) ≤ i := by omega
      have i2 : (i : Int) < L.length := by omega
      have hll := nodup_le HT.out.nd HT.out.lt
      have hq := HT.out.lt _ (List.getElem_mem hiL)
      have hqP := nd_take HT.out.nd hiL
      have hah := hidA (fun n h => HT.out.ahead (n := n) hiL h)
      have hqm := hidA ((take_more hiL L[i]).2 (.inr rfl))
      have ht1 := hidA (show L.take (i + 1) = L.take i ++ [L[i]] from List.take_succ_eq_append_getElem hiL)
      obtain ⟨aq, rfl, _, hcv⟩ := hS.qs.rd.at (k := i) (by rw [inq_length]; exact hiL)
      have q0 := hcv i _ (inq_get hiL)
      clear hcv
      have Hgb1 := Hgb.out (L.take i) L[i]
      have HNk := fun w' h => HNx.out L[i] w' hq h
      generalize L[i] = q at *
      cases hn : nx q with
      | none =>
        rw [hn, show nbI none = -1 from rfl] at HNk
        have hg2 := hidA (fun c => by rw [ht1.out, Hgn.out (L.take i) q hqP hn c] : ∀ c, gatP tr rain (L.take (i + 1)) N c = gatP tr rain (L.take i) N c)
        clear hn hqP Hgb1
        have c0 := hS.rb.cell 0
        have c1 := hS.rb.cell 1
        have c2 := hS.rb.cell 2
        have c3 := hS.rb.cell 3
        go_wp2_with (go_at_call 107; refine (HNk _ (hS.ext.trans (by repeat (first | exact Ext.refl _ | assumption | refine Ext.setCell ?_ (by first | (simp; done) | (simp; omega)) _ | refine Ext.drewN ?_ _ | refine Ext.alloc ?_ _ | refine Ext.drew ?_ | refine Ext.trans ?_ (by assumption))))).mono ?_; rintro e w6 ⟨rfl, hx6⟩)
        have hS6 := hS.step hx6
        go_roundw
        case rel => exact ⟨i + 1, by omega, by go_num, hS6.rb, hS6.ob.congr (fun c _ => (hg2.out c).symm), hS6.qs, hS6.ext, hS6.b1, hS6.b2⟩
        case measure => simp [intOf]; omega
      | some n =>
        have hnN := Hlt.out q n hn
        rw [hn, show nbI (some n) = (n : Int) from rfl] at HNk
        have hn1 := hah.out n hn
        have hnP : n ∉ L.take i := fun h => hn1 (take_le (Nat.le_succ i) h)
        have hnq : n ≠ q := fun e => hn1 (by rw [e]; exact hqm.out)
        have hg2 := hidA (fun c => by rw [ht1.out, Hgs.out (L.take i) q n hqP hn hnP hnq c] : ∀ c, gatP tr rain (L.take (i + 1)) N c = updF (gatP tr rain (L.take i) N) n (gatP tr rain (L.take i) N n + gatP tr rain (L.take i) N q) c)
        have Hgb2 := Hgb.out (L.take i) n
        obtain ⟨y1, y2⟩ := Hgb1
        obtain ⟨z1, z2⟩ := Hgb2
        have j1 : (0 : Int) ≤ n := by omega
        have j2 : (n : Int) < N := by omega
        have j3 : (0 : Int) ≤ q := by omega
        have j4 : (q : Int) < N := by omega
        clear hn hqP hn1 hnP hnq
        have c0 := hS.rb.cell 0
        have c1 := hS.rb.cell 1
        have c2 := hS.rb.cell 2
        have c3 := hS.rb.cell 3
        go_upto_region 7 with (go_at_call 107; refine (HNk _ (hS.ext.trans (by repeat (first | exact Ext.refl _ | assumption | refine Ext.setCell ?_ (by first | (simp; done) | (simp; omega)) _ | refine Ext.drewN ?_ _ | refine Ext.alloc ?_ _ | refine Ext.drew ?_ | refine Ext.trans ?_ (by assumption))))).mono ?_; rintro e w6 ⟨rfl, hx6⟩)
        have hS6 := hS.step hx6
        clear c0 c1 c2 c3 hS hx6 HNk q0
        have q1 := hS6.ob.cell hnN
        have q2 := hS6.ob.cell hq
        have q3 := hS6.ob.frozen n
        have hS7 := hidA (hS6.put n (gatP tr rain (L.take i) N n + gatP tr rain (L.take i) N q))
        clear hS6
        generalize hyq : gatP tr rain (L.take i) N q = y at *
        generalize hzn : gatP tr rain (L.take i) N n = z at *
        have hsum : z + y ≤ 140737488355328 := by omega
        have hy3 : y ≤ 70368744177664 := by omega
        have hz3 : z ≤ 70368744177664 := by omega
        clear y2 z2 hyq hzn
        go_region
        go_wp2_with fail
        go_roundw
        case rel =>
          have h := hS7.out.step (Ext.drew (Ext.refl _))
          exact ⟨i + 1, by omega, by go_num, h.rb, h.ob.congr (fun c _ => (hg2.out c).symm), h.qs, h.ext, h.b1, h.b2⟩
        case measure => simp [intOf]; omega
    · obtain rfl : i = L.length := by omega
      have hO := hS.ob
      rw [List.take_length] at hO
      have hO2 := hidA (hO.congr (f' := gatV tr rain N) fun k _ => Hge.out L (Hall.out L HT.out) k)
      clear hO
      go_wp2_with fail
      go_ret
      exact ⟨go, cp, rfl, hO2.out, by have := hS.b1; have := Hhr.out; omega, hS.ext⟩
end Go.Proofs.Ytinohfgokpbcdaa

namespace Go.Proofs.Ytinohfgokpbcdaa
open Go.RowKit
attribute [local go_sem ↓] Go.wp_at_zero Go.wp_at_succ
attribute [local go_sem] run_store_float

theorem nums_zero {N : Nat} {q : List Int} {most : Int} (hq : q.length = N) (h : ∀ k, k < N → 0 ≤ q.getD k 0 ∧ q.getD k 0 ≤ most) : numsE q N most = 0 := by
  unfold numsE
  rw [if_neg (fun e => e hq), if_neg]
  rintro ⟨k, hk, h1⟩
  have := h k (by omega)
  omega
set_option maxRecDepth 100000 in
set_option maxHeartbeats 3200000 in
theorem Gather_ok (X Y : Int) (Wn Hn N c cR : Nat) (A R : Option Addr) (D : Nat → Int) (m : Nat → Nat) (tr : Nat → List Nat) (q : List Int) (w : World) (hr : Reg X Y Wn Hn) (hr0 : regE X Y Wn Hn = 0) (hN : N = Wn * Hn) (hD : DirsAt w A N D) (hL : Lead Wn Hn N D m) (htr : ∀ k, k < N → IsTr D Wn Hn k (tr k))
    (hq : q.length = N) (hR : Rd w R (intL q)) (hb : ∀ k, k < N → 0 ≤ q.getD k 0 ∧ q.getD k 0 ≤ 1073741824) :
    Calls Try.prog 48 #[rgv X Y Wn Hn, .slice A N c, .slice R N cR] w fun e w' => ∃ g cp, e = .returned (.tuple #[.slice (some ⟨g, 0, none⟩) N cp, .int .i64 0]) ∧ CI w' g cp N (gatV tr (fun k => q.getD k 0) N) ∧ w.heap.size ≤ g ∧ Ext w w' := by
  have hN6 : N ≤ 65536 := by rw [hN]; exact hr.n
  have eq : (List.range N).map (fun k => q.getD k 0) = q := by
    apply List.ext_getElem
    · simp [hq]
    · intro i h1 h2
      simp [List.getD_eq_getElem?_getD, h2]
  have hRD : DirsAt w R N (fun k => q.getD k 0) := by
    unfold DirsAt
    rw [eq]
    exact hR
  have HC := hidA (fun (w' : World) (h : Ext w w') => CheckDirs_ok X Y Wn Hn N c A D m w' hr hr0 hN (hD.ext h) hL)
  have HK := hidA (fun (w' : World) (h : Ext w w') => checkNumbers_any X Y Wn Hn N N R cR q 1073741824 w' hr hN hq (Rd.ext hR h) (by omega))
  rw [nums_zero hq hb] at HK
  have HG := hidA (fun (w' : World) (h : Ext w w') => gather_any X Y Wn Hn N c cR A R D m tr (fun k => q.getD k 0) w' hr hN (hD.ext h) hL htr (hRD.ext h) hb)
  unfold rgv at HC HK HG ⊢
  have kR : Bk (w.alloc (.cells #[.int .i64 X, .int .i64 Y, .int .i64 (Wn : Int), .int .i64 (Hn : Int)] 23)) w.heap.size 23 #[.int .i64 X, .int .i64 Y, .int .i64 (Wn : Int), .int .i64 (Hn : Int)] := Bk.new' rfl
  have hx0 : Ext w (w.alloc (.cells #[.int .i64 X, .int .i64 Y, .int .i64 (Wn : Int), .int .i64 (Hn : Int)] 23)) := (Ext.refl w).alloc _
  clear hr hr0 hN hD hL htr hq hR hb eq hRD
  go_enter Try.func48, Try.ntmps48
  go_upto_region 1 with fail
  generalize w.alloc (.cells #[.int .i64 X, .int .i64 Y, .int .i64 (Wn : Int), .int .i64 (Hn : Int)] 23) = w1 at *
  generalize hh0 : w.heap.size = h0 at kR ⊢
  have Hh0 := hidA hh0
  clear hh0
  have c0 := kR.cell 0
  have c1 := kR.cell 1
  have c2 := kR.cell 2
  have c3 := kR.cell 3
  go_upto_region 4 with (go_at_call 45; refine (HC.out _ (hx0.trans (by repeat (first | exact Ext.refl _ | assumption | refine Ext.setCell ?_ (by first | (simp; done) | (simp; omega)) _ | refine Ext.drewN ?_ _ | refine Ext.alloc ?_ _ | refine Ext.drew ?_ | refine Ext.trans ?_ (by assumption))))).mono ?_; rintro e w2 ⟨rfl, hx2⟩)
  have kR2 := kR.ext hx2
  have hxw := hx0.trans hx2
  clear c0 c1 c2 c3 kR hx0 hx2 HC
  have c0 := kR2.cell 0
  have c1 := kR2.cell 1
  have c2 := kR2.cell 2
  have c3 := kR2.cell 3
  go_upto_region 7 with (go_at_call 89; refine (HK.out _ (hxw.trans (by repeat (first | exact Ext.refl _ | assumption | refine Ext.setCell ?_ (by first | (simp; done) | (simp; omega)) _ | refine Ext.drewN ?_ _ | refine Ext.alloc ?_ _ | refine Ext.drew ?_ | refine Ext.trans ?_ (by assumption))))).mono ?_; rintro e w3 ⟨rfl, hx3⟩)
  have kR3 := kR2.ext hx3
  have hxw3 := hxw.trans hx3
  clear c0 c1 c2 c3 kR2 hxw hx3 HK
  have c0 := kR3.cell 0
  have c1 := kR3.cell 1
  have c2 := kR3.cell 2
  have c3 := kR3.cell 3
  go_wp2_with (go_at_call 108; refine (HG.out _ hxw3).mono ?_; rintro e w4 ⟨g, cp, rfl, hC, hg, hx4⟩)
  exact bodyPost_ret (v := .tuple #[.slice (some ⟨g, 0, none⟩) N cp, .int .i64 0]) (by simp [results, Try.results48, go_sem]) rfl ⟨g, cp, rfl, hC, by have := hxw3.size; omega, hxw3.trans hx4⟩
end Go.Proofs.Ytinohfgokpbcdaa
