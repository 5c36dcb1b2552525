/- Contract: water.Basins where the directions lead downward. -/
import Derived.Test.YtinohfgokpbcdaaDiAI
import Derived.Test.YtinohfgokpbcdaaDiAD
import Derived.Test.YtinohfgokpbcdaaDiAF
import Derived.Test.YtinohfgokpbcdaaShowA
import Derived.Deep.AppendLies
import Derived.RegionTactic
import Derived.ChangeAlike
namespace Go.Proofs.Ytinohfgokpbcdaa
open Go.RowKit
attribute [local go_sem ↓] Go.wp_at_zero Go.wp_at_succ
attribute [local go_sem] run_store_float

theorem infoPnt : (Try.prog.info? 76).map (fun i => (i.zero, i.size, i.bytes)) = some (some (.agg #[.int .i64 0, .int .i64 0]), 2, 16) := by kernel_rfl
theorem own_form {w : World} {base n sz : Nat} {t : TypeId} {v : Value} {xs : List Value} (h : w.ownsRow base t sz v n xs) : ∃ A cap, v = .slice A n cap := by
  rcases h.2 with ⟨h1, h2⟩ | ⟨g, cap, cur, hv, _⟩
  · exact ⟨none, 0, by rw [h1]; simp [h2]⟩
  · exact ⟨_, cap, hv⟩
/-- points as cells -/
def ptsC (X Y : Int) (Wn : Nat) (M : List Nat) : List Value := M.flatMap fun k => [.int .i64 (colK X Wn k), .int .i64 (rowK Y Wn k)]
theorem ptsC_snoc {X Y : Int} {Wn : Nat} {M : List Nat} {k : Nat} : ptsC X Y Wn (M ++ [k]) = ptsC X Y Wn M ++ [.int .i64 (colK X Wn k), .int .i64 (rowK Y Wn k)] := by simp [ptsC]
/-- the mouths, in order -/
def mouL (D : Nat → Int) (n : Nat) : List Nat := (List.range n).filter (mouB D)
theorem mouL_len (D : Nat → Int) : ∀ n, (mouL D n).length = cntB (mouB D) n
  | 0 => rfl
  | n + 1 => by
    unfold mouL
    rw [List.range_succ, List.filter_append, List.length_append, cntB]
    have := mouL_len D n
    unfold mouL at this
    rw [this]
    cases h : mouB D n <;> simp [h]
/-- what Basins holds in its first loop -/
structure BW (W0 w : World) (hr go : Nat) (X Y : Int) (Wn Hn N : Nat) (O : Nat → Int) (v : Value) (M : List Nat) : Prop where
  rb : Bk w hr 23 #[.int .i64 X, .int .i64 Y, .int .i64 (Wn : Int), .int .i64 (Hn : Int)]
  ob : Bk w go 3 (intB N O)
  own : w.ownsRow W0.heap.size 76 2 v M.length (ptsC X Y Wn M)
  ext : Ext W0 w
  b1 : W0.heap.size ≤ go
theorem BW.step {W0 w : World} {hr go : Nat} {X Y : Int} {Wn Hn N : Nat} {O : Nat → Int} {v : Value} {M : List Nat} (h : BW W0 w hr go X Y Wn Hn N O v M) {w' : World} (hx : Ext w w') : BW W0 w' hr go X Y Wn Hn N O v M := ⟨h.rb.ext hx, h.ob.ext hx, World.ownsRow.kept h.own (grown_ext hx none) (by cases h : v.ownBlock <;> simp), h.ext.trans hx, h.b1⟩
theorem BW.put {W0 w : World} {hr go : Nat} {X Y : Int} {Wn Hn N : Nat} {O : Nat → Int} {v : Value} {M : List Nat} (h : BW W0 w hr go X Y Wn Hn N O v M) (k : Nat) (x : Int) : BW W0 (w.setCell ⟨go, k, none⟩ (.int .i64 x)) hr go X Y Wn Hn N (updF O k x) v M := by
  have e1 := Bk.set h.ob k (.int .i64 x)
  rw [intB_set] at e1
  exact ⟨h.rb.far (Bk.ne h.rb h.ob (by decide)) _, e1, ownsRow_setCell_other h.own (fun e => own_ne h.own h.ob (by decide) e.symm) _, h.ext.setCell h.b1 _, h.b1⟩
theorem BW.app {W0 w : World} {hr go : Nat} {X Y : Int} {Wn Hn N : Nat} {O : Nat → Int} {v : Value} {M : List Nat} (h : BW W0 w hr go X Y Wn Hn N O v M) {w' : World} {v' : Value} {k : Nat} (hg : w.grownBy w' v.ownBlock) (ho : w'.ownsRow W0.heap.size 76 2 v' (M.length + 1) (ptsC X Y Wn M ++ [.int .i64 (colK X Wn k), .int .i64 (rowK Y Wn k)])) : BW W0 w' hr go X Y Wn Hn N O v' (M ++ [k]) := by
  refine ⟨h.rb.grown hg (own_ne h.own h.rb (by decide)), h.ob.grown hg (own_ne h.own h.ob (by decide)), ?_, h.ext.grown hg (fun q he => (World.ownsRow.lt h.own q he).1), h.b1⟩
  rw [List.length_append, ptsC_snoc]
  exact ho
set_option maxRecDepth 100000 in
set_option maxHeartbeats 6400000 in
theorem Basins_ok (X Y : Int) (Wn Hn N c : Nat) (A : Option Addr) (D : Nat → Int) (m : Nat → Nat) (tr : Nat → List Nat) (w : World) (hr : Reg X Y Wn Hn) (hr0 : regE X Y Wn Hn = 0) (hN : N = Wn * Hn) (hD : DirsAt w A N D) (hL : Lead Wn Hn N D m) (htr : ∀ k, k < N → IsTr D Wn Hn k (tr k)) :
    Calls Try.prog 49 #[rgv X Y Wn Hn, .slice A N c] w fun e w' => ∃ go v, e = .returned (.tuple #[.slice (some ⟨go, 0, none⟩) N N, v, .int .i64 0]) ∧ Bk w' go 3 (intB N fun k => (basV D tr k : Int)) ∧ w'.ownsRow w.heap.size 76 2 v (mouL D N).length (ptsC X Y Wn (mouL D N)) ∧ w.heap.size ≤ go ∧ Ext w w' := by
  have hN6 : N ≤ 65536 := by rw [hN]; exact hr.n
  have HC := hidA (fun (w' : World) (h : Ext w w') => CheckDirs_ok X Y Wn Hn N c A D m w' hr hr0 hN (hD.ext h) hL)
  have HPt := hidA (fun (n : Nat) (w : World) (hn : n < N) => point_any X Y Wn Hn n w hr (by rw [← hN]; exact hn))
  have HDn := hidA (fun (w' : World) (h : Ext w w') => downward_any X Y Wn Hn N c A D w' hr hN (hD.ext h) hL.valid)
  have HNx := hidA (fun (k : Nat) (w' : World) (hk : k < N) (h : Ext w w') => next_any X Y Wn Hn N k c A D w' hr hN (hD.ext h) hk (hL.rng k hk).1 (hL.rng k hk).2 (hL.valid.into k hk))
  unfold rgv at HC HPt HDn HNx ⊢
  have Hall := hidA (fun (L : List Nat) (h : Topo (nxtD D Wn Hn) N L) => h.all m (fun p n hp hn => (hL.nxt hN hp hn).2))
  have Hmn := hidA (fun (k : Nat) (hk : k < N) => mou_nxt hL hk)
  have Hen := hidA (fun (k : Nat) (hk : k < N) (hn : nxtD D Wn Hn k = none) => end_none (htr k hk) hn)
  have Hes := hidA (fun (k n : Nat) (hk : k < N) (hn : nxtD D Wn Hn k = some n) => end_some (htr k hk) (htr n (by rw [hN]; exact nxt_lt hn)) hn)
  have Hlt := hidA (fun (k n : Nat) (hn : nxtD D Wn Hn k = some n) => show n < N from by rw [hN]; exact nxt_lt hn)
  have HD := hidA hD
  have Hlo := hidA (fun k hk => (hL.rng k hk).1 : ∀ k, k < N → -1 ≤ D k)
  have mi := mk_int N (by omega)
  obtain ⟨i0, hi0, hz0, hz1, hz2⟩ := info_parts infoPnt
  have kR : Bk (w.alloc (.cells #[.int .i64 X, .int .i64 Y, .int .i64 (Wn : Int), .int .i64 (Hn : Int)] 23)) w.heap.size 23 #[.int .i64 X, .int .i64 Y, .int .i64 (Wn : Int), .int .i64 (Hn : Int)] := Bk.new' rfl
  have hx0 : Ext w (w.alloc (.cells #[.int .i64 X, .int .i64 Y, .int .i64 (Wn : Int), .int .i64 (Hn : Int)] 23)) := (Ext.refl w).alloc _
  clear hr hr0 hN hD hL htr
  go_enter Try.func49, Try.ntmps49
  go_upto_region 1 with fail
  generalize w.alloc (.cells #[.int .i64 X, .int .i64 Y, .int .i64 (Wn : Int), .int .i64 (Hn : Int)] 23) = w1 at *
  generalize hh0 : w.heap.size = h0 at kR ⊢
  have Hh0 := hidA hh0
  clear hh0
  have c0 := kR.cell 0
  have c1 := kR.cell 1
  have c2 := kR.cell 2
  have c3 := kR.cell 3
  go_upto_region 4 with (go_at_call 45; refine (HC.out _ (hx0.trans (by repeat (first | exact Ext.refl _ | assumption | refine Ext.setCell ?_ (by first | (simp; done) | (simp; omega)) _ | refine Ext.drewN ?_ _ | refine Ext.alloc ?_ _ | refine Ext.drew ?_ | refine Ext.trans ?_ (by assumption))))).mono ?_; rintro e w2 ⟨rfl, hx2⟩)
  have kR2 := kR.ext hx2
  have hxw := hx0.trans hx2
  clear c0 c1 c2 c3 kR hx0 hx2 HC
  go_upto_region 5 with fail
  have hS : BW w (w2.alloc (.cells (intB N fun _ => 0) 3)) h0 w2.heap.size X Y Wn Hn N (fun _ => 0) (.slice none 0 0) [] :=
    ⟨kR2.alloc _, Bk.new' (by simp), World.ownsRow_nil _ _ _ 2, hxw.alloc _, hxw.size⟩
  clear kR2 hxw mi
  generalize w2.alloc (.cells (intB N fun _ => 0) 3) = w3 at *
  generalize w2.heap.size = go at *
  go_wp2_with fail
  go_loopw [9, 26] (fun s9 s26 wr => ∃ (k : Nat) (O : Nat → Int), k ≤ N ∧ s26 = .int .i64 k ∧ BW w wr h0 go X Y Wn Hn N O s9 (mouL D k) ∧ (∀ j, j < k → mouB D j = true → O j = (cntB (mouB D) j : Int))) (fun _ s26 _ => N - (intOf s26).toNat)
  case atStart => exact ⟨0, _, Nat.zero_le _, rfl, hS, fun j h => by omega⟩
  case round =>
    clear hS
    obtain ⟨k, O, hk, rfl, hS, hO⟩ := hrel
    obtain ⟨B, cap, hv⟩ := own_form hS.own
    subst hv
    have HO := hidA hO
    clear hO
    by_cases hkN : k < N
    · have i1 : (0 : Int) ≤ k := by omega
      have i2 : (k : Int) < N := by omega
      obtain ⟨ad, rfl, _, q0⟩ := (HD.out.ext hS.ext).cell hkN
      have hlo := Hlo.out k hkN
      have hmk := mouL_len D k
      have hmb := cntB_le (mouB D) k
      cases hb : mouB D k with
      | true =>
        have hd1 : D k = -1 := by unfold mouB at hb; have := of_decide_eq_true hb; omega
        rw [hd1] at q0
        have hML := hidA (show mouL D (k + 1) = mouL D k ++ [k] from by unfold mouL; rw [List.range_succ, List.filter_append]; simp [hb])
        have hO2 := hidA (show ∀ j, j < k + 1 → mouB D j = true → updF O k ((mouL D k).length : Int) j = (cntB (mouB D) j : Int) from fun j hj hm => by
          by_cases e : j = k
          · subst e
            rw [updF_same, hmk]
          · rw [updF_ne _ _ e]
            exact HO.out j (by omega) hm)
        clear hb hd1 hlo HO
        have g0 := hS.ob.cell k
        rw [intB_get _ hkN] at g0
        have g1 := hS.ob.frozen k
        have hS1 := hS.put k ((mouL D k).length : Int)
        have hlb : (mouL D k).length ≤ 65536 := by omega
        clear hmk hmb hS
        generalize mouL D k = M at *
        generalize O k = ok at *
        go_upto_region 11 with fail
        generalize wr.setCell ⟨go, k, none⟩ (.int .i64 (M.length : Int)) = w5 at *
        clear q0 g0 g1
        have c0 := hS1.rb.cell 0
        have c1 := hS1.rb.cell 1
        have c2 := hS1.rb.cell 2
        have c3 := hS1.rb.cell 3
        have HPk := fun (w : World) => HPt.out k w hkN
        have happ := hidA (fun (w' : World) (hx : Ext w5 w') => fun (v' : Value) (w6 : World) (hg : w'.grownBy w6 (Value.slice B M.length cap).ownBlock) (ho : w6.ownsRow w.heap.size 76 2 v' (M.length + 1) (ptsC X Y Wn M ++ [.int .i64 (colK X Wn k), .int .i64 (rowK Y Wn k)])) => (hS1.step hx).app hg ho)
        have hst := hidA (fun (w' : World) (hx : Ext w5 w') => (hS1.step hx).own)
        have hsz := hS1.ext.size
        generalize colK X Wn k = px at *
        generalize rowK Y Wn k = py at *
        clear hS1
        go_wp2_with (first | (go_at_call 86; refine (HPk _).mono ?_; rintro e w6 ⟨rfl, hx6⟩; have hx7 : Ext w5 (w6.alloc (.cells #[.int .i64 px, .int .i64 py] 76)) := hx6.alloc _; have ho7 := hidA (hst.out _ hx7); have hnews := hidA (World.news_of_block (w := w6.alloc (.cells #[.int .i64 px, .int .i64 py] 76)) (cs := #[.int .i64 px, .int .i64 py]) (t := 76) (fr := (0, 0)) (heap_alloc_new w6 _)); have hone : Hid (∀ u ∈ ([Value.int .i64 px, .int .i64 py] : List Value), u.oneCell' = true) := (by intro u hu; simp at hu; rcases hu with rfl | rfl <;> rfl); have hs7 := hidA (show w.heap.size ≤ (w6.alloc (.cells #[.int .i64 px, .int .i64 py] 76)).heap.size from by have := hx7.size; omega)) | (at_builtin; (refine wpList_append_lies _ (by rfl) _ _ 81 (by rfl) w.heap.size 76 i0 (.agg #[.int .i64 0, .int .i64 0]) 2 16 Try.underlying81 hi0 hz0 hz1 hz2 (by rfl) (by decide) _ M.length (ptsC X Y Wn M) (by rfl) ho7.out ⟨w6.heap.size, 0, none⟩ 1 1 [.int .i64 px, .int .i64 py] (by rfl) (by rfl) hnews.out hone.out (by decide) (by unfold maxLen; omega) (by omega) hs7.out (w6.heap.size + 1) (by simp) ?_; intro gg cap' w8 hown hgrow hat hltg)))
        have hS8 := hidA (happ.out _ hx7 _ _ hgrow hown)
        clear hgrow hown hat hltg ho7 hnews hone hs7 hst happ c0 c1 c2 c3
        go_wp2_with fail
        go_roundw
        case rel => exact ⟨k + 1, _, by omega, by go_num, by rw [hML.out]; exact hS8.out, hO2.out⟩
        case measure => simp [intOf] <;> omega
      | false =>
        have hd1 : ¬ (D k = -1) := by unfold mouB at hb; have := of_decide_eq_false hb; omega
        have hne : (D k == -1) = false := by simpa using hd1
        have hML := hidA (show mouL D (k + 1) = mouL D k from by unfold mouL; rw [List.range_succ, List.filter_append]; simp [hb])
        have hO2 := hidA (show ∀ j, j < k + 1 → mouB D j = true → O j = (cntB (mouB D) j : Int) from fun j hj hm => by
          by_cases e : j = k
          · subst e
            rw [hb] at hm
            cases hm
          · exact HO.out j (by omega) hm)
        clear hb HO hmk hmb
        generalize D k = z at q0 hd1 hne hlo
        go_wp2_with fail
        go_roundw
        case rel => exact ⟨k + 1, O, by omega, by go_num, by rw [hML.out]; exact hS, hO2.out⟩
        case measure => simp [intOf] <;> omega
    · obtain rfl : N = k := by omega
      have c0 := hS.rb.cell 0
      have c1 := hS.rb.cell 1
      have c2 := hS.rb.cell 2
      have c3 := hS.rb.cell 3
      have hgl := hS.ob.lt
      go_upto_region 14 with (go_at_call 105; refine (HDn.out _ (hS.ext.trans (by repeat (first | exact Ext.refl _ | assumption | refine Ext.setCell ?_ (by first | (simp; done) | (simp; omega)) _ | refine Ext.drewN ?_ _ | refine Ext.alloc ?_ _ | refine Ext.drew ?_ | refine Ext.trans ?_ (by assumption))))).mono ?_; rintro e w5 ⟨Q, qc, L, rfl, hQ, hT, hx5⟩)
      have hS5 := hS.step hx5
      have HT := hidA hT
      have hll := nodup_le hT.nd hT.lt
      have hBZ : BZ D tr N L L.length O := ⟨fun k hk hm => by
        rw [HO.out k hk hm]
        have hn : nxtD D Wn Hn k = none := by have := Hmn.out k hk; rw [hm] at this; simpa using this.symm
        unfold basV
        rw [Hen.out k hk hn], fun k hk hn => absurd (Hall.out L hT k hk) (by rwa [List.take_length] at hn)⟩
      have HBZ := hidA hBZ
      clear c0 c1 c2 c3 hS hT hx5 HDn HO hBZ
      generalize wr.heap.size = bs at *
      go_wp2_with fail
      go_loopw [13] (fun s13 wr => ∃ (i : Nat) (O : Nat → Int), i ≤ L.length ∧ s13 = .int .i64 ((i : Int) - 1) ∧ BW w wr h0 go X Y Wn Hn N O (.slice B (mouL D N).length cap) (mouL D N) ∧ Qs wr bs 3 Q L.length qc (inq L) ∧ BZ D tr N L i O) (fun s13 _ => (intOf s13 + 1).toNat)
      case atStart => exact ⟨L.length, O, Nat.le_refl _, rfl, hS5, hQ, HBZ.out⟩
      case round =>
        clear hS5 hQ HBZ
        obtain ⟨i, O, hi, rfl, hS, hQ, hB⟩ := hrel
        have HB := hidA hB
        clear hB
        cases i with
        | zero =>
          have hO : intB N O = intB N fun k => (basV D tr k : Int) := by unfold intB; congr 1; refine List.map_congr_left fun k hk => ?_; rw [HB.out.done k (List.mem_range.1 hk) (by simp)]
          have hob := hidA (show Bk wr go 3 (intB N fun k => (basV D tr k : Int)) from by rw [← hO]; exact hS.ob)
          have HS := hidA hS
          clear hO hS hQ
          go_wp2_with fail
          refine bodyPost_ret (v := .tuple #[.slice (some ⟨go, 0, none⟩) N N, .slice B (mouL D N).length cap, .int .i64 0]) (by simp [results, Try.results49, go_sem]) rfl ?_
          exact ⟨go, _, rfl, hob.out, HS.out.own, HS.out.b1, HS.out.ext⟩
        | succ i =>
          have hiL : i < L.length := by omega
          have hq := HT.out.lt _ (List.getElem_mem hiL)
          have hah := hidA (fun n h => HT.out.ahead (n := n) hiL h)
          have htk := hidA (fun p => take_more hiL p)
          obtain ⟨aq, rfl, _, hcv⟩ := hQ.rd.at (k := i) (by rw [inq_length]; exact hiL)
          have q9 : ∀ w', Ext wr w' → w'.cell? (aq.add i) = some (.int .i64 (L[i] : Nat)) := fun w' h => by
            rw [h.cell _ (by rw [add_block]; exact (hQ.lt rfl).2.1)]
            exact hcv i _ (inq_get hiL)
          clear hcv
          have ei : ((i + 1 : Nat) : Int) - 1 = (i : Int) := by omega
          rw [ei]
          have j1 : (0 : Int) ≤ i := by omega
          have j2 : (i : Int) < L.length := by omega
          generalize L[i] = q at *
          have HNk := fun w' h => HNx.out q w' hq h
          have e0 : ∀ w', Ext wr w' → w'.cell? ⟨h0, 0, none⟩ = some (.int .i64 X) := fun w' h => (hS.rb.ext h).cell 0
          have e1 : ∀ w', Ext wr w' → w'.cell? ⟨h0, 1, none⟩ = some (.int .i64 Y) := fun w' h => (hS.rb.ext h).cell 1
          have e2 : ∀ w', Ext wr w' → w'.cell? ⟨h0, 2, none⟩ = some (.int .i64 (Wn : Int)) := fun w' h => (hS.rb.ext h).cell 2
          have e3 : ∀ w', Ext wr w' → w'.cell? ⟨h0, 3, none⟩ = some (.int .i64 (Hn : Int)) := fun w' h => (hS.rb.ext h).cell 3
          have hxS := hS.ext
          go_upto_region 17 with fail
          cases hn : nxtD D Wn Hn q with
          | none =>
            rw [hn, show nbI none = -1 from rfl] at HNk
            have hm : mouB D q = true := by rw [Hmn.out q hq, hn]; rfl
            have hB2 := hidA (show BZ D tr N L i O from ⟨HB.out.mou, fun k hk hkn => by
              by_cases e : k = q
              · subst e
                exact HB.out.mou k hk hm
              · exact HB.out.done k hk (fun h => by rcases (htk.out k).1 h with h | h <;> contradiction)⟩)
            clear hn hm HB
            refine wp_region_noPanic ?_
            refine wp_region_held_drew (S := fun w' => Ext wr w') (by kernel_rfl) ?_ (fun hHeld => ?_)
            · (repeat (first | exact Ext.refl _ | assumption | refine Ext.setCell ?_ (by first | (simp; done) | (simp; omega)) _ | refine Ext.drewN ?_ _ | refine Ext.alloc ?_ _ | refine Ext.drew ?_ | refine Ext.trans ?_ (by assumption)))
            refine wpAnyH_take (i := 0) (oi := ?o1x0) (v := ?v1x0) ?hi1x0 (by kernel_rfl) ?hf1x0 ?hr1x0 (fun _ _ _ h => h) ?hy1x0 (by assumption) ?rest1x0
            case hi1x0 => (simp only [List.getElem?_toArray, List.getElem?_cons_zero]; exact rfl)
            case hf1x0 => kernel_rfl
            case hr1x0 => kernel_rfl
            case hy1x0 => (refine Or.inl ⟨by rfl, ?_⟩; intro w hSw; (try dsimp only at hSw); go_simp; try with_reducible rfl)
            simp only [put_mk, List.set_cons_succ, List.set_cons_zero]
            refine wpAnyH_take (i := 1) (oi := ?o1x1) (v := ?v1x1) ?hi1x1 (by kernel_rfl) ?hf1x1 ?hr1x1 (fun _ _ _ h => h) ?hy1x1 (by assumption) ?rest1x1
            case hi1x1 => (simp only [List.getElem?_toArray, List.getElem?_cons_succ, List.getElem?_cons_zero]; exact rfl)
            case hf1x1 => kernel_rfl
            case hr1x1 => kernel_rfl
            case hy1x1 => (refine Or.inl ⟨by rfl, ?_⟩; intro w hSw; (try dsimp only at hSw); go_simp; try with_reducible rfl)
            simp only [put_mk, List.set_cons_succ, List.set_cons_zero]
            refine wpAnyH_take (i := 2) (oi := ?o1x2) (v := ?v1x2) ?hi1x2 (by kernel_rfl) ?hf1x2 ?hr1x2 (fun _ _ _ h => h) ?hy1x2 (by assumption) ?rest1x2
            case hi1x2 => (simp only [List.getElem?_toArray, List.getElem?_cons_succ, List.getElem?_cons_zero]; exact rfl)
            case hf1x2 => kernel_rfl
            case hr1x2 => kernel_rfl
            case hy1x2 => (refine Or.inl ⟨by rfl, ?_⟩; intro w hSw; (try dsimp only at hSw); go_simp; try with_reducible rfl)
            simp only [put_mk, List.set_cons_succ, List.set_cons_zero]
            refine wpAnyH_take (i := 3) (oi := ?o1x3) (v := ?v1x3) ?hi1x3 (by kernel_rfl) ?hf1x3 ?hr1x3 (fun _ _ _ h => h) ?hy1x3 (by assumption) ?rest1x3
            case hi1x3 => (simp only [List.getElem?_toArray, List.getElem?_cons_succ, List.getElem?_cons_zero]; exact rfl)
            case hf1x3 => kernel_rfl
            case hr1x3 => kernel_rfl
            case hy1x3 => (refine Or.inl ⟨by rfl, ?_⟩; intro w hSw; (try dsimp only at hSw); go_simp; try with_reducible rfl)
            simp only [put_mk, List.set_cons_succ, List.set_cons_zero]
            refine wpAnyH_take (i := 4) (oi := ?o1x4) (v := ?v1x4) ?hi1x4 (by kernel_rfl) ?hf1x4 ?hr1x4 (fun _ _ _ h => h) ?hy1x4 (by assumption) ?rest1x4
            case hi1x4 => (simp only [List.getElem?_toArray, List.getElem?_cons_succ, List.getElem?_cons_zero]; exact rfl)
            case hf1x4 => kernel_rfl
            case hr1x4 => kernel_rfl
            case hy1x4 => (refine Or.inl ⟨by rfl, ?_⟩; intro w hSw; (try dsimp only at hSw); go_simp; try with_reducible rfl)
            simp only [put_mk, List.set_cons_succ, List.set_cons_zero]
            refine wpAnyH_take (i := 5) (oi := ?o1x5) (v := ?v1x5) ?hi1x5 (by kernel_rfl) ?hf1x5 ?hr1x5 (fun _ _ _ h => h) ?hy1x5 (by assumption) ?rest1x5
            case hi1x5 => (simp only [List.getElem?_toArray, List.getElem?_cons_succ, List.getElem?_cons_zero]; exact rfl)
            case hf1x5 => kernel_rfl
            case hr1x5 => kernel_rfl
            case hy1x5 => (refine Or.inl ⟨by rfl, ?_⟩; intro w hSw; (try dsimp only at hSw); go_simp; try with_reducible rfl)
            simp only [put_mk, List.set_cons_succ, List.set_cons_zero]
            refine wpAnyH_ready (rs := [6]) (by kernel_rfl) (by simp) ?_
            refine AllReadyH.cons (o := ?o1x6) ?hi1x6 (fun K hK => ?_) AllReadyH.nil
            case hi1x6 => (simp only [List.getElem?_toArray, List.getElem?_cons_succ, List.getElem?_cons_zero]; exact rfl)
            go_simp
            refine (HNk _ (hxS.trans (by (repeat (first | exact Ext.refl _ | assumption | refine Ext.setCell ?_ (by first | (simp; done) | (simp; omega)) _ | refine Ext.drewN ?_ _ | refine Ext.alloc ?_ _ | refine Ext.drew ?_ | refine Ext.trans ?_ (by assumption)))))).mono ?_
            rintro e w6 ⟨rfl, hx6⟩
            refine hK.out _ _ ?_ (fun hHeld => ?_)
            · (repeat (first | exact Ext.refl _ | assumption | refine Ext.setCell ?_ (by first | (simp; done) | (simp; omega)) _ | refine Ext.drewN ?_ _ | refine Ext.alloc ?_ _ | refine Ext.drew ?_ | refine Ext.trans ?_ (by assumption)))
            clear hK K
            refine wpAnyH_take (i := 7) (oi := ?o1x7) (v := ?v1x7) ?hi1x7 (by kernel_rfl) ?hf1x7 ?hr1x7 (fun _ _ _ h => h) ?hy1x7 (by assumption) ?rest1x7
            case hi1x7 => (simp only [List.getElem?_toArray, List.getElem?_cons_succ, List.getElem?_cons_zero]; exact rfl)
            case hf1x7 => kernel_rfl
            case hr1x7 => kernel_rfl
            case hy1x7 => (refine Or.inl ⟨by rfl, ?_⟩; intro w hSw; (try dsimp only at hSw); go_simp; try with_reducible rfl)
            simp only [put_mk, List.set_cons_succ, List.set_cons_zero]
            refine wpAnyH_done (by kernel_rfl) ?_ _
            refine NoPanic.normal ?_
            clear e0 e1 e2 e3 q9 HNk
            go_wp2_with fail
            go_roundw
            case rel => exact ⟨i, O, by omega, by go_num, hS.step ((Ext.drew (Ext.refl _)).trans hx6), hQ.kept (fun _ _ hl => ((Ext.drew (Ext.refl _)).trans hx6).block _ hl), hB2.out⟩
            case measure => simp [intOf] <;> omega
          | some n =>
            have hnN := Hlt.out q n hn
            have hna := hah.out n hn
            rw [hn, show nbI (some n) = (n : Int) from rfl] at HNk
            have hm : mouB D q = false := by rw [Hmn.out q hq, hn]; rfl
            have hbv : basV D tr q = basV D tr n := by unfold basV; rw [Hes.out q n hq hn]
            have hOn := HB.out.done n hnN hna
            have hB2 := hidA (show BZ D tr N L i (updF O q (O n)) from ⟨fun k hk hkm => by
              have e : k ≠ q := fun e => by rw [e, hm] at hkm; cases hkm
              rw [updF_ne _ _ e]
              exact HB.out.mou k hk hkm, fun k hk hkn => by
              by_cases e : k = q
              · subst e
                rw [updF_same, hOn, hbv]
              · rw [updF_ne _ _ e]
                exact HB.out.done k hk (fun h => by rcases (htk.out k).1 h with h | h <;> contradiction)⟩)
            have j3 : (0 : Int) ≤ n := by omega
            have j4 : (n : Int) < N := by omega
            have j5 : (0 : Int) ≤ q := by omega
            have j6 : (q : Int) < N := by omega
            clear hn hm HB hbv hOn hna
            refine wp_region_noPanic ?_
            refine wp_region_held_drew (S := fun w' => Ext wr w') (by kernel_rfl) ?_ (fun hHeld => ?_)
            · (repeat (first | exact Ext.refl _ | assumption | refine Ext.setCell ?_ (by first | (simp; done) | (simp; omega)) _ | refine Ext.drewN ?_ _ | refine Ext.alloc ?_ _ | refine Ext.drew ?_ | refine Ext.trans ?_ (by assumption)))
            refine wpAnyH_take (i := 0) (oi := ?o2x0) (v := ?v2x0) ?hi2x0 (by kernel_rfl) ?hf2x0 ?hr2x0 (fun _ _ _ h => h) ?hy2x0 (by assumption) ?rest2x0
            case hi2x0 => (simp only [List.getElem?_toArray, List.getElem?_cons_zero]; exact rfl)
            case hf2x0 => kernel_rfl
            case hr2x0 => kernel_rfl
            case hy2x0 => (refine Or.inl ⟨by rfl, ?_⟩; intro w hSw; (try dsimp only at hSw); go_simp; try with_reducible rfl)
            simp only [put_mk, List.set_cons_succ, List.set_cons_zero]
            refine wpAnyH_take (i := 1) (oi := ?o2x1) (v := ?v2x1) ?hi2x1 (by kernel_rfl) ?hf2x1 ?hr2x1 (fun _ _ _ h => h) ?hy2x1 (by assumption) ?rest2x1
            case hi2x1 => (simp only [List.getElem?_toArray, List.getElem?_cons_succ, List.getElem?_cons_zero]; exact rfl)
            case hf2x1 => kernel_rfl
            case hr2x1 => kernel_rfl
            case hy2x1 => (refine Or.inl ⟨by rfl, ?_⟩; intro w hSw; (try dsimp only at hSw); go_simp; try with_reducible rfl)
            simp only [put_mk, List.set_cons_succ, List.set_cons_zero]
            refine wpAnyH_take (i := 2) (oi := ?o2x2) (v := ?v2x2) ?hi2x2 (by kernel_rfl) ?hf2x2 ?hr2x2 (fun _ _ _ h => h) ?hy2x2 (by assumption) ?rest2x2
            case hi2x2 => (simp only [List.getElem?_toArray, List.getElem?_cons_succ, List.getElem?_cons_zero]; exact rfl)
            case hf2x2 => kernel_rfl
            case hr2x2 => kernel_rfl
            case hy2x2 => (refine Or.inl ⟨by rfl, ?_⟩; intro w hSw; (try dsimp only at hSw); go_simp; try with_reducible rfl)
            simp only [put_mk, List.set_cons_succ, List.set_cons_zero]
            refine wpAnyH_take (i := 3) (oi := ?o2x3) (v := ?v2x3) ?hi2x3 (by kernel_rfl) ?hf2x3 ?hr2x3 (fun _ _ _ h => h) ?hy2x3 (by assumption) ?rest2x3
            case hi2x3 => (simp only [List.getElem?_toArray, List.getElem?_cons_succ, List.getElem?_cons_zero]; exact rfl)
            case hf2x3 => kernel_rfl
            case hr2x3 => kernel_rfl
            case hy2x3 => (refine Or.inl ⟨by rfl, ?_⟩; intro w hSw; (try dsimp only at hSw); go_simp; try with_reducible rfl)
            simp only [put_mk, List.set_cons_succ, List.set_cons_zero]
            refine wpAnyH_take (i := 4) (oi := ?o2x4) (v := ?v2x4) ?hi2x4 (by kernel_rfl) ?hf2x4 ?hr2x4 (fun _ _ _ h => h) ?hy2x4 (by assumption) ?rest2x4
            case hi2x4 => (simp only [List.getElem?_toArray, List.getElem?_cons_succ, List.getElem?_cons_zero]; exact rfl)
            case hf2x4 => kernel_rfl
            case hr2x4 => kernel_rfl
            case hy2x4 => (refine Or.inl ⟨by rfl, ?_⟩; intro w hSw; (try dsimp only at hSw); go_simp; try with_reducible rfl)
            simp only [put_mk, List.set_cons_succ, List.set_cons_zero]
            refine wpAnyH_take (i := 5) (oi := ?o2x5) (v := ?v2x5) ?hi2x5 (by kernel_rfl) ?hf2x5 ?hr2x5 (fun _ _ _ h => h) ?hy2x5 (by assumption) ?rest2x5
            case hi2x5 => (simp only [List.getElem?_toArray, List.getElem?_cons_succ, List.getElem?_cons_zero]; exact rfl)
            case hf2x5 => kernel_rfl
            case hr2x5 => kernel_rfl
            case hy2x5 => (refine Or.inl ⟨by rfl, ?_⟩; intro w hSw; (try dsimp only at hSw); go_simp; try with_reducible rfl)
            simp only [put_mk, List.set_cons_succ, List.set_cons_zero]
            refine wpAnyH_ready (rs := [6]) (by kernel_rfl) (by simp) ?_
            refine AllReadyH.cons (o := ?o2x6) ?hi2x6 (fun K hK => ?_) AllReadyH.nil
            case hi2x6 => (simp only [List.getElem?_toArray, List.getElem?_cons_succ, List.getElem?_cons_zero]; exact rfl)
            go_simp
            refine (HNk _ (hxS.trans (by (repeat (first | exact Ext.refl _ | assumption | refine Ext.setCell ?_ (by first | (simp; done) | (simp; omega)) _ | refine Ext.drewN ?_ _ | refine Ext.alloc ?_ _ | refine Ext.drew ?_ | refine Ext.trans ?_ (by assumption)))))).mono ?_
            rintro e w6 ⟨rfl, hx6⟩
            refine hK.out _ _ ?_ (fun hHeld => ?_)
            · (repeat (first | exact Ext.refl _ | assumption | refine Ext.setCell ?_ (by first | (simp; done) | (simp; omega)) _ | refine Ext.drewN ?_ _ | refine Ext.alloc ?_ _ | refine Ext.drew ?_ | refine Ext.trans ?_ (by assumption)))
            clear hK K
            refine wpAnyH_take (i := 7) (oi := ?o2x7) (v := ?v2x7) ?hi2x7 (by kernel_rfl) ?hf2x7 ?hr2x7 (fun _ _ _ h => h) ?hy2x7 (by assumption) ?rest2x7
            case hi2x7 => (simp only [List.getElem?_toArray, List.getElem?_cons_succ, List.getElem?_cons_zero]; exact rfl)
            case hf2x7 => kernel_rfl
            case hr2x7 => kernel_rfl
            case hy2x7 => (refine Or.inl ⟨by rfl, ?_⟩; intro w hSw; (try dsimp only at hSw); go_simp; try with_reducible rfl)
            simp only [put_mk, List.set_cons_succ, List.set_cons_zero]
            refine wpAnyH_done (by kernel_rfl) ?_ _
            refine NoPanic.normal ?_
            have hS6 := hS.step ((Ext.drew (Ext.refl _)).trans hx6)
            have hQ6 := hQ.kept (fun _ _ hl => ((Ext.drew (Ext.refl _)).trans hx6).block _ hl)
            have q0 := q9 w6 ((Ext.drew (Ext.refl _)).trans hx6)
            clear e0 e1 e2 e3 q9 HNk hS hQ hx6 hxS hHeld
            have g0 := hS6.ob.cell q
            rw [intB_get _ hq] at g0
            have g1 := hS6.ob.cell n
            rw [intB_get _ hnN] at g1
            have g2 := hS6.ob.frozen q
            have hS7 := hidA (hS6.put q (O n))
            have hQ7 := hidA (hQ6.kept (w' := w6.setCell ⟨go, q, none⟩ (.int .i64 (O n))) (fun a ha _ => Below.heap_setCell w6 _ _ _ (fun e => by
              have := (hQ6.lt ha).1
              have e2 : a.block = go := e
              omega)))
            clear hS6 hQ6
            generalize O n = y at *
            generalize O q = y2 at *
            go_upto_region 19 with fail
            go_region
            go_wp2_with fail
            go_roundw
            case rel => exact ⟨i, _, by omega, by go_num, hS7.out.step (Ext.drew (Ext.refl _)), hQ7.out.kept (fun _ _ hl => (Ext.drew (Ext.refl _)).block _ hl), hB2.out⟩
            case measure => simp [intOf] <;> omega
end Go.Proofs.Ytinohfgokpbcdaa
