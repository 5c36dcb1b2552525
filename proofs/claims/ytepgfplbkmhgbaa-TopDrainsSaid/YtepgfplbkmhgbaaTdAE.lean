/- Contract: water.gather. -/
import Derived.Test.YtepgfplbkmhgbaaTdAB
import Derived.Test.YtepgfplbkmhgbaaTdAC
import Derived.Test.YtepgfplbkmhgbaaTdAD
import Derived.Test.YtepgfplbkmhgbaaShowA
import Derived.Test.YtepgfplbkmhgbaaPlaces
import Derived.RegionTactic
import Derived.ChangeAlike
namespace Go.Proofs.Ytepgfplbkmhgbaa
open Go.RowKit
attribute [local go_sem ↓] Go.wp_at_zero Go.wp_at_succ
attribute [local go_sem] run_store_float

/-- directions that are in range and do not lead out -/
structure Valid (Wn Hn N : Nat) (D : Nat → Int) : Prop where
  lo : ∀ k, k < N → -1 ≤ D k
  hi : ∀ k, k < N → D k < 8
  into : ∀ k, k < N → 0 ≤ D k → ∃ n, nbr Wn Hn k (D k).toNat = some n
theorem Lead.valid {Wn Hn N : Nat} {D : Nat → Int} {m : Nat → Nat} (h : Lead Wn Hn N D m) : Valid Wn Hn N D := ⟨fun k hk => (h.rng k hk).1, fun k hk => (h.rng k hk).2, fun k hk h0 => by obtain ⟨n, h1, _⟩ := h.step k hk h0; exact ⟨n, h1⟩⟩
theorem mk_cap (n : Nat) (hn : n ≤ 262144) (w : World) : (Instr.makeSlice 32 (.int .i64 0) (.int .i64 (n : Int))).run Try.prog w =
    .ok (.slice (some ⟨w.heap.size, 0, none⟩) 0 n) (w.alloc (.cells (intB n fun _ => 0) 3)) := by
  obtain ⟨i0, hi0, hz0, hz1, hz2⟩ := info_parts infoIntW
  have h := run_make (P := Try.prog) w 32 3 i0 (.int .i64 0) Try.underlying32 hi0 hz0 .i64 .i64 0 n (by omega) (by omega) (by rw [hz2]; omega) (by omega)
  rw [hz1] at h
  have e : madeCells (Value.int .i64 0).cells ((n : Int).toNat * 1) = intB n fun _ => 0 := by
    rw [Int.toNat_natCast]
    unfold madeCells intB
    apply Array.ext
    · simp
    · intro i h1 h2
      simp [Value.cells, Nat.mod_one]
  rw [e] at h
  simpa using h
/-- what downward holds in memory: the region, how many lead to each cell, the cells in order -/
structure DW (W0 w : World) (hr gi : Nat) (X Y : Int) (Wn Hn N : Nat) (J : Nat → Nat) (Q : Option Addr) (cap : Nat) (L : List Nat) : Prop where
  rb : Bk w hr 23 #[.int .i64 X, .int .i64 Y, .int .i64 (Wn : Int), .int .i64 (Hn : Int)]
  ib : Bk w gi 3 (intB N fun j => (J j : Int))
  qs : Qs w W0.heap.size 3 Q L.length cap (inq L)
  ext : Ext W0 w
  b1 : W0.heap.size ≤ gi
  n1 : some gi ≠ Q.map (·.block)
section
variable {W0 w : World} {hr gi : Nat} {X Y : Int} {Wn Hn N : Nat} {J : Nat → Nat} {Q : Option Addr} {cap : Nat} {L : List Nat}
theorem DW.step (h : DW W0 w hr gi X Y Wn Hn N J Q cap L) {w' : World} (hx : Ext w w') : DW W0 w' hr gi X Y Wn Hn N J Q cap L := ⟨h.rb.ext hx, h.ib.ext hx, h.qs.kept (fun _ _ hl => hx.block _ hl), h.ext.trans hx, h.b1, h.n1⟩
theorem DW.put (h : DW W0 w hr gi X Y Wn Hn N J Q cap L) (n x : Nat) : DW W0 (w.setCell ⟨gi, n, none⟩ (.int .i64 (x : Int))) hr gi X Y Wn Hn N (updF J n x) Q cap L := by
  have e1 := Bk.set h.ib n (.int .i64 (x : Int))
  rw [intB_set] at e1
  have e2 : updF (fun j => (J j : Int)) n (x : Int) = fun j => ((updF J n x j : Nat) : Int) := by
    funext j
    unfold updF
    split <;> rfl
  rw [e2] at e1
  exact ⟨h.rb.far (Bk.ne h.rb h.ib (by decide)) _, e1, h.qs.kept (fun a ha _ => Below.heap_setCell w _ _ _ (fun e => h.n1 (by subst ha; simp only [Option.map_some]; exact congrArg some e.symm))), h.ext.setCell h.b1 _, h.b1, h.n1⟩
theorem DW.app (h : DW W0 w hr gi X Y Wn Hn N J Q cap L) {w' : World} {n : Nat} {Q' : Option Addr} {cap' : Nat} (hq' : Qs w' W0.heap.size 3 Q' (L.length + 1) cap' (inq L ++ [.int .i64 (n : Int)])) (hg : w.grownBy w' (Q.map (·.block)))
    (ho : ∀ b, Q'.map (·.block) = some b → Q.map (·.block) = some b ∨ w.heap.size ≤ b) :
    DW W0 w' hr gi X Y Wn Hn N J Q' cap' (L ++ [n]) := by
  have hx : Ext W0 w' := h.ext.grown hg (fun k hk => by
    cases hQ : Q with
    | none => rw [hQ] at hk; cases hk
    | some a => rw [hQ] at hk; cases hk; exact (h.qs.lt hQ).1)
  have hl : (L ++ [n]).length = L.length + 1 := by simp
  refine ⟨h.rb.grown hg (h.qs.ne h.rb (by decide)), h.ib.grown hg h.n1, ?_, hx, h.b1, ?_⟩
  · rw [hl, inq_snoc]
    exact hq'
  · intro e
    rcases ho gi e.symm with e2 | e2
    · exact h.n1 e2.symm
    · have := h.ib.lt
      omega
end
set_option maxRecDepth 100000 in
set_option maxHeartbeats 12800000 in
theorem downward_any (X Y : Int) (Wn Hn N c : Nat) (A : Option Addr) (D : Nat → Int) (w : World) (hr : Reg X Y Wn Hn) (hN : N = Wn * Hn) (hD : DirsAt w A N D) (hv : Valid Wn Hn N D) :
    Calls Try.prog 29 #[rgv X Y Wn Hn, .slice A N c] w fun e w' => ∃ Q cap L, e = .returned (.slice Q L.length cap) ∧ Qs w' w.heap.size 3 Q L.length cap (inq L) ∧ Topo (nxtD D Wn Hn) N L ∧ Ext w w' := by
  have hN6 : N ≤ 65536 := by rw [hN]; exact hr.n
  have HNx := hidA (fun (k : Nat) (w' : World) (hk : k < N) (h : Ext w w') => next_any X Y Wn Hn N k c A D w' hr hN (hD.ext h) hk (hv.lo k hk) (hv.hi k hk) (hv.into k hk))
  unfold rgv at HNx ⊢
  have mi := mk_int N (by omega)
  have mc := mk_cap N (by omega)
  obtain ⟨i0, hi0, hz0, hz1, hz2⟩ := info_parts infoIntW
  have Hlt := hidA (fun (k n : Nat) (h : nxtD D Wn Hn k = some n) => show n < N from by rw [hN]; exact nxt_lt h)
  obtain ⟨nx, hnx⟩ : ∃ nx, nx = nxtD D Wn Hn := ⟨_, rfl⟩
  rw [← hnx] at Hlt ⊢
  have HNx2 := hidA (fun (k : Nat) (w' : World) (hk : k < N) (h : Ext w w') => by
    have h := HNx.out k w' hk h
    rw [← hnx] at h
    exact h)
  clear hr hN hD hv HNx hnx
  obtain ⟨w1, hw1⟩ : ∃ w1, w1 = (w.alloc (.cells #[.int .i64 X, .int .i64 Y, .int .i64 (Wn : Int), .int .i64 (Hn : Int)] 23)).alloc (.cells (intB N fun _ => 0) 3) := ⟨_, rfl⟩
  have hS : DW w w1 w.heap.size (w.heap.size + 1) X Y Wn Hn N (intoN nx 0) none 0 [] := by
    rw [hw1]
    refine ⟨(Bk.new' rfl).alloc _, ?_, Qs.nil _ _ _, ((Ext.refl w).alloc _).alloc _, by omega, by simp⟩
    have h : Bk ((w.alloc (.cells #[.int .i64 X, .int .i64 Y, .int .i64 (Wn : Int), .int .i64 (Hn : Int)] 23)).alloc (.cells (intB N fun _ => 0) 3)) (w.heap.size + 1) 3 (intB N fun _ => 0) := Bk.new' (by simp)
    exact h
  go_enter Try.func29, Try.ntmps29
  go_upto_region 2 with fail
  rw [← hw1]
  clear hw1 mi
  generalize w.heap.size + 1 = gi at *
  generalize hhr : w.heap.size = hr at hS ⊢
  have Hhr := hidA hhr
  clear hhr
  go_wp2_with fail
  go_loopw [18] (fun s18 wr => ∃ (k : Nat), k ≤ N ∧ s18 = .int .i64 k ∧ DW w wr hr gi X Y Wn Hn N (intoN nx k) none 0 []) (fun s18 _ => N - (intOf s18).toNat)
  case atStart => exact ⟨0, Nat.zero_le _, rfl, hS⟩
  case round =>
    clear hS
    obtain ⟨k, hk, rfl, hS⟩ := hrel
    by_cases hkN : k < N
    · have i1 : (0 : Int) ≤ k := by omega
      have i2 : (k : Int) < N := by omega
      have HNk := fun w' h => HNx2.out k w' hkN h
      have c0 := hS.rb.cell 0
      have c1 := hS.rb.cell 1
      have c2 := hS.rb.cell 2
      have c3 := hS.rb.cell 3
      cases hn : nx k with
      | none =>
        rw [hn, show nbI none = -1 from rfl] at HNk
        have hi := hidA (into_none hn)
        clear hn
        go_wp2_with (go_at_call 24; refine (HNk _ (hS.ext.trans (by repeat (first | exact Ext.refl _ | assumption | refine Ext.setCell ?_ (by first | (simp; done) | (simp; omega)) _ | refine Ext.drewN ?_ _ | refine Ext.alloc ?_ _ | refine Ext.drew ?_ | refine Ext.trans ?_ (by assumption))))).mono ?_; rintro e w6 ⟨rfl, hx6⟩)
        go_roundw
        case rel => exact ⟨k + 1, by omega, by go_num, by rw [hi.out]; exact hS.step hx6⟩
        case measure => simp [intOf]; omega
      | some n =>
        have hnN := Hlt.out k n hn
        rw [hn, show nbI (some n) = (n : Int) from rfl] at HNk
        have hi := hidA (into_some hn)
        have hjb : intoN nx k n ≤ 65536 := Nat.le_trans (cntB_le _ _) (by omega)
        have j1 : (0 : Int) ≤ n := by omega
        have j2 : (n : Int) < N := by omega
        clear hn
        go_upto_region 7 with (go_at_call 24; refine (HNk _ (hS.ext.trans (by repeat (first | exact Ext.refl _ | assumption | refine Ext.setCell ?_ (by first | (simp; done) | (simp; omega)) _ | refine Ext.drewN ?_ _ | refine Ext.alloc ?_ _ | refine Ext.drew ?_ | refine Ext.trans ?_ (by assumption))))).mono ?_; rintro e w6 ⟨rfl, hx6⟩)
        have hS6 := hS.step hx6
        clear c0 c1 c2 c3 HNk hS hx6
        have q0 := hS6.ib.cell n
        rw [intB_get _ hnN] at q0
        have q1 := hS6.ib.frozen n
        have hS7 := hidA (hS6.put n (intoN nx k n + 1))
        generalize intoN nx k n = y at *
        go_wp2_with fail
        go_roundw
        case rel => exact ⟨k + 1, by omega, by go_num, by rw [hi.out]; exact hS7.out⟩
        case measure => simp [intOf]; omega
    · obtain rfl : N = k := by omega
      have hS1 : DW w (wr.alloc (.cells (intB N fun _ => 0) 3)) hr gi X Y Wn Hn N (intoN nx N) (some ⟨wr.heap.size, 0, none⟩) N [] := by
        have h := hS.step ((Ext.refl wr).alloc (.cells (intB N fun _ => 0) 3))
        refine ⟨h.rb, h.ib, ⟨rfl, Nat.zero_le _, by unfold maxLen; omega, .inr ⟨_, 0, _, rfl, hS.ext.size, heap_alloc_new wr _, by simp [intB], fun j u hu => by simp [inq] at hu⟩⟩, h.ext, h.b1, ?_⟩
        have := hS.ib.lt
        simp
        omega
      clear hS
      go_upto_region 10 with fail
      generalize wr.alloc (.cells (intB N fun _ => 0) 3) = w2 at *
      generalize wr.heap.size = gq at *
      clear mc
      go_wp2_with fail
      go_loopw [8, 39] (fun s8 s39 wr => ∃ (k : Nat) (Q : Option Addr) (cap : Nat) (L : List Nat), k ≤ N ∧ s39 = .int .i64 k ∧ s8 = .slice Q L.length cap ∧ L = (List.range k).filter (fun j => decide (intoN nx N j = 0)) ∧ DW w wr hr gi X Y Wn Hn N (intoN nx N) Q cap L) (fun _ s39 _ => N - (intOf s39).toNat)
      case atStart => exact ⟨0, _, _, [], Nat.zero_le _, rfl, rfl, rfl, hS1⟩
      case round =>
        clear hS1
        obtain ⟨k, Q, cap, L, hk, rfl, rfl, hL, hS⟩ := hrel
        by_cases hkN : k < N
        · have i1 : (0 : Int) ≤ k := by omega
          have i2 : (k : Int) < N := by omega
          have hll : L.length ≤ k := by
            rw [hL]
            have := List.length_filter_le (fun j => decide (intoN nx N j = 0)) (List.range k)
            simpa using this
          have q0 := hS.ib.cell k
          rw [intB_get _ hkN] at q0
          by_cases h0 : intoN nx N k = 0
          · rw [h0] at q0
            have hL2 := hidA (show L ++ [k] = (List.range (k + 1)).filter (fun j => decide (intoN nx N j = 0)) from by rw [List.range_succ, List.filter_append, ← hL]; simp [h0])
            clear h0 hL
            go_upto_region 14 with fail
            clear q0
            have hs5 := hS.ext.size
            have hA3 := hidA (hS.step ((Ext.refl _).alloc (.cells #[.int .i64 (k : Int)] 3)))
            have hC3 := hidA (show (wr.alloc (.cells #[.int .i64 (k : Int)] 3)).cell? ⟨wr.heap.size, 0, none⟩ = some (.int .i64 (k : Int)) from by rw [cell_new_row]; rfl)
            have hS3 := hidA (show w.heap.size ≤ (wr.alloc (.cells #[.int .i64 (k : Int)] 3)).heap.size from by simp; omega)
            go_wp2_with (at_builtin; (refine wpList_append_q _ (by rfl) _ _ 32 (by rfl) w.heap.size 3 i0 (.int .i64 0) 8 Try.underlying32 hi0 hz0 hz1 hz2 rfl Q L.length cap (inq L) (by rfl) hA3.out.qs hS3.out ⟨wr.heap.size, 0, none⟩ 1 (.int .i64 (k : Int)) (by rfl) hC3.out rfl (by unfold maxLen; omega) (by omega) ?_; intro Q' cap' w4 hq4 hg4 ho4))
            have hS6 := hidA (hA3.out.app hq4 hg4 ho4)
            have eL : (Value.slice Q' (L.length + 1) cap') = .slice Q' (L ++ [k]).length cap' := by rw [List.length_append]; rfl
            clear hA3 hC3 hS3 hq4 hg4 ho4 hs5 hS
            go_wp2_with fail
            go_roundw
            case rel => exact ⟨k + 1, Q', cap', L ++ [k], by omega, by go_num, eL, hL2.out, hS6.out⟩
            case measure => simp [intOf]; omega
          · have hne : (((intoN nx N k : Nat) : Int) == 0) = false := by simpa using h0
            have hL2 := hidA (show L = (List.range (k + 1)).filter (fun j => decide (intoN nx N j = 0)) from by rw [List.range_succ, List.filter_append, ← hL]; simp [h0])
            have hn2 : ¬ ((intoN nx N k : Nat) : Int) = 0 := by omega
            clear h0 hL
            generalize intoN nx N k = y at q0 hne hn2
            go_wp2_with fail
            go_roundw
            case rel => exact ⟨k + 1, Q, cap, L, by omega, by go_num, rfl, hL2.out, hS⟩
            case measure => simp [intOf]; omega
        · obtain rfl : N = k := by omega
          have hTQ : TQ nx N 0 L (intoN nx N) := by rw [hL]; exact TQ.start
          have HTQ := hidA hTQ
          clear hTQ hL
          go_wp2_with fail
          go_loopw [8, 11] (fun s8 s11 wr => ∃ (i : Nat) (Q : Option Addr) (cap : Nat) (L : List Nat) (J : Nat → Nat), s11 = .int .i64 i ∧ s8 = .slice Q L.length cap ∧ TQ nx N i L J ∧ DW w wr hr gi X Y Wn Hn N J Q cap L) (fun _ s11 _ => N - (intOf s11).toNat)
          case atStart => exact ⟨0, Q, cap, L, _, rfl, rfl, HTQ.out, hS⟩
          case round =>
            clear hS HTQ
            obtain ⟨i, Q, cap, L, J, rfl, rfl, hT, hS⟩ := hrel
            have HT := hidA hT
            have hll := hT.len
            have hip := hT.ip
            clear hT
            by_cases hiL : i < L.length
            · have i1 : (0 : Int) ≤ i := by omega
              have i2 : (i : Int) < L.length := by omega
              have hq := HT.out.lt _ (List.getElem_mem hiL)
              have Hsk := hidA (fun h => HT.out.skip hiL h)
              have Hle := hidA (fun n h => HT.out.less (n := n) hiL h)
              have Hpu := hidA (fun n h => HT.out.push (n := n) hiL h)
              have Hon := hidA (fun n h => HT.out.one (n := n) hiL h)
              have HJb := hidA (fun n hn => by rw [HT.out.cnt n hn]; exact cntB_le _ _ : ∀ n, n < N → J n ≤ N)
              obtain ⟨ad, rfl, _, hcv⟩ := hS.qs.rd.at (k := i) (by rw [inq_length]; exact hiL)
              have q0 := hcv i _ (inq_get hiL)
              clear hcv HT
              generalize L[i] = q at *
              have HNk := fun w' h => HNx2.out q w' hq h
              have e0 : ∀ w', Ext wr w' → w'.cell? ⟨hr, 0, none⟩ = some (.int .i64 X) := fun w' h => (hS.rb.ext h).cell 0
              have e1 : ∀ w', Ext wr w' → w'.cell? ⟨hr, 1, none⟩ = some (.int .i64 Y) := fun w' h => (hS.rb.ext h).cell 1
              have e2 : ∀ w', Ext wr w' → w'.cell? ⟨hr, 2, none⟩ = some (.int .i64 (Wn : Int)) := fun w' h => (hS.rb.ext h).cell 2
              have e3 : ∀ w', Ext wr w' → w'.cell? ⟨hr, 3, none⟩ = some (.int .i64 (Hn : Int)) := fun w' h => (hS.rb.ext h).cell 3
              have hbk := (hS.qs.lt rfl).2.1
              have q9 : ∀ w', Ext wr w' → w'.cell? (ad.add i) = some (.int .i64 (q : Int)) := fun w' h => by
                rw [h.cell _ (by rw [add_block]; exact hbk)]
                exact q0
              clear q0 hbk
              go_upto_region 19 with fail
              cases hn : nx q with
              | none =>
                rw [hn, show nbI none = -1 from rfl] at HNk
                have hT2 := hidA (Hsk.out hn)
                clear hn Hle Hpu Hon Hsk
                refine wp_region_noPanic ?_
                refine wp_region_held_drew (S := fun w' => Ext wr w') (by kernel_rfl) ?_ (fun hHeld => ?_)
                · (repeat (first | exact Ext.refl _ | assumption | refine Ext.setCell ?_ (by first | (simp; done) | (simp; omega)) _ | refine Ext.drewN ?_ _ | refine Ext.alloc ?_ _ | refine Ext.drew ?_ | refine Ext.trans ?_ (by assumption)))
                refine wpAnyH_take (i := 0) (oi := ?o1x0) (v := ?v1x0) ?hi1x0 (by kernel_rfl) ?hf1x0 ?hr1x0 (fun _ _ _ h => h) ?hy1x0 (by assumption) ?rest1x0
                case hi1x0 => (simp only [List.getElem?_toArray, List.getElem?_cons_zero]; exact rfl)
                case hf1x0 => kernel_rfl
                case hr1x0 => kernel_rfl
                case hy1x0 => (refine Or.inl ⟨by rfl, ?_⟩; intro w hSw; (try dsimp only at hSw); go_simp; try with_reducible rfl)
                simp only [put_mk, List.set_cons_succ, List.set_cons_zero]
                refine wpAnyH_take (i := 1) (oi := ?o1x1) (v := ?v1x1) ?hi1x1 (by kernel_rfl) ?hf1x1 ?hr1x1 (fun _ _ _ h => h) ?hy1x1 (by assumption) ?rest1x1
                case hi1x1 => (simp only [List.getElem?_toArray, List.getElem?_cons_succ, List.getElem?_cons_zero]; exact rfl)
                case hf1x1 => kernel_rfl
                case hr1x1 => kernel_rfl
                case hy1x1 => (refine Or.inl ⟨by rfl, ?_⟩; intro w hSw; (try dsimp only at hSw); go_simp; try with_reducible rfl)
                simp only [put_mk, List.set_cons_succ, List.set_cons_zero]
                refine wpAnyH_take (i := 2) (oi := ?o1x2) (v := ?v1x2) ?hi1x2 (by kernel_rfl) ?hf1x2 ?hr1x2 (fun _ _ _ h => h) ?hy1x2 (by assumption) ?rest1x2
                case hi1x2 => (simp only [List.getElem?_toArray, List.getElem?_cons_succ, List.getElem?_cons_zero]; exact rfl)
                case hf1x2 => kernel_rfl
                case hr1x2 => kernel_rfl
                case hy1x2 => (refine Or.inl ⟨by rfl, ?_⟩; intro w hSw; (try dsimp only at hSw); go_simp; try with_reducible rfl)
                simp only [put_mk, List.set_cons_succ, List.set_cons_zero]
                refine wpAnyH_take (i := 3) (oi := ?o1x3) (v := ?v1x3) ?hi1x3 (by kernel_rfl) ?hf1x3 ?hr1x3 (fun _ _ _ h => h) ?hy1x3 (by assumption) ?rest1x3
                case hi1x3 => (simp only [List.getElem?_toArray, List.getElem?_cons_succ, List.getElem?_cons_zero]; exact rfl)
                case hf1x3 => kernel_rfl
                case hr1x3 => kernel_rfl
                case hy1x3 => (refine Or.inl ⟨by rfl, ?_⟩; intro w hSw; (try dsimp only at hSw); go_simp; try with_reducible rfl)
                simp only [put_mk, List.set_cons_succ, List.set_cons_zero]
                refine wpAnyH_take (i := 4) (oi := ?o1x4) (v := ?v1x4) ?hi1x4 (by kernel_rfl) ?hf1x4 ?hr1x4 (fun _ _ _ h => h) ?hy1x4 (by assumption) ?rest1x4
                case hi1x4 => (simp only [List.getElem?_toArray, List.getElem?_cons_succ, List.getElem?_cons_zero]; exact rfl)
                case hf1x4 => kernel_rfl
                case hr1x4 => kernel_rfl
                case hy1x4 => (refine Or.inl ⟨by rfl, ?_⟩; intro w hSw; (try dsimp only at hSw); go_simp; try with_reducible rfl)
                simp only [put_mk, List.set_cons_succ, List.set_cons_zero]
                refine wpAnyH_take (i := 5) (oi := ?o1x5) (v := ?v1x5) ?hi1x5 (by kernel_rfl) ?hf1x5 ?hr1x5 (fun _ _ _ h => h) ?hy1x5 (by assumption) ?rest1x5
                case hi1x5 => (simp only [List.getElem?_toArray, List.getElem?_cons_succ, List.getElem?_cons_zero]; exact rfl)
                case hf1x5 => kernel_rfl
                case hr1x5 => kernel_rfl
                case hy1x5 => (refine Or.inl ⟨by rfl, ?_⟩; intro w hSw; (try dsimp only at hSw); go_simp; try with_reducible rfl)
                simp only [put_mk, List.set_cons_succ, List.set_cons_zero]
                refine wpAnyH_ready (rs := [6]) (by kernel_rfl) (by simp) ?_
                refine AllReadyH.cons (o := ?o1x6) ?hi1x6 (fun K hK => ?_) AllReadyH.nil
                case hi1x6 => (simp only [List.getElem?_toArray, List.getElem?_cons_succ, List.getElem?_cons_zero]; exact rfl)
                go_simp
                refine (HNk _ (hS.ext.trans (by (repeat (first | exact Ext.refl _ | assumption | refine Ext.setCell ?_ (by first | (simp; done) | (simp; omega)) _ | refine Ext.drewN ?_ _ | refine Ext.alloc ?_ _ | refine Ext.drew ?_ | refine Ext.trans ?_ (by assumption)))))).mono ?_
                rintro e w6 ⟨rfl, hx6⟩
                refine hK.out _ _ ?_ (fun hHeld => ?_)
                · (repeat (first | exact Ext.refl _ | assumption | refine Ext.setCell ?_ (by first | (simp; done) | (simp; omega)) _ | refine Ext.drewN ?_ _ | refine Ext.alloc ?_ _ | refine Ext.drew ?_ | refine Ext.trans ?_ (by assumption)))
                clear hK K
                refine wpAnyH_take (i := 7) (oi := ?o1x7) (v := ?v1x7) ?hi1x7 (by kernel_rfl) ?hf1x7 ?hr1x7 (fun _ _ _ h => h) ?hy1x7 (by assumption) ?rest1x7
                case hi1x7 => (simp only [List.getElem?_toArray, List.getElem?_cons_succ, List.getElem?_cons_zero]; exact rfl)
                case hf1x7 => kernel_rfl
                case hr1x7 => kernel_rfl
                case hy1x7 => (refine Or.inl ⟨by rfl, ?_⟩; intro w hSw; (try dsimp only at hSw); go_simp; try with_reducible rfl)
                simp only [put_mk, List.set_cons_succ, List.set_cons_zero]
                refine wpAnyH_done (by kernel_rfl) ?_ _
                refine NoPanic.normal ?_
                clear e0 e1 e2 e3 q9 HNk
                go_wp2_with fail
                go_roundw
                case rel => exact ⟨i + 1, _, cap, L, J, by go_num, rfl, hT2.out, hS.step ((Ext.drew (Ext.refl _)).trans hx6)⟩
                case measure => simp [intOf]; omega
              | some n =>
                have hnN := Hlt.out q n hn
                obtain ⟨hJ1, _, _⟩ := Hon.out n hn hnN
                have hJ2 : J n ≤ 65536 := Nat.le_trans (HJb.out n hnN) hN6
                rw [hn, show nbI (some n) = (n : Int) from rfl] at HNk
                have Hle2 := hidA (Hle.out n hn hnN)
                have Hpu2 := hidA (Hpu.out n hn hnN)
                have j1 : (0 : Int) ≤ n := by omega
                have j2 : (n : Int) < N := by omega
                clear hn Hle Hpu Hon Hsk
                refine wp_region_noPanic ?_
                refine wp_region_held_drew (S := fun w' => Ext wr w') (by kernel_rfl) ?_ (fun hHeld => ?_)
                · (repeat (first | exact Ext.refl _ | assumption | refine Ext.setCell ?_ (by first | (simp; done) | (simp; omega)) _ | refine Ext.drewN ?_ _ | refine Ext.alloc ?_ _ | refine Ext.drew ?_ | refine Ext.trans ?_ (by assumption)))
                refine wpAnyH_take (i := 0) (oi := ?o2x0) (v := ?v2x0) ?hi2x0 (by kernel_rfl) ?hf2x0 ?hr2x0 (fun _ _ _ h => h) ?hy2x0 (by assumption) ?rest2x0
                case hi2x0 => (simp only [List.getElem?_toArray, List.getElem?_cons_zero]; exact rfl)
                case hf2x0 => kernel_rfl
                case hr2x0 => kernel_rfl
                case hy2x0 => (refine Or.inl ⟨by rfl, ?_⟩; intro w hSw; (try dsimp only at hSw); go_simp; try with_reducible rfl)
                simp only [put_mk, List.set_cons_succ, List.set_cons_zero]
                refine wpAnyH_take (i := 1) (oi := ?o2x1) (v := ?v2x1) ?hi2x1 (by kernel_rfl) ?hf2x1 ?hr2x1 (fun _ _ _ h => h) ?hy2x1 (by assumption) ?rest2x1
                case hi2x1 => (simp only [List.getElem?_toArray, List.getElem?_cons_succ, List.getElem?_cons_zero]; exact rfl)
                case hf2x1 => kernel_rfl
                case hr2x1 => kernel_rfl
                case hy2x1 => (refine Or.inl ⟨by rfl, ?_⟩; intro w hSw; (try dsimp only at hSw); go_simp; try with_reducible rfl)
                simp only [put_mk, List.set_cons_succ, List.set_cons_zero]
                refine wpAnyH_take (i := 2) (oi := ?o2x2) (v := ?v2x2) ?hi2x2 (by kernel_rfl) ?hf2x2 ?hr2x2 (fun _ _ _ h => h) ?hy2x2 (by assumption) ?rest2x2
                case hi2x2 => (simp only [List.getElem?_toArray, List.getElem?_cons_succ, List.getElem?_cons_zero]; exact rfl)
                case hf2x2 => kernel_rfl
                case hr2x2 => kernel_rfl
                case hy2x2 => (refine Or.inl ⟨by rfl, ?_⟩; intro w hSw; (try dsimp only at hSw); go_simp; try with_reducible rfl)
                simp only [put_mk, List.set_cons_succ, List.set_cons_zero]
                refine wpAnyH_take (i := 3) (oi := ?o2x3) (v := ?v2x3) ?hi2x3 (by kernel_rfl) ?hf2x3 ?hr2x3 (fun _ _ _ h => h) ?hy2x3 (by assumption) ?rest2x3
                case hi2x3 => (simp only [List.getElem?_toArray, List.getElem?_cons_succ, List.getElem?_cons_zero]; exact rfl)
                case hf2x3 => kernel_rfl
                case hr2x3 => kernel_rfl
                case hy2x3 => (refine Or.inl ⟨by rfl, ?_⟩; intro w hSw; (try dsimp only at hSw); go_simp; try with_reducible rfl)
                simp only [put_mk, List.set_cons_succ, List.set_cons_zero]
                refine wpAnyH_take (i := 4) (oi := ?o2x4) (v := ?v2x4) ?hi2x4 (by kernel_rfl) ?hf2x4 ?hr2x4 (fun _ _ _ h => h) ?hy2x4 (by assumption) ?rest2x4
                case hi2x4 => (simp only [List.getElem?_toArray, List.getElem?_cons_succ, List.getElem?_cons_zero]; exact rfl)
                case hf2x4 => kernel_rfl
                case hr2x4 => kernel_rfl
                case hy2x4 => (refine Or.inl ⟨by rfl, ?_⟩; intro w hSw; (try dsimp only at hSw); go_simp; try with_reducible rfl)
                simp only [put_mk, List.set_cons_succ, List.set_cons_zero]
                refine wpAnyH_take (i := 5) (oi := ?o2x5) (v := ?v2x5) ?hi2x5 (by kernel_rfl) ?hf2x5 ?hr2x5 (fun _ _ _ h => h) ?hy2x5 (by assumption) ?rest2x5
                case hi2x5 => (simp only [List.getElem?_toArray, List.getElem?_cons_succ, List.getElem?_cons_zero]; exact rfl)
                case hf2x5 => kernel_rfl
                case hr2x5 => kernel_rfl
                case hy2x5 => (refine Or.inl ⟨by rfl, ?_⟩; intro w hSw; (try dsimp only at hSw); go_simp; try with_reducible rfl)
                simp only [put_mk, List.set_cons_succ, List.set_cons_zero]
                refine wpAnyH_ready (rs := [6]) (by kernel_rfl) (by simp) ?_
                refine AllReadyH.cons (o := ?o2x6) ?hi2x6 (fun K hK => ?_) AllReadyH.nil
                case hi2x6 => (simp only [List.getElem?_toArray, List.getElem?_cons_succ, List.getElem?_cons_zero]; exact rfl)
                go_simp
                refine (HNk _ (hS.ext.trans (by (repeat (first | exact Ext.refl _ | assumption | refine Ext.setCell ?_ (by first | (simp; done) | (simp; omega)) _ | refine Ext.drewN ?_ _ | refine Ext.alloc ?_ _ | refine Ext.drew ?_ | refine Ext.trans ?_ (by assumption)))))).mono ?_
                rintro e w6 ⟨rfl, hx6⟩
                refine hK.out _ _ ?_ (fun hHeld => ?_)
                · (repeat (first | exact Ext.refl _ | assumption | refine Ext.setCell ?_ (by first | (simp; done) | (simp; omega)) _ | refine Ext.drewN ?_ _ | refine Ext.alloc ?_ _ | refine Ext.drew ?_ | refine Ext.trans ?_ (by assumption)))
                clear hK K
                refine wpAnyH_take (i := 7) (oi := ?o2x7) (v := ?v2x7) ?hi2x7 (by kernel_rfl) ?hf2x7 ?hr2x7 (fun _ _ _ h => h) ?hy2x7 (by assumption) ?rest2x7
                case hi2x7 => (simp only [List.getElem?_toArray, List.getElem?_cons_succ, List.getElem?_cons_zero]; exact rfl)
                case hf2x7 => kernel_rfl
                case hr2x7 => kernel_rfl
                case hy2x7 => (refine Or.inl ⟨by rfl, ?_⟩; intro w hSw; (try dsimp only at hSw); go_simp; try with_reducible rfl)
                simp only [put_mk, List.set_cons_succ, List.set_cons_zero]
                refine wpAnyH_done (by kernel_rfl) ?_ _
                refine NoPanic.normal ?_
                clear e0 e1 e2 e3 q9 HNk
                have hS6 := hS.step ((Ext.drew (Ext.refl _)).trans hx6)
                clear hS hx6
                go_upto_region 21 with fail
                have q0 := hS6.ib.cell n
                rw [intB_get _ hnN] at q0
                have q1 := hS6.ib.frozen n
                have hS := hS6.put n (J n - 1)
                have q2 := hS.ib.cell n
                rw [intB_get _ hnN, updF_same] at q2
                obtain ⟨y, hy⟩ : ∃ y, J n = y + 1 := ⟨J n - 1, by omega⟩
                have hy2 : y ≤ 65536 := by omega
                rw [hy] at q0 Hle2 Hpu2 hS q2
                rw [Nat.add_sub_cancel] at Hle2 Hpu2 hS q2
                clear hJ1
                by_cases h0 : y = 0
                · subst h0
                  have hT2 := hidA (Hpu2.out rfl)
                  clear Hle2 Hpu2 hy
                  go_upto_region 23 with fail
                  have hS : DW w (w6.setCell ⟨gi, n, none⟩ (.int .i64 0)) hr gi X Y Wn Hn N (updF J n 0) (some ad) cap L := hS
                  generalize w6.setCell ⟨gi, n, none⟩ (.int .i64 0) = w7 at *
                  clear q0 q1 q2 hS6
                  have hs5 := hS.ext.size
                  have hA3 := hidA (hS.step ((Ext.refl _).alloc (.cells #[.int .i64 (n : Int)] 3)))
                  have hC3 := hidA (show (w7.alloc (.cells #[.int .i64 (n : Int)] 3)).cell? ⟨w7.heap.size, 0, none⟩ = some (.int .i64 (n : Int)) from by rw [cell_new_row]; rfl)
                  have hS3 := hidA (show w.heap.size ≤ (w7.alloc (.cells #[.int .i64 (n : Int)] 3)).heap.size from by simp; omega)
                  go_wp2_with (at_builtin; (refine wpList_append_q _ (by rfl) _ _ 32 (by rfl) w.heap.size 3 i0 (.int .i64 0) 8 Try.underlying32 hi0 hz0 hz1 hz2 rfl (some ad) L.length cap (inq L) (by rfl) hA3.out.qs hS3.out ⟨w7.heap.size, 0, none⟩ 1 (.int .i64 (n : Int)) (by rfl) hC3.out rfl (by unfold maxLen; omega) (by omega) ?_; intro Q' cap' w4 hq4 hg4 ho4))
                  have hS6 := hidA (hA3.out.app hq4 hg4 ho4)
                  have eL : (Value.slice Q' (L.length + 1) cap') = .slice Q' (L ++ [n]).length cap' := by rw [List.length_append]; rfl
                  clear hA3 hC3 hS3 hq4 hg4 ho4 hs5 hS
                  go_wp2_with fail
                  go_roundw
                  case rel => exact ⟨i + 1, Q', cap', L ++ [n], _, by go_num, eL, hT2.out, hS6.out⟩
                  case measure => simp [intOf]; omega
                · have hT2 := hidA (Hle2.out h0)
                  have hne : (((y : Nat) : Int) == 0) = false := by simpa using h0
                  have hn2 : ¬ ((y : Nat) : Int) = 0 := by omega
                  clear Hle2 Hpu2 hy
                  have Hs := hidA hS
                  clear hS hS6
                  go_wp2_with fail
                  go_roundw
                  case rel => exact ⟨i + 1, _, cap, L, _, by go_num, rfl, hT2.out, Hs.out⟩
                  case measure => simp [intOf]; omega
            · obtain rfl : i = L.length := by omega
              have hF := HT.out.fin
              go_wp2_with fail
              go_ret
              exact ⟨Q, cap, L, rfl, hS.qs, hF, hS.ext⟩
end Go.Proofs.Ytepgfplbkmhgbaa

namespace Go.Proofs.Ytepgfplbkmhgbaa
open Go.RowKit
attribute [local go_sem ↓] Go.wp_at_zero Go.wp_at_succ
attribute [local go_sem] run_store_float

theorem Topo.len {nx : Nat → Option Nat} {N : Nat} {L : List Nat} (h : Topo nx N L) (hall : ∀ j, j < N → j ∈ L) : L.length = N := by
  have h1 := nodup_cnt L h.nd h.lt
  have h2 : cntB (fun k => decide (k ∈ L)) N = cntB (fun _ => true) N := cntB_congr N fun k hk => by simpa using hall k hk
  have h3 : ∀ n, cntB (fun _ => true) n = n := fun n => by
    induction n with
    | zero => rfl
    | succ n ih => rw [cntB, ih]; rfl
  rw [← h1, h2, h3]
set_option maxRecDepth 100000 in
set_option maxHeartbeats 6400000 in
theorem CheckDirs_ok (X Y : Int) (Wn Hn N c : Nat) (A : Option Addr) (D : Nat → Int) (m : Nat → Nat) (w : World) (hr : Reg X Y Wn Hn) (hr0 : regE X Y Wn Hn = 0) (hN : N = Wn * Hn) (hD : DirsAt w A N D) (hL : Lead Wn Hn N D m) :
    Calls Try.prog 22 #[rgv X Y Wn Hn, .slice A N c] w fun e w' => e = .returned (.int .i64 0) ∧ Ext w w' := by
  have hN6 : N ≤ 65536 := by rw [hN]; exact hr.n
  have HR := fun (w : World) => hidA (checkRegion_any X Y Wn Hn w)
  rw [hr0] at HR
  have HB := hidA (fun (k : Nat) (d : Nat) (w : World) (hk : k < N) (hd : d < 8) => beside_any X Y Wn Hn k d w hr (by rw [← hN]; exact hk) hd)
  have HDn := hidA (fun (w' : World) (h : Ext w w') => downward_any X Y Wn Hn N c A D w' hr hN (hD.ext h) hL.valid)
  unfold rgv at HB HDn ⊢
  have Hlen := hidA (fun (L : List Nat) (h : Topo (nxtD D Wn Hn) N L) => h.len (h.all m (fun p n hp hn => (hL.nxt hN hp hn).2)))
  have HL := hidA hL
  have HD := hidA hD
  have W1 : wrap64 ((Wn : Int) * (Hn : Int)) = (N : Int) := by rw [← Int.natCast_mul, ← hN]; exact IntWalk.wrap64_in _ ⟨by omega, by omega⟩
  have W1' : IntKind.i64.wrap ((Wn : Int) * (Hn : Int)) = (N : Int) := by rw [← Int.natCast_mul, ← hN]; exact IntWalk.i64_in _ (by omega)
  have W2 : (Wn : Int) * (Hn : Int) = (N : Int) := by rw [← Int.natCast_mul, ← hN]
  have kR : Bk (w.alloc (.cells #[.int .i64 X, .int .i64 Y, .int .i64 (Wn : Int), .int .i64 (Hn : Int)] 23)) w.heap.size 23 #[.int .i64 X, .int .i64 Y, .int .i64 (Wn : Int), .int .i64 (Hn : Int)] := Bk.new' rfl
  have hx0 : Ext w (w.alloc (.cells #[.int .i64 X, .int .i64 Y, .int .i64 (Wn : Int), .int .i64 (Hn : Int)] 23)) := (Ext.refl w).alloc _
  clear hr hr0 hN hD hL
  go_enter Try.func22, Try.ntmps22
  go_upto_region 1 with fail
  generalize w.alloc (.cells #[.int .i64 X, .int .i64 Y, .int .i64 (Wn : Int), .int .i64 (Hn : Int)] 23) = w1 at *
  generalize w.heap.size = h0 at kR ⊢
  have c0 := kR.cell 0
  have c1 := kR.cell 1
  have c2 := kR.cell 2
  have c3 := kR.cell 3
  go_upto_region 4 with (go_at_call 16; refine ((HR _).out).mono ?_; rintro e w2 ⟨rfl, hx2⟩)
  have kR2 := kR.ext hx2
  have hxw := hx0.trans hx2
  clear c0 c1 c2 c3 kR hx0 hx2
  have c2 := kR2.cell 2
  have c3 := kR2.cell 3
  go_wp2_with fail
  clear c2 c3
  go_loopw [25] (fun s25 wr => ∃ (k : Nat), k ≤ N ∧ s25 = .int .i64 k ∧ Bk wr h0 23 #[.int .i64 X, .int .i64 Y, .int .i64 (Wn : Int), .int .i64 (Hn : Int)] ∧ Ext w wr) (fun s25 _ => N - (intOf s25).toNat)
  case atStart => exact ⟨0, Nat.zero_le _, rfl, kR2, hxw⟩
  case round =>
    clear kR2 hxw
    obtain ⟨k, hk, rfl, kR, hx⟩ := hrel
    have c0 := kR.cell 0
    have c1 := kR.cell 1
    have c2 := kR.cell 2
    have c3 := kR.cell 3
    by_cases hkN : k < N
    · have i1 : (0 : Int) ≤ k := by omega
      have i2 : (k : Int) < N := by omega
      obtain ⟨ad, rfl, _, q0⟩ := (HD.out.ext hx).cell hkN
      obtain ⟨h1, h8⟩ := HL.out.rng k hkN
      by_cases hd0 : D k = -1
      · rw [hd0] at q0
        clear hd0 h1 h8
        go_wp2_with fail
        go_roundw
        case rel => exact ⟨k + 1, by omega, by go_num, kR, hx⟩
        case measure => simp [intOf]; omega
      · obtain ⟨n, hn, _⟩ := HL.out.step k hkN (by omega)
        have HBk := fun (w : World) => HB.out k (D k).toNat w hkN (by omega)
        rw [hn, Int.toNat_of_nonneg (by omega)] at HBk
        have hne : (D k == -1) = false := by simpa using hd0
        have h1' : ¬ (D k < -1) := by omega
        have h8' : ¬ (8 ≤ D k) := by omega
        clear hn h1 h8
        generalize D k = z at q0 HBk hne h1' h8' hd0
        unfold nbV at HBk
        go_wp2_with (go_at_call 45; refine (HBk _).mono ?_; rintro e w5 ⟨rfl, hx5⟩)
        go_roundw
        case rel => exact ⟨k + 1, by omega, by go_num, kR.ext hx5, hx.trans hx5⟩
        case measure => simp [intOf]; omega
    · obtain rfl : N = k := by omega
      go_wp2_with (go_at_call 29; refine (HDn.out _ hx).mono ?_; rintro e w5 ⟨Q, cap, L, rfl, _, hT, hx5⟩; have hll := Hlen.out L hT; rw [hll]; clear hT)
      go_ret
      exact ⟨rfl, hx.trans hx5⟩
end Go.Proofs.Ytepgfplbkmhgbaa

namespace Go.Proofs.Ytepgfplbkmhgbaa
open Go.RowKit
attribute [local go_sem ↓] Go.wp_at_zero Go.wp_at_succ
attribute [local go_sem] run_store_float

theorem cell_spot {X Y : Int} {Wn Hn k : Nat} (hr : Reg X Y Wn Hn) (hk : k < Wn * Hn) : InR X Y Wn Hn (colK X Wn k) (rowK Y Wn k) ∧ cellN X Y Wn (colK X Wn k) (rowK Y Wn k) = k := by
  obtain ⟨f1, f2⟩ := grid_facts hr.w1 hk
  have h3 := Nat.div_add_mod k Wn
  unfold InR cellN colK rowK
  generalize k % Wn = a at *
  generalize k / Wn = b at *
  have h4 : (b : Int) * (Wn : Int) = ((Wn * b : Nat) : Int) := by rw [Int.natCast_mul, Int.mul_comm]
  have e1 : Y + (b : Int) - Y = b := by omega
  rw [e1, h4]
  refine ⟨⟨?_, ?_, ?_, ?_⟩, ?_⟩ <;> omega
/-- where Next leads from a cell -/
def nxtP (X Y : Int) (Wn : Nat) (o : Option Nat) : Value := match o with
  | none => .tuple #[.agg #[.int .i64 0, .int .i64 0], .bool false, .int .i64 0]
  | some n => .tuple #[.agg #[.int .i64 (colK X Wn n), .int .i64 (rowK Y Wn n)], .bool true, .int .i64 0]
set_option maxRecDepth 100000 in
set_option maxHeartbeats 6400000 in
theorem Next_ok (X Y : Int) (Wn Hn N c k : Nat) (A : Option Addr) (D : Nat → Int) (m : Nat → Nat) (w : World) (hr : Reg X Y Wn Hn) (hr0 : regE X Y Wn Hn = 0) (hN : N = Wn * Hn) (hD : DirsAt w A N D) (hL : Lead Wn Hn N D m) (hk : k < N) :
    Calls Try.prog 10 #[rgv X Y Wn Hn, .slice A N c, .agg #[.int .i64 (colK X Wn k), .int .i64 (rowK Y Wn k)]] w fun e w' => e = .returned (nxtP X Y Wn (nxtD D Wn Hn k)) ∧ Ext w w' := by
  have hkW : k < Wn * Hn := by rw [← hN]; exact hk
  obtain ⟨hin, hce⟩ := cell_spot hr hkW
  have HC := hidA (fun (w' : World) (h : Ext w w') => CheckDirs_ok X Y Wn Hn N c A D m w' hr hr0 hN (hD.ext h) hL)
  have HP := fun (w : World) => hidA (place_in X Y Wn Hn _ _ w hr.ok hin)
  rw [hce] at HP
  have HNx := hidA (fun (w' : World) (h : Ext w w') => next_any X Y Wn Hn N k c A D w' hr hN (hD.ext h) hk (hL.rng k hk).1 (hL.rng k hk).2 (hL.valid.into k hk))
  have HPt := hidA (fun (n : Nat) (w : World) (hn : n < Wn * Hn) => point_any X Y Wn Hn n w hr hn)
  unfold rgv at HC HNx HPt ⊢
  have Hlt := hidA (fun (n : Nat) (h : nxtD D Wn Hn k = some n) => nxt_lt h)
  clear hr hr0 hN hD hL hk hkW hin hce
  generalize nxtD D Wn Hn k = o at *
  generalize colK X Wn k = px at *
  generalize rowK Y Wn k = py at *
  have kR : Bk (((w.alloc (.cells #[.int .i64 X, .int .i64 Y, .int .i64 (Wn : Int), .int .i64 (Hn : Int)] 23)).alloc (.cells #[.int .i64 px, .int .i64 py] 37)).alloc (.cells #[.int .i64 0, .int .i64 0] 37)) w.heap.size 23 #[.int .i64 X, .int .i64 Y, .int .i64 (Wn : Int), .int .i64 (Hn : Int)] := ((Bk.new' rfl).alloc _).alloc _
  have kP : Bk (((w.alloc (.cells #[.int .i64 X, .int .i64 Y, .int .i64 (Wn : Int), .int .i64 (Hn : Int)] 23)).alloc (.cells #[.int .i64 px, .int .i64 py] 37)).alloc (.cells #[.int .i64 0, .int .i64 0] 37)) (w.heap.size + 1) 37 #[.int .i64 px, .int .i64 py] := (Bk.new' (by simp)).alloc _
  have kZ : Bk (((w.alloc (.cells #[.int .i64 X, .int .i64 Y, .int .i64 (Wn : Int), .int .i64 (Hn : Int)] 23)).alloc (.cells #[.int .i64 px, .int .i64 py] 37)).alloc (.cells #[.int .i64 0, .int .i64 0] 37)) (w.heap.size + 1 + 1) 37 #[.int .i64 0, .int .i64 0] := Bk.new' (by simp)
  have hx0 : Ext w (((w.alloc (.cells #[.int .i64 X, .int .i64 Y, .int .i64 (Wn : Int), .int .i64 (Hn : Int)] 23)).alloc (.cells #[.int .i64 px, .int .i64 py] 37)).alloc (.cells #[.int .i64 0, .int .i64 0] 37)) := (((Ext.refl w).alloc _).alloc _).alloc _
  go_enter Try.func10, Try.ntmps10
  go_upto_region 1 with fail
  generalize ((w.alloc (.cells #[.int .i64 X, .int .i64 Y, .int .i64 (Wn : Int), .int .i64 (Hn : Int)] 23)).alloc (.cells #[.int .i64 px, .int .i64 py] 37)).alloc (.cells #[.int .i64 0, .int .i64 0] 37) = w1 at *
  have Hz := hidA (show w.heap.size ≤ w.heap.size + 1 + 1 by omega)
  generalize w.heap.size + 1 + 1 = hz at *
  generalize w.heap.size + 1 = hp at *
  generalize w.heap.size = h0 at kR
  have c0 := kR.cell 0
  have c1 := kR.cell 1
  have c2 := kR.cell 2
  have c3 := kR.cell 3
  go_upto_region 4 with (go_at_call 22; refine (HC.out _ (hx0.trans (by repeat (first | exact Ext.refl _ | assumption | refine Ext.setCell ?_ (by first | (simp; done) | (simp; omega)) _ | refine Ext.drewN ?_ _ | refine Ext.alloc ?_ _ | refine Ext.drew ?_ | refine Ext.trans ?_ (by assumption))))).mono ?_; rintro e w2 ⟨rfl, hx2⟩)
  have kR2 := kR.ext hx2
  have kP2 := kP.ext hx2
  have kZ2 := kZ.ext hx2
  have hxw := hx0.trans hx2
  clear c0 c1 c2 c3 kR kP kZ hx0 hx2 HC
  have c0 := kR2.cell 0
  have c1 := kR2.cell 1
  have c2 := kR2.cell 2
  have c3 := kR2.cell 3
  have p0 := kP2.cell 0
  have p1 := kP2.cell 1
  go_upto_region 7 with (go_at_call 23; refine ((HP _).out).mono ?_; rintro e w3 ⟨rfl, hx3⟩)
  have kR3 := kR2.ext hx3
  have kZ3 := kZ2.ext hx3
  have hxw3 := hxw.trans hx3
  clear c0 c1 c2 c3 p0 p1 kR2 kP2 kZ2 hxw hx3 HP
  have c0 := kR3.cell 0
  have c1 := kR3.cell 1
  have c2 := kR3.cell 2
  have c3 := kR3.cell 3
  go_upto_region 8 with (go_at_call 24; refine (HNx.out _ (hxw3.trans (by repeat (first | exact Ext.refl _ | assumption | refine Ext.setCell ?_ (by first | (simp; done) | (simp; omega)) _ | refine Ext.drewN ?_ _ | refine Ext.alloc ?_ _ | refine Ext.drew ?_ | refine Ext.trans ?_ (by assumption))))).mono ?_; rintro e w4 ⟨rfl, hx4⟩)
  have kR4 := kR3.ext hx4
  have kZ4 := kZ3.ext hx4
  have hxw4 := hxw3.trans hx4
  clear c0 c1 c2 c3 kR3 kZ3 hxw3 hx4 HNx
  have c0 := kR4.cell 0
  have c1 := kR4.cell 1
  have c2 := kR4.cell 2
  have c3 := kR4.cell 3
  have z0 := kZ4.cell 0
  have z1 := kZ4.cell 1
  have y0 := kZ4.frozen 0
  have y1 := kZ4.frozen 1
  cases o with
  | none =>
    rw [show nbI none = -1 from rfl]
    go_wp2_with fail
    refine bodyPost_ret (v := .tuple #[.agg #[.int .i64 0, .int .i64 0], .bool false, .int .i64 0]) (by simp [results, Try.results10, go_sem, z0, z1]) rfl ⟨rfl, ?_⟩
    repeat (first | (with_reducible exact hxw4) | (with_reducible refine Ext.setCell ?_ Hz.out _))
  | some n =>
    have hn := Hlt.out n rfl
    have HPn := fun (w : World) => HPt.out n w hn
    rw [show nbI (some n) = (n : Int) from rfl]
    have hne : (((n : Nat) : Int) == -1) = false := by simp
    have hne2 : ¬ ((n : Nat) : Int) = -1 := by omega
    clear HPt Hlt hn
    generalize hcol : colK X Wn n = qx at *
    generalize hrow : rowK Y Wn n = qy at *
    have Hcr := hidA (And.intro hcol hrow)
    clear hcol hrow
    go_wp2_with (go_at_call 25; refine (HPn _).mono ?_; rintro e w5 ⟨rfl, hx5⟩; have kZ5 := kZ4.ext hx5; have z0 := kZ5.cell 0; have z1 := kZ5.cell 1; have y0 := kZ5.frozen 0; have y1 := kZ5.frozen 1)
    refine bodyPost_ret (v := .tuple #[.agg #[.int .i64 qx, .int .i64 qy], .bool true, .int .i64 0]) (by simp [results, Try.results10, go_sem, z0, z1]) rfl ⟨?_, ?_⟩
    · show Ending.returned _ = Ending.returned (.tuple #[.agg #[.int .i64 (colK X Wn n), .int .i64 (rowK Y Wn n)], .bool true, .int .i64 0])
      rw [Hcr.out.1, Hcr.out.2]
    · have h5 := hxw4.trans hx5
      repeat (first | (with_reducible exact h5) | (with_reducible refine Ext.setCell ?_ Hz.out _))
end Go.Proofs.Ytepgfplbkmhgbaa

namespace Go.Proofs.Ytepgfplbkmhgbaa
open Go.RowKit
attribute [local go_sem ↓] Go.wp_at_zero Go.wp_at_succ
attribute [local go_sem] run_store_float

/-- the first N cells of a block of integers of cp cells -/
def CI (w : World) (g cp N : Nat) (f : Nat → Int) : Prop := ∃ cur, Bk w g 3 cur ∧ N ≤ cp ∧ cur.size = cp ∧ ∀ k, k < N → cur[k]? = some (.int .i64 (f k))
theorem CI.ext {w w' : World} {g cp N : Nat} {f : Nat → Int} (h : CI w g cp N f) (hx : Ext w w') : CI w' g cp N f := let ⟨_, h1, h2⟩ := h; ⟨_, h1.ext hx, h2⟩
theorem CI.far {w : World} {g cp N : Nat} {f : Nat → Int} (h : CI w g cp N f) {p : Addr} (hp : g ≠ p.block) (u : Value) : CI (w.setCell p u) g cp N f := let ⟨_, h1, h2⟩ := h; ⟨_, h1.far hp u, h2⟩
theorem CI.put {w : World} {g cp N : Nat} {f : Nat → Int} (h : CI w g cp N f) (k : Nat) (x : Int) : CI (w.setCell ⟨g, k, none⟩ (.int .i64 x)) g cp N (updF f k x) := by
  obtain ⟨cur, h1, h2, h3, h4⟩ := h
  refine ⟨_, Bk.set h1 k (.int .i64 x), h2, by simp [h3], fun j hj => ?_⟩
  rw [Array.getElem?_setIfInBounds]
  unfold updF
  by_cases e : k = j
  · subst e
    rw [if_pos rfl, if_pos (by omega), if_pos rfl]
  · rw [if_neg e, if_neg (fun q => e q.symm)]
    exact h4 j hj
theorem CI.cell {w : World} {g cp N k : Nat} {f : Nat → Int} (h : CI w g cp N f) (hk : k < N) : w.cell? ⟨g, k, none⟩ = some (.int .i64 (f k)) := by
  obtain ⟨cur, h1, _, _, h4⟩ := h
  rw [h1.cell]
  exact h4 k hk
theorem CI.frozen {w : World} {g cp N : Nat} {f : Nat → Int} (h : CI w g cp N f) (k : Nat) : w.frozen? ⟨g, k, none⟩ = false := let ⟨_, h1, _⟩ := h; h1.frozen k
theorem CI.lt {w : World} {g cp N : Nat} {f : Nat → Int} (h : CI w g cp N f) : g < w.heap.size := let ⟨_, h1, _⟩ := h; h1.lt
theorem CI.ne {w : World} {g cp N b : Nat} {f : Nat → Int} {t : TypeId} {cs : Array Value} (h : CI w g cp N f) (hb : Bk w b t cs) (ht : t ≠ 3) : b ≠ g := let ⟨_, h1, _⟩ := h; Bk.ne hb h1 ht
theorem CI.congr {w : World} {g cp N : Nat} {f f' : Nat → Int} (h : CI w g cp N f) (e : ∀ k, k < N → f k = f' k) : CI w g cp N f' := let ⟨cur, h1, h2, h3, h4⟩ := h; ⟨cur, h1, h2, h3, fun k hk => by rw [← e k hk]; exact h4 k hk⟩
theorem CI.of_bk {w : World} {g N : Nat} {f : Nat → Int} (h : Bk w g 3 (intB N f)) : CI w g N N f := ⟨_, h, Nat.le_refl _, by simp [intB], fun _ hk => intB_get _ hk⟩
theorem CI.dirs {w : World} {g cp N : Nat} {f : Nat → Int} (h : CI w g cp N f) : DirsAt w (some ⟨g, 0, none⟩) N f := fun _ => by
  refine ⟨_, rfl, h.lt, fun j u hu => ?_⟩
  have hj : j < N := by
    have := (List.getElem?_eq_some_iff.1 hu).1
    simpa [intL] using this
  rw [lit_add, h.cell hj]
  simpa [intL, hj] using hu
/-- what gather holds in memory -/
structure GW (W0 w : World) (hr go cp : Nat) (X Y : Int) (Wn Hn N B : Nat) (Q : Option Addr) (cap : Nat) (L : List Nat) (O : Nat → Int) : Prop where
  rb : Bk w hr 23 #[.int .i64 X, .int .i64 Y, .int .i64 (Wn : Int), .int .i64 (Hn : Int)]
  ob : CI w go cp N O
  qs : Qs w B 3 Q L.length cap (inq L)
  ext : Ext W0 w
  b1 : W0.heap.size ≤ go
  b2 : go < B
section
variable {W0 w : World} {hr go cp : Nat} {X Y : Int} {Wn Hn N B : Nat} {Q : Option Addr} {cap : Nat} {L : List Nat} {O : Nat → Int}
theorem GW.step (h : GW W0 w hr go cp X Y Wn Hn N B Q cap L O) {w' : World} (hx : Ext w w') : GW W0 w' hr go cp X Y Wn Hn N B Q cap L O := ⟨h.rb.ext hx, h.ob.ext hx, h.qs.kept (fun _ _ hl => hx.block _ hl), h.ext.trans hx, h.b1, h.b2⟩
theorem GW.put (h : GW W0 w hr go cp X Y Wn Hn N B Q cap L O) (n : Nat) (x : Int) : GW W0 (w.setCell ⟨go, n, none⟩ (.int .i64 x)) hr go cp X Y Wn Hn N B Q cap L (updF O n x) :=
  ⟨h.rb.far (h.ob.ne h.rb (by decide)) _, h.ob.put n x, h.qs.kept (fun a ha _ => Below.heap_setCell w _ _ _ (fun e => by
    have h1 := (h.qs.lt ha).1
    have h2 := h.b2
    have e2 : a.block = go := e
    omega)), h.ext.setCell (p := ⟨go, n, none⟩) h.b1 _, h.b1, h.b2⟩
end
set_option maxRecDepth 100000 in
set_option maxHeartbeats 6400000 in
theorem gather_any (X Y : Int) (Wn Hn N c cR : Nat) (A R : Option Addr) (D : Nat → Int) (m : Nat → Nat) (tr : Nat → List Nat) (rain : Nat → Int) (w : World) (hr : Reg X Y Wn Hn) (hN : N = Wn * Hn) (hD : DirsAt w A N D) (hL : Lead Wn Hn N D m) (htr : ∀ k, k < N → IsTr D Wn Hn k (tr k))
    (hR : DirsAt w R N rain) (hb : ∀ k, k < N → 0 ≤ rain k ∧ rain k ≤ 1073741824) :
    Calls Try.prog 28 #[rgv X Y Wn Hn, .slice A N c, .slice R N cR] w fun e w' => ∃ g cp, e = .returned (.slice (some ⟨g, 0, none⟩) N cp) ∧ CI w' g cp N (gatV tr rain N) ∧ w.heap.size ≤ g ∧ Ext w w' := by
  have hN6 : N ≤ 65536 := by rw [hN]; exact hr.n
  have hN1 : 1 ≤ N := by rw [hN]; exact Nat.mul_pos hr.w1 hr.h1
  have HNx := hidA (fun (k : Nat) (w' : World) (hk : k < N) (h : Ext w w') => next_any X Y Wn Hn N k c A D w' hr hN (hD.ext h) hk (hL.rng k hk).1 (hL.rng k hk).2 (hL.valid.into k hk))
  have HDn := hidA (fun (w' : World) (h : Ext w w') => downward_any X Y Wn Hn N c A D w' hr hN (hD.ext h) hL.valid)
  unfold rgv at HNx HDn ⊢
  obtain ⟨i0, hi0, hz0, hz1, hz2⟩ := info_parts infoIntW
  have Hlt := hidA (fun (k n : Nat) (h : nxtD D Wn Hn k = some n) => show n < N from by rw [hN]; exact nxt_lt h)
  have Hall := hidA (fun (L : List Nat) (h : Topo (nxtD D Wn Hn) N L) => h.all m (fun p n hp hn => (hL.nxt hN hp hn).2))
  have Hgn := hidA (fun (P : List Nat) (q : Nat) (hq : q ∉ P) (hn : nxtD D Wn Hn q = none) => gat_none (rain := rain) htr hq hn)
  have Hgs := hidA (fun (P : List Nat) (q n : Nat) (hq : q ∉ P) (hn : nxtD D Wn Hn q = some n) (hnP : n ∉ P) (hnq : n ≠ q) => gat_some (rain := rain) htr hq hn hnP hnq)
  have Hge := hidA (fun (P : List Nat) (hP : ∀ k, k < N → k ∈ P) => gat_end (rain := rain) htr hN hP)
  have Hgb := hidA (fun (P : List Nat) (c : Nat) => gatP_bd (tr := tr) (show (0 : Int) ≤ 1073741824 by omega) hb P c)
  obtain ⟨ad, rfl, _, _⟩ := hR.cell (k := 0) (by omega)
  have HR := hidA hR
  have kR : Bk (w.alloc (.cells #[.int .i64 X, .int .i64 Y, .int .i64 (Wn : Int), .int .i64 (Hn : Int)] 23)) w.heap.size 23 #[.int .i64 X, .int .i64 Y, .int .i64 (Wn : Int), .int .i64 (Hn : Int)] := Bk.new' rfl
  have hx0 : Ext w (w.alloc (.cells #[.int .i64 X, .int .i64 Y, .int .i64 (Wn : Int), .int .i64 (Hn : Int)] 23)) := (Ext.refl w).alloc _
  clear hr hN hD hL htr hR hb
  generalize nxtD D Wn Hn = nx at *
  go_enter Try.func28, Try.ntmps28
  go_upto_region 1 with fail
  generalize hw1 : w.alloc (.cells #[.int .i64 X, .int .i64 Y, .int .i64 (Wn : Int), .int .i64 (Hn : Int)] 23) = w1 at *
  clear hw1
  generalize hhr : w.heap.size = hr at kR ⊢
  have Hhr := hidA hhr
  clear hhr
  go_upto_region 2 with (at_builtin; refine wpList_append_own _ rfl _ _ 32 rfl w1.heap.size 3 i0 (.int .i64 0) 1 8 Try.underlying32 hi0 hz0 hz1 hz2 rfl (by decide) _ _ _ rfl (World.ownsRow_nil w1 _ _ 1) ad N cR (intL ((List.range N).map rain)) rfl ?qc1 ?qc2 ?qc3 ?qc4 ?qc5 ?qc6 ?_)
  case qc2 =>
    intro j u hj
    have hjl : j < (intL ((List.range N).map rain)).length := (List.getElem?_eq_some_iff.1 hj).1
    obtain ⟨ad', e, _, hcv⟩ := (HR.out.ext hx0).at (k := j) hjl
    cases e
    exact hcv j u hj
  case qc3 =>
    intro u hu
    simp [intL] at hu
    obtain ⟨x, _, rfl⟩ := hu
    rfl
  case qc4 => unfold maxLen; omega
  case qc5 => omega
  case qc6 => simp
  case qc1 => simp [intL]
  intro vv w3 hown hgrow hnil
  have hx3 : Ext w1 w3 := Ext.grown (Ext.refl w1) hgrow (by intro k hk; simp [Value.ownBlock] at hk)
  obtain ⟨go, cp, rfl, hge, hC⟩ : ∃ gv cp, vv = .slice (some ⟨gv, 0, none⟩) N cp ∧ w1.heap.size ≤ gv ∧ CI w3 gv cp N rain := by
    rcases hown.2 with ⟨_, h0⟩ | ⟨g, cap, cur, hv, hge, hblk, hle, hmax, hsz, htake⟩
    · omega
    · refine ⟨g, cap, hv, hge, cur, hblk, by omega, by simpa using hsz, fun k hk => ?_⟩
      have e1 : (cur.toList.take (N * 1))[k]? = some (.int .i64 (rain k)) := by
        rw [htake]
        simp [intL, hk]
      rw [List.getElem?_take, if_pos (by omega)] at e1
      simpa using e1
  have hgl := hC.lt
  have kR3 := kR.ext hx3
  have hxw := hx0.trans hx3
  have hw1s := hx0.size
  clear hown hgrow hnil hx3 kR hx0
  have c0 := kR3.cell 0
  have c1 := kR3.cell 1
  have c2 := kR3.cell 2
  have c3 := kR3.cell 3
  go_upto_region 3 with (go_at_call 29; refine (HDn.out _ hxw).mono ?_; rintro e w4 ⟨Q, cap, L, rfl, hQ, hT, hx4⟩)
  have hS : GW w w4 hr go cp X Y Wn Hn N w3.heap.size Q cap L (gatP tr rain (L.take 0) N) :=
    ⟨kR3.ext hx4, (hC.ext hx4).congr fun k hk => by rw [List.take_zero, gat_start hk], hQ, hxw.trans hx4, by omega, hgl⟩
  have HT := hidA hT
  clear hT hQ hx4 hC kR3 c0 c1 c2 c3 HDn hgl hxw
  generalize w3.heap.size = bs at *
  go_loopw [17] (fun s17 wr => ∃ (i : Nat), i ≤ L.length ∧ s17 = .int .i64 i ∧ GW w wr hr go cp X Y Wn Hn N bs Q cap L (gatP tr rain (L.take i) N)) (fun s17 _ => L.length - (intOf s17).toNat)
  case atStart => exact ⟨0, Nat.zero_le _, rfl, hS⟩
  case round =>
    clear hS
    obtain ⟨i, hi, rfl, hS⟩ := hrel
    by_cases hiL : i < L.length
    · have i1 : (0 : Int) ≤ i := by omega
      have i2 : (i : Int) < L.length := by omega
      have hll := nodup_le HT.out.nd HT.out.lt
      have hq := HT.out.lt _ (List.getElem_mem hiL)
      have hqP := nd_take HT.out.nd hiL
      have hah := hidA (fun n h => HT.out.ahead (n := n) hiL h)
      have hqm := hidA ((take_more hiL L[i]).2 (.inr rfl))
      have ht1 := hidA (show L.take (i + 1) = L.take i ++ [L[i]] from List.take_succ_eq_append_getElem hiL)
      obtain ⟨aq, rfl, _, hcv⟩ := hS.qs.rd.at (k := i) (by rw [inq_length]; exact hiL)
      have q0 := hcv i _ (inq_get hiL)
      clear hcv
      have Hgb1 := Hgb.out (L.take i) L[i]
      have HNk := fun w' h => HNx.out L[i] w' hq h
      generalize L[i] = q at *
      cases hn : nx q with
      | none =>
        rw [hn, show nbI none = -1 from rfl] at HNk
        have hg2 := hidA (fun c => by rw [ht1.out, Hgn.out (L.take i) q hqP hn c] : ∀ c, gatP tr rain (L.take (i + 1)) N c = gatP tr rain (L.take i) N c)
        clear hn hqP Hgb1
        have c0 := hS.rb.cell 0
        have c1 := hS.rb.cell 1
        have c2 := hS.rb.cell 2
        have c3 := hS.rb.cell 3
        go_wp2_with (go_at_call 24; refine (HNk _ (hS.ext.trans (by repeat (first | exact Ext.refl _ | assumption | refine Ext.setCell ?_ (by first | (simp; done) | (simp; omega)) _ | refine Ext.drewN ?_ _ | refine Ext.alloc ?_ _ | refine Ext.drew ?_ | refine Ext.trans ?_ (by assumption))))).mono ?_; rintro e w6 ⟨rfl, hx6⟩)
        have hS6 := hS.step hx6
        go_roundw
        case rel => exact ⟨i + 1, by omega, by go_num, hS6.rb, hS6.ob.congr (fun c _ => (hg2.out c).symm), hS6.qs, hS6.ext, hS6.b1, hS6.b2⟩
        case measure => simp [intOf]; omega
      | some n =>
        have hnN := Hlt.out q n hn
        rw [hn, show nbI (some n) = (n : Int) from rfl] at HNk
        have hn1 := hah.out n hn
        have hnP : n ∉ L.take i := fun h => hn1 (take_le (Nat.le_succ i) h)
        have hnq : n ≠ q := fun e => hn1 (by rw [e]; exact hqm.out)
        have hg2 := hidA (fun c => by rw [ht1.out, Hgs.out (L.take i) q n hqP hn hnP hnq c] : ∀ c, gatP tr rain (L.take (i + 1)) N c = updF (gatP tr rain (L.take i) N) n (gatP tr rain (L.take i) N n + gatP tr rain (L.take i) N q) c)
        have Hgb2 := Hgb.out (L.take i) n
        obtain ⟨y1, y2⟩ := Hgb1
        obtain ⟨z1, z2⟩ := Hgb2
        have j1 : (0 : Int) ≤ n := by omega
        have j2 : (n : Int) < N := by omega
        have j3 : (0 : Int) ≤ q := by omega
        have j4 : (q : Int) < N := by omega
        clear hn hqP hn1 hnP hnq
        have c0 := hS.rb.cell 0
        have c1 := hS.rb.cell 1
        have c2 := hS.rb.cell 2
        have c3 := hS.rb.cell 3
        go_upto_region 7 with (go_at_call 24; refine (HNk _ (hS.ext.trans (by repeat (first | exact Ext.refl _ | assumption | refine Ext.setCell ?_ (by first | (simp; done) | (simp; omega)) _ | refine Ext.drewN ?_ _ | refine Ext.alloc ?_ _ | refine Ext.drew ?_ | refine Ext.trans ?_ (by assumption))))).mono ?_; rintro e w6 ⟨rfl, hx6⟩)
        have hS6 := hS.step hx6
        clear c0 c1 c2 c3 hS hx6 HNk q0
        have q1 := hS6.ob.cell hnN
        have q2 := hS6.ob.cell hq
        have q3 := hS6.ob.frozen n
        have hS7 := hidA (hS6.put n (gatP tr rain (L.take i) N n + gatP tr rain (L.take i) N q))
        clear hS6
        generalize hyq : gatP tr rain (L.take i) N q = y at *
        generalize hzn : gatP tr rain (L.take i) N n = z at *
        have hsum : z + y ≤ 140737488355328 := by omega
        have hy3 : y ≤ 70368744177664 := by omega
        have hz3 : z ≤ 70368744177664 := by omega
        clear y2 z2 hyq hzn
        go_region
        go_wp2_with fail
        go_roundw
        case rel =>
          have h := hS7.out.step (Ext.drew (Ext.refl _))
          exact ⟨i + 1, by omega, by go_num, h.rb, h.ob.congr (fun c _ => (hg2.out c).symm), h.qs, h.ext, h.b1, h.b2⟩
        case measure => simp [intOf]; omega
    · obtain rfl : i = L.length := by omega
      have hO := hS.ob
      rw [List.take_length] at hO
      have hO2 := hidA (hO.congr (f' := gatV tr rain N) fun k _ => Hge.out L (Hall.out L HT.out) k)
      clear hO
      go_wp2_with fail
      go_ret
      exact ⟨go, cp, rfl, hO2.out, by have := hS.b1; have := Hhr.out; omega, hS.ext⟩
end Go.Proofs.Ytepgfplbkmhgbaa
