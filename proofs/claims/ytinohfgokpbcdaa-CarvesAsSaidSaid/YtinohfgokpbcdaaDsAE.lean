/- The heap of spills and the least spills: what holds of singles at each step of filled. No program in sight. -/
import Derived.Test.YtinohfgokpbcdaaDsAD
namespace Go.Proofs.Ytinohfgokpbcdaa
open Go.RowKit
attribute [local go_sem ↓] Go.wp_at_zero Go.wp_at_succ
attribute [local go_sem] run_store_float

/-- a heap of spills in memory -/
structure HpS (w : World) (base hb : Nat) (v : Value) (xs : List SpR) : Prop where
  pb : Bk w hb 171 #[v]
  own : OwnS w base v xs
  heap : HeapFrom leS xs xs.length 0
  fin : AllFin xs

set_option maxRecDepth 100000 in
set_option maxHeartbeats 1600000 in
theorem Init_any (hb base : Nat) (v : Value) (xs : List SpR) (w : World) (hB : Bk w hb 171 #[v]) (hO : OwnS w base v xs) (hf : AllFin xs) (h0 : 0 < xs.length) (hn4 : xs.length ≤ 1000000000) :
    Calls Try.prog 136 #[.iface 175 (.pointer (some ⟨hb, 0, none⟩))] w fun e w' => e = .returned (.tuple #[]) ∧ ∃ ys, ys.Perm xs ∧ HpS w' base hb v ys ∧ w.grownBy w' v.ownBlock := by
  obtain ⟨g, c, rest, rfl, hbg, hS, hc1, hc2, hc3⟩ := hO.form h0
  have hgb : g ≠ hb := Bk.ne hS hB (by decide)
  obtain ⟨n, hn⟩ : ∃ n, n = xs.length := ⟨_, rfl⟩
  rw [← hn] at hB h0 hn4 hc1 hc3 ⊢
  have Hn := hidA hn
  have Hf := hidA hf
  have Hc := hidA hc3
  clear hn hf hO hc3
  have nl := nil_Len
  have ml := m_Len w hb _ (hB.cell 0)
  go_enter Try.func136, Try.ntmps136
  go_wp2_with (go_at_call 187; refine (Len_any g n c w).mono ?_; rintro e w1 ⟨rfl, rfl⟩)
  clear nl ml
  go_loopw [3] (fun s3 wr => ∃ (k : Nat) (ys : List SpR), s3 = .int .i64 ((k : Int) - 1) ∧ k ≤ n / 2 ∧ ys.Perm xs ∧ HeapFrom leS ys n k ∧ SB wr g ys rest ∧ w.grownBy wr (some g)) (fun s3 _ => (intOf s3 + 1).toNat)
  case atStart => exact ⟨n / 2, xs, congrArg (Value.int .i64) (by omega), Nat.le_refl _, List.Perm.refl _, HeapFrom.half _ _, hS, World.grownBy.refl _ _⟩
  case round =>
    clear hS
    obtain ⟨k, ys, rfl, hk, hp, hh, hS, hg⟩ := hrel
    have hyl : ys.length = n := by rw [hp.length_eq]; exact Hn.out.symm
    have hBr := Bk.grown hB hg (fun e => by injection e with e; exact hgb e.symm)
    by_cases hk0 : k = 0
    · subst hk0
      have Hh := hidA hh
      clear hh
      go_wp2
      refine bodyPost_end (results_none Try.results136 _ _ _) rfl ?_
      exact ⟨rfl, ys, hp, ⟨hBr, OwnS.mk hyl.symm hbg hS (by omega) hc2 (by rw [hyl]; exact Hc.out), by rw [hyl]; exact Hh.out, Hf.out.perm hp⟩, hg⟩
    · obtain ⟨j, rfl⟩ : ∃ j, k = j + 1 := ⟨k - 1, by omega⟩
      have HD := hidA (down_any hb g n n c j j ys rest wr hBr hyl hS (Hf.out.perm hp) (Nat.le_refl _) (by omega) (Nat.le_refl _) hn4 hh.lower)
      have Hyl := hidA hyl
      clear hh hyl
      have e1 : ((j + 1 : Nat) : Int) - 1 = j := by omega
      rw [e1]
      clear e1
      go_wp2_with (go_at_call 156; refine HD.out.mono ?_; rintro e w2 ⟨b, rfl, zs, hz, _, hh2, hS2, hg2⟩)
      go_roundw
      case rel => exact ⟨j, zs, by rfl, by omega, hz.trans hp, hh2, hS2, grown_trans' hg hg2⟩
      case measure => simp [intOf]

set_option maxRecDepth 100000 in
set_option maxHeartbeats 1600000 in
theorem HPush_any (hb base : Nat) (v : Value) (xs : List SpR) (a : SpR) (w : World) (h : HpS w base hb v xs) (ha : Fin a.v) (hbase : base ≤ w.heap.size) (hn4 : xs.length ≤ 100000000) :
    Calls Try.prog 139 #[.iface 175 (.pointer (some ⟨hb, 0, none⟩)), .iface 173 (.agg #[.float .f32 a.v, .int .i64 a.k])] w fun e w' => e = .returned (.tuple #[]) ∧ ∃ v' ys, ys.Perm (xs ++ [a]) ∧ HpS w' base hb v' ys ∧ (∀ k, v'.ownBlock = some k → v.ownBlock = some k ∨ w.heap.size ≤ k) ∧ Fr w w' hb v.ownBlock := by
  have nl := nil_Push
  have np := nil_Len
  have ml := m_Push
  have HP := hidA (Push_any hb base v xs a w h.pb h.own hbase (by omega))
  go_enter Try.func139, Try.ntmps139
  go_upto_region 1 with (go_at_call 191; refine HP.out.mono ?_; rintro e w1 ⟨rfl, g, c, hg, hB1, hO1, hfr⟩)
  have hl : 0 < (xs ++ [a]).length := by simp
  obtain ⟨g', c', rest, hv, hbg, hS, hc1, hc2, hc3⟩ := hO1.form hl
  injection hv with hv1 hv2 hv3
  injection hv1 with hv1
  injection hv1 with hv1
  subst hv1
  subst hv3
  clear hv2
  have hgb : g ≠ hb := Bk.ne hS hB1 (by decide)
  have hf1 : AllFin (xs ++ [a]) := fun b hb => by
    rcases List.mem_append.1 hb with h1 | h1
    · exact h.fin b h1
    · simp at h1; subst h1; exact ha
  have HU := hidA (up_any hb g (xs.length + 1) c xs.length (xs ++ [a]) rest w1 hB1 (by simp) hS hf1 (by omega) (by omega) (h.heap.push a))
  have mn := m_Len w1 hb (.slice (some ⟨g, 0, none⟩) (xs.length + 1) c) (hB1.cell 0)
  have HL := hidA (Len_any g (xs.length + 1) c w1)
  clear HP nl ml hl
  have Hc := hidA hc3
  have Hf := hidA hf1
  clear hc3 hf1
  go_wp2_with (first | (go_at_call 187; refine HL.out.mono ?_; rintro e w2 ⟨rfl, rfl⟩) | (go_at_call 157; refine HU.out.mono ?_; rintro e w2 ⟨rfl, ys, hp, hh, hS2, hg2⟩))
  refine bodyPost_end (results_none Try.results139 _ _ _) rfl ?_
  have hyl : ys.length = xs.length + 1 := by rw [hp.length_eq]; simp
  refine ⟨rfl, .slice (some ⟨g, 0, none⟩) (xs.length + 1) c, ys, hp, ⟨Bk.grown hB1 hg2 (fun e => by injection e with e; exact hgb e.symm), OwnS.mk hyl.symm hbg hS2 ?_ hc2 ?_, hh, Hf.out.perm hp⟩, ?_, ?_⟩
  · rw [hp.length_eq]; exact hc1
  · rw [hp.length_eq]; exact Hc.out
  · intro k hk
    injection hk with hk
    subst hk
    exact hg
  · refine Fr.next hfr (Fr.grown (Fr.refl w1 hb (some g)) hg2) (fun k hk => ?_)
    injection hk with hk
    subst hk
    exact hg

set_option maxRecDepth 100000 in
set_option maxHeartbeats 1600000 in
theorem HPop_any (hb base : Nat) (v : Value) (xs : List SpR) (w : World) (h : HpS w base hb v xs) (h0 : 0 < xs.length) (hn4 : xs.length ≤ 100000000) :
    Calls Try.prog 137 #[.iface 175 (.pointer (some ⟨hb, 0, none⟩))] w fun e w' => ∃ a ys v', e = .returned (.iface 173 (.agg #[.float .f32 a.v, .int .i64 a.k])) ∧ (a :: ys).Perm xs ∧ (∀ b ∈ ys, leS a b) ∧ HpS w' base hb v' ys ∧ (∀ k, v'.ownBlock = some k → v.ownBlock = some k) ∧ Fr w w' hb v.ownBlock := by
  obtain ⟨hB, hO, hh, hf⟩ := h
  obtain ⟨g, c, rest, rfl, hbg, hS, hc1, hc2, hc3⟩ := hO.form h0
  have hgb : g ≠ hb := Bk.ne hS hB (by decide)
  obtain ⟨n, hn⟩ : ∃ n, xs.length = n + 1 := ⟨xs.length - 1, by omega⟩
  rw [hn] at hB hc1 hc3 hn4
  have nl := nil_Len
  have ns := nil_Swap
  have np := nil_Pop
  have ml := m_Len w hb _ (hB.cell 0)
  have mp := m_Pop
  have ms := m_Swap w hb _ (hB.cell 0)
  have HL := hidA (Len_any g (n + 1) c w)
  have HW := hidA (Swap_any g (n + 1) c xs rest 0 n w hn hS (by omega) (by omega) (by omega))
  have hl2 : n + 1 - 1 = n := by omega
  have hd0 := hh.last h0
  rw [hn, hl2] at hd0
  have hp0 := swapL_perm (xs := xs) (i := 0) (j := n) (by omega) (by omega)
  have Hn := hidA hn
  have Hh := hidA hh
  have Hf := hidA hf
  have Hc := hidA hc3
  have Hd0 := hidA hd0
  clear hn hh hf hc3 hO hd0 hl2 h0
  go_enter Try.func137, Try.ntmps137
  go_upto_region 3 with (first | (go_at_call 187; refine HL.out.mono ?_; rintro e w1 ⟨rfl, rfl⟩) | (go_at_call 189; refine HW.out.mono ?_; rintro e w2 ⟨rfl, hS2, hg2⟩))
  have hB2 := Bk.grown hB hg2 (fun e => by injection e with e; exact hgb e.symm)
  have hs2 : (swapL xs 0 n).length = n + 1 := by rw [swapL_length]; exact Hn.out
  have HD := hidA (down_any hb g (n + 1) n c 0 0 (swapL xs 0 n) rest w2 hB2 hs2 hS2 (Hf.out.perm hp0) (Nat.le_refl _) (by omega) (by omega) (by omega) Hd0.out)
  clear HL HW ml ms nl ns hs2
  go_upto_region 4 with (go_at_call 156; refine HD.out.mono ?_; rintro e w3 ⟨b, rfl, zs, hz, hdr, hh3, hS3, hg3⟩)
  have hzl : zs.length = n + 1 := by rw [hz.length_eq, swapL_length]; exact Hn.out
  have hB3 := Bk.grown hB2 hg3 (fun e => by injection e with e; exact hgb e.symm)
  obtain ⟨a, ha⟩ : ∃ a, a = zs.getD n ⟨0, 0⟩ := ⟨_, rfl⟩
  have hzs : zs = zs.take n ++ [a] := by
    rw [ha, getD_el (by omega)]
    have := List.take_append_getElem (show n < zs.length by omega)
    rw [this, List.take_of_length_le (by omega)]
  have ha0 : a = xs.getD 0 ⟨0, 0⟩ := by
    have h1 : (zs.drop n).head? = ((swapL xs 0 n).drop n).head? := by rw [hdr]
    rw [List.head?_drop, List.head?_drop] at h1
    have h2 := swapL_get (xs := xs) (i := 0) (j := n) (c := n) (by have := Hn.out; omega) (by have := Hn.out; omega)
    rw [if_pos rfl, List.getD_eq_getElem?_getD, ← h1] at h2
    rw [ha, List.getD_eq_getElem?_getD]
    exact h2
  obtain ⟨ys, hys⟩ : ∃ ys, ys = zs.take n := ⟨_, rfl⟩
  have hyl : ys.length = n := by rw [hys, List.length_take]; omega
  rw [← hys] at hzs
  have hS4 : SB w3 g (ys ++ [a]) rest := by rw [← hzs]; exact hS3
  have HP := hidA (Pop_any hb g n c ys a rest w3 hB3 hyl hS4 (by omega) (by omega))
  have hperm : (a :: ys).Perm xs := by
    refine List.Perm.trans ?_ (hz.trans hp0)
    rw [hzs]
    exact (List.perm_append_singleton a ys).symm
  have Hha := hidA ha0
  have Hz := hidA hzs
  have Hys := hidA hys
  clear HD ha ha0 hzs hys hdr
  go_wp2_with (go_at_call 190; refine HP.out.mono ?_; rintro e w4 ⟨rfl, hB4, hf4⟩)
  go_ret
  refine ⟨a, ys, .slice (some ⟨g, 0, none⟩) n c, rfl, hperm, fun b hb => ?_, ⟨hB4, ?_, ?_, ?_⟩, fun k hk => hk, ?_⟩
  · rw [Hha.out]
    have h1 : b ∈ xs := hperm.mem_iff.1 (List.mem_cons_of_mem _ hb)
    exact Hh.out.mem leS_refl leS_trans b h1
  · have hS5 : SB w4 g ys (a.cells ++ rest) := by
      have h5 : SB w4 g (ys ++ [a]) rest := hf4.bk hS4 hgb (by simp)
      unfold SB at h5 ⊢
      rw [scells_append] at h5
      simpa [scells] using h5
    exact OwnS.mk hyl.symm hbg hS5 (by omega) hc2 (by have := Hc.out; simp [SpR.cells, hyl]; omega)
  · rw [hyl]
    intro d d1 d2 d3
    have h6 := hh3 d d1 d2 d3
    rw [Hz.out] at h6
    have e : ∀ q, q < n → (ys ++ [a]).getD q ⟨0, 0⟩ = ys.getD q ⟨0, 0⟩ := fun q hq => by
      simp [List.getD_eq_getElem?_getD, List.getElem?_append_left (show q < ys.length by omega)]
    rw [e _ (by omega), e _ (by omega)] at h6
    exact h6
  · exact fun b hb => Hf.out b (hperm.mem_iff.1 (List.mem_cons_of_mem _ hb))
  · have f1 := Fr.grown (Fr.grown (Fr.refl w hb (some g)) hg2) hg3
    exact Fr.next f1 hf4 (fun k hk => by cases hk)
end Go.Proofs.Ytinohfgokpbcdaa
namespace Go.Proofs.Ytinohfgokpbcdaa
open Go.RowKit
attribute [local go_sem ↓] Go.wp_at_zero Go.wp_at_succ
attribute [local go_sem] run_store_float

def bools (m : Nat) (b : Nat → Bool) : Array Value := ((List.range m).map fun k => Value.bool (b k)).toArray
theorem bools_get {m k : Nat} (b : Nat → Bool) (hk : k < m) : (bools m b)[k]? = some (.bool (b k)) := by
  unfold bools
  rw [List.getElem?_toArray, List.getElem?_map, List.getElem?_range hk]
  rfl
theorem bools_set {m k : Nat} (b : Nat → Bool) (x : Bool) : (bools m b).setIfInBounds k (.bool x) = bools m (updF b k x) := by
  apply Array.ext
  · simp [bools]
  · intro j h1 h2
    have hj : j < m := by simpa [bools] using h2
    have e1 : (bools m (updF b k x))[j] = .bool (updF b k x j) := by simp [bools]
    have e2 : (bools m b)[j]'(by simpa [bools] using hj) = .bool (b j) := by simp [bools]
    rw [Array.getElem_setIfInBounds (by simpa [bools] using hj), e1, e2]
    unfold updF
    by_cases h : k = j
    · rw [if_pos h, if_pos h.symm]
    · rw [if_neg h, if_neg (fun e => h e.symm)]
theorem bools_congr {m : Nat} {f g : Nat → Bool} (h : ∀ k, k < m → f k = g k) : bools m f = bools m g := by
  unfold bools
  congr 1
  apply List.map_congr_left
  intro k hk
  rw [h k (List.mem_range.1 hk)]
def flo (N : Nat) (g : Nat → Nat) : Array Value := ((List.range N).map fun k => Value.float .f32 (g k)).toArray
theorem flo_get {N k : Nat} (g : Nat → Nat) (hk : k < N) : (flo N g)[k]? = some (.float .f32 (g k)) := by
  unfold flo
  rw [List.getElem?_toArray, List.getElem?_map, List.getElem?_range hk]
  rfl
theorem flo_set {N k : Nat} (g : Nat → Nat) (v : Nat) : (flo N g).setIfInBounds k (.float .f32 v) = flo N (updF g k v) := by
  apply Array.ext
  · simp [flo]
  · intro j h1 h2
    have hj : j < N := by simpa [flo] using h2
    have e1 : (flo N (updF g k v))[j] = .float .f32 (updF g k v j) := by simp [flo]
    have e2 : (flo N g)[j]'(by simpa [flo] using hj) = .float .f32 (g j) := by simp [flo]
    rw [Array.getElem_setIfInBounds (by simpa [flo] using hj), e1, e2]
    unfold updF
    by_cases h : k = j
    · rw [if_pos h, if_pos h.symm]
    · rw [if_neg h, if_neg (fun e => h e.symm)]
theorem flo_list (N : Nat) (g : Nat → Nat) : (flo N g).toList = flt ((List.range N).map g) := by simp [flo, flt]

/-- what filled holds in memory: the field, the slope, done, seen, out, and the heap -/
structure FM (W0 w : World) (hf hsl hd hse ho hh gd gs go : Nat) (X Y : Int) (Wn Hn N : Nat) (A : Option Addr) (c slope : Nat) (done seen : Nat → Bool) (out : Nat → Nat) (v : Value) (xs : List SpR) (q : Bool) : Prop where
  fb : Bk w hf 26 #[.int .i64 X, .int .i64 Y, .int .i64 (Wn : Int), .int .i64 (Hn : Int), .slice A N c]
  sl : Bk w hsl 27 #[.float .f32 slope]
  db : Bk w hd 99 #[.slice (some ⟨gd, 0, none⟩) N N]
  dg : Bk w gd 4 (bools N done)
  eb : Bk w hse 99 #[.slice (some ⟨gs, 0, none⟩) N N]
  eg : Bk w gs 4 (bools N seen)
  ob : Bk w ho 24 #[.slice (some ⟨go, 0, none⟩) N N]
  og : Bk w go 27 (flo N out)
  pb : Bk w hh 171 #[v]
  own : OwnS w W0.heap.size v xs
  fin : AllFin xs
  hq : q = true → HeapFrom leS xs xs.length 0
  ext : Ext W0 w
  n1 : gd ≠ gs
  n2 : go ≠ hsl
  b1 : W0.heap.size ≤ gd
  b2 : W0.heap.size ≤ gs
  b3 : W0.heap.size ≤ go
  b4 : W0.heap.size ≤ hh
section
variable {W0 w : World} {hf hsl hd hse ho hh gd gs go : Nat} {X Y : Int} {Wn Hn N : Nat} {A : Option Addr} {c slope : Nat} {done seen : Nat → Bool} {out : Nat → Nat} {v : Value} {xs : List SpR} {q : Bool}
theorem HpS.ext {base : Nat} (h : HpS w base hh v xs) {w' : World} (hx : Ext w w') : HpS w' base hh v xs := ⟨h.pb.ext hx, h.own.ext hx, h.heap, h.fin⟩
theorem FM.step (h : FM W0 w hf hsl hd hse ho hh gd gs go X Y Wn Hn N A c slope done seen out v xs q) {w' : World} (hx : Ext w w') : FM W0 w' hf hsl hd hse ho hh gd gs go X Y Wn Hn N A c slope done seen out v xs q :=
  ⟨h.fb.ext hx, h.sl.ext hx, h.db.ext hx, h.dg.ext hx, h.eb.ext hx, h.eg.ext hx, h.ob.ext hx, h.og.ext hx, h.pb.ext hx, h.own.ext hx, h.fin, h.hq, h.ext.trans hx, h.n1, h.n2, h.b1, h.b2, h.b3, h.b4⟩
theorem OwnS.set {base g i : Nat} {t : TypeId} {cs : Array Value} (h : OwnS w base v xs) (hg : Bk w g t cs) (hne : 173 ≠ t) (u : Value) : OwnS (w.setCell ⟨g, i, none⟩ u) base v xs :=
  ownsRow_setCell_other h (fun e => own_ne h hg hne e.symm) u
/-- two cells are written -/
theorem FM.put (h : FM W0 w hf hsl hd hse ho hh gd gs go X Y Wn Hn N A c slope done seen out v xs q) (k x : Nat) : FM W0 ((w.setCell ⟨go, k, none⟩ (.float .f32 x)).setCell ⟨gs, k, none⟩ (.bool true)) hf hsl hd hse ho hh gd gs go X Y Wn Hn N A c slope done (updF seen k true) (updF out k x) v xs q := by
  have e1 := Bk.set h.og k (.float .f32 x)
  rw [flo_set] at e1
  have f1 : ∀ {g : Nat} {t : TypeId} {cs : Array Value}, Bk w g t cs → g ≠ go → Bk (w.setCell ⟨go, k, none⟩ (.float .f32 x)) g t cs := fun hb hn => hb.far hn _
  have eg := f1 h.eg (Bk.ne h.eg h.og (by decide))
  have e2 := Bk.set eg k (.bool true)
  rw [bools_set] at e2
  have f2 : ∀ {g : Nat} {t : TypeId} {cs : Array Value}, Bk (w.setCell ⟨go, k, none⟩ (.float .f32 x)) g t cs → g ≠ gs → Bk ((w.setCell ⟨go, k, none⟩ (.float .f32 x)).setCell ⟨gs, k, none⟩ (.bool true)) g t cs := fun hb hn => hb.far hn _
  have own := (h.own.set (i := k) h.og (by decide) (.float .f32 x)).set (i := k) eg (by decide) (.bool true)
  exact ⟨f2 (f1 h.fb (Bk.ne h.fb h.og (by decide))) (Bk.ne h.fb h.eg (by decide)), f2 (f1 h.sl h.n2.symm) (Bk.ne h.sl h.eg (by decide)), f2 (f1 h.db (Bk.ne h.db h.og (by decide))) (Bk.ne h.db h.eg (by decide)), f2 (f1 h.dg (Bk.ne h.dg h.og (by decide))) h.n1,
    f2 (f1 h.eb (Bk.ne h.eb h.og (by decide))) (Bk.ne h.eb h.eg (by decide)), e2, f2 (f1 h.ob (Bk.ne h.ob h.og (by decide))) (Bk.ne h.ob h.eg (by decide)), f2 e1 (Bk.ne h.og h.eg (by decide)),
    f2 (f1 h.pb (Bk.ne h.pb h.og (by decide))) (Bk.ne h.pb h.eg (by decide)), own, h.fin, h.hq, (h.ext.setCell h.b3 _).setCell h.b2 _, h.n1, h.n2, h.b1, h.b2, h.b3, h.b4⟩
/-- the heap has changed -/
theorem FM.heap (h : FM W0 w hf hsl hd hse ho hh gd gs go X Y Wn Hn N A c slope done seen out v xs q) {w' : World} {v' : Value} {ys : List SpR} (hf' : Fr w w' hh v.ownBlock) (hp' : HpS w' W0.heap.size hh v' ys) : FM W0 w' hf hsl hd hse ho hh gd gs go X Y Wn Hn N A c slope done seen out v' ys true := by
  have g1 : ∀ {g : Nat} {t : TypeId} {cs : Array Value}, Bk w g t cs → 171 ≠ t → 173 ≠ t → Bk w' g t cs := fun hb n1 n2 => hf'.bk hb (Bk.ne h.pb hb n1).symm (own_ne h.own hb n2)
  exact ⟨g1 h.fb (by decide) (by decide), g1 h.sl (by decide) (by decide), g1 h.db (by decide) (by decide), g1 h.dg (by decide) (by decide), g1 h.eb (by decide) (by decide), g1 h.eg (by decide) (by decide), g1 h.ob (by decide) (by decide), g1 h.og (by decide) (by decide), hp'.pb, hp'.own, hp'.fin, fun _ => hp'.heap,
    hf'.to_ext h.ext h.b4 (fun k hk => (World.ownsRow.lt h.own k hk).1), h.n1, h.n2, h.b1, h.b2, h.b3, h.b4⟩
theorem FM.hps (h : FM W0 w hf hsl hd hse ho hh gd gs go X Y Wn Hn N A c slope done seen out v xs true) : HpS w W0.heap.size hh v xs := ⟨h.pb, h.own, h.hq rfl, h.fin⟩
end

/-- whether a neighbour is reached anew, or by a lesser spill -/
def goesB (done seen : Nat → Bool) (out : Nat → Nat) (n x : Nat) : Bool := !done n && (!seen n || lt x (out n))

/-- what a neighbour leaves -/
def Fill1 (W0 : World) (hf hsl hd hse ho hh gd gs go hs : Nat) (X Y : Int) (Wn Hn N : Nat) (A : Option Addr) (c slope sv : Nat) (sk : Int) (done seen : Nat → Bool) (out : Nat → Nat) (v : Value) (xs : List SpR) (n x : Nat) (w' : World) : Prop :=
  ∃ v' ys, Bk w' hs 173 #[.float .f32 sv, .int .i64 sk] ∧ v'.ownBlock ≠ some hs ∧
    (goesB done seen out n x = true ∧ ys.Perm (xs ++ [⟨x, n⟩]) ∧ FM W0 w' hf hsl hd hse ho hh gd gs go X Y Wn Hn N A c slope done (updF seen n true) (updF out n x) v' ys true ∨
     goesB done seen out n x = false ∧ ys = xs ∧ v' = v ∧ FM W0 w' hf hsl hd hse ho hh gd gs go X Y Wn Hn N A c slope done seen out v ys true)

set_option maxRecDepth 100000 in
set_option maxHeartbeats 3200000 in
theorem fill1_any (W0 w : World) (hf hsl hd hse ho hh gd gs go hs : Nat) (X Y : Int) (Wn Hn N : Nat) (A : Option Addr) (c slope sv : Nat) (sk : Int) (done seen : Nat → Bool) (out : Nat → Nat) (v : Value) (xs : List SpR) (l : List Nat) (n d : Nat)
    (hF : FM W0 w hf hsl hd hse ho hh gd gs go X Y Wn Hn N A c slope done seen out v xs true) (hS : Bk w hs 173 #[.float .f32 sv, .int .i64 sk]) (hne : v.ownBlock ≠ some hs) (hl : l.length = N) (hV : Rd W0 A (flt l)) (hn : n < N)
    (hadd : floatBits .add .f32 sv slope = some (fadd sv slope)) (hfin : Fin (relV (l.getD n 0) slope sv)) (hlen : xs.length ≤ 10000000) :
    Calls Try.prog 138 #[.int .i64 n, .int .i64 d, .pointer (some ⟨hf, 0, none⟩), .pointer (some ⟨hs, 0, none⟩), .pointer (some ⟨hsl, 0, none⟩), .pointer (some ⟨hd, 0, none⟩), .pointer (some ⟨hse, 0, none⟩), .pointer (some ⟨ho, 0, none⟩), .pointer (some ⟨hh, 0, none⟩)] w fun e w' => e = .returned (.tuple #[]) ∧ (∀ g cs, Bk w g 23 cs → Bk w' g 23 cs) ∧
      Fill1 W0 hf hsl hd hse ho hh gd gs go hs X Y Wn Hn N A c slope sv sk done seen out v xs n (relV (l.getD n 0) slope sv) w' := by
  have hnl : n < l.length := by omega
  obtain ⟨ad, rfl, hbk, hcv⟩ := (hV.ext hF.ext).at (k := n) (by rw [flt_length]; exact hnl)
  have c6 := hcv n _ (flt_get hnl)
  have el : l.getD n 0 = l[n] := by simp [List.getD_eq_getElem?_getD, hnl]
  rw [el] at hfin ⊢
  generalize l[n] = h at *
  clear el hcv hV hnl hl
  have c4 := hF.fb.cell 4
  have s0 := hS.cell 0
  have s1 := hF.sl.cell 0
  have d0 := hF.db.cell 0
  have d1 : w.cell? ⟨gd, n, none⟩ = some (.bool (done n)) := by rw [hF.dg.cell]; exact bools_get _ hn
  have e0 := hF.eb.cell 0
  have e1 : w.cell? ⟨gs, n, none⟩ = some (.bool (seen n)) := by rw [hF.eg.cell]; exact bools_get _ hn
  have o0 := hF.ob.cell 0
  have o1 : w.cell? ⟨go, n, none⟩ = some (.float .f32 (out n)) := by rw [hF.og.cell]; exact flo_get _ hn
  have i0 : (0 : Int) ≤ n := by omega
  have i1 : (n : Int) < N := by omega
  have f1 := hF.eg.frozen n
  have f2 := hF.og.frozen n
  have hgo : go ≠ gs := Bk.ne hF.og hF.eg (by decide)
  have Hgo := hidA hgo
  obtain ⟨x, hx⟩ : ∃ x, x = relV h slope sv := ⟨_, rfl⟩
  have Hx := hidA hx
  rw [← hx] at hfin ⊢
  have hput := hF.put n x
  have hP := fun (w' : World) (hw : Ext ((w.setCell ⟨go, n, none⟩ (.float .f32 x)).setCell ⟨gs, n, none⟩ (.bool true)) w') => hidA (HPush_any hh W0.heap.size v xs ⟨x, (n : Int)⟩ w' (hput.step hw).hps hfin (by have := (hput.step hw).ext.size; exact this) (by omega))
  have HF := hidA hF
  have HPut := hidA hput
  have Hne := hidA hne
  have hS5 : Bk ((w.setCell ⟨go, n, none⟩ (.float .f32 x)).setCell ⟨gs, n, none⟩ (.bool true)) hs 173 #[.float .f32 sv, .int .i64 sk] := (hS.far (Bk.ne hS hF.og (by decide)) _).far (Bk.ne hS hF.eg (by decide)) _
  have hR5 : ∀ g cs, Bk w g 23 cs → Bk ((w.setCell ⟨go, n, none⟩ (.float .f32 x)).setCell ⟨gs, n, none⟩ (.bool true)) g 23 cs := fun g cs hb => (hb.far (Bk.ne hb hF.og (by decide)) _).far (Bk.ne hb hF.eg (by decide)) _
  have hS2 := hidA hS
  have HS5 := hidA hS5
  have HR5 := hidA hR5
  clear hx hput hF hne hS hS5 hR5 hgo
  have hrun := fun (w : World) => run_float_arith (P := Try.prog) w .add 27 .f32 _ _ _ hadd
  clear hadd
  cases hg : gt (fadd sv slope) h
  · have hxe : x = h := by rw [Hx.out]; unfold relV; rw [if_neg (by rw [hg]; decide)]
    have hg' : (FloatKind.f32.format.order (fadd sv slope) h == some .gt) = false := hg
    clear hg Hx
    subst hxe
    go_enter Try.func138, Try.ntmps138
    go_upto_region 4 with fail
    clear hg' hrun
    cases hdn : done n
    · rw [hdn] at d1
      cases hsn : seen n
      · rw [hsn] at e1
        have hgb : Hid (goesB done seen out n x = true) := by show _ = _; simp [goesB, hdn, hsn]
        have q1 : (w.setCell ⟨go, n, none⟩ (.float .f32 x)).cell? ⟨gs, n, none⟩ = some (.bool (seen n)) := by rw [(HF.out.eg.far (p := ⟨go, n, none⟩) (Ne.symm Hgo.out) (.float .f32 x)).cell]; exact bools_get _ hn
        have q2 : (w.setCell ⟨gs, n, none⟩ (.bool true)).cell? ⟨go, n, none⟩ = some (.float .f32 (out n)) := by rw [(HF.out.og.far (p := ⟨gs, n, none⟩) Hgo.out (.bool true)).cell]; exact flo_get _ hn
        have q3 : (w.setCell ⟨go, n, none⟩ (.float .f32 x)).cell? ⟨hse, 0, none⟩ = some (.slice (some ⟨gs, 0, none⟩) N N) := (HF.out.eb.far (p := ⟨go, n, none⟩) (Bk.ne HF.out.eb HF.out.og (by decide)) (.float .f32 x)).cell 0
        have q4 : (w.setCell ⟨gs, n, none⟩ (.bool true)).cell? ⟨ho, 0, none⟩ = some (.slice (some ⟨go, 0, none⟩) N N) := (HF.out.ob.far (p := ⟨gs, n, none⟩) (Bk.ne HF.out.ob HF.out.eg (by decide)) (.bool true)).cell 0
        go_upto_region 5 with fail
        go_region
        clear q1 q2 q3 q4 c4 s0 s1 d0 d1 e0 e1 o0 o1 c6 f1 f2
        go_wp2_with (go_at_call 139; refine ((hP _ (by repeat (first | exact Ext.refl _ | assumption | refine Ext.setCell ?_ (by first | (simp; done) | (simp; omega)) _ | refine Ext.drewN ?_ _ | refine Ext.alloc ?_ _ | refine Ext.drew ?_ | refine Ext.trans ?_ (by assumption)))).out).mono ?_; rintro e w3 ⟨rfl, v', ys, hp, hps, hob, hfr⟩)
        refine bodyPost_end (results_none Try.results138 _ _ _) rfl ?_
        have hF5 := HPut.out.step (Ext.drew (Ext.refl _))
        have hS6 := Bk.drew HS5.out
        refine ⟨rfl, fun g cs hb => hfr.bk (Bk.drew (HR5.out g cs hb)) (Bk.ne hF5.pb (Bk.drew (HR5.out g cs hb)) (by decide)).symm (own_ne hF5.own (Bk.drew (HR5.out g cs hb)) (by decide)), ⟨v', ys, hfr.bk hS6 (Bk.ne hF5.pb hS6 (by decide)).symm (fun e => Hne.out e.symm), fun e => ?_, .inl ⟨hgb.out, hp, hF5.heap hfr hps⟩⟩⟩
        rcases hob hs e with h1 | h1
        · exact Hne.out h1
        · have := hS6.lt
          omega
      · rw [hsn] at e1
        cases hlt : lt x (out n)
        · have hlt' : (FloatKind.f32.format.order x (out n) == some .lt) = false := hlt
          have hgb : Hid (goesB done seen out n x = false) := by show _ = _; simp [goesB, hdn, hsn, hlt]
          go_wp2
          refine bodyPost_end (results_none Try.results138 _ _ _) rfl ?_
          exact ⟨rfl, fun g cs hb => hb, ⟨v, xs, hS2.out, Hne.out, .inr ⟨hgb.out, rfl, rfl, HF.out⟩⟩⟩
        · have hlt' : (FloatKind.f32.format.order x (out n) == some .lt) = true := hlt
          have hgb : Hid (goesB done seen out n x = true) := by show _ = _; simp [goesB, hdn, hsn, hlt]
          have q1 : (w.setCell ⟨go, n, none⟩ (.float .f32 x)).cell? ⟨gs, n, none⟩ = some (.bool (seen n)) := by rw [(HF.out.eg.far (p := ⟨go, n, none⟩) (Ne.symm Hgo.out) (.float .f32 x)).cell]; exact bools_get _ hn
          have q2 : (w.setCell ⟨gs, n, none⟩ (.bool true)).cell? ⟨go, n, none⟩ = some (.float .f32 (out n)) := by rw [(HF.out.og.far (p := ⟨gs, n, none⟩) Hgo.out (.bool true)).cell]; exact flo_get _ hn
          have q3 : (w.setCell ⟨go, n, none⟩ (.float .f32 x)).cell? ⟨hse, 0, none⟩ = some (.slice (some ⟨gs, 0, none⟩) N N) := (HF.out.eb.far (p := ⟨go, n, none⟩) (Bk.ne HF.out.eb HF.out.og (by decide)) (.float .f32 x)).cell 0
          have q4 : (w.setCell ⟨gs, n, none⟩ (.bool true)).cell? ⟨ho, 0, none⟩ = some (.slice (some ⟨go, 0, none⟩) N N) := (HF.out.ob.far (p := ⟨gs, n, none⟩) (Bk.ne HF.out.ob HF.out.eg (by decide)) (.bool true)).cell 0
          go_upto_region 5 with fail
          go_region
          clear q1 q2 q3 q4 c4 s0 s1 d0 d1 e0 e1 o0 o1 c6 f1 f2
          go_wp2_with (go_at_call 139; refine ((hP _ (by repeat (first | exact Ext.refl _ | assumption | refine Ext.setCell ?_ (by first | (simp; done) | (simp; omega)) _ | refine Ext.drewN ?_ _ | refine Ext.alloc ?_ _ | refine Ext.drew ?_ | refine Ext.trans ?_ (by assumption)))).out).mono ?_; rintro e w3 ⟨rfl, v', ys, hp, hps, hob, hfr⟩)
          refine bodyPost_end (results_none Try.results138 _ _ _) rfl ?_
          have hF5 := HPut.out.step (Ext.drew (Ext.refl _))
          have hS6 := Bk.drew HS5.out
          refine ⟨rfl, fun g cs hb => hfr.bk (Bk.drew (HR5.out g cs hb)) (Bk.ne hF5.pb (Bk.drew (HR5.out g cs hb)) (by decide)).symm (own_ne hF5.own (Bk.drew (HR5.out g cs hb)) (by decide)), ⟨v', ys, hfr.bk hS6 (Bk.ne hF5.pb hS6 (by decide)).symm (fun e => Hne.out e.symm), fun e => ?_, .inl ⟨hgb.out, hp, hF5.heap hfr hps⟩⟩⟩
          rcases hob hs e with h1 | h1
          · exact Hne.out h1
          · have := hS6.lt
            omega
    · rw [hdn] at d1
      have hgb : Hid (goesB done seen out n x = false) := by show _ = _; simp [goesB, hdn]
      go_wp2
      refine bodyPost_end (results_none Try.results138 _ _ _) rfl ?_
      exact ⟨rfl, fun g cs hb => hb, ⟨v, xs, hS2.out, Hne.out, .inr ⟨hgb.out, rfl, rfl, HF.out⟩⟩⟩
  · have hxe : x = fadd sv slope := by rw [Hx.out]; unfold relV; rw [if_pos hg]
    have hg' : (FloatKind.f32.format.order (fadd sv slope) h == some .gt) = true := hg
    clear hg Hx
    rw [← hxe] at hrun hg'
    clear hxe
    go_enter Try.func138, Try.ntmps138
    go_upto_region 4 with fail
    clear hg' hrun
    cases hdn : done n
    · rw [hdn] at d1
      cases hsn : seen n
      · rw [hsn] at e1
        have hgb : Hid (goesB done seen out n x = true) := by show _ = _; simp [goesB, hdn, hsn]
        have q1 : (w.setCell ⟨go, n, none⟩ (.float .f32 x)).cell? ⟨gs, n, none⟩ = some (.bool (seen n)) := by rw [(HF.out.eg.far (p := ⟨go, n, none⟩) (Ne.symm Hgo.out) (.float .f32 x)).cell]; exact bools_get _ hn
        have q2 : (w.setCell ⟨gs, n, none⟩ (.bool true)).cell? ⟨go, n, none⟩ = some (.float .f32 (out n)) := by rw [(HF.out.og.far (p := ⟨gs, n, none⟩) Hgo.out (.bool true)).cell]; exact flo_get _ hn
        have q3 : (w.setCell ⟨go, n, none⟩ (.float .f32 x)).cell? ⟨hse, 0, none⟩ = some (.slice (some ⟨gs, 0, none⟩) N N) := (HF.out.eb.far (p := ⟨go, n, none⟩) (Bk.ne HF.out.eb HF.out.og (by decide)) (.float .f32 x)).cell 0
        have q4 : (w.setCell ⟨gs, n, none⟩ (.bool true)).cell? ⟨ho, 0, none⟩ = some (.slice (some ⟨go, 0, none⟩) N N) := (HF.out.ob.far (p := ⟨gs, n, none⟩) (Bk.ne HF.out.ob HF.out.eg (by decide)) (.bool true)).cell 0
        go_upto_region 5 with fail
        go_region
        clear q1 q2 q3 q4 c4 s0 s1 d0 d1 e0 e1 o0 o1 c6 f1 f2
        go_wp2_with (go_at_call 139; refine ((hP _ (by repeat (first | exact Ext.refl _ | assumption | refine Ext.setCell ?_ (by first | (simp; done) | (simp; omega)) _ | refine Ext.drewN ?_ _ | refine Ext.alloc ?_ _ | refine Ext.drew ?_ | refine Ext.trans ?_ (by assumption)))).out).mono ?_; rintro e w3 ⟨rfl, v', ys, hp, hps, hob, hfr⟩)
        refine bodyPost_end (results_none Try.results138 _ _ _) rfl ?_
        have hF5 := HPut.out.step (Ext.drew (Ext.refl _))
        have hS6 := Bk.drew HS5.out
        refine ⟨rfl, fun g cs hb => hfr.bk (Bk.drew (HR5.out g cs hb)) (Bk.ne hF5.pb (Bk.drew (HR5.out g cs hb)) (by decide)).symm (own_ne hF5.own (Bk.drew (HR5.out g cs hb)) (by decide)), ⟨v', ys, hfr.bk hS6 (Bk.ne hF5.pb hS6 (by decide)).symm (fun e => Hne.out e.symm), fun e => ?_, .inl ⟨hgb.out, hp, hF5.heap hfr hps⟩⟩⟩
        rcases hob hs e with h1 | h1
        · exact Hne.out h1
        · have := hS6.lt
          omega
      · rw [hsn] at e1
        cases hlt : lt x (out n)
        · have hlt' : (FloatKind.f32.format.order x (out n) == some .lt) = false := hlt
          have hgb : Hid (goesB done seen out n x = false) := by show _ = _; simp [goesB, hdn, hsn, hlt]
          go_wp2
          refine bodyPost_end (results_none Try.results138 _ _ _) rfl ?_
          exact ⟨rfl, fun g cs hb => hb, ⟨v, xs, hS2.out, Hne.out, .inr ⟨hgb.out, rfl, rfl, HF.out⟩⟩⟩
        · have hlt' : (FloatKind.f32.format.order x (out n) == some .lt) = true := hlt
          have hgb : Hid (goesB done seen out n x = true) := by show _ = _; simp [goesB, hdn, hsn, hlt]
          have q1 : (w.setCell ⟨go, n, none⟩ (.float .f32 x)).cell? ⟨gs, n, none⟩ = some (.bool (seen n)) := by rw [(HF.out.eg.far (p := ⟨go, n, none⟩) (Ne.symm Hgo.out) (.float .f32 x)).cell]; exact bools_get _ hn
          have q2 : (w.setCell ⟨gs, n, none⟩ (.bool true)).cell? ⟨go, n, none⟩ = some (.float .f32 (out n)) := by rw [(HF.out.og.far (p := ⟨gs, n, none⟩) Hgo.out (.bool true)).cell]; exact flo_get _ hn
          have q3 : (w.setCell ⟨go, n, none⟩ (.float .f32 x)).cell? ⟨hse, 0, none⟩ = some (.slice (some ⟨gs, 0, none⟩) N N) := (HF.out.eb.far (p := ⟨go, n, none⟩) (Bk.ne HF.out.eb HF.out.og (by decide)) (.float .f32 x)).cell 0
          have q4 : (w.setCell ⟨gs, n, none⟩ (.bool true)).cell? ⟨ho, 0, none⟩ = some (.slice (some ⟨go, 0, none⟩) N N) := (HF.out.ob.far (p := ⟨gs, n, none⟩) (Bk.ne HF.out.ob HF.out.eg (by decide)) (.bool true)).cell 0
          go_upto_region 5 with fail
          go_region
          clear q1 q2 q3 q4 c4 s0 s1 d0 d1 e0 e1 o0 o1 c6 f1 f2
          go_wp2_with (go_at_call 139; refine ((hP _ (by repeat (first | exact Ext.refl _ | assumption | refine Ext.setCell ?_ (by first | (simp; done) | (simp; omega)) _ | refine Ext.drewN ?_ _ | refine Ext.alloc ?_ _ | refine Ext.drew ?_ | refine Ext.trans ?_ (by assumption)))).out).mono ?_; rintro e w3 ⟨rfl, v', ys, hp, hps, hob, hfr⟩)
          refine bodyPost_end (results_none Try.results138 _ _ _) rfl ?_
          have hF5 := HPut.out.step (Ext.drew (Ext.refl _))
          have hS6 := Bk.drew HS5.out
          refine ⟨rfl, fun g cs hb => hfr.bk (Bk.drew (HR5.out g cs hb)) (Bk.ne hF5.pb (Bk.drew (HR5.out g cs hb)) (by decide)).symm (own_ne hF5.own (Bk.drew (HR5.out g cs hb)) (by decide)), ⟨v', ys, hfr.bk hS6 (Bk.ne hF5.pb hS6 (by decide)).symm (fun e => Hne.out e.symm), fun e => ?_, .inl ⟨hgb.out, hp, hF5.heap hfr hps⟩⟩⟩
          rcases hob hs e with h1 | h1
          · exact Hne.out h1
          · have := hS6.lt
            omega
    · rw [hdn] at d1
      have hgb : Hid (goesB done seen out n x = false) := by show _ = _; simp [goesB, hdn]
      go_wp2
      refine bodyPost_end (results_none Try.results138 _ _ _) rfl ?_
      exact ⟨rfl, fun g cs hb => hb, ⟨v, xs, hS2.out, Hne.out, .inr ⟨hgb.out, rfl, rfl, HF.out⟩⟩⟩
end Go.Proofs.Ytinohfgokpbcdaa
namespace Go.Proofs.Ytinohfgokpbcdaa
open Go.RowKit

def pr (a : SpR) : Int × Nat := (valI a.v, a.k.toNat)
/-- what holds at each step -/
structure DS (Wn Hn N slope : Nat) (l : List Nat) (c : Option (Nat × Nat × Int)) (done seen : Nat → Bool) (out : Nat → Nat) (xs : List SpR) : Prop where
  di : DI N (nbr Wn Hn) (brd Wn Hn) (fun k => valI (l.getD k 0)) (upV slope) c done seen (fun k => valI (out k)) (xs.map pr)
  kn : ∀ a ∈ xs, 0 ≤ a.k ∧ Bd 36 a.v
  ob : ∀ k, k < N → seen k = true → Bd 36 (out k)
/-- the border is in the heap, up to a cell -/
structure BI (Wn Hn k : Nat) (l : List Nat) (seen : Nat → Bool) (out : Nat → Nat) (xs : List SpR) : Prop where
  s1 : ∀ j, j < k → brd Wn Hn j = true → seen j = true ∧ out j = l.getD j 0 ∧ ⟨l.getD j 0, (j : Int)⟩ ∈ xs
  s2 : ∀ j, seen j = true → j < k ∧ brd Wn Hn j = true
  s3 : ∀ a ∈ xs, ∃ j : Nat, j < k ∧ brd Wn Hn j = true ∧ a = ⟨l.getD j 0, (j : Int)⟩
  s4 : xs.length ≤ k
theorem BI.zero (Wn Hn : Nat) (l : List Nat) : BI Wn Hn 0 l (fun _ => false) (fun _ => 0) [] := ⟨fun j h => by omega, (fun j h => by cases h), fun a h => (List.not_mem_nil h).elim, Nat.le_refl _⟩
theorem BI.next {Wn Hn k : Nat} {l : List Nat} {seen : Nat → Bool} {out : Nat → Nat} {xs : List SpR} (h : BI Wn Hn k l seen out xs) (hb : brd Wn Hn k = true) : BI Wn Hn (k + 1) l (updF seen k true) (updF out k (l.getD k 0)) (xs ++ [⟨l.getD k 0, (k : Int)⟩]) := by
  refine ⟨fun j hj hbj => ?_, fun j hj => ?_, fun a ha => ?_, by simpa using h.s4⟩
  · by_cases e : j = k
    · subst e
      exact ⟨updF_same _ _ _, updF_same _ _ _, by simp⟩
    · obtain ⟨a, b, c⟩ := h.s1 j (by omega) hbj
      exact ⟨by rw [updF_ne _ _ e]; exact a, by rw [updF_ne _ _ e]; exact b, List.mem_append_left _ c⟩
  · by_cases e : j = k
    · subst e
      exact ⟨by omega, hb⟩
    · rw [updF_ne _ _ e] at hj
      obtain ⟨a, b⟩ := h.s2 j hj
      exact ⟨by omega, b⟩
  · rcases List.mem_append.1 ha with h1 | h1
    · obtain ⟨j, a, b, c⟩ := h.s3 _ h1
      exact ⟨j, by omega, b, c⟩
    · simp at h1
      exact ⟨k, by omega, hb, h1⟩
theorem BI.pass {Wn Hn k : Nat} {l : List Nat} {seen : Nat → Bool} {out : Nat → Nat} {xs : List SpR} (h : BI Wn Hn k l seen out xs) (hb : brd Wn Hn k = false) : BI Wn Hn (k + 1) l seen out xs := by
  refine ⟨fun j hj hbj => ?_, fun j hj => ?_, fun a ha => ?_, by have := h.s4; omega⟩
  · have e : j ≠ k := fun e => by subst e; rw [hb] at hbj; cases hbj
    exact h.s1 j (by omega) hbj
  · obtain ⟨a, b⟩ := h.s2 j hj
    exact ⟨by omega, b⟩
  · obtain ⟨j, a, b, c⟩ := h.s3 _ ha
    exact ⟨j, by omega, b, c⟩
theorem BI.fin {Wn Hn k : Nat} {l : List Nat} {seen : Nat → Bool} {out : Nat → Nat} {xs : List SpR} (h : BI Wn Hn k l seen out xs) (hh : ∀ j, j < k → Bd 20 (l.getD j 0)) : AllFin xs := fun a ha => by
  obtain ⟨j, hj, _, rfl⟩ := h.s3 a ha
  exact bd_Fin (hh j hj) (by omega)
theorem DS.start {Wn Hn N slope : Nat} {l : List Nat} {seen : Nat → Bool} {out : Nat → Nat} {xs ys : List SpR} (h : BI Wn Hn N l seen out xs) (hp : ys.Perm xs) (hh : ∀ j, j < N → Bd 20 (l.getD j 0)) : DS Wn Hn N slope l none (fun _ => false) seen out ys := by
  refine ⟨DI.perm (xs := xs.map pr) ⟨fun z k hm => ?_, fun k hk hs hd => ?_, (fun k hk hd => by cases hd), (fun k hk hd => by cases hd), fun k hk hs => ?_, fun k hk he => ?_, (fun n d m hn hd => by cases hd), (fun _ _ _ e => by cases e)⟩ (hp.map pr), fun a ha => ?_, fun k hk hs => ?_⟩
  · obtain ⟨a, ha, e⟩ := List.mem_map.1 hm
    obtain ⟨j, hj, hb, rfl⟩ := h.s3 a ha
    obtain ⟨s1, s2, s3⟩ := h.s1 j hj hb
    unfold pr at e
    simp only [Int.toNat_natCast] at e
    injection e with e1 e2
    subst e1
    subst e2
    exact ⟨hj, s1, by rw [s2]; exact Int.le_refl _⟩
  · obtain ⟨hj, hb⟩ := h.s2 k hs
    obtain ⟨s1, s2, s3⟩ := h.s1 k hj hb
    refine List.mem_map.2 ⟨_, s3, ?_⟩
    unfold pr
    simp [s2]
  · obtain ⟨hj, hb⟩ := h.s2 k hs
    obtain ⟨s1, s2, s3⟩ := h.s1 k hj hb
    rw [s2]
    exact .start (H := fun k => valI (l.getD k 0)) hk hb
  · obtain ⟨s1, s2, s3⟩ := h.s1 k hk he
    exact ⟨s1, by rw [s2]⟩
  · obtain ⟨j, hj, hb, rfl⟩ := h.s3 a (hp.mem_iff.1 ha)
    exact ⟨by simp, (hh j hj).mono (by omega)⟩
  · obtain ⟨hj, hb⟩ := h.s2 k hs
    obtain ⟨s1, s2, s3⟩ := h.s1 k hj hb
    rw [s2]
    exact (hh k hk).mono (by omega)
section
variable {Wn Hn N slope : Nat} {l : List Nat} {done seen : Nat → Bool} {out : Nat → Nat}
theorem DS.perm {c : Option (Nat × Nat × Int)} {xs ys : List SpR} (h : DS Wn Hn N slope l c done seen out xs) (hp : ys.Perm xs) : DS Wn Hn N slope l c done seen out ys :=
  ⟨h.di.perm (hp.map pr), fun a ha => h.kn a (hp.mem_iff.1 ha), h.ob⟩
theorem DS.cell {c : Option (Nat × Nat × Int)} {a : SpR} {xs : List SpR} (h : DS Wn Hn N slope l c done seen out (a :: xs)) : ∃ k : Nat, a.k = k ∧ k < N ∧ pr a = (valI a.v, k) ∧ Bd 36 a.v := by
  obtain ⟨h1, h2⟩ := h.kn a (List.mem_cons_self ..)
  obtain ⟨h3, _, _⟩ := h.di.h1 (pr a).1 (pr a).2 (by simp)
  exact ⟨a.k.toNat, by omega, h3, rfl, h2⟩
theorem DS.skip {a : SpR} {xs : List SpR} {k : Nat} (h : DS Wn Hn N slope l none done seen out (a :: xs)) (hk : a.k = k) (hd : done k = true) : DS Wn Hn N slope l none done seen out xs := by
  have e : pr a = (valI a.v, k) := by unfold pr; rw [hk, Int.toNat_natCast]
  have h1 := h.di
  rw [List.map_cons, e] at h1
  exact ⟨h1.skip hd, fun b hb => h.kn b (List.mem_cons_of_mem _ hb), h.ob⟩
theorem DS.take {a : SpR} {xs : List SpR} {k : Nat} (h : DS Wn Hn N slope l none done seen out (a :: xs)) (hk : a.k = k) (hl : ∀ b ∈ xs, leS a b) (hd : done k = false) : DS Wn Hn N slope l (some (k, 0, valI a.v)) (updF done k true) seen out xs := by
  have e : pr a = (valI a.v, k) := by unfold pr; rw [hk, Int.toNat_natCast]
  have h1 := h.di
  rw [List.map_cons, e] at h1
  refine ⟨h1.take (fun y j hm => ?_) hd, fun b hb => h.kn b (List.mem_cons_of_mem _ hb), h.ob⟩
  obtain ⟨b, hb, eb⟩ := List.mem_map.1 hm
  have hle := hl b hb
  unfold pr at eb
  injection eb with e1 e2
  subst e1
  unfold leS at hle
  omega
theorem DS.all {xs : List SpR} {k : Nat} {z : Int} (h : DS Wn Hn N slope l (some (k, 8, z)) done seen out xs) : DS Wn Hn N slope l none done seen out xs := ⟨h.di.all, h.kn, h.ob⟩
theorem DS.miss {xs : List SpR} {k d : Nat} {z : Int} (h : DS Wn Hn N slope l (some (k, d, z)) done seen out xs) (hn : nbr Wn Hn k d = none) : DS Wn Hn N slope l (some (k, d + 1, z)) done seen out xs := ⟨h.di.miss hn, h.kn, h.ob⟩
theorem DS.stay {xs : List SpR} {k d n sv : Nat} (h : DS Wn Hn N slope l (some (k, d, valI sv)) done seen out xs) (hnb : nbr Wn Hn k d = some n) (hn : n < N) (hh : Bd 20 (l.getD n 0)) (hsv : Bd 36 sv) (hs : Bd 10 slope) (h0 : 0 ≤ valI slope)
    (hg : goesB done seen out n (relV (l.getD n 0) slope sv) = false) : DS Wn Hn N slope l (some (k, d + 1, valI sv)) done seen out xs := by
  refine ⟨h.di.stay hnb hn (infl_val hsv hs h0) ?_, h.kn, h.ob⟩
  unfold goesB at hg
  cases hd : done n
  · right
    rw [hd] at hg
    cases hsn : seen n
    · rw [hsn] at hg
      cases hg
    · refine ⟨rfl, ?_⟩
      rw [hsn] at hg
      have h1 : lt (relV (l.getD n 0) slope sv) (out n) = false := by simpa using hg
      rw [lt_val (bd_Fin (relV_bd hh hsv hs h0) (by omega)) (bd_Fin (h.ob n hn hsn) (by omega)), relV_val hh hsv hs h0] at h1
      simpa using h1
  · exact .inl rfl
theorem DS.push {xs ys : List SpR} {k d n sv : Nat} (h : DS Wn Hn N slope l (some (k, d, valI sv)) done seen out xs) (hd8 : d < 8) (hnb : nbr Wn Hn k d = some n) (hn : n < N) (hh : Bd 20 (l.getD n 0)) (hsv : Bd 36 sv) (hs : Bd 10 slope) (h0 : 0 ≤ valI slope)
    (hg : goesB done seen out n (relV (l.getD n 0) slope sv) = true) (hp : ys.Perm (xs ++ [⟨relV (l.getD n 0) slope sv, n⟩])) : DS Wn Hn N slope l (some (k, d + 1, valI sv)) done (updF seen n true) (updF out n (relV (l.getD n 0) slope sv)) ys := by
  have hv := relV_val hh hsv hs h0
  have hb := relV_bd hh hsv hs h0
  unfold goesB at hg
  simp only [Bool.and_eq_true, Bool.not_eq_true', Bool.or_eq_true] at hg
  have hlow : seen n = false ∨ max (valI (l.getD n 0)) (upV slope (valI sv)) < valI (out n) := by
    cases hsn : seen n
    · exact .inl rfl
    · right
      rcases hg.2 with h1 | h1
      · rw [hsn] at h1; cases h1
      · rw [lt_val (bd_Fin hb (by omega)) (bd_Fin (h.ob n hn hsn) (by omega)), hv] at h1
        simpa using h1
  have h2 := h.di.push hd8 hnb hn (infl_val hsv hs h0) hg.1 hlow
  have e1 : (fun k => valI (updF out n (relV (l.getD n 0) slope sv) k)) = updF (fun k => valI (out k)) n (max (valI (l.getD n 0)) (upV slope (valI sv))) := by
    funext j
    unfold updF
    split
    · exact hv
    · rfl
  have e2 : (xs ++ [(⟨relV (l.getD n 0) slope sv, (n : Int)⟩ : SpR)]).map pr = xs.map pr ++ [(max (valI (l.getD n 0)) (upV slope (valI sv)), n)] := by
    rw [List.map_append, ← hv]
    rfl
  refine ⟨?_, fun a ha => ?_, fun j hj hsj => ?_⟩
  · rw [e1]
    refine DI.perm (xs := (xs ++ [(⟨relV (l.getD n 0) slope sv, (n : Int)⟩ : SpR)]).map pr) ?_ (hp.map pr)
    rw [e2]
    exact h2
  · rcases List.mem_append.1 (hp.mem_iff.1 ha) with h3 | h3
    · exact h.kn a h3
    · simp at h3
      subst h3
      exact ⟨by simp, hb⟩
  · by_cases e : j = n
    · subst e
      rw [updF_same]
      exact hb
    · rw [updF_ne _ _ e] at hsj ⊢
      exact h.ob j hj hsj
theorem DS.least (h : DS Wn Hn N slope l none done seen out []) (hw : 1 ≤ Wn) (hN : N = Wn * Hn) : LeastG Wn Hn (fun k => l.getD k 0) slope (fun k => valI (out k)) ∧ ∀ k, k < N → Bd 36 (out k) := by
  subst hN
  have hl := h.di.least (upV_mono slope) (fun P hb hs => conn_grid hw P hb hs)
  refine ⟨hl, fun k hk => h.ob k hk ?_⟩
  have hdone : ∀ k, k < Wn * Hn → seen k = true → done k = true := fun k hk hs => by
    cases hd : done k
    · have := h.di.h2 k hk hs hd
      cases this
    · rfl
  exact conn_grid hw (fun k => seen k = true) (fun k hk he => (h.di.h6 k hk he).1) (fun n d m hn hs hd hnb => (h.di.h7 n d m hn (hdone n hn hs) hd hnb (fun _ _ _ e => by cases e)).1) k hk
end
/-- how many cells are not done -/
def left (N : Nat) (done : Nat → Bool) : Nat := ((List.range N).filter fun k => !done k).length
theorem left_le (N : Nat) (done : Nat → Bool) : left N done ≤ N := by
  unfold left
  have := List.length_filter_le (fun k => !done k) (List.range N)
  simpa using this
theorem filter_one : ∀ (ks : List Nat) (f : Nat → Bool) (n : Nat), ks.Nodup → n ∈ ks → f n = false → (ks.filter fun k => !updF f n true k).length + 1 = (ks.filter fun k => !f k).length
  | [], _, _, _, h, _ => by cases h
  | k :: ks, f, n, hnd, hm, hf => by
    rw [List.nodup_cons] at hnd
    by_cases e : k = n
    · subst e
      have h1 : (ks.filter fun j => !updF f k true j) = ks.filter fun j => !f j := by
        apply List.filter_congr
        intro j hj
        rw [updF_ne]
        rintro rfl
        exact hnd.1 hj
      rw [List.filter_cons, List.filter_cons, updF_same, hf, h1]
      simp
    · have hm' : n ∈ ks := by
        rcases List.mem_cons.1 hm with h | h
        · exact absurd h.symm e
        · exact h
      have ih := filter_one ks f n hnd.2 hm' hf
      rw [List.filter_cons, List.filter_cons, updF_ne _ _ e]
      cases f k <;> simp <;> omega
theorem left_upd {N n : Nat} {done : Nat → Bool} (hn : n < N) (hd : done n = false) : left N (updF done n true) + 1 = left N done := filter_one _ done n List.nodup_range (List.mem_range.2 hn) hd
end Go.Proofs.Ytinohfgokpbcdaa
