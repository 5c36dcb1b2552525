/- container/heap: Init, Push, Pop at a heap of spills. -/
import Derived.Test.YtpgdinpckolfpaaQueC
namespace Go.Proofs.Ytpgdinpckolfpaa
open Go.RowKit
attribute [local go_sem ↓] Go.wp_at_zero Go.wp_at_succ
attribute [local go_sem] run_store_float

/-- a heap of spills in memory -/
structure HpS (w : World) (base hb : Nat) (v : Value) (xs : List SpR) : Prop where
  pb : Bk w hb 171 #[v]
  own : OwnS w base v xs
  heap : HeapFrom leS xs xs.length 0
  fin : AllFin xs

set_option maxRecDepth 100000 in
set_option maxHeartbeats 1600000 in
theorem HPush_any (hb base : Nat) (v : Value) (xs : List SpR) (a : SpR) (w : World) (h : HpS w base hb v xs) (ha : Fin a.v) (hbase : base ≤ w.heap.size) (hn4 : xs.length ≤ 100000000) :
    Calls Try.prog 127 #[.iface 173 (.pointer (some ⟨hb, 0, none⟩)), .iface 169 (.agg #[.float .f32 a.v, .int .i64 a.k])] w fun e w' => e = .returned (.tuple #[]) ∧ ∃ v' ys, ys.Perm (xs ++ [a]) ∧ HpS w' base hb v' ys ∧ (∀ k, v'.ownBlock = some k → v.ownBlock = some k ∨ w.heap.size ≤ k) ∧ Fr w w' hb v.ownBlock := by
  have nl := nil_Push
  have np := nil_Len
  have ml := m_Push
  have HP := hidA (Push_any hb base v xs a w h.pb h.own hbase (by omega))
  go_enter Try.func127, Try.ntmps127
  go_upto_region 1 with (go_at_call 157; refine HP.out.mono ?_; rintro e w1 ⟨rfl, g, c, hg, hB1, hO1, hfr⟩)
  have hl : 0 < (xs ++ [a]).length := by simp
  obtain ⟨g', c', rest, hv, hbg, hS, hc1, hc2, hc3⟩ := hO1.form hl
  injection hv with hv1 hv2 hv3
  injection hv1 with hv1
  injection hv1 with hv1
  subst hv1
  subst hv3
  clear hv2
  have hgb : g ≠ hb := Bk.ne hS hB1 (by decide)
  have hf1 : AllFin (xs ++ [a]) := fun b hb => by
    rcases List.mem_append.1 hb with h1 | h1
    · exact h.fin b h1
    · simp at h1; subst h1; exact ha
  have HU := hidA (up_any hb g (xs.length + 1) c xs.length (xs ++ [a]) rest w1 hB1 (by simp) hS hf1 (by omega) (by omega) (h.heap.push a))
  have mn := m_Len w1 hb (.slice (some ⟨g, 0, none⟩) (xs.length + 1) c) (hB1.cell 0)
  have HL := hidA (Len_any g (xs.length + 1) c w1)
  clear HP nl ml hl
  have Hc := hidA hc3
  have Hf := hidA hf1
  clear hc3 hf1
  go_wp2_with (first | (go_at_call 153; refine HL.out.mono ?_; rintro e w2 ⟨rfl, rfl⟩) | (go_at_call 134; refine HU.out.mono ?_; rintro e w2 ⟨rfl, ys, hp, hh, hS2, hg2⟩))
  refine bodyPost_end (results_none Try.results127 _ _ _) rfl ?_
  have hyl : ys.length = xs.length + 1 := by rw [hp.length_eq]; simp
  refine ⟨rfl, .slice (some ⟨g, 0, none⟩) (xs.length + 1) c, ys, hp, ⟨Bk.grown hB1 hg2 (fun e => by injection e with e; exact hgb e.symm), OwnS.mk hyl.symm hbg hS2 ?_ hc2 ?_, hh, Hf.out.perm hp⟩, ?_, ?_⟩
  · rw [hp.length_eq]; exact hc1
  · rw [hp.length_eq]; exact Hc.out
  · intro k hk
    injection hk with hk
    subst hk
    exact hg
  · refine Fr.next hfr (Fr.grown (Fr.refl w1 hb (some g)) hg2) (fun k hk => ?_)
    injection hk with hk
    subst hk
    exact hg

set_option maxRecDepth 100000 in
set_option maxHeartbeats 1600000 in
theorem HPop_any (hb base : Nat) (v : Value) (xs : List SpR) (w : World) (h : HpS w base hb v xs) (h0 : 0 < xs.length) (hn4 : xs.length ≤ 100000000) :
    Calls Try.prog 124 #[.iface 173 (.pointer (some ⟨hb, 0, none⟩))] w fun e w' => ∃ a ys v', e = .returned (.iface 169 (.agg #[.float .f32 a.v, .int .i64 a.k])) ∧ (a :: ys).Perm xs ∧ (∀ b ∈ ys, leS a b) ∧ HpS w' base hb v' ys ∧ (∀ k, v'.ownBlock = some k → v.ownBlock = some k) ∧ Fr w w' hb v.ownBlock := by
  obtain ⟨hB, hO, hh, hf⟩ := h
  obtain ⟨g, c, rest, rfl, hbg, hS, hc1, hc2, hc3⟩ := hO.form h0
  have hgb : g ≠ hb := Bk.ne hS hB (by decide)
  obtain ⟨n, hn⟩ : ∃ n, xs.length = n + 1 := ⟨xs.length - 1, by omega⟩
  rw [hn] at hB hc1 hc3 hn4
  have nl := nil_Len
  have ns := nil_Swap
  have np := nil_Pop
  have ml := m_Len w hb _ (hB.cell 0)
  have mp := m_Pop
  have ms := m_Swap w hb _ (hB.cell 0)
  have HL := hidA (Len_any g (n + 1) c w)
  have HW := hidA (Swap_any g (n + 1) c xs rest 0 n w hn hS (by omega) (by omega) (by omega))
  have hl2 : n + 1 - 1 = n := by omega
  have hd0 := hh.last h0
  rw [hn, hl2] at hd0
  have hp0 := swapL_perm (xs := xs) (i := 0) (j := n) (by omega) (by omega)
  have Hn := hidA hn
  have Hh := hidA hh
  have Hf := hidA hf
  have Hc := hidA hc3
  have Hd0 := hidA hd0
  clear hn hh hf hc3 hO hd0 hl2 h0
  go_enter Try.func124, Try.ntmps124
  go_upto_region 3 with (first | (go_at_call 153; refine HL.out.mono ?_; rintro e w1 ⟨rfl, rfl⟩) | (go_at_call 155; refine HW.out.mono ?_; rintro e w2 ⟨rfl, hS2, hg2⟩))
  have hB2 := Bk.grown hB hg2 (fun e => by injection e with e; exact hgb e.symm)
  have hs2 : (swapL xs 0 n).length = n + 1 := by rw [swapL_length]; exact Hn.out
  have HD := hidA (down_any hb g (n + 1) n c 0 0 (swapL xs 0 n) rest w2 hB2 hs2 hS2 (Hf.out.perm hp0) (Nat.le_refl _) (by omega) (by omega) (by omega) Hd0.out)
  clear HL HW ml ms nl ns hs2
  go_upto_region 4 with (go_at_call 133; refine HD.out.mono ?_; rintro e w3 ⟨b, rfl, zs, hz, hdr, hh3, hS3, hg3⟩)
  have hzl : zs.length = n + 1 := by rw [hz.length_eq, swapL_length]; exact Hn.out
  have hB3 := Bk.grown hB2 hg3 (fun e => by injection e with e; exact hgb e.symm)
  obtain ⟨a, ha⟩ : ∃ a, a = zs.getD n ⟨0, 0⟩ := ⟨_, rfl⟩
  have hzs : zs = zs.take n ++ [a] := by
    rw [ha, getD_el (by omega)]
    have := List.take_append_getElem (show n < zs.length by omega)
    rw [this, List.take_of_length_le (by omega)]
  have ha0 : a = xs.getD 0 ⟨0, 0⟩ := by
    have h1 : (zs.drop n).head? = ((swapL xs 0 n).drop n).head? := by rw [hdr]
    rw [List.head?_drop, List.head?_drop] at h1
    have h2 := swapL_get (xs := xs) (i := 0) (j := n) (c := n) (by have := Hn.out; omega) (by have := Hn.out; omega)
    rw [if_pos rfl, List.getD_eq_getElem?_getD, ← h1] at h2
    rw [ha, List.getD_eq_getElem?_getD]
    exact h2
  obtain ⟨ys, hys⟩ : ∃ ys, ys = zs.take n := ⟨_, rfl⟩
  have hyl : ys.length = n := by rw [hys, List.length_take]; omega
  rw [← hys] at hzs
  have hS4 : SB w3 g (ys ++ [a]) rest := by rw [← hzs]; exact hS3
  have HP := hidA (Pop_any hb g n c ys a rest w3 hB3 hyl hS4 (by omega) (by omega))
  have hperm : (a :: ys).Perm xs := by
    refine List.Perm.trans ?_ (hz.trans hp0)
    rw [hzs]
    exact (List.perm_append_singleton a ys).symm
  have Hha := hidA ha0
  have Hz := hidA hzs
  have Hys := hidA hys
  clear HD ha ha0 hzs hys hdr
  go_wp2_with (go_at_call 156; refine HP.out.mono ?_; rintro e w4 ⟨rfl, hB4, hf4⟩)
  go_ret
  refine ⟨a, ys, .slice (some ⟨g, 0, none⟩) n c, rfl, hperm, fun b hb => ?_, ⟨hB4, ?_, ?_, ?_⟩, fun k hk => hk, ?_⟩
  · rw [Hha.out]
    have h1 : b ∈ xs := hperm.mem_iff.1 (List.mem_cons_of_mem _ hb)
    exact Hh.out.mem leS_refl leS_trans b h1
  · have hS5 : SB w4 g ys (a.cells ++ rest) := by
      have h5 : SB w4 g (ys ++ [a]) rest := hf4.bk hS4 hgb (by simp)
      unfold SB at h5 ⊢
      rw [scells_append] at h5
      simpa [scells] using h5
    exact OwnS.mk hyl.symm hbg hS5 (by omega) hc2 (by have := Hc.out; simp [SpR.cells, hyl]; omega)
  · rw [hyl]
    intro d d1 d2 d3
    have h6 := hh3 d d1 d2 d3
    rw [Hz.out] at h6
    have e : ∀ q, q < n → (ys ++ [a]).getD q ⟨0, 0⟩ = ys.getD q ⟨0, 0⟩ := fun q hq => by
      simp [List.getD_eq_getElem?_getD, List.getElem?_append_left (show q < ys.length by omega)]
    rw [e _ (by omega), e _ (by omega)] at h6
    exact h6
  · exact fun b hb => Hf.out b (hperm.mem_iff.1 (List.mem_cons_of_mem _ hb))
  · have f1 := Fr.grown (Fr.grown (Fr.refl w hb (some g)) hg2) hg3
    exact Fr.next f1 hf4 (fun k hk => by cases hk)
end Go.Proofs.Ytpgdinpckolfpaa
