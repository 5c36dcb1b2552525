/- Contract: level.Profile where both places are in the field. -/
import Derived.Test.YtjfipkccbapajaaProfile
namespace Go.Proofs.Ytjfipkccbapajaa
open Go.RowKit
attribute [local go_sem ↓] Go.wp_at_zero Go.wp_at_succ

set_option maxRecDepth 100000 in
set_option maxHeartbeats 3200000 in
theorem profile_ok (X Y W H ax ay bx by' : Int) (A : Option Addr) (n c s : Nat) (l : List Nat) (w : World) (hn : l.length = n) (hd : Rd w A (flt l)) (he : fieldE X Y W H l = 0) (hia : InR X Y W H ax ay) (hib : InR X Y W H bx by') (hs : stepsZ ax ay bx by' = s) (hs2 : s ≤ 65535) :
    Calls Try.prog 23 #[.agg #[.int .i64 X, .int .i64 Y, .int .i64 W, .int .i64 H, .slice A n c], .agg #[.int .i64 ax, .int .i64 ay], .agg #[.int .i64 bx, .int .i64 by']] w fun e w' =>
      ∃ C q, e = .returned (.tuple #[.slice C (s + 1 : Nat) q, .int .i64 0]) ∧ Rdb w.heap.size w' C (flt ((linePts ax ay bx by' s (s + 1)).map (valAt X Y W l))) ∧ Ext w w' := by
  obtain ⟨i0, hi0, hz0, hz1, hz2⟩ := info_parts Try.infoF32
  obtain ⟨fe1, fe2, fe3⟩ := fieldE_parts he
  have hreg := RegOk.of_zero fe1
  have HI : Hid (insE X Y W H [(ax, ay), (bx, by')] = 0) := by
    show insE X Y W H [(ax, ay), (bx, by')] = 0
    simp only [insE]
    rw [if_pos hia, if_pos hib]
  have hnb : n ≤ 65536 := by
    have := (regE_zero fe1).2.2.2.2.1
    omega
  have Hla := hidA (show ∀ k, k ≤ s → InR X Y W H (linePt ax ay bx by' s k).1 (linePt ax ay bx by' s k).2 from fun k hk => line_in hia hib hk)
  have Hreg := hidA hreg
  have Ha := hidA hia
  have Hb := hidA hib
  have He := hidA he
  have Hn := hidA hn
  have Hw := hidA fe2
  have Hs := hidA hs
  have bd : (-4194304 ≤ ax ∧ ax ≤ 4194304) ∧ (-4194304 ≤ ay ∧ ay ≤ 4194304) ∧ (-4194304 ≤ bx ∧ bx ≤ 4194304) ∧ (-4194304 ≤ by' ∧ by' ≤ 4194304) := by
    unfold RegOk at hreg
    unfold InR at hia hib
    omega
  obtain ⟨bd1, bd2, bd3, bd4⟩ := bd
  clear he hn hia hib hs hreg fe1 fe2 fe3
  go_enter Try.func23, Try.ntmps23
  go_wp2_with fail
  refine (check_any X Y W H A n c l _ Hn.out (((hd.alloc _).alloc _).alloc _) (by omega)).mono ?_
  rw [He.out]
  rintro e w1 ⟨rfl, hb1⟩
  have hc1 := hb1.cell
  go_wp2_with fail
  refine (inside_any X Y W H _ _ 2 2 [(ax, ay), (bx, by')] _ Hreg.out rfl (Rd.new (by simp) rfl) (by omega)).mono ?_
  rw [HI.out]
  rintro e w2 ⟨rfl, hb2⟩
  have hx2 := (hb1.alloc _).trans hb2
  clear hc1 hb1 hb2
  have hc2 := hx2.cell
  go_wp2_with fail
  refine (line_any ax ay bx by' s _ bd1 bd2 bd3 bd4 Hs.out hs2).mono ?_
  rintro e w3 ⟨B, d, rfl, hr3, hb3⟩
  have hx3 := hx2.trans hb3
  have hx : Ext w w3 := (((Ext.refl w).alloc _).alloc _).alloc _ |>.trans hx3
  have hp : Rd w3 B (ptv (linePts ax ay bx by' s (s + 1))) := hr3.rd
  have hB3 : Bk w3 w.heap.size 48 #[.int .i64 X, .int .i64 Y, .int .i64 W, .int .i64 H, .slice A n c] := (((Bk.new' rfl).alloc _).alloc _).ext hx3
  clear hc2 hx2 hb3 hr3 hx3
  have Hm : Hid ((linePts ax ay bx by' s (s + 1)).length = s + 1) := by
    show (linePts ax ay bx by' s (s + 1)).length = s + 1
    simp [linePts]
  have Hin : Hid (∀ p ∈ linePts ax ay bx by' s (s + 1), InR X Y W H p.1 p.2) := by
    show ∀ p ∈ linePts ax ay bx by' s (s + 1), InR X Y W H p.1 p.2
    intro p hp
    obtain ⟨k, hk, rfl⟩ := List.mem_map.1 hp
    exact Hla.out k (by have := List.mem_range.1 hk; omega)
  clear Hla
  obtain ⟨pts, hpts⟩ : ∃ pts, pts = linePts ax ay bx by' s (s + 1) := ⟨_, rfl⟩
  rw [← hpts] at hp Hm Hin
  have Hpts := hidA hpts
  clear hpts
  go_wp2_with fail
  go_loopw [10, 30] (fun v i wr => ∃ (k : Nat) (C : Option Addr) (q : Nat), k ≤ s + 1 ∧ i = .int .i64 k ∧ v = .slice C k q ∧ wr.ownsRow w3.heap.size 71 1 (.slice C k q) k (flt ((pts.take k).map (valAt X Y W l))) ∧ Ext w3 wr) (fun _ i _ => s + 1 - (intOf i).toNat)
  case atStart => exact ⟨0, none, 0, by omega, rfl, rfl, by simpa [flt] using World.ownsRow_nil _ _ _ _, Ext.refl _⟩
  case round =>
    obtain ⟨k, C, q, hk, rfl, rfl, hown, hx4⟩ := hrel
    have hB := hB3.ext hx4
    have hl := hB.lt
    have d0 : wr.cell? ⟨w.heap.size, 0, none⟩ = some (.int .i64 X) := hB.cell 0
    have d1 : wr.cell? ⟨w.heap.size, 1, none⟩ = some (.int .i64 Y) := hB.cell 1
    have d2 : wr.cell? ⟨w.heap.size, 2, none⟩ = some (.int .i64 W) := hB.cell 2
    have d3 : wr.cell? ⟨w.heap.size, 3, none⟩ = some (.int .i64 H) := hB.cell 3
    have d4 : wr.cell? ⟨w.heap.size, 4, none⟩ = some (.slice A n c) := hB.cell 4
    by_cases hlt : k < s + 1
    · have hkl : k < pts.length := by have := Hm.out; omega
      obtain ⟨ad, rfl, hbk, hc⟩ := (hp.ext hx4).at (k := k * 2) (by rw [ptv_length]; omega)
      have e0 := hc (k * 2) _ (ptv_get hkl).1
      have e1 : wr.cell? ⟨(ad.add (k * 2)).block, (ad.add (k * 2)).off + 1, none⟩ = some (.int .i64 pts[k].2) := by rw [add_off _ _ (by omega)]; exact hc (k * 2 + 1) _ (ptv_get hkl).2
      have Hi2 := hidA (Hin.out _ (List.getElem_mem hkl))
      have Hj := hidA (valAt_get (l := l) Hreg.out Hi2.out Hw.out)
      have Htk : Hid (pts.take (k + 1) = pts.take k ++ [pts[k]]) := List.take_succ_eq_append_getElem hkl
      have hd4 := (hd.ext hx).ext hx4
      have hlx := hx4.size
      clear hc
      go_wp2_with fail
      obtain ⟨j, hj, hjl, hjv⟩ := Hj.out
      refine (at_any X Y W H pts[k].1 pts[k].2 A n c l _ Hreg.out Hi2.out Hn.out (by have := Hn.out; have := Hw.out; omega) (hd4.alloc _) j hj (valAt X Y W l pts[k]) hjv).mono ?_
      clear hj hjl hjv
      rintro e w5 ⟨rfl, hb5⟩
      have hx5 := ((Ext.refl wr).alloc _).trans hb5
      have hown5 := own_ext hown hx5
      have hl5 := hx5.size
      have u1 : k + 1 ≤ maxLen := by unfold maxLen; omega
      have u2 : (k + 1) * 4 ≤ 140737488355328 := by omega
      go_wp2_with (at_builtin; refine wpList_append_lies _ (by rfl) _ _ _ (by rfl) w3.heap.size 71 i0 _ 1 4 Try.underlying46 hi0 hz0 hz1 hz2 rfl (by decide) _ _ _ (by rfl) (hown5.alloc _) ⟨w5.heap.size, 0, none⟩ 1 1 [.float .f32 (valAt X Y W l pts[k])] (by rfl) (by rfl) (World.news_of_block (cs := #[.float .f32 (valAt X Y W l pts[k])]) (t := 71) (fr := (0, 0)) (heap_alloc_new w5 _)) (by simp [Value.oneCell']) (by decide) u1 u2 (by rw [World.size_alloc]; omega) (w5.heap.size + 1) (by simp) ?_; intro gg cap w6 hown6 hgrow hat hltg)
      go_roundw
      case rel => exact ⟨k + 1, some ⟨gg, 0, none⟩, cap, by omega, by go_num, rfl, by rw [Htk.out, flt_snoc]; exact hown6, ((hx4.trans hx5).alloc _).own (hown5.alloc _) (Nat.le_refl _) hgrow⟩
      case measure => simp [intOf]; omega
    · obtain rfl : k = s + 1 := by omega
      go_wp2
      go_ret2
      refine ⟨C, q, rfl, ?_, hx.trans hx4⟩
      have h := Rdb.of_own hown
      rw [List.take_of_length_le (by have := Hm.out; omega)] at h
      rw [← Hpts.out]
      exact h.mono hx.size

end Go.Proofs.Ytjfipkccbapajaa
