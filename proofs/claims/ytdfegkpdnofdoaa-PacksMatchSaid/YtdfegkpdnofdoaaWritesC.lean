/- writes() is true. -/
import Derived.Test.YtdfegkpdnofdoaaWritesB
import Derived.ArgAppend
import Derived.Lib.SlBytesConst
namespace Go.Proofs.Ytdfegkpdnofdoaa
open Go.RowKit
attribute [local go_sem ↓] Go.wp_at_zero Go.wp_at_succ

theorem run_equalIn_flo (w : World) (d : Nat) (a b : Nat) : (Op.equalIn (d + 1) 22 (.float .f32 a) (.float .f32 b)).run Try.prog w = .ok (FloatKind.f32.format.order a b == some .eq) w := by
  simp [Op.equalIn, run_underlying Try.underlying22]; rfl
attribute [local go_sem] run_equalIn_flo
theorem ix_0 (w : World) : (Instr.index 109 (.agg #[.int .i64 0, .int .i64 0, .int .i64 1, .int .i64 1]) (.int .i64 0)).run Try.prog w = .ok (.int .i64 0) w := by kernel_rfl
theorem ix_1 (w : World) : (Instr.index 109 (.agg #[.int .i64 0, .int .i64 0, .int .i64 1, .int .i64 1]) (.int .i64 1)).run Try.prog w = .ok (.int .i64 0) w := by kernel_rfl
theorem ix_2 (w : World) : (Instr.index 109 (.agg #[.int .i64 0, .int .i64 0, .int .i64 1, .int .i64 1]) (.int .i64 2)).run Try.prog w = .ok (.int .i64 1) w := by kernel_rfl
theorem ix_3 (w : World) : (Instr.index 109 (.agg #[.int .i64 0, .int .i64 0, .int .i64 1, .int .i64 1]) (.int .i64 3)).run Try.prog w = .ok (.int .i64 1) w := by kernel_rfl
attribute [local go_sem] ix_0 ix_1 ix_2 ix_3
theorem one_fieldE : fieldE 0 0 1 1 [1065353216] = 0 := by decide +kernel

set_option maxRecDepth 100000 in
set_option maxHeartbeats 3200000 in
theorem encode_one (ad : Addr) (c : Nat) (w : World) (hr : Rd w (some ad) (flt [1065353216])) :
    Calls Try.prog 48 #[.agg #[.int .i64 0, .int .i64 0, .int .i64 1, .int .i64 1, .slice (some ad) 1 c], .int .i64 1, .agg #[.float .f32 0, .float .f32 0, .int .i64 0]] w fun e w' =>
      ∃ s : ByteArray, e = .returned (.tuple #[.string s, .int .i64 0]) ∧ s.size = 29 ∧ Ext w w' := by
  obtain ⟨i0, hi0, hz0, hz1, hz2⟩ := info_parts Try.infoU8
  have z0 : (FloatKind.f32.format.order 0 0 == some .eq) = true := by decide +kernel
  have HC := fun (w' : World) (h : Rd w' (some ad) (flt [1065353216])) => hidA (check_any 0 0 1 1 (some ad) 1 c [1065353216] w' rfl h (by omega))
  rw [one_fieldE] at HC
  have HB := fun (w' : World) (h : Rd w' (some ad) (flt [1065353216])) => hidA (body_one ad c w' h)
  have HS := fun (base n : Nat) (v : Value) (w : World) (l : List Int) (h : w.ownsRow base 5 1 v n (u8s l)) (hn : 0 < n) => hidA (str_own h hn)
  have HR := hidA hr
  clear hr
  go_enter Try.func48, Try.ntmps48
  go_wp2_with fail
  refine ((HC _ ((HR.out.alloc _).alloc _)).out).mono ?_
  rintro e w1 ⟨rfl, hb1⟩
  have hF : Bk w1 w.heap.size 43 #[.int .i64 0, .int .i64 0, .int .i64 1, .int .i64 1, .slice (some ad) 1 c] := ((Bk.new' rfl).alloc _).ext hb1
  have hG : Bk w1 (w.heap.size + 1) 38 #[.float .f32 0, .float .f32 0, .int .i64 0] := (Bk.new' (by simp)).ext hb1
  have hx1 : Ext w w1 := (((Ext.refl w).alloc _).alloc _).trans hb1
  have k0 := hF.cell 0
  have k1 := hF.cell 1
  have k2 := hF.cell 2
  have k3 := hF.cell 3
  have k4 := hF.cell 4
  have g0 := hG.cell 0
  have g1 := hG.cell 1
  have g2 := hG.cell 2
  have hd1 := HR.out.ext hx1
  have hF1 := hidA hF
  clear hb1 hF hG HC
  go_wp2_with fail
  refine (scaled_any 1 _ (by omega)).mono ?_
  rintro e w2 ⟨rfl, hw2⟩
  rw [hw2]
  clear hw2 w2
  go_wp2_with fail
  refine ((HB _ hd1).out).mono ?_
  rintro e w2 ⟨vb, lb, rfl, hownb, hb2⟩
  obtain ⟨gb, capb, rfl, _, hgb⟩ := World.ownsRow.form hownb (by omega)
  have hF2 := hF1.out.ext hb2
  have hx2 := hx1.trans hb2
  clear k0 k1 k2 k3 k4 g0 g1 g2 hF1 hx1 hd1 HB HR
  have hF2 := hidA hF2
  have kc := Lib.run_convert_bytes_const (P := Try.prog) w2 105 5 #[.int .u8 84, .int .u8 65, .int .u8 82, .int .u8 78] 4 4 Try.underlying105 Try.underlying5
  have hL : ∀ o, ((w2.alloc (.cells #[.int .u8 84, .int .u8 65, .int .u8 82, .int .u8 78] 5 (4, 5))).alloc o).heap[w2.heap.size]? = some (.cells #[.int .u8 84, .int .u8 65, .int .u8 82, .int .u8 78] 5 (4, 5)) := fun o => (Below.heap_alloc _ o _ (by simp)).trans (heap_alloc_new w2 _)
  go_wp2_with (at_builtin; refine wpList_append_grows _ (by rfl) _ _ _ (by rfl) 5 i0 _ 1 1 Try.underlying105 hi0 hz0 hz1 hz2 rfl (by decide) (some ⟨w2.heap.size, 0, none⟩) 4 4 (u8s [84, 65, 82, 78]) (by rfl) (by intro h; cases h) rfl (by intro b hb; injection hb with hb; subst hb; exact World.news_of_block (cs := #[.int .u8 84, .int .u8 65, .int .u8 82, .int .u8 78]) (hL _)) ⟨w2.heap.size + 1, 0, none⟩ 1 1 (u8s [1]) (by rfl) (by rfl) (World.news_of_block (cs := (u8s [1]).toArray) (t := 5) (fr := (0, 0)) (Bk.new' (by simp))) (u8s_one _) (by omega) (by unfold maxLen; omega) (by omega) ?_; intro v3 w3 hown3 hgrow; have hx3 : Ext w2 w3 := (((Ext.refl w2).alloc _).alloc _).trans (ext_grown hgrow); have k0 := (hF2.out.ext hx3).cell 0; have k1 := (hF2.out.ext hx3).cell 1; have k2 := (hF2.out.ext hx3).cell 2; have k3 := (hF2.out.ext hx3).cell 3)
  have hown4 : w3.ownsRow w2.heap.size 5 1 v3 5 (u8s [84, 65, 82, 78, 1]) := own_mono hown3 (by simp; omega)
  clear hown3 hgrow kc hL hF2 k0 k1 k2 k3
  go_wp2
  go_loopw [12, 64] (fun s12 s64 wr => ∃ (k : Nat) (l : List Int), k ≤ 4 ∧ s64 = .int .i64 k ∧ wr.ownsRow w2.heap.size 5 1 s12 (5 + 4 * k) (u8s l) ∧ Ext w2 wr) (fun _ s64 _ => 4 - (intOf s64).toNat)
  case atStart => exact ⟨0, _, by omega, rfl, hown4, hx3⟩
  case round =>
    obtain ⟨k, l, hk, rfl, hown, hx⟩ := hrel
    have hsz := hx.size
    clear hown4 hx3
    by_cases hlt : k < 4
    · have hk4 : k = 0 ∨ k = 1 ∨ k = 2 ∨ k = 3 := by omega
      rcases hk4 with rfl | rfl | rfl | rfl
      all_goals
        go_wp2_with fail
        refine (word_any _ _).mono ?_
        rintro e w5 ⟨l5, hl5, rfl, hw5⟩
        rw [hw5]
        clear hw5 w5
        go_wp2_with (at_builtin; refine wpList_append_lies _ (by rfl) _ _ _ (by rfl) w2.heap.size 5 i0 _ 1 1 Try.underlying105 hi0 hz0 hz1 hz2 rfl (by decide) _ _ _ (by rfl) (hown.alloc _) ⟨wr.heap.size, 0, none⟩ 4 4 (u8s l5) (by rfl) (by rw [u8s_length, hl5]) (World.news_of_block (cs := (u8s l5).toArray) (t := 5) (fr := (0, 0)) (heap_alloc_new wr _)) (u8s_one _) (by omega) (by unfold maxLen; omega) (by omega) (by simp; omega) (wr.heap.size + 1) (by simp) ?_; intro gg cap w6 hown6 hgrow hat hltg)
        go_roundw
        case rel => first | exact ⟨1, l ++ l5, by omega, rfl, by rw [← u8s_append]; exact hown6, (hx.alloc _).own (hown.alloc _) (Nat.le_refl _) hgrow⟩ | exact ⟨2, l ++ l5, by omega, rfl, by rw [← u8s_append]; exact hown6, (hx.alloc _).own (hown.alloc _) (Nat.le_refl _) hgrow⟩ | exact ⟨3, l ++ l5, by omega, rfl, by rw [← u8s_append]; exact hown6, (hx.alloc _).own (hown.alloc _) (Nat.le_refl _) hgrow⟩ | exact ⟨4, l ++ l5, by omega, rfl, by rw [← u8s_append]; exact hown6, (hx.alloc _).own (hown.alloc _) (Nat.le_refl _) hgrow⟩
        case measure => simp [intOf]
    · obtain rfl : k = 4 := by omega
      have hcb := (own_ext hownb hx).cells (g := gb) rfl
      go_wp2_with (at_builtin; refine wpList_append_lies _ (by rfl) _ _ _ (by rfl) w2.heap.size 5 i0 _ 1 1 Try.underlying105 hi0 hz0 hz1 hz2 rfl (by decide) _ _ _ (by rfl) hown ⟨gb, 0, none⟩ 4 capb (u8s lb) (by rfl) hownb.1 hcb (u8s_one _) (by omega) (by unfold maxLen; omega) (by omega) (by omega) wr.heap.size rfl ?_; intro gg cap w6 hown6 hgrow hat hltg; rw [u8s_append] at hown6; have hx6 : Ext w2 w6 := hx.own hown (Nat.le_refl _) hgrow; obtain ⟨s1, cv1, hs1⟩ := str_own hown6 (by omega); have hsz6 := hx6.size)
      refine (sum_any s1 _ (by omega)).mono ?_
      rintro e w7 ⟨n, rfl, hw7⟩
      rw [hw7]
      clear hw7 w7
      go_wp2_with fail
      refine (word_any _ _).mono ?_
      rintro e w7 ⟨l7, hl7, rfl, hw7⟩
      rw [hw7]
      clear hw7 w7
      go_wp2_with (at_builtin; refine wpList_append_lies _ (by rfl) _ _ _ (by rfl) w2.heap.size 5 i0 _ 1 1 Try.underlying105 hi0 hz0 hz1 hz2 rfl (by decide) _ _ _ (by rfl) (hown6.alloc _) ⟨w6.heap.size, 0, none⟩ 4 4 (u8s l7) (by rfl) (by rw [u8s_length, hl7]) (World.news_of_block (cs := (u8s l7).toArray) (t := 5) (fr := (0, 0)) (heap_alloc_new w6 _)) (u8s_one _) (by omega) (by unfold maxLen; omega) (by omega) (by simp; omega) (w6.heap.size + 1) (by simp) ?_; intro gg8 cap8 w8 hown8 hgrow8 hat8 hltg8; rw [u8s_append] at hown8; obtain ⟨s2, cv2, hs2⟩ := str_own hown8 (by omega))
      go_ret2
      exact ⟨s2, rfl, hs2, hx2.trans ((hx6.alloc _).own (hown6.alloc _) (Nat.le_refl _) hgrow8)⟩

theorem writes_any (w : World) : Calls Try.prog 12 #[] w fun e w' => e = .returned (.bool true) ∧ Ext w w' := by
  have HE := fun (ad : Addr) (c : Nat) (w : World) (h : Rd w (some ad) (flt [1065353216])) => hidA (encode_one ad c w h)
  go_enter Try.func12, Try.ntmps12
  go_wp2_with fail
  refine ((HE _ 1 _ (Rd.new (by first | rfl | simp) rfl)).out).mono ?_
  rintro e w1 ⟨s, rfl, hs, hb1⟩
  have t1 : (((s.size : Nat) : Int) == 29) = true := by rw [hs]; rfl
  go_wp2_with fail
  go_ret
  exact ⟨by first | rfl | simp, ((Ext.refl w).alloc _).trans hb1⟩
end Go.Proofs.Ytdfegkpdnofdoaa
