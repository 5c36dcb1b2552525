/- Contract: export.body of one value in full. -/
import Derived.Test.YtdfegkpdnofdoaaWrites
namespace Go.Proofs.Ytdfegkpdnofdoaa
open Go.RowKit
attribute [local go_sem ↓] Go.wp_at_zero Go.wp_at_succ

theorem to_bits32 (a : Nat) (w : World) : (callFunc 52 #[.float .f32 a]).run Try.prog w = .ok (.value (.int .u32 a)) w := by kernel_rfl

theorem own_mono {w : World} {b b' : Nat} {e : TypeId} {size n : Nat} {v : Value} {xs : List Value} (h : w.ownsRow b e size v n xs) (hb : b' ≤ b) : w.ownsRow b' e size v n xs := by
  refine ⟨h.1, ?_⟩
  rcases h.2 with h1 | ⟨g, cap, cur, h1, h2, h3⟩
  · exact .inl h1
  · exact .inr ⟨g, cap, cur, h1, Nat.le_trans hb h2, h3⟩
set_option maxRecDepth 100000 in
set_option maxHeartbeats 1600000 in
theorem body_one (ad : Addr) (c : Nat) (w : World) (hr : Rd w (some ad) (flt [1065353216])) :
    Calls Try.prog 76 #[.agg #[.int .i64 0, .int .i64 0, .int .i64 1, .int .i64 1, .slice (some ad) 1 c], .int .i64 1, .agg #[.float .f32 0, .float .f32 0, .int .i64 0]] w fun e w' =>
      ∃ v l, e = .returned (.tuple #[v, .bool true]) ∧ w'.ownsRow w.heap.size 5 1 v 4 (u8s l) ∧ Ext w w' := by
  obtain ⟨i0, hi0, hz0, hz1, hz2⟩ := info_parts Try.infoU8
  obtain ⟨ad', e, hlt, hc⟩ := hr (by simp [flt])
  injection e with e
  subst e
  have e0 : w.cell? ad = some (.float .f32 1065353216) := hc 0 _ rfl
  have hb := to_bits32 1065353216
  clear hc hr
  go_enter Try.func76, Try.ntmps76
  go_wp2_with fail
  refine (scaled_any 1 _ (by omega)).mono ?_
  rintro e w1 ⟨rfl, hw1⟩
  have hx1 : Ext w w1 := by rw [hw1]; exact (by repeat (first | exact Ext.refl _ | assumption | refine Ext.setCell ?_ (by first | (simp; done) | (simp; omega)) _ | refine Ext.drewN ?_ _ | refine Ext.alloc ?_ _ | refine Ext.drew ?_ | refine Ext.trans ?_ (by assumption)))
  have hF : Bk w1 w.heap.size 43 #[.int .i64 0, .int .i64 0, .int .i64 1, .int .i64 1, .slice (some ad) 1 c] := by rw [hw1]; exact (Bk.new' rfl).alloc _
  have k4 := hF.cell 4
  have e1 : w1.cell? ad = some (.float .f32 1065353216) := (hx1.cell _ hlt).trans e0
  have hle := hx1.size
  clear hw1 hF e0
  go_wp2_with fail
  go_loopw [8, 58] (fun s8 s58 wr => (s58 = .int .i64 0 ∧ s8 = .slice none 0 0 ∧ wr = w1) ∨ ∃ l, s58 = .int .i64 1 ∧ wr.ownsRow w1.heap.size 5 1 s8 4 (u8s l) ∧ Ext w1 wr) (fun _ s58 _ => 2 - (intOf s58).toNat)
  case atStart => exact .inl ⟨rfl, rfl, rfl⟩
  case round =>
    rcases hrel with ⟨rfl, rfl, rfl⟩ | ⟨l, rfl, hown, hx⟩
    · go_wp2_with fail
      refine (word_any _ _).mono ?_
      rintro e w2 ⟨l, hl, rfl, hw2⟩
      have hown0 : (wr.alloc (.cells (u8s l).toArray 5)).ownsRow wr.heap.size 5 1 (.slice none 0 0) 0 [] := World.ownsRow_nil _ _ _ _
      rw [hw2]
      clear hw2 w2
      go_wp2_with (at_builtin; refine wpList_append_lies _ (by rfl) _ _ _ (by rfl) wr.heap.size 5 i0 _ 1 1 Try.underlying105 hi0 hz0 hz1 hz2 rfl (by decide) _ _ _ (by rfl) hown0 ⟨wr.heap.size, 0, none⟩ 4 4 (u8s l) (by rfl) (by rw [u8s_length, hl]) (World.news_of_block (cs := (u8s l).toArray) (t := 5) (fr := (0, 0)) (heap_alloc_new wr _)) (u8s_one l) (by omega) (by unfold maxLen; omega) (by omega) (by simp) (wr.heap.size + 1) (by simp) ?_; intro gg cap w3 hown3 hgrow hat hltg)
      go_roundw
      case rel => exact .inr ⟨l, rfl, by simpa using hown3, ((Ext.refl wr).alloc _).own hown0 (Nat.le_refl _) hgrow⟩
      case measure => simp [intOf]
    · go_wp2_with fail
      go_ret2
      exact ⟨_, l, rfl, own_mono hown hle, hx1.trans hx⟩
end Go.Proofs.Ytdfegkpdnofdoaa
