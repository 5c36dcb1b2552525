/- Contract: tarnref2.LineOf. -/
import Derived.Test.YtjfipkccbapajaaLineC
namespace Go.Proofs.Ytjfipkccbapajaa
open Go.RowKit
attribute [local go_sem ↓] Go.wp_at_zero Go.wp_at_succ
attribute [local go_sem] run_max4

set_option maxRecDepth 100000 in
set_option maxHeartbeats 3200000 in
theorem lineOf_any (ax ay bx by' : Int) (n : Nat) (w : World) (_h1 : -4194304 ≤ ax ∧ ax ≤ 4194304) (h2 : -4194304 ≤ ay ∧ ay ≤ 4194304) (_h3 : -4194304 ≤ bx ∧ bx ≤ 4194304) (h4 : -4194304 ≤ by' ∧ by' ≤ 4194304)
    (hs : stepsZ ax ay bx by' = n) (hn : n ≤ 65535) :
    Calls Try.prog 25 #[.agg #[.int .i64 ax, .int .i64 ay], .agg #[.int .i64 bx, .int .i64 by']] w fun e w' =>
      ∃ A c, e = .returned (.slice A (n + 1 : Nat) c) ∧ Rdb w.heap.size w' A (ptv (linePts ax ay bx by' n (n + 1))) ∧ Ext w w' := by
  obtain ⟨i0, hi0, hz0, hz1, hz2⟩ := info_parts Try.infoPt
  have hbd := max4_bd hs
  have hs' : max4 (bx - ax) (-(bx - ax)) (by' - ay) (-(by' - ay)) = n := hs
  clear hs
  go_enter Try.func25, Try.ntmps25
  go_wp2
  go_quiet (fail)
  go_wp2
  go_loopw [8, 9] (fun v i wr => ∃ (k : Nat) (A : Option Addr) (c : Nat), 1 ≤ k ∧ k ≤ n + 1 ∧ i = .int .i64 k ∧ v = .slice A k c ∧ wr.ownsRow (w.heap.size + 2) 31 2 (.slice A k c) k (ptv (linePts ax ay bx by' n k)) ∧ Ext w wr ∧ Bk wr w.heap.size 31 #[.int .i64 ax, .int .i64 ay]) (fun _ i _ => n + 1 - (intOf i).toNat)
  case atStart =>
    refine ⟨1, some ⟨w.heap.size + 1 + 1, 0, none⟩, 1, by omega, by omega, rfl, rfl, ?_, (by repeat (first | exact Ext.refl _ | assumption | refine Ext.setCell ?_ (by first | (simp; done) | (simp; omega)) _ | refine Ext.drewN ?_ _ | refine Ext.alloc ?_ _ | refine Ext.drew ?_ | refine Ext.trans ?_ (by assumption))), ?_⟩
    · exact own_lit (by simp) (by simp) (by unfold maxLen; omega) rfl (by simp [linePts, linePt, ptv, ptX_zero])
    · exact (((Bk.new' rfl).alloc _).drewN _).alloc _
  case round =>
    obtain ⟨k, A, c, hk0, hk, rfl, rfl, hown, hx, hB0⟩ := hrel
    have c0 : wr.cell? ⟨w.heap.size, 0, none⟩ = some (.int .i64 ax) := hB0.cell 0
    have c1 : wr.cell? ⟨w.heap.size, 1, none⟩ = some (.int .i64 ay) := hB0.cell 1
    have hl := hB0.lt
    by_cases hlt : k < n + 1
    · obtain ⟨q1, q2⟩ := mul_bd (i := k) (d := bx - ax) (n := n) (by omega) (by omega) (by omega)
      obtain ⟨q3, q4⟩ := mul_bd (i := k) (d := by' - ay) (n := n) (by omega) (by omega) (by omega)
      have b1 := ediv_bd (x := 2 * (k : Int) * (bx - ax) + n) (c := 2 * n) (M := 34359803904) (by omega) (by omega) (by omega)
      have b2 := ediv_bd (x := 2 * (k : Int) * (by' - ay) + n) (c := 2 * n) (M := 34359803904) (by omega) (by omega) (by omega)
      have z0 : IntKind.i64.wrap (2 * (k : Int)) = 2 * k := IntWalk.i64_in _ (by omega)
      have z1 : IntKind.i64.wrap (2 * (k : Int) * (bx - ax)) = 2 * k * (bx - ax) := IntWalk.i64_in _ (by omega)
      have z2 : IntKind.i64.wrap (2 * (k : Int) * (by' - ay)) = 2 * k * (by' - ay) := IntWalk.i64_in _ (by omega)
      have z3 : IntKind.i64.wrap (2 * (k : Int) * (bx - ax) + n) = 2 * k * (bx - ax) + n := IntWalk.i64_in _ (by omega)
      have z4 : IntKind.i64.wrap (2 * (k : Int) * (by' - ay) + n) = 2 * k * (by' - ay) + n := IntWalk.i64_in _ (by omega)
      have z5 : IntKind.i64.wrap (2 * (n : Int)) = 2 * n := IntWalk.i64_in _ (by omega)
      have z6 : IntKind.i64.wrap (ax + (2 * (k : Int) * (bx - ax) + n) / (2 * n)) = ax + (2 * k * (bx - ax) + n) / (2 * n) := IntWalk.i64_in _ (by omega)
      have z7 : IntKind.i64.wrap (ay + (2 * (k : Int) * (by' - ay) + n) / (2 * n)) = ay + (2 * k * (by' - ay) + n) / (2 * n) := IntWalk.i64_in _ (by omega)
      go_wp2
      go_region_held3 (fun w' => w'.cell? ⟨w.heap.size, 0, none⟩ = some (.int .i64 ax) ∧ w'.cell? ⟨w.heap.size, 1, none⟩ = some (.int .i64 ay)) (first | (go_keep; done) | ((try dsimp only); exact ⟨d0, d1⟩))
        (first
          | (go_at_call 72; refine (div_any _ _ _ ?_ ?_ ⟨?_, ?_⟩).mono ?_; (omega); (omega); (omega); (omega); rintro e w' ⟨rfl, rfl⟩)
          | ((refine step_append_lies _ (by rfl) _ _ _ (by rfl) (w.heap.size + 2) 31 i0 _ 2 16 Try.underlying37 hi0 hz0 hz1 hz2 rfl (by omega) _ _ _ (by rfl) ((hown.alloc _).drew) ⟨wr.heap.size, 0, none⟩ 1 1 [.int .i64 (ptX ax bx k n), .int .i64 (ptX ay by' k n)] (by rfl) (by rfl) (World.news_of_block (cs := #[.int .i64 (ptX ax bx k n), .int .i64 (ptX ay by' k n)]) (t := 31) (fr := (0, 0)) (heap_alloc_new wr _)) (by simp [Value.oneCell']) (by omega) (by unfold maxLen; omega) (by omega) (by simp; omega) (wr.heap.size + 1) (by simp) ?_; intro gg cap w3 hown3 hgrow hat hltg; have hB3 := ((hB0.alloc _).drew).grown hgrow (own_far hown (by omega)); have d0 : w3.cell? ⟨w.heap.size, 0, none⟩ = some (.int .i64 ax) := hB3.cell 0; have d1 : w3.cell? ⟨w.heap.size, 1, none⟩ = some (.int .i64 ay) := hB3.cell 1)))
      go_wp2
      go_roundw
      case rel => exact ⟨k + 1, some ⟨gg, 0, none⟩, cap, by omega, by omega, by go_num, rfl, by rw [linePts_succ, ptv_append]; exact hown3, ((hx.alloc _).drew).own ((hown.alloc _).drew) (by omega) hgrow, hB3⟩
      case measure => simp [intOf]; omega
    · obtain rfl : k = n + 1 := by omega
      go_wp2
      go_ret
      exact ⟨A, c, rfl, (Rdb.of_own hown).mono (by omega), hx⟩

end Go.Proofs.Ytjfipkccbapajaa
