/- The steps in eight directions: water.Toward and tarnref2.Step are the same. -/
import Derived.Test.YtpgdinpckolfpaaPlaces
namespace Go.Proofs.Ytpgdinpckolfpaa
open Go.RowKit
attribute [local go_sem ↓] Go.wp_at_zero Go.wp_at_succ

def stepX (d : Int) : Int := if d = 0 then 1 else if d = 1 then 1 else if d = 2 then 0 else if d = 3 then -1 else if d = 4 then -1 else if d = 5 then -1 else if d = 6 then 0 else 1
def stepY (d : Int) : Int := if d = 0 then 0 else if d = 1 then 1 else if d = 2 then 1 else if d = 3 then 1 else if d = 4 then 0 else if d = 5 then -1 else if d = 6 then -1 else -1

set_option maxRecDepth 100000 in
set_option maxHeartbeats 3200000 in
theorem step_any (d : Int) (w : World) (h0 : 0 ≤ d) (h : d < 8) :
    Calls Try.prog 37 #[.int .i64 d] w fun e w' => e = .returned (.tuple #[.int .i64 (stepX d), .int .i64 (stepY d)]) ∧ Ext w w' := by
  have hd : d = 0 ∨ d = 1 ∨ d = 2 ∨ d = 3 ∨ d = 4 ∨ d = 5 ∨ d = 6 ∨ d = 7 := by omega
  rcases hd with rfl | rfl | rfl | rfl | rfl | rfl | rfl | rfl
  all_goals
    go_enter Try.func37, Try.ntmps37
    go_wp2
    (try (go_quiet (fail)))
    (try go_wp2)
    go_ret2
    exact ⟨rfl, (by repeat (first | exact Ext.refl _ | assumption | refine Ext.setCell ?_ (by first | (simp; done) | (simp; omega)) _ | refine Ext.drewN ?_ _ | refine Ext.alloc ?_ _ | refine Ext.drew ?_ | refine Ext.trans ?_ (by assumption)))⟩
set_option maxRecDepth 100000 in
set_option maxHeartbeats 3200000 in
theorem toward_any (d : Int) (w : World) (h0 : 0 ≤ d) (h : d < 8) :
    Calls Try.prog 79 #[.int .i64 d] w fun e w' => e = .returned (.agg #[.int .i64 (stepX d), .int .i64 (stepY d)]) ∧ Ext w w' := by
  have hd : d = 0 ∨ d = 1 ∨ d = 2 ∨ d = 3 ∨ d = 4 ∨ d = 5 ∨ d = 6 ∨ d = 7 := by omega
  rcases hd with rfl | rfl | rfl | rfl | rfl | rfl | rfl | rfl
  · go_enter Try.func79, Try.ntmps79
    go_wp2
    refine bodyPost_ret (v := .agg #[.int .i64 (stepX 0), .int .i64 (stepY 0)]) (by simp [results, Try.results79, go_sem]; exact ⟨rfl, rfl⟩) rfl ⟨rfl, (by repeat (first | exact Ext.refl _ | assumption | refine Ext.setCell ?_ (by first | (simp; done) | (simp; omega)) _ | refine Ext.drewN ?_ _ | refine Ext.alloc ?_ _ | refine Ext.drew ?_ | refine Ext.trans ?_ (by assumption)))⟩
  · go_enter Try.func79, Try.ntmps79
    go_wp2
    refine bodyPost_ret (v := .agg #[.int .i64 (stepX 1), .int .i64 (stepY 1)]) (by simp [results, Try.results79, go_sem]; exact ⟨rfl, rfl⟩) rfl ⟨rfl, (by repeat (first | exact Ext.refl _ | assumption | refine Ext.setCell ?_ (by first | (simp; done) | (simp; omega)) _ | refine Ext.drewN ?_ _ | refine Ext.alloc ?_ _ | refine Ext.drew ?_ | refine Ext.trans ?_ (by assumption)))⟩
  · go_enter Try.func79, Try.ntmps79
    go_wp2
    refine bodyPost_ret (v := .agg #[.int .i64 (stepX 2), .int .i64 (stepY 2)]) (by simp [results, Try.results79, go_sem]; exact ⟨rfl, rfl⟩) rfl ⟨rfl, (by repeat (first | exact Ext.refl _ | assumption | refine Ext.setCell ?_ (by first | (simp; done) | (simp; omega)) _ | refine Ext.drewN ?_ _ | refine Ext.alloc ?_ _ | refine Ext.drew ?_ | refine Ext.trans ?_ (by assumption)))⟩
  · go_enter Try.func79, Try.ntmps79
    go_wp2
    refine bodyPost_ret (v := .agg #[.int .i64 (stepX 3), .int .i64 (stepY 3)]) (by simp [results, Try.results79, go_sem]; exact ⟨rfl, rfl⟩) rfl ⟨rfl, (by repeat (first | exact Ext.refl _ | assumption | refine Ext.setCell ?_ (by first | (simp; done) | (simp; omega)) _ | refine Ext.drewN ?_ _ | refine Ext.alloc ?_ _ | refine Ext.drew ?_ | refine Ext.trans ?_ (by assumption)))⟩
  · go_enter Try.func79, Try.ntmps79
    go_wp2
    refine bodyPost_ret (v := .agg #[.int .i64 (stepX 4), .int .i64 (stepY 4)]) (by simp [results, Try.results79, go_sem]; exact ⟨rfl, rfl⟩) rfl ⟨rfl, (by repeat (first | exact Ext.refl _ | assumption | refine Ext.setCell ?_ (by first | (simp; done) | (simp; omega)) _ | refine Ext.drewN ?_ _ | refine Ext.alloc ?_ _ | refine Ext.drew ?_ | refine Ext.trans ?_ (by assumption)))⟩
  · go_enter Try.func79, Try.ntmps79
    go_wp2
    refine bodyPost_ret (v := .agg #[.int .i64 (stepX 5), .int .i64 (stepY 5)]) (by simp [results, Try.results79, go_sem]; exact ⟨rfl, rfl⟩) rfl ⟨rfl, (by repeat (first | exact Ext.refl _ | assumption | refine Ext.setCell ?_ (by first | (simp; done) | (simp; omega)) _ | refine Ext.drewN ?_ _ | refine Ext.alloc ?_ _ | refine Ext.drew ?_ | refine Ext.trans ?_ (by assumption)))⟩
  · go_enter Try.func79, Try.ntmps79
    go_wp2
    refine bodyPost_ret (v := .agg #[.int .i64 (stepX 6), .int .i64 (stepY 6)]) (by simp [results, Try.results79, go_sem]; exact ⟨rfl, rfl⟩) rfl ⟨rfl, (by repeat (first | exact Ext.refl _ | assumption | refine Ext.setCell ?_ (by first | (simp; done) | (simp; omega)) _ | refine Ext.drewN ?_ _ | refine Ext.alloc ?_ _ | refine Ext.drew ?_ | refine Ext.trans ?_ (by assumption)))⟩
  · go_enter Try.func79, Try.ntmps79
    go_wp2
    refine bodyPost_ret (v := .agg #[.int .i64 (stepX 7), .int .i64 (stepY 7)]) (by simp [results, Try.results79, go_sem]; exact ⟨rfl, rfl⟩) rfl ⟨rfl, (by repeat (first | exact Ext.refl _ | assumption | refine Ext.setCell ?_ (by first | (simp; done) | (simp; omega)) _ | refine Ext.drewN ?_ _ | refine Ext.alloc ?_ _ | refine Ext.drew ?_ | refine Ext.trans ?_ (by assumption)))⟩
end Go.Proofs.Ytpgdinpckolfpaa
