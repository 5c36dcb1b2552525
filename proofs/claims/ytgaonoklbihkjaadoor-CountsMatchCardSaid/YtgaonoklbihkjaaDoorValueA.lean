/- Contract: field.Value. -/
import Derived.Test.YtgaonoklbihkjaaDoorFloatG
import Derived.Test.YtgaonoklbihkjaaDoorBaseA
import Derived.Deep.QuietTactic
import Derived.BigQuiet
namespace Go.Proofs.YtgaonoklbihkjaaDoor
open Go.RowKit
attribute [local go_sem ↓] Go.wp_at_zero Go.wp_at_succ

theorem value_any (b : Nat) (w : World) (hf : finB b = true) :
    Calls Tryd.prog 38 #[.float .f32 b] w fun e w' => e = .returned (.tuple #[.float .f32 (if numE [b] = 0 then b else 0), .int .i64 (numE [b])]) ∧ w' = w := by
  have H1 := fun (w : World) => hidA (height_any b w)
  by_cases hh : hgtB b = true
  · have e0 : numE [b] = 0 := numE_ok (by simpa using hf) (by simpa using hh)
    rw [e0, if_pos rfl]
    rw [hh] at H1
    clear hh hf e0
    go_enter Tryd.func38, Tryd.ntmps38
    go_wp2_with fail
    refine ((H1 _).out).mono ?_
    rintro e w1 ⟨rfl, rfl⟩
    go_wp2_with fail
    go_ret2
    exact ⟨rfl, rfl⟩
  · have hh' : hgtB b = false := by simpa using hh
    have e0 : numE [b] = 3 := numE_three (k := 0) (by simpa using hf) (by simp) hh'
    rw [e0, if_neg (by decide)]
    rw [hh'] at H1
    clear hh hh' hf e0
    go_enter Tryd.func38, Tryd.ntmps38
    go_wp2_with fail
    refine ((H1 _).out).mono ?_
    rintro e w1 ⟨rfl, rfl⟩
    go_wp2_with fail
    go_ret2
    exact ⟨rfl, rfl⟩
end Go.Proofs.YtgaonoklbihkjaaDoor
