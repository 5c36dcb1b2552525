/- Contracts: plant.Count where it refuses; slices.Equal of two censuses that are the same. -/
import Derived.Test.YtgaonoklbihkjaaDoorCountA
namespace Go.Proofs.YtgaonoklbihkjaaDoor
open Go.RowKit
attribute [local go_sem ↓] Go.wp_at_zero Go.wp_at_succ

set_option maxRecDepth 100000 in
set_option maxHeartbeats 1600000 in
theorem Count_bad (A : Option Addr) (n c : Nat) (l : List KindR) (B : Option Addr) (m d : Nat) (p : List PlantR) (w : World) (hn : l.length = n) (hd : Rd w A (kcells l)) (hb : n ≤ 4000000000000) (hc : n ≤ c) (hsz : ∀ x ∈ l, x.s.size ≤ 9223372036854775807) (hm : p.length = m) (hp : Rd w B (pcells p)) (hbm : m ≤ 4000000000000) (h0 : plantsE l p ≠ 0) :
    Calls Tryd.prog 15 #[.slice A n c, .slice B m d] w fun e w' => e = .returned (.tuple #[.slice none 0 0, .int .i64 (plantsE l p)]) ∧ Ext w w' := by
  have HC := fun (w : World) (hd : Rd w A (kcells l)) (hp : Rd w B (pcells p)) => hidA (checkPlants_any A n c l B m d p w hn hd hb hc hsz hm hp hbm)
  have b0 : (plantsE l p != 0) = true := by simpa using h0
  generalize plantsE l p = e at *
  clear h0 hn hm hsz
  go_enter Tryd.func15, Tryd.ntmps15
  go_wp2_with fail
  refine ((HC _ hd hp).out).mono ?_
  rintro e w1 ⟨rfl, hb1⟩
  go_wp2
  go_ret2
  exact ⟨rfl, (by repeat (first | exact Ext.refl _ | assumption | refine Ext.setCell ?_ (by first | (simp; done) | (simp; omega)) _ | refine Ext.drewN ?_ _ | refine Ext.alloc ?_ _ | refine Ext.drew ?_ | refine Ext.trans ?_ (by assumption)))⟩

theorem run_equalIn_flo (w : World) (d : Nat) (a b : Nat) : (Op.equalIn (d + 1) 24 (.float .f32 a) (.float .f32 b)).run Tryd.prog w = .ok (FloatKind.f32.format.order a b == some .eq) w := by
  simp [Op.equalIn, run_underlying Tryd.underlying24]; rfl
attribute [local go_sem] run_equalIn_flo
theorem ord_same {b : Nat} (h : nanB b = false) : (FloatKind.f32.format.order b b == some .eq) = true := same_eq (Same.refl b) h

set_option maxRecDepth 100000 in
set_option maxHeartbeats 1600000 in
theorem eqCen_same (g g' n : Nat) (F : Nat → CenR) (w : World) (hg : Bk w g 44 (cenC n F)) (hg' : Bk w g' 44 (cenC n F)) (hn : n ≤ 4000000) (hf : ∀ a, a < n → nanB (F a).sum = false ∧ nanB (F a).mean = false) :
    Calls Tryd.prog 16 #[.slice (some ⟨g, 0, none⟩) n n, .slice (some ⟨g', 0, none⟩) n n] w fun e w' => e = .returned (.bool true) ∧ Ext w w' := by
  have Hf := hidA hf
  clear hf
  go_enter Tryd.func16, Tryd.ntmps16
  go_wp2
  go_loopw [13] (fun i wr => ∃ k m : Nat, k ≤ n ∧ i = .int .i64 k ∧ wr = w.drewN m) (fun i _ => n - (intOf i).toNat)
  case atStart => exact ⟨0, 0, Nat.zero_le _, rfl, rfl⟩
  case round =>
    obtain ⟨k, m, hk, rfl, rfl⟩ := hrel
    by_cases hlt : k < n
    · have f1 := ord_same (Hf.out k hlt).1
      have f2 := ord_same (Hf.out k hlt).2
      have c0 := hg.cell (k * 5)
      have c1 := hg.cell (k * 5 + 1)
      have c2 := hg.cell (k * 5 + 2)
      have c3 := hg.cell (k * 5 + 3)
      have c4 := hg.cell (k * 5 + 4)
      have d0 := hg'.cell (k * 5)
      have d1 := hg'.cell (k * 5 + 1)
      have d2 := hg'.cell (k * 5 + 2)
      have d3 := hg'.cell (k * 5 + 3)
      have d4 := hg'.cell (k * 5 + 4)
      have g0 := cenC_get F hlt (j := 0) (by omega)
      rw [Nat.add_zero] at g0
      rw [g0] at c0 d0
      rw [cenC_get F hlt (by omega)] at c1 c2 c3 c4 d1 d2 d3 d4
      clear g0
      generalize F k = x at *
      obtain ⟨N1, Y1, O1, S1, M1⟩ := x
      dsimp only [CenR.cell] at c0 c1 c2 c3 c4 d0 d1 d2 d3 d4 f1 f2
      have k0 : (0 : Int) ≤ k := by omega
      have k1 : (k : Int) < n := by omega
      have hlg := hg.lt
      have hlg' := hg'.lt
      go_wp2
      go_quiet (fail)
      go_wp2
      go_roundw
      case rel => exact ⟨k + 1, _, by omega, by go_num, rfl⟩
      case measure => simp [intOf]; omega
    · obtain rfl : k = n := by omega
      go_wp2
      go_ret
      exact ⟨rfl, (by repeat (first | exact Ext.refl _ | assumption | refine Ext.setCell ?_ (by first | (simp; done) | (simp; omega)) _ | refine Ext.drewN ?_ _ | refine Ext.alloc ?_ _ | refine Ext.drew ?_ | refine Ext.trans ?_ (by assumption)))⟩
end Go.Proofs.YtgaonoklbihkjaaDoor
