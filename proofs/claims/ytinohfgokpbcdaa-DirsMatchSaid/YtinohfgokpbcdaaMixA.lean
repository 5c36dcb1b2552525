/- Contracts: noise.Hash, tarnref2.Mixed. -/
import Derived.Test.YtinohfgokpbcdaaStepP
import Derived.Laws.Closers25b
namespace Go.Proofs.Ytinohfgokpbcdaa
open Go.RowKit
attribute [local go_sem ↓] Go.wp_at_zero Go.wp_at_succ

def pick3 (x y n : Int) (k : Nat) : Int := if k = 0 then x else if k = 1 then y else n
theorem idx3_0 (x y n : Int) (w : World) : (Instr.index 178 (.agg #[.int .i64 x, .int .i64 y, .int .i64 n]) (.int .i64 0)).run Try.prog w = .ok (.int .i64 x) w := by kernel_rfl
theorem idx3_1 (x y n : Int) (w : World) : (Instr.index 178 (.agg #[.int .i64 x, .int .i64 y, .int .i64 n]) (.int .i64 1)).run Try.prog w = .ok (.int .i64 y) w := by kernel_rfl
theorem idx3_2 (x y n : Int) (w : World) : (Instr.index 178 (.agg #[.int .i64 x, .int .i64 y, .int .i64 n]) (.int .i64 2)).run Try.prog w = .ok (.int .i64 n) w := by kernel_rfl
theorem idx3 (x y n : Int) (k : Nat) (hk : k < 3) (w : World) : (Instr.index 178 (.agg #[.int .i64 x, .int .i64 y, .int .i64 n]) (.int .i64 (k : Int))).run Try.prog w = .ok (.int .i64 (pick3 x y n k)) w := by
  have : k = 0 ∨ k = 1 ∨ k = 2 := by omega
  rcases this with h | h | h
  · subst h; exact idx3_0 x y n w
  · subst h; exact idx3_1 x y n w
  · subst h; exact idx3_2 x y n w
def b1 (H v : Int) : Int := bits .xor .u32 H (v % 4294967296)
def b2 (a : Int) : Int := bits .xor .u32 a (a / 65536) * 2246822507 % 4294967296
def b3 (a : Int) : Int := bits .xor .u32 a (a / 8192) * 3266489909 % 4294967296
def b4 (a : Int) : Int := bits .xor .u32 a (a / 65536)
def mixS (H v : Int) : Int := b4 (b3 (b2 (b1 H v)))
def mixK (s x y n : Int) : Nat → Int
  | 0 => s
  | k + 1 => mixS (mixK s x y n k) (pick3 x y n k)
theorem mixK_in (s x y n : Int) : ∀ k, 0 < k → 0 ≤ mixK s x y n k ∧ mixK s x y n k ≤ 4294967295
  | 0, h => absurd h (by omega)
  | k + 1, _ => bits_within .xor .u32 _ _

set_option maxRecDepth 100000 in
set_option maxHeartbeats 1600000 in
theorem hash_any (s x y n : Int) (w : World) :
    Calls Try.prog 87 #[.int .u32 s, .int .i64 x, .int .i64 y, .int .i64 n] w fun e w' => e = .returned (.int .u32 (mixK s x y n 3)) ∧ w' = w := by
  go_enter Try.func87, Try.ntmps87
  go_wp2
  go_loopw [9, 17] (fun h i wr => ∃ (k : Nat), k ≤ 3 ∧ i = .int .i64 k ∧ h = .int .u32 (mixK s x y n k) ∧ wr = w) (fun _ i _ => 3 - (intOf i).toNat)
  case atStart => exact ⟨0, by omega, rfl, rfl, rfl⟩
  case round =>
    obtain ⟨k, hk, rfl, rfl, rfl⟩ := hrel
    have HK : Hid (mixK s x y n (k + 1) = mixS (mixK s x y n k) (pick3 x y n k)) := rfl
    have HE : Hid (k = 3 → mixK s x y n k = mixK s x y n 3) := fun h => by rw [h]
    generalize mixK s x y n k = H at *
    by_cases h : k < 3
    · have hi := idx3 x y n k h
      generalize pick3 x y n k = v at *
      go_wp2_with fail
      go_roundw
      case rel => exact ⟨k + 1, by omega, congrArg (Value.int .i64) (by omega), by rw [HK.out]; rfl, by first | rfl | trivial⟩
      case measure => simp [intOf]; omega
    · have hk3 : k = 3 := by omega
      rw [HE.out hk3]
      subst hk3
      go_wp2_with fail
      go_ret
      exact ⟨rfl, rfl⟩

set_option maxRecDepth 100000 in
set_option maxHeartbeats 1600000 in
theorem mixed_any (s x y n : Int) (w : World) :
    Calls Try.prog 29 #[.int .u32 s, .int .i64 x, .int .i64 y, .int .i64 n] w fun e w' => e = .returned (.int .u32 (mixK s x y n 3)) ∧ Ext w w' := by
  go_enter Try.func29, Try.ntmps29
  go_wp2
  go_loopw [9, 18] (fun h i wr => ∃ (k : Nat), k ≤ 3 ∧ i = .int .i64 k ∧ h = .int .u32 (mixK s x y n k) ∧ wr = w.alloc (.cells #[.int .i64 x, .int .i64 y, .int .i64 n] 3)) (fun _ i _ => 3 - (intOf i).toNat)
  case atStart => exact ⟨0, by omega, rfl, rfl, rfl⟩
  case round =>
    obtain ⟨k, hk, rfl, rfl, rfl⟩ := hrel
    have HK : Hid (mixK s x y n (k + 1) = mixS (mixK s x y n k) (pick3 x y n k)) := rfl
    have HE : Hid (k = 3 → mixK s x y n k = mixK s x y n 3) := fun h => by rw [h]
    generalize mixK s x y n k = H at *
    by_cases h : k < 3
    · have hB : Bk (w.alloc (.cells #[.int .i64 x, .int .i64 y, .int .i64 n] 3)) w.heap.size 3 #[.int .i64 x, .int .i64 y, .int .i64 n] := Bk.new' rfl
      have hc : (w.alloc (.cells #[.int .i64 x, .int .i64 y, .int .i64 n] 3)).cell? ⟨w.heap.size, k, none⟩ = some (.int .i64 (pick3 x y n k)) := by
        rw [hB.cell]
        have : k = 0 ∨ k = 1 ∨ k = 2 := by omega
        rcases this with h | h | h <;> subst h <;> rfl
      have k0 : (0 : Int) ≤ k := by omega
      have k1 : (k : Int) < 3 := by omega
      generalize pick3 x y n k = v at *
      go_wp2_with fail
      go_roundw
      case rel => exact ⟨k + 1, by omega, congrArg (Value.int .i64) (by omega), by rw [HK.out]; rfl, by first | rfl | trivial⟩
      case measure => simp [intOf]; omega
    · have hk3 : k = 3 := by omega
      rw [HE.out hk3]
      subst hk3
      go_wp2_with fail
      go_ret
      exact ⟨rfl, (by repeat (first | exact Ext.refl _ | assumption | refine Ext.setCell ?_ (by first | (simp; done) | (simp; omega)) _ | refine Ext.drewN ?_ _ | refine Ext.alloc ?_ _ | refine Ext.drew ?_ | refine Ext.trans ?_ (by assumption)))⟩
end Go.Proofs.Ytinohfgokpbcdaa
