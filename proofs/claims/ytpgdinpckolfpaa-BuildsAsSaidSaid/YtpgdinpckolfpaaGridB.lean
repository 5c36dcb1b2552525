/- Cells of a region in the reference: Place, Neighbour, Edge; water.point; water.Neighbours at whatever closure. -/
import Derived.Test.YtpgdinpckolfpaaGridA
import Derived.Deep.DeepCutAuto
namespace Go.Proofs.Ytpgdinpckolfpaa
open Go.RowKit
attribute [local go_sem ↓] Go.wp_at_zero Go.wp_at_succ

def placeK (X Y W : Int) (k : Nat) : Int × Int := (X + ((k % W.toNat : Nat) : Int), Y + ((k / W.toNat : Nat) : Int))
theorem placeK_in {X Y W H : Int} (hr : RegOk X Y W H) {k n : Nat} (hn : (n : Int) = W * H) (hk : k < n) : InR X Y W H (placeK X Y W k).1 (placeK X Y W k).2 := by
  unfold RegOk at hr
  obtain ⟨Wn, rfl⟩ := Int.eq_ofNat_of_zero_le (show 0 ≤ W by omega)
  obtain ⟨Hn, rfl⟩ := Int.eq_ofNat_of_zero_le (show 0 ≤ H by omega)
  have h1 : k % Wn < Wn := Nat.mod_lt _ (by omega)
  have hn' : n = Wn * Hn := by rw [← Int.natCast_mul] at hn; exact Int.ofNat.inj hn
  have h2 : k / Wn < Hn := Nat.div_lt_of_lt_mul (by rw [← hn']; exact hk)
  unfold InR placeK
  simp only [Int.toNat_natCast]
  generalize k % Wn = g at *
  generalize k / Wn = h at *
  omega

theorem place_facts {k Wn : Nat} {X Y : Int} (hk : k ≤ 65536) (h1 : 1 ≤ Wn) (h2 : Wn ≤ 512) (hX1 : -4194304 ≤ X) (hX2 : X ≤ 4194304) (hY1 : -4194304 ≤ Y) (hY2 : Y ≤ 4194304) :
    wrap64 ((k : Int) / (Wn : Int)) = (k : Int) / (Wn : Int) ∧ wrap64 (Y + (k : Int) / (Wn : Int)) = Y + (k : Int) / (Wn : Int) ∧ IntKind.i64.wrap (X + (k : Int) % (Wn : Int)) = X + (k : Int) % (Wn : Int) ∧
      (-8388608 ≤ X + (k : Int) % (Wn : Int) ∧ X + (k : Int) % (Wn : Int) ≤ 8388608) ∧ (-8388608 ≤ Y + (k : Int) / (Wn : Int) ∧ Y + (k : Int) / (Wn : Int) ≤ 8388608) := by
  have a1 : 0 ≤ (k : Int) % (Wn : Int) := Int.emod_nonneg _ (by omega)
  have a2 : (k : Int) % (Wn : Int) < Wn := Int.emod_lt_of_pos _ (by omega)
  have a3 : 0 ≤ (k : Int) / (Wn : Int) := Int.ediv_nonneg (by omega) (by omega)
  have a4 : (k : Int) / (Wn : Int) ≤ k := Int.ediv_le_self _ (by omega)
  generalize (k : Int) % (Wn : Int) = a at *
  generalize (k : Int) / (Wn : Int) = b at *
  refine ⟨by unfold wrap64; omega, by unfold wrap64; omega, IntWalk.i64_in _ (by omega), by omega, by omega⟩

set_option maxRecDepth 100000 in
set_option maxHeartbeats 1600000 in
theorem Place_any (X Y W H : Int) (k : Nat) (w : World) (hr : RegOk X Y W H) (hk : k ≤ 65536) :
    Calls Try.prog 33 #[.agg #[.int .i64 X, .int .i64 Y, .int .i64 W, .int .i64 H], .int .i64 k] w fun e w' => e = .returned (.tuple #[.int .i64 (placeK X Y W k).1, .int .i64 (placeK X Y W k).2]) ∧ Ext w w' := by
  unfold RegOk at hr
  obtain ⟨r1, r2, r3, r4, r5, r6, r7, r8⟩ := hr
  obtain ⟨Wn, rfl⟩ := Int.eq_ofNat_of_zero_le (show 0 ≤ W by omega)
  obtain ⟨y1, y2, z6, _, _⟩ := place_facts (k := k) (Wn := Wn) (X := X) (Y := Y) hk (by omega) (by omega) (by omega) (by omega) (by omega) (by omega)
  go_enter Try.func33, Try.ntmps33
  go_wp2
  go_quiet (fail)
  go_wp2
  go_ret2
  exact ⟨by simp [placeK], (by repeat (first | exact Ext.refl _ | assumption | refine Ext.setCell ?_ (by first | (simp; done) | (simp; omega)) _ | refine Ext.drewN ?_ _ | refine Ext.alloc ?_ _ | refine Ext.drew ?_ | refine Ext.trans ?_ (by assumption)))⟩

theorem cell_place {X Y W : Int} (hW : 1 ≤ W) (k : Nat) : cellN X Y W (placeK X Y W k).1 (placeK X Y W k).2 = k := by
  obtain ⟨Wn, rfl⟩ := Int.eq_ofNat_of_zero_le (show 0 ≤ W by omega)
  unfold cellN placeK
  simp only [Int.toNat_natCast]
  have h1 := Nat.div_add_mod k Wn
  have h2 : ((Wn * (k / Wn) + k % Wn : Nat) : Int) = (k : Int) := by rw [h1]
  rw [Int.natCast_add, Int.natCast_mul] at h2
  rw [show Y + ((k / Wn : Nat) : Int) - Y = ((k / Wn : Nat) : Int) by omega, Int.mul_comm]
  generalize (Wn : Int) * ((k / Wn : Nat) : Int) = a at *
  omega

theorem hasAt (X Y W H x y : Int) (b : Bool) (w : World) (h : hasB X Y W H x y = b) :
    Calls Try.prog 20 #[.agg #[.int .i64 X, .int .i64 Y, .int .i64 W, .int .i64 H], .int .i64 x, .int .i64 y] w fun e w' => e = .returned (.bool b) ∧ Ext w w' :=
  h ▸ has_any X Y W H x y w
def nbOf (x y d : Int) : Int × Int := (x + stepX d, y + stepY d)
def nbE (X Y W H x y d : Int) : Int := if InR X Y W H (nbOf x y d).1 (nbOf x y d).2 then cellN X Y W (nbOf x y d).1 (nbOf x y d).2 else -1
/-- a neighbour's number, -1 if there is none -/
def nbI (o : Option Nat) : Int := match o with
  | some n => n
  | none => -1
theorem nbE_nbr {X Y : Int} {Wn Hn k d : Nat} : nbE X Y Wn Hn (placeK X Y Wn k).1 (placeK X Y Wn k).2 d = nbI (nbr Wn Hn k d) := by
  unfold nbE nbr
  have hc : cellN X Y Wn (nbOf (placeK X Y Wn k).1 (placeK X Y Wn k).2 d).1 (nbOf (placeK X Y Wn k).1 (placeK X Y Wn k).2 d).2 = (((k / Wn : Nat) : Int) + stepY d) * Wn + (((k % Wn : Nat) : Int) + stepX d) := by
    unfold cellN nbOf placeK
    simp only [Int.toNat_natCast]
    generalize k % Wn = a
    generalize k / Wn = b
    rw [show Y + (b : Int) + stepY d - Y = (b : Int) + stepY d by omega]
    omega
  have hi : InR X Y Wn Hn (nbOf (placeK X Y Wn k).1 (placeK X Y Wn k).2 d).1 (nbOf (placeK X Y Wn k).1 (placeK X Y Wn k).2 d).2 ↔ (0 ≤ ((k % Wn : Nat) : Int) + stepX d ∧ ((k % Wn : Nat) : Int) + stepX d < Wn ∧ 0 ≤ ((k / Wn : Nat) : Int) + stepY d ∧ ((k / Wn : Nat) : Int) + stepY d < Hn) := by
    unfold InR nbOf placeK
    simp only [Int.toNat_natCast]
    generalize k % Wn = a
    generalize k / Wn = b
    omega
  by_cases h : 0 ≤ ((k % Wn : Nat) : Int) + stepX d ∧ ((k % Wn : Nat) : Int) + stepX d < Wn ∧ 0 ≤ ((k / Wn : Nat) : Int) + stepY d ∧ ((k / Wn : Nat) : Int) + stepY d < Hn
  · rw [if_pos (hi.2 h), if_pos h, hc]
    clear hc hi
    generalize k % Wn = a at *
    generalize k / Wn = b at *
    obtain ⟨x', hx'⟩ : ∃ x' : Nat, (a : Int) + stepX d = x' := ⟨((a : Int) + stepX d).toNat, by omega⟩
    obtain ⟨y', hy'⟩ : ∃ y' : Nat, (b : Int) + stepY d = y' := ⟨((b : Int) + stepY d).toNat, by omega⟩
    rw [hx', hy']
    simp only [nbI, Int.toNat_natCast]
    rw [Int.natCast_add, Int.natCast_mul]
  · rw [if_neg (fun h2 => h (hi.1 h2)), if_neg h]
    rfl
end Go.Proofs.Ytpgdinpckolfpaa
