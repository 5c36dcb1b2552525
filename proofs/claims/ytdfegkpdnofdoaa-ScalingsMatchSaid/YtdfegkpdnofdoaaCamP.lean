/- Plain words for cameras: their error, their directions, and where a point is seen. No program in sight. -/
import Derived.Test.YtdfegkpdnofdoaaFloatF
namespace Go.Proofs.Ytdfegkpdnofdoaa
open Go.RowKit

def fneg (b : Nat) : Nat := Op.negFloat .f32 b
theorem fneg_mod (b : Nat) : fneg b % 2147483648 = b % 2147483648 := by
  show (b ^^^ 2 ^ 31) % 2 ^ 31 = b % 2 ^ 31
  rw [Nat.xor_mod_two_pow, Nat.mod_self, Nat.xor_zero]
theorem fneg_bd {K b : Nat} (h : Bd K b) : Bd K (fneg b) := by unfold Bd at *; rw [fneg_mod]; exact h
theorem fdiv_okJ {K x y j : Nat} (hx : Bd K x) (hj : 1 ≤ j) (hj2 : j ≤ 127) (hy : GeJ j y) (hK : K + (127 - j) ≤ 120) : floatBits .quo .f32 x y = some (fdiv x y) ∧ Bd (K + (127 - j) + 2) (fdiv x y) := by
  obtain ⟨r, h1, h2⟩ := fdiv_geJ hx hj hj2 hy hK
  have h3 : floatBits .quo .f32 x y = some r := h1
  unfold fdiv
  rw [h3]
  exact ⟨rfl, h2⟩
theorem ge_of_bd {K a j : Nat} (hb : Bd K a) (hK : K ≤ 127) (h1 : 1 ≤ j) (h2 : j ≤ 254) (h : lt a (j * 8388608) = false) : GeJ j a := by
  refine ⟨ge_of_not_lt h1 h2 h, ?_⟩
  unfold Bd at hb
  omega

structure CamR where
  x : Nat
  y : Nat
  h : Nat
  dx : Nat
  dy : Nat
  dh : Nat
  zoom : Nat
namespace CamR
def l (c : CamR) : List Nat := [c.x, c.y, c.h, c.dx, c.dy, c.dh, c.zoom]
def s (c : CamR) : Nat := fadd (fmul c.dx c.dx) (fmul c.dy c.dy)
def m (c : CamR) : Nat := rootB c.s
def out (c : CamR) : Bool := lt c.m 981467136 || (lt c.zoom 981467136 || gt c.zoom 1149239296)
def fx (c : CamR) : Nat := fdiv c.dx c.m
def fy (c : CamR) : Nat := fdiv c.dy c.m
def fe (c : CamR) : Nat := fdiv c.dh c.m
end CamR
def camE (c : CamR) : Int := if numE c.l ≠ 0 then numE c.l else if c.out = true then 3 else 0
theorem camE_bad {c : CamR} (h : numE c.l ≠ 0) : camE c = numE c.l := by unfold camE; rw [if_pos h]
theorem camE_out {c : CamR} (h : numE c.l = 0) (ho : c.out = true) : camE c = 3 := by unfold camE; rw [if_neg (by simpa using h), if_pos ho]
theorem camE_in {c : CamR} (h : numE c.l = 0) (ho : c.out = false) : camE c = 0 := by unfold camE; rw [if_neg (by simpa using h), if_neg (by simp [ho])]
theorem camE_zero {c : CamR} (h : camE c = 0) : numE c.l = 0 ∧ c.out = false := by
  unfold camE at h
  split at h
  · rename_i h1
    exact absurd h h1
  · rename_i h1
    split at h
    · cases h
    · rename_i h2
      exact ⟨by simpa using h1, by simpa using h2⟩
theorem num_bd {l : List Nat} (h : numE l = 0) : ∀ b ∈ l, Bd 20 b := fun b hb => hgt_bd ((numE_zero h).2 b hb)

section
variable {c : CamR}
theorem cam_sum (h : numE c.l = 0) : floatBits .mul .f32 c.dx c.dx = some (fmul c.dx c.dx) ∧ floatBits .mul .f32 c.dy c.dy = some (fmul c.dy c.dy) ∧ floatBits .add .f32 (fmul c.dx c.dx) (fmul c.dy c.dy) = some c.s ∧ Bd 43 c.s ∧ c.s < 2147483648 := by
  have h1 := num_bd h c.dx (by simp [CamR.l])
  have h2 := num_bd h c.dy (by simp [CamR.l])
  obtain ⟨a1, a2⟩ := fmul_ok h1 h1 (by omega)
  obtain ⟨b1, b2⟩ := fmul_ok h2 h2 (by omega)
  obtain ⟨c1, c2⟩ := fadd_ok a2 b2 (by omega)
  refine ⟨a1, b1, c1, c2, ?_⟩
  exact sum_nonneg a2 b2 (by omega) (square_nonneg h1 (by omega) a1) (square_nonneg h2 (by omega) b1) c1
theorem cam_m (h : numE c.l = 0) : Bd 50 c.m ∧ c.m < 2147483648 := by
  obtain ⟨_, _, _, h1, h2⟩ := cam_sum h
  obtain ⟨_, _, _, _, _, h3, h4⟩ := root_ok h1 h2 (by omega)
  exact ⟨h3, h4⟩
theorem cam_ge (h : camE c = 0) : GeJ 117 c.m := by
  obtain ⟨h1, h2⟩ := camE_zero h
  unfold CamR.out at h2
  rw [Bool.or_eq_false_iff] at h2
  have h3 : lt c.m (117 * 8388608) = false := by rw [show 117 * 8388608 = 981467136 from rfl]; exact h2.1
  exact ge_of_bd (K := 50) (a := c.m) (j := 117) (cam_m h1).1 (by decide) (by decide) (by decide) h3
theorem cam_frame (h : camE c = 0) : (floatBits .quo .f32 c.dx c.m = some c.fx ∧ Bd 32 c.fx) ∧ (floatBits .quo .f32 c.dy c.m = some c.fy ∧ Bd 32 c.fy) ∧ (floatBits .quo .f32 c.dh c.m = some c.fe ∧ Bd 32 c.fe) := by
  have h1 := (camE_zero h).1
  have hg := cam_ge h
  have key : ∀ b, b ∈ c.l → floatBits .quo .f32 b c.m = some (fdiv b c.m) ∧ Bd 32 (fdiv b c.m) := fun b hb => by
    have h2 := fdiv_okJ (K := 20) (x := b) (y := c.m) (j := 117) (num_bd h1 b hb) (by omega) (by omega) hg (by omega)
    exact ⟨h2.1, h2.2.mono (by omega)⟩
  exact ⟨key c.dx (by simp [CamR.l]), key c.dy (by simp [CamR.l]), key c.dh (by simp [CamR.l])⟩
end

/-! ### where a point is seen -/
section
variable (c : CamR) (x y h : Nat)
def pjA : Nat := fadd (fmul (fsub x c.x) c.fx) (fmul (fsub y c.y) c.fy)
def pjB : Nat := fadd (fmul (fsub x c.x) (fneg c.fy)) (fmul (fsub y c.y) c.fx)
def pjU : Nat := fsub (fsub h c.h) (fmul c.fe (pjA c x y))
def pjX : Nat := fmul (fdiv (pjB c x y) (pjA c x y)) c.zoom
def pjY : Nat := fmul (fdiv (pjU c x y h) (pjA c x y)) c.zoom
variable {c x y h}
theorem pj_ok (hc : camE c = 0) (hn : numE [x, y, h] = 0) :
    floatBits .sub .f32 x c.x = some (fsub x c.x) ∧ floatBits .sub .f32 y c.y = some (fsub y c.y) ∧ floatBits .sub .f32 h c.h = some (fsub h c.h) ∧
    floatBits .mul .f32 (fsub x c.x) c.fx = some (fmul (fsub x c.x) c.fx) ∧ floatBits .mul .f32 (fsub y c.y) c.fy = some (fmul (fsub y c.y) c.fy) ∧
    floatBits .add .f32 (fmul (fsub x c.x) c.fx) (fmul (fsub y c.y) c.fy) = some (pjA c x y) ∧ Bd 57 (pjA c x y) ∧
    floatBits .mul .f32 (fsub x c.x) (fneg c.fy) = some (fmul (fsub x c.x) (fneg c.fy)) ∧ floatBits .mul .f32 (fsub y c.y) c.fx = some (fmul (fsub y c.y) c.fx) ∧
    floatBits .add .f32 (fmul (fsub x c.x) (fneg c.fy)) (fmul (fsub y c.y) c.fx) = some (pjB c x y) ∧ Bd 57 (pjB c x y) ∧
    floatBits .mul .f32 c.fe (pjA c x y) = some (fmul c.fe (pjA c x y)) ∧ floatBits .sub .f32 (fsub h c.h) (fmul c.fe (pjA c x y)) = some (pjU c x y h) ∧ Bd 92 (pjU c x y h) := by
  have h1 := (camE_zero hc).1
  obtain ⟨⟨_, f1⟩, ⟨_, f2⟩, ⟨_, f3⟩⟩ := cam_frame hc
  obtain ⟨a1, a2⟩ := fsub_ok (num_bd hn x (by simp)) (num_bd h1 c.x (by simp [CamR.l])) (by omega)
  obtain ⟨b1, b2⟩ := fsub_ok (num_bd hn y (by simp)) (num_bd h1 c.y (by simp [CamR.l])) (by omega)
  obtain ⟨c1, c2⟩ := fsub_ok (num_bd hn h (by simp)) (num_bd h1 c.h (by simp [CamR.l])) (by omega)
  obtain ⟨d1, d2⟩ := fmul_ok a2 f1 (by omega)
  obtain ⟨e1, e2⟩ := fmul_ok b2 f2 (by omega)
  obtain ⟨g1, g2⟩ := fadd_ok d2 e2 (by omega)
  obtain ⟨i1, i2⟩ := fmul_ok a2 (fneg_bd f2) (by omega)
  obtain ⟨j1, j2⟩ := fmul_ok b2 f1 (by omega)
  obtain ⟨k1, k2⟩ := fadd_ok i2 j2 (by omega)
  obtain ⟨l1, l2⟩ := fmul_ok f3 g2 (by omega)
  obtain ⟨m1, m2⟩ := fsub_ok (c2.mono (by omega)) l2 (by omega)
  exact ⟨a1, b1, c1, d1, e1, g1, g2, i1, j1, k1, k2, l1, m1, m2⟩
theorem pj_spot (hc : camE c = 0) (hn : numE [x, y, h] = 0) (ha : lt (pjA c x y) 1065353216 = false) :
    floatBits .quo .f32 (pjB c x y) (pjA c x y) = some (fdiv (pjB c x y) (pjA c x y)) ∧ floatBits .mul .f32 (fdiv (pjB c x y) (pjA c x y)) c.zoom = some (pjX c x y) ∧
    floatBits .quo .f32 (pjU c x y h) (pjA c x y) = some (fdiv (pjU c x y h) (pjA c x y)) ∧ floatBits .mul .f32 (fdiv (pjU c x y h) (pjA c x y)) c.zoom = some (pjY c x y h) ∧
    nanB (pjX c x y) = false ∧ nanB (pjY c x y h) = false := by
  obtain ⟨_, _, _, _, _, _, hA, _, _, _, hB, _, _, hU⟩ := pj_ok hc hn
  have hz := num_bd (camE_zero hc).1 c.zoom (by simp [CamR.l])
  have h3 : lt (pjA c x y) (127 * 8388608) = false := by rw [show 127 * 8388608 = 1065353216 from rfl]; exact ha
  have hg : GeJ 127 (pjA c x y) := ge_of_bd (K := 57) (a := pjA c x y) (j := 127) hA (by decide) (by decide) (by decide) h3
  obtain ⟨a1, a2⟩ := fdiv_okJ hB (by omega) (by omega) hg (by omega)
  obtain ⟨b1, b2⟩ := fmul_ok a2 hz (by omega)
  obtain ⟨c1, c2⟩ := fdiv_okJ hU (by omega) (by omega) hg (by omega)
  obtain ⟨d1, d2⟩ := fmul_ok c2 hz (by omega)
  exact ⟨a1, b1, c1, d1, bd_fin b2 (by omega), bd_fin d2 (by omega)⟩
end
end Go.Proofs.Ytdfegkpdnofdoaa
