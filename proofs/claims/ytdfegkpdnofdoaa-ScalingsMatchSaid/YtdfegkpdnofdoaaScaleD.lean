/- Contracts that cover right and wrong arguments alike: export.Level, export.Value, export.Fit. -/
import Derived.Test.YtdfegkpdnofdoaaFit
namespace Go.Proofs.Ytdfegkpdnofdoaa
open Go.RowKit

def levA (s : ScaleR) (v : Nat) : Int × Bool := if levE s v = 0 then levN (lvq s v) (mostN s.bits.toNat) else (0, false)
theorem levE_zero {s : ScaleR} {v : Nat} (h : levE s v = 0) : scaleE s = 0 ∧ numE [v] = 0 := by
  unfold levE at h
  split at h
  · rename_i h1
    exact absurd h h1
  · rename_i h1
    exact ⟨by simpa using h1, h⟩
theorem level_any (s : ScaleR) (v : Nat) (w : World) :
    Calls Try.prog 14 #[s.v, .float .f32 v] w fun e w' => e = .returned (.tuple #[.int .i64 (levA s v).1, .bool (levA s v).2, .int .i64 (levE s v)]) ∧ Ext w w' := by
  by_cases h : levE s v = 0
  · obtain ⟨h1, h2⟩ := levE_zero h
    obtain ⟨_, _, b, hb, b1, b2⟩ := scaleE_zero h1
    unfold levA
    rw [if_pos h, h]
    have e : s.bits.toNat = b := by omega
    rw [e]
    exact level_ok s v b w hb b1 b2 h1 h2
  · unfold levA
    rw [if_neg h]
    exact level_bad s v w h
theorem level_ref (s : ScaleR) (v : Nat) (w : World) (h : levE s v = 0) :
    Calls Try.prog 17 #[s.v, .float .f32 v] w fun e w' => e = .returned (.tuple #[.int .i64 (levA s v).1, .bool (levA s v).2]) ∧ Ext w w' := by
  obtain ⟨h1, h2⟩ := levE_zero h
  obtain ⟨_, _, b, hb, b1, b2⟩ := scaleE_zero h1
  unfold levA
  rw [if_pos h]
  have e : s.bits.toNat = b := by omega
  rw [e]
  exact levelRef_any s v b w hb b1 b2 h1 h2

/-- the number is none of the scaling's -/
def outB (s : ScaleR) (n : Int) : Bool := decide (n < 0 ∨ (2 : Int) ^ s.bits.toNat ≤ n)
theorem outB_iff {s : ScaleR} {n : Int} {b : Nat} (hb : s.bits = b) : outB s n = true ↔ (n < 0 ∨ ((2 ^ b : Nat) : Int) ≤ n) := by
  unfold outB
  have e : s.bits.toNat = b := by omega
  rw [e]
  have e2 : (2 : Int) ^ b = ((2 ^ b : Nat) : Int) := by simp
  rw [e2]
  simp
theorem valE_bad {s : ScaleR} {n : Int} (h : scaleE s ≠ 0) : valE s n = scaleE s := by unfold valE; rw [if_pos h]
theorem valE_out {s : ScaleR} {n : Int} (h : scaleE s = 0) (ho : outB s n = true) : valE s n = 3 := by
  unfold valE
  rw [if_neg (by simpa using h), if_pos (by simpa [outB] using ho)]
theorem valE_in {s : ScaleR} {n : Int} (h : scaleE s = 0) (ho : outB s n = false) : valE s n = numE [valN s n] := by
  unfold valE
  rw [if_neg (by simpa using h), if_neg (by unfold outB at ho; simpa using ho)]
def valA (s : ScaleR) (n : Int) : Nat := if valE s n = 0 then valN s n else 0
theorem value_all (s : ScaleR) (n : Int) (w : World) :
    Calls Try.prog 18 #[s.v, .int .i64 n] w fun e w' => e = .returned (.tuple #[.float .f32 (valA s n), .int .i64 (valE s n)]) ∧ Ext w w' := by
  by_cases h : scaleE s = 0
  · obtain ⟨_, _, b, hb, b1, b2⟩ := scaleE_zero h
    rcases ho : outB s n
    · have hn : ¬ (n < 0 ∨ ((2 ^ b : Nat) : Int) ≤ n) := fun hh => by rw [(outB_iff hb).2 hh] at ho; cases ho
      unfold valA
      rw [valE_in h ho]
      exact value_ok s n b w hb b2 h hn
    · unfold valA
      rw [valE_out h ho, if_neg (by decide)]
      exact value_out s n b w hb b2 h ((outB_iff hb).1 ho)
  · unfold valA
    rw [valE_bad h, if_neg h]
    exact value_bad s n w h
/-- in the range: few enough -/
theorem out_small {s : ScaleR} {n : Int} (h : scaleE s = 0) (ho : outB s n = false) : n.natAbs < 2 ^ 25 := by
  obtain ⟨_, _, b, hb, b1, b2⟩ := scaleE_zero h
  have hn : ¬ (n < 0 ∨ ((2 ^ b : Nat) : Int) ≤ n) := fun hh => by rw [(outB_iff hb).2 hh] at ho; cases ho
  have h3 : (2 : Nat) ^ b ≤ 2 ^ 24 := Nat.pow_le_pow_right (by omega) b2
  have h4 : 2 ^ b ≤ 16777216 := h3
  show n.natAbs < 33554432
  omega

section
variable (X Y W H : Int) (l : List Nat) (bt : Int)
def fitE : Int := if fieldE X Y W H l ≠ 0 then fieldE X Y W H l else if bt < 1 ∨ 24 < bt then 3 else numE [fitS l bt.toNat]
def fitA : Nat × Nat × Int := if fitE X Y W H l bt = 0 then ((extr l).1, fitS l bt.toNat, bt) else (0, 0, 0)
variable {X Y W H l bt}
theorem fit_all {A : Option Addr} {n c : Nat} (w : World) (hn : l.length = n) (hd : Rd w A (flt l)) (hcap : n ≤ c) (hb : n ≤ 140737488351232) :
    Calls Try.prog 23 #[.agg #[.int .i64 X, .int .i64 Y, .int .i64 W, .int .i64 H, .slice A n c], .int .i64 bt] w fun e w' =>
      e = .returned (.tuple #[.agg #[.float .f32 (fitA X Y W H l bt).1, .float .f32 (fitA X Y W H l bt).2.1, .int .i64 (fitA X Y W H l bt).2.2], .int .i64 (fitE X Y W H l bt)]) ∧ Ext w w' := by
  by_cases h : fieldE X Y W H l = 0
  · by_cases ho : bt < 1 ∨ 24 < bt
    · have e : fitE X Y W H l bt = 3 := by unfold fitE; rw [if_neg (by simpa using h), if_pos ho]
      unfold fitA
      rw [e, if_neg (by decide)]
      exact fit_out X Y W H bt A n c l w hn hd hb h ho
    · have e : fitE X Y W H l bt = numE [fitS l bt.toNat] := by unfold fitE; rw [if_neg (by simpa using h), if_neg ho]
      have hbt : ((bt.toNat : Nat) : Int) = bt := by omega
      have key := fit_ok X Y W H A n c bt.toNat l w hn hd hcap h (by omega) (by omega)
      rw [hbt] at key
      unfold fitA
      rw [e]
      refine key.mono ?_
      rintro e' w' ⟨rfl, hx⟩
      refine ⟨?_, hx⟩
      by_cases hz : numE [fitS l bt.toNat] = 0
      · rw [if_pos hz, if_pos hz]
      · rw [if_neg hz, if_neg hz]
  · have e : fitE X Y W H l bt = fieldE X Y W H l := by unfold fitE; rw [if_pos h]
    unfold fitA
    rw [e, if_neg h]
    exact fit_bad X Y W H bt A n c l w hn hd hb h
end
end Go.Proofs.Ytdfegkpdnofdoaa
