/- Words for the walk of the law ScalingsMatch. -/
import Derived.Test.YtdfegkpdnofdoaaScaleD
import Derived.Test.YtdfegkpdnofdoaaWritesC
import Derived.Deep.DeepCutAuto
import Derived.Deep.RegionLaw
import Derived.BigRegion
import Derived.BigQuiet
namespace Go.Proofs.Ytdfegkpdnofdoaa
open Go.RowKit
attribute [local go_sem ↓] Go.wp_at_zero Go.wp_at_succ
attribute [local go_sem] run_store_float' run_equalIn_flo

theorem put_mk (l : List Value) (D : List Deferred) (d : Nat) (v : Value) : Act.put ⟨l.toArray, D⟩ (some d) v = ⟨(l.set d v).toArray, D⟩ := by simp [Act.put]
theorem bit_same (a : Nat) (w : World) : Calls Try.prog 22 #[.float .f32 a, .float .f32 a] w fun e w' => e = .returned (.bool true) ∧ w' = w := by
  have hf := to_bits32 a
  go_enter Try.func22, Try.ntmps22
  go_wp2
  go_ret
  exact ⟨ret_b (by simp), rfl⟩
theorem shl_pow {b : Nat} (h : b ≤ 24) : Op.shift .shl .i64 (1 : Int) .i64 (b : Int) = pure (.int .i64 ((2 ^ b : Nat) : Int)) := by
  have h5 := Nat.two_pow_pos b
  have h4 : (2 : Nat) ^ b ≤ 2 ^ 24 := Nat.pow_le_pow_right (by omega) h
  rw [shift_shl_any _ _ _ _ (by omega)]
  have e : min ((b : Int).toNat) IntKind.i64.bits = b := by
    show min ((b : Int).toNat) 64 = b
    omega
  rw [e]
  have e2 : (1 : Int) * 2 ^ b = ((2 ^ b : Nat) : Int) := by simp
  rw [e2, IntWalk.i64_in _ ⟨by omega, by omega⟩]
theorem lev_first (s : ScaleR) (v : Nat) : firstE [scaleE s, numE [v]] = levE s v := by
  unfold levE
  by_cases h : scaleE s = 0
  · rw [if_neg (by simpa using h)]
    by_cases h2 : numE [v] = 0 <;> simp [firstE, h, h2]
  · rw [if_pos h]
    simp [firstE, h]
theorem levA_bad {s : ScaleR} {v : Nat} (h : levE s v ≠ 0) : levA s v = (0, false) := by unfold levA; rw [if_neg h]
theorem valA_bad {s : ScaleR} {n : Int} (h : valE s n ≠ 0) : valA s n = 0 := by unfold valA; rw [if_neg h]
theorem valA_ok {s : ScaleR} {n : Int} (h : valE s n = 0) : valA s n = valN s n := by unfold valA; rw [if_pos h]
/-- the number's error, ahead of the height's -/
def numR (s : ScaleR) (n : Int) : Int := if scaleE s ≠ 0 then scaleE s else if outB s n = true then 3 else 0
theorem numR_bad {s : ScaleR} {n : Int} (h : scaleE s ≠ 0) : numR s n = scaleE s := by unfold numR; rw [if_pos h]
theorem numR_in {s : ScaleR} {n : Int} (h : scaleE s = 0) : numR s n = if outB s n = true then 3 else 0 := by unfold numR; rw [if_neg (by simpa using h)]
theorem numR_zero {s : ScaleR} {n : Int} (h : numR s n = 0) : scaleE s = 0 ∧ outB s n = false := by
  unfold numR at h
  split at h
  · rename_i h1
    exact absurd h h1
  · rename_i h1
    refine ⟨by simpa using h1, ?_⟩
    rcases ho : outB s n
    · rfl
    · rw [ho] at h; cases h
theorem numR_val {s : ScaleR} {n : Int} (h : numR s n ≠ 0) : valE s n = numR s n := by
  by_cases h1 : scaleE s = 0
  · rw [numR_in h1] at h ⊢
    rcases ho : outB s n
    · rw [ho] at h; exact absurd rfl h
    · rw [valE_out h1 ho]; rfl
  · rw [numR_bad h1, valE_bad h1]
theorem out_not {s : ScaleR} {n : Int} {b : Nat} (hb : s.bits = b) : (!(decide ((0 : Int) ≤ n) && decide (n ≤ ((2 ^ b : Nat) : Int) - 1))) = outB s n := by
  have h := outB_iff (n := n) hb
  generalize ((2 ^ b : Nat) : Int) = S at *
  rw [Bool.eq_iff_iff, h]
  simp
  omega
theorem val_three {s : ScaleR} {n : Int} (h : numR s n = 0) : (if (numE [valN s n] != 0) = true then (3 : Int) else 0) = valE s n := by
  obtain ⟨h1, h2⟩ := numR_zero h
  rw [valE_in h1 h2]
  have hf := (val_ok h1 (out_small h1 h2)).2.2
  by_cases hh : hgtB (valN s n) = true
  · rw [numE_ok (by simpa using hf) (by simpa using hh)]; rfl
  · rw [numE_three (l := [valN s n]) (k := 0) (by simpa using hf) (by simp) (by simpa using hh)]; rfl
/-- the field's error, ahead of the step's -/
def fitW (X Y W H : Int) (l : List Nat) (bt : Int) : Int := if fieldE X Y W H l ≠ 0 then fieldE X Y W H l else if bt < 1 ∨ 24 < bt then 3 else 0
theorem fit_first (X Y W H : Int) (l : List Nat) (bt : Int) : firstE [fieldE X Y W H l, if (!(decide ((1 : Int) ≤ bt) && decide (bt ≤ 24))) = true then 3 else 0] = fitW X Y W H l bt := by
  have e : (!(decide ((1 : Int) ≤ bt) && decide (bt ≤ 24))) = decide (bt < 1 ∨ 24 < bt) := by
    rw [Bool.eq_iff_iff]
    simp
  rw [e]
  unfold fitW
  by_cases h2 : bt < 1 ∨ 24 < bt
  · rw [show (if decide (bt < 1 ∨ 24 < bt) = true then (3 : Int) else 0) = 3 from if_pos (decide_eq_true h2), if_pos h2]
    by_cases h : fieldE X Y W H l = 0
    · rw [if_neg (fun hh => hh h), h]; rfl
    · rw [if_pos h]; simp [firstE, h]
  · rw [show (if decide (bt < 1 ∨ 24 < bt) = true then (3 : Int) else 0) = 0 from if_neg (by rw [decide_eq_false h2]; decide), if_neg h2]
    by_cases h : fieldE X Y W H l = 0
    · rw [if_neg (fun hh => hh h), h]; rfl
    · rw [if_pos h]; simp [firstE, h]
theorem fitW_bad {X Y W H : Int} {l : List Nat} {bt : Int} (h : fitW X Y W H l bt ≠ 0) : fitE X Y W H l bt = fitW X Y W H l bt ∧ fitA X Y W H l bt = (0, 0, 0) := by
  have e : fitE X Y W H l bt = fitW X Y W H l bt := by
    unfold fitW fitE at *
    split at h
    · rename_i h1
      rw [if_pos h1, if_pos h1]
    · rename_i h1
      split at h
      · rename_i h2
        rw [if_neg h1, if_neg h1, if_pos h2, if_pos h2]
      · exact absurd rfl h
  refine ⟨e, ?_⟩
  unfold fitA
  rw [e, if_neg h]
theorem fitW_zero {X Y W H : Int} {l : List Nat} {bt : Int} (h : fitW X Y W H l bt = 0) : fieldE X Y W H l = 0 ∧ ∃ b : Nat, bt = b ∧ 1 ≤ b ∧ b ≤ 24 := by
  unfold fitW at h
  split at h
  · rename_i h1
    exact absurd h h1
  · rename_i h1
    split at h
    · cases h
    · rename_i h2
      exact ⟨by simpa using h1, bt.toNat, by omega, by omega, by omega⟩
theorem fitE_num {X Y W H : Int} {l : List Nat} {b : Nat} (h : fitW X Y W H l b = 0) : fitE X Y W H l b = numE [fitS l b] := by
  obtain ⟨hf, b', hb', b1, b2⟩ := fitW_zero h
  unfold fitE
  rw [if_neg (fun hh => hh hf), if_neg (by omega)]
  simp
theorem num_three {r : Nat} (h : finB r = true) (h2 : numE [r] ≠ 0) : numE [r] = 3 := by
  by_cases hh : hgtB r = true
  · exact absurd (numE_ok (by simpa using h) (by simpa using hh)) h2
  · exact numE_three (k := 0) (by simpa using h) (by simp) (by simpa using hh)
theorem low_same {l : List Nat} (hl : ∀ x ∈ l, Bd 20 x) (h0 : l ≠ []) : (FloatKind.f32.format.order (extr l).1 (mins l) == some .eq) = true := by
  have hn : ∀ x ∈ l, Num x := fun x hx => num_of_bd (hl x hx) (by omega)
  obtain ⟨a1, _, a3, _⟩ := extr_same h0 hn
  have h1 := (Same.ord a1 a3).symm
  rw [ord_self (bd_fin (hl _ (extr_mem h0).1) (by omega))] at h1
  rw [ord_def, h1]
  rfl
/-- the same step by slices.Min and slices.Max -/
theorem fitS_same {l : List Nat} {b : Nat} (hl : ∀ x ∈ l, Bd 20 x) (h0 : l ≠ []) (h1 : 1 ≤ b) (h2 : b ≤ 24) : stepN (maxs l) (mins l) (mostN b : Nat) = fitS l b := by
  have hn : ∀ x ∈ l, Num x := fun x hx => num_of_bd (hl x hx) (by omega)
  obtain ⟨a1, a2, a3, a4, _, _⟩ := extr_same h0 hn
  obtain ⟨m1, m2, _⟩ := mostN_bd h1 h2
  exact (step_same a2 a1 a4 a3 (by omega) m2).symm
theorem fold_mem (f : Nat → Nat → Nat) (hf : ∀ x y, f x y = x ∨ f x y = y) : ∀ (r : List Nat) (v : Nat), r.foldl f v = v ∨ r.foldl f v ∈ r
  | [], v => .inl rfl
  | u :: r, v => by
    rcases fold_mem f hf r (f v u) with h | h
    · rcases hf v u with h2 | h2
      · left; rw [List.foldl_cons, h, h2]
      · right; rw [List.foldl_cons, h, h2]; simp
    · right; rw [List.foldl_cons]; exact List.mem_cons_of_mem _ h
theorem mins_mem {l : List Nat} (h0 : l ≠ []) : mins l ∈ l := by
  cases l with
  | nil => exact absurd rfl h0
  | cons v r =>
    have hf : ∀ x y, minF x y = x ∨ minF x y = y := fun x y => by unfold minF; split <;> (try split) <;> simp
    rcases fold_mem minF hf r v with h | h
    · show r.foldl minF v ∈ _; rw [h]; simp
    · exact List.mem_cons_of_mem _ h
theorem maxs_mem {l : List Nat} (h0 : l ≠ []) : maxs l ∈ l := by
  cases l with
  | nil => exact absurd rfl h0
  | cons v r =>
    have hf : ∀ x y, maxF x y = x ∨ maxF x y = y := fun x y => by unfold maxF; split <;> (try split) <;> simp
    rcases fold_mem maxF hf r v with h | h
    · show r.foldl maxF v ∈ _; rw [h]; simp
    · exact List.mem_cons_of_mem _ h
/-- what the last part of the law leans on -/
theorem pow_facts {b : Nat} (b1 : 1 ≤ b) (b2 : b ≤ 24) : wrap64 (((2 ^ b : Nat) : Int) - 1) = ((2 ^ b : Nat) : Int) - 1 ∧ 2 ≤ 2 ^ b ∧ 2 ^ b ≤ 16777216 := by
  obtain ⟨m1, m2, m3⟩ := mostN_bd b1 b2
  refine ⟨?_, by omega, by omega⟩
  unfold wrap64
  omega
structure FinF (X Y W H : Int) (l : List Nat) (b n : Nat) (FA : Nat × Nat × Int) (FE : Int) : Prop where
  n1 : 1 ≤ n
  n2 : n ≤ 4000000000
  num : ∀ x ∈ l, Num x
  p1 : floatBits .sub .f32 (maxs l) (mins l) = some (fsub (maxs l) (mins l))
  p2 : floatBits .quo .f32 (fsub (maxs l) (mins l)) (floatOfInt .f32 (((2 ^ b : Nat) : Int) - 1)) = some (fdiv (fsub (maxs l) (mins l)) (floatOfInt .f32 (((2 ^ b : Nat) : Int) - 1)))
  step : fitS l b = if lt (fdiv (fsub (maxs l) (mins l)) (floatOfInt .f32 (((2 ^ b : Nat) : Int) - 1))) 897581056 = true then 897581056 else fdiv (fsub (maxs l) (mins l)) (floatOfInt .f32 (((2 ^ b : Nat) : Int) - 1))
  three : numE [fitS l b] ≠ 0 → numE [fitS l b] = 3
  low : (FloatKind.f32.format.order (extr l).1 (mins l) == some .eq) = true
  fe : FE = numE [fitS l b]
  fa : FA = if numE [fitS l b] = 0 then ((extr l).1, fitS l b, (b : Int)) else (0, 0, 0)
theorem fin_facts {X Y W H bt : Int} {l : List Nat} {n : Nat} {FA : Nat × Nat × Int} {FE : Int} (hn : l.length = n) (hz : fitW X Y W H l bt = 0) (hA : fitA X Y W H l bt = FA) (hE : fitE X Y W H l bt = FE) :
    ∃ b : Nat, bt = b ∧ 1 ≤ b ∧ b ≤ 24 ∧ FinF X Y W H l b n FA FE := by
  obtain ⟨hf, b, rfl, b1, b2⟩ := fitW_zero hz
  obtain ⟨g1, g2, g3⟩ := fieldE_facts hn hf
  have h0 : l ≠ [] := by
    rintro rfl
    simp at hn
    omega
  have hNum : ∀ x ∈ l, Num x := fun x hx => num_of_bd (g3 x hx) (by omega)
  obtain ⟨m1, m2, m3⟩ := mostN_bd b1 b2
  obtain ⟨p1, p2, p3⟩ := step_ok (g3 _ (maxs_mem h0)) (g3 _ (mins_mem h0)) (show mostN b ≠ 0 by omega) m2
  have hst := fitS_same g3 h0 b1 b2
  rw [hst] at p3
  have heq := low_same g3 h0
  have mc := most_cast b1 b2
  rw [mc] at p2 hst
  have hE2 := fitE_num hz
  have hA2 := hA
  unfold fitA at hA2
  rw [hE2] at hA2
  have e5 : ((b : Int)).toNat = b := by simp
  rw [e5] at hA2
  exact ⟨b, rfl, b1, b2, ⟨g1, by omega, hNum, p1, p2, hst.symm, num_three p3, heq, by rw [← hE, hE2], hA2.symm⟩⟩
end Go.Proofs.Ytdfegkpdnofdoaa
