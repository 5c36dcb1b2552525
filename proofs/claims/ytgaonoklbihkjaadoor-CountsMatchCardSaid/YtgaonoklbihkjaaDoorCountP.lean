/- Plain words for a census: what is counted of each kind, and how it lies in memory. -/
import Derived.Test.YtgaonoklbihkjaaDoorNearP
import Derived.Test.YtgaonoklbihkjaaDoorCrowdQ
import Derived.OwnWalk
namespace Go.Proofs.YtgaonoklbihkjaaDoor
open Go.RowKit

structure CenR where
  many : Int
  young : Int
  oldest : Int
  sum : Nat
  mean : Nat
def CenR.zero : CenR := ⟨0, 0, 0, 0, 0⟩
def CenR.cell (c : CenR) : Nat → Value
  | 0 => .int .i64 c.many
  | 1 => .int .i64 c.young
  | 2 => .int .i64 c.oldest
  | 3 => .float .f32 c.sum
  | _ => .float .f32 c.mean
def cenC (n : Nat) (F : Nat → CenR) : Array Value := ((List.range (n * 5)).map fun q => (F (q / 5)).cell (q % 5)).toArray
theorem cenC_size (n : Nat) (F : Nat → CenR) : (cenC n F).size = n * 5 := by simp [cenC]
theorem cenC_get {n : Nat} (F : Nat → CenR) {a j : Nat} (ha : a < n) (hj : j < 5) : (cenC n F)[a * 5 + j]? = some ((F a).cell j) := by
  unfold cenC
  rw [List.getElem?_toArray, List.getElem?_map, List.getElem?_range (by omega)]
  show some ((F ((a * 5 + j) / 5)).cell ((a * 5 + j) % 5)) = _
  rw [show (a * 5 + j) / 5 = a by omega, show (a * 5 + j) % 5 = j by omega]
def updC (F : Nat → CenR) (a : Nat) (c : CenR) : Nat → CenR := fun b => if b = a then c else F b
theorem updC_at (F : Nat → CenR) (a : Nat) (c : CenR) : updC F a c a = c := if_pos rfl
theorem cenC_set {n : Nat} (F : Nat → CenR) {a j : Nat} (c : CenR) (hj : j < 5) (h : ∀ i, i < 5 → i ≠ j → c.cell i = (F a).cell i) : (cenC n F).setIfInBounds (a * 5 + j) (c.cell j) = cenC n (updC F a c) := by
  apply Array.ext
  · simp [cenC_size]
  · intro q h1 h2
    have hq : q < n * 5 := by simpa [cenC_size] using h2
    have e1 : (cenC n (updC F a c))[q] = (updC F a c (q / 5)).cell (q % 5) := by simp [cenC]
    have e2 : (cenC n F)[q]'(by rw [cenC_size]; exact hq) = (F (q / 5)).cell (q % 5) := by simp [cenC]
    rw [Array.getElem_setIfInBounds (by rw [cenC_size]; exact hq), e1, e2]
    unfold updC
    by_cases hj2 : a * 5 + j = q
    · rw [if_pos hj2, if_pos (by omega), show q % 5 = j by omega]
    · rw [if_neg hj2]
      by_cases hb : q / 5 = a
      · rw [if_pos hb, h (q % 5) (by omega) (by omega), hb]
      · rw [if_neg hb]
theorem updC_upd (F : Nat → CenR) (a : Nat) (c d : CenR) : updC (updC F a c) a d = updC F a d := by
  funext b
  unfold updC
  split <;> rfl

theorem infoCensus : (Tryd.prog.info? 44).map (fun i => (i.zero, i.size, i.bytes)) = some (some (.agg #[.int .i64 0, .int .i64 0, .int .i64 0, .float .f32 0, .float .f32 0]), 5, 32) := by kernel_rfl
theorem mk_cen (n : Nat) (hn : n ≤ 262144) (w : World) : (Instr.makeSlice 37 (.int .i64 (n : Int)) (.int .i64 (n : Int))).run Tryd.prog w =
    .ok (.slice (some ⟨w.heap.size, 0, none⟩) n n) (w.alloc (.cells (madeCells (Value.agg #[.int .i64 0, .int .i64 0, .int .i64 0, .float .f32 0, .float .f32 0]).cells (n * 5)) 44)) := by
  obtain ⟨i0, hi0, hz0, hz1, hz2⟩ := info_parts infoCensus
  have h := run_make (P := Tryd.prog) w 37 44 i0 _ Tryd.underlying37 hi0 hz0 .i64 .i64 n n (by omega) (by omega) (by rw [hz2]; omega) (by omega)
  rw [hz1] at h
  simpa using h
theorem made_cen (n : Nat) : madeCells (Value.agg #[.int .i64 0, .int .i64 0, .int .i64 0, .float .f32 0, .float .f32 0]).cells (n * 5) = cenC n fun _ => CenR.zero := by
  unfold madeCells
  apply Array.ext
  · simp [cenC_size]
  · intro i h1 h2
    have e1 : (cenC n fun _ => CenR.zero)[i] = CenR.zero.cell (i % 5) := by simp [cenC]
    rw [e1]
    have h5 : i % 5 < 5 := Nat.mod_lt _ (by omega)
    simp [Value.cells]
    match h : i % 5, h5 with
    | 0, _ => rfl
    | 1, _ => rfl
    | 2, _ => rfl
    | 3, _ => rfl
    | 4, _ => rfl

def stepC (l : List KindR) (c : CenR) (x : PlantR) : CenR :=
  ⟨c.many + 1, if lt x.size (fmul (topOf l x.kind) 1056964608) = true then c.young + 1 else c.young, max c.oldest x.age, fadd c.sum x.size, c.mean⟩
def cenF (l : List KindR) (p : List PlantR) (a : Nat) : Nat → CenR
  | 0 => CenR.zero
  | k + 1 => match p[k]? with
    | some x => if x.kind = (a : Int) then stepC l (cenF l p a k) x else cenF l p a k
    | none => cenF l p a k
theorem cenF_step {l : List KindR} {p : List PlantR} (a : Nat) {k : Nat} (hk : k < p.length) : cenF l p a (k + 1) = if p[k].kind = (a : Int) then stepC l (cenF l p a k) p[k] else cenF l p a k := by
  rw [cenF, List.getElem?_eq_getElem hk]
theorem cenF_upd {l : List KindR} {p : List PlantR} {a k : Nat} (hk : k < p.length) (ha : p[k].kind = (a : Int)) : (fun b => cenF l p b (k + 1)) = updC (fun b => cenF l p b k) a (stepC l (cenF l p a k) p[k]) := by
  funext b
  rw [cenF_step b hk]
  unfold updC
  by_cases hb : b = a
  · subst hb
    rw [if_pos ha, if_pos rfl]
  · rw [if_neg hb, if_neg (by omega)]
def endC (c : CenR) : CenR := if 0 < c.many then ⟨c.many, c.young, c.oldest, c.sum, fdiv c.sum (floatOfInt .f32 c.many)⟩ else c
def allC (l : List KindR) (p : List PlantR) (a : Nat) : CenR := endC (cenF l p a p.length)

/-- what holds of a census on the way -/
structure CenOk (c : CenR) (k : Nat) : Prop where
  many0 : 0 ≤ c.many
  many1 : c.many ≤ k
  young0 : 0 ≤ c.young
  young1 : c.young ≤ k
  old0 : 0 ≤ c.oldest
  old1 : c.oldest ≤ 1000
  sum : UpTo c.many.toNat c.sum
  mean : c.mean = 0
theorem cen_ok {l : List KindR} {p : List PlantR} (he : ∀ x ∈ p, plantE l x = 0) (h4 : p.length ≤ 4000) (a : Nat) : ∀ k, k ≤ p.length → CenOk (cenF l p a k) k
  | 0, _ => by
    show CenOk CenR.zero 0
    exact ⟨by decide, by decide, by decide, by decide, by decide, by decide, upto_zero _, rfl⟩
  | k + 1, hk => by
    have ih := cen_ok he h4 a k (by omega)
    have hkl : k < p.length := by omega
    rw [cenF_step a hkl]
    obtain ⟨i1, i2, i3, i4, i5, i6, i7, i8⟩ := ih
    split
    · obtain ⟨_, _, _, u4, u5⟩ := plantE_zero (he _ (List.getElem_mem hkl))
      obtain ⟨v1, _, v3, v4⟩ := bad_none rfl u5
      have hs := (upto_add i7 (upto_size u4 v1) (by omega)).2
      unfold stepC
      generalize cenF l p a k = c at *
      refine ⟨?_, ?_, ?_, ?_, ?_, ?_, ?_, i8⟩
      all_goals dsimp only
      · omega
      · omega
      · split <;> omega
      · split <;> omega
      · omega
      · omega
      · rw [show (c.many + 1).toNat = c.many.toNat + 1 by omega]
        exact hs
    · exact ⟨i1, by omega, i3, by omega, i5, i6, i7, i8⟩
theorem mean_ok {c : CenR} {k : Nat} (h : CenOk c k) (hk : k ≤ 4000) (hm : 0 < c.many) : floatBits .quo .f32 c.sum (floatOfInt .f32 c.many) = some (fdiv c.sum (floatOfInt .f32 c.many)) ∧ UpTo 1 (fdiv c.sum (floatOfInt .f32 c.many)) := by
  have h1 := h.many1
  have := upto_mean h.sum (by omega) (by omega)
  rwa [show ((c.many.toNat : Nat) : Int) = c.many by omega] at this
theorem end_mean {c : CenR} {k : Nat} (h : CenOk c k) (hk : k ≤ 4000) : UpTo 1 (endC c).mean := by
  unfold endC
  split
  · rename_i hm
    exact (mean_ok h hk hm).2
  · rw [h.mean]
    exact upto_zero 1
theorem end_sum {c : CenR} {k : Nat} (h : CenOk c k) : nanB (endC c).sum = false := by
  have : (endC c).sum = c.sum := by unfold endC; split <;> rfl
  rw [this]
  exact h.sum.nan
end Go.Proofs.YtgaonoklbihkjaaDoor
