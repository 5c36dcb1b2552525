/- The least and the greatest single, reckoned by comparisons and by min and max, differ in the sign of a zero alone; what comes of their difference does not differ. No program in sight. -/
import Derived.Test.YtgaonoklbihkjaaDoorExtrP
import Derived.Test.YtgaonoklbihkjaaDoorScaleP
namespace Go.Proofs.YtgaonoklbihkjaaDoor
open Ieee Go.RowKit

def minF (x y : Nat) : Nat := match FloatKind.f32.format.order x y with
  | some .lt => x
  | some .gt => y
  | _ => if (FloatKind.f32.decode x).neg then x else y
def maxF (x y : Nat) : Nat := match FloatKind.f32.format.order x y with
  | some .lt => y
  | some .gt => x
  | _ => if (FloatKind.f32.decode x).neg then y else x
def mins : List Nat → Nat
  | [] => 0
  | v :: r => r.foldl minF v
def maxs : List Nat → Nat
  | [] => 0
  | v :: r => r.foldl maxF v

/-- a zero -/
def Nil (a : Nat) : Prop := ∃ s, single.read a = .number s 0 (((0 : Nat) : Int) - 149)
def Same (a b : Nat) : Prop := single.read a = single.read b ∨ Nil a ∧ Nil b
theorem Same.refl (a : Nat) : Same a a := .inl rfl
def Num (a : Nat) : Prop := ∃ (s : Bool) (m k : Nat), single.read a = .number s m ((k : Int) - 149)
theorem Same.ord {a b c : Nat} (h : Same a b) (hc : Num c) : ord c a = ord c b := by
  obtain ⟨s, m, k, e⟩ := hc
  rcases h with h | ⟨⟨s1, e1⟩, ⟨s2, e2⟩⟩
  · show single.order c a = single.order c b
    unfold Format.order
    rw [h]
  · rw [ord_val e e1, ord_val e e2]
    have hz : ∀ t, signed t 0 0 = 0 := fun t => by cases t <;> rfl
    rw [hz, hz]
theorem Same.symm {a b : Nat} (h : Same a b) : Same b a := h.elim (fun h => .inl h.symm) (fun h => .inr ⟨h.2, h.1⟩)
theorem Same.trans {a b c : Nat} (h : Same a b) (k : Same b c) : Same a c := by
  rcases h with h | ⟨h1, h2⟩
  · rcases k with k | ⟨k1, k2⟩
    · exact .inl (h.trans k)
    · right
      refine ⟨?_, k2⟩
      obtain ⟨s, e⟩ := k1
      exact ⟨s, h.trans e⟩
  · right
    refine ⟨h1, ?_⟩
    rcases k with k | ⟨_, k2⟩
    · obtain ⟨s, e⟩ := h2
      exact ⟨s, k.symm.trans e⟩
    · exact k2
/-- a single's own form -/
theorem canon {a : Nat} (h : Num a) : Nil a ∨ ∃ (s : Bool) (m k : Nat), single.read a = .number s m ((k : Int) - 149) ∧ m ≠ 0 ∧ m < 16777216 ∧ (k = 0 ∨ 8388608 ≤ m) := by
  have hr : a % 2147483648 < 2139095040 := by
    rcases Nat.lt_or_ge (a % 2147483648) 2139095040 with h1 | h1
    · exact h1
    · obtain ⟨s, m, k, e⟩ := h
      unfold Format.read at e
      simp only [single_sign, single_binade, single_inf, single_least] at e
      rw [if_neg (by omega), if_neg (by omega)] at e
      split at e <;> cases e
  by_cases h0 : a % 2147483648 = 0
  · left
    unfold Nil Format.read
    simp only [single_sign, single_binade, single_inf, single_least]
    rw [h0, if_pos (by omega)]
    exact ⟨_, rfl⟩
  · right
    obtain ⟨s, m, k, e, hm, hl, hk, hmax, _⟩ := read_num hr h0
    refine ⟨s, m, k, e, hm, (Nat.log2_lt hm (k := 24)).1 (by omega), ?_⟩
    rcases Nat.eq_zero_or_pos k with h2 | h2
    · exact .inl h2
    · right
      have h3 : m.log2 = 23 := by omega
      have h4 := Nat.log2_self_le hm
      rw [h3] at h4
      exact h4
theorem canon_eq {m n k j : Nat} (h : m * 2 ^ k = n * 2 ^ j) (hm : m < 16777216) (hn : n < 16777216) (h1 : k = 0 ∨ 8388608 ≤ m) (h2 : j = 0 ∨ 8388608 ≤ n) : k = j := by
  have key : ∀ {m n k j : Nat}, m * 2 ^ k = n * 2 ^ j → m < 16777216 → (j = 0 ∨ 8388608 ≤ n) → ¬ k < j := by
    intro m n k j h hm h2 hlt
    have hn : 8388608 ≤ n := by omega
    have e : n * 2 ^ j = n * 2 ^ (j - k) * 2 ^ k := by rw [Nat.mul_assoc, ← Nat.pow_add, Nat.sub_add_cancel (by omega)]
    rw [e] at h
    have h3 := Nat.eq_of_mul_eq_mul_right (Nat.two_pow_pos k) h
    have h4 : (2 : Nat) ^ 1 ≤ 2 ^ (j - k) := Nat.pow_le_pow_right (by omega) (by omega)
    have h5 := Nat.mul_le_mul hn h4
    omega
  have a := key h hm h2
  have b := key h.symm hn h1
  omega
theorem ord_eq_same {a b : Nat} (hA : Num a) (hB : Num b) (h : ord a b = some .eq) : Same a b := by
  have hz : ∀ t, signed t 0 0 = 0 := fun t => by cases t <;> rfl
  have hs : ∀ (s : Bool) (m k : Nat), m ≠ 0 → signed s m k ≠ 0 := by
    intro s m k hm h0
    have := signed_abs s m k
    rw [h0] at this
    have := Nat.mul_pos (Nat.pos_of_ne_zero hm) (Nat.two_pow_pos k)
    omega
  rcases canon hA with ⟨s, e⟩ | ⟨s, m, k, e, hm, hm2, hm3⟩
  · rcases canon hB with ⟨t, f⟩ | ⟨t, n, j, f, hn, _, _⟩
    · exact .inr ⟨⟨s, e⟩, ⟨t, f⟩⟩
    · rw [ord_val e f, hz] at h
      injection h with h
      exact absurd (Int.compare_eq_eq.1 h).symm (hs t n j hn)
  · rcases canon hB with ⟨t, f⟩ | ⟨t, n, j, f, hn, hn2, hn3⟩
    · rw [ord_val e f, hz] at h
      injection h with h
      exact absurd (Int.compare_eq_eq.1 h) (hs s m k hm)
    · left
      rw [ord_val e f] at h
      injection h with h
      have h1 := Int.compare_eq_eq.1 h
      have p1 := Nat.mul_pos (Nat.pos_of_ne_zero hm) (Nat.two_pow_pos k)
      have p2 := Nat.mul_pos (Nat.pos_of_ne_zero hn) (Nat.two_pow_pos j)
      have h2 : s = t ∧ m * 2 ^ k = n * 2 ^ j := by
        cases s <;> cases t <;> simp only [signed_nat, signed_neg] at h1
        · exact ⟨rfl, by omega⟩
        · omega
        · omega
        · exact ⟨rfl, by omega⟩
      obtain ⟨rfl, h3⟩ := h2
      obtain rfl := canon_eq h3 hm2 hn2 hm3 hn3
      have h4 := Nat.eq_of_mul_eq_mul_right (Nat.two_pow_pos _) h3
      rw [e, f, h4]
theorem ord_back {a b : Nat} (hA : Num a) (hB : Num b) : ord b a = (ord a b).map Ordering.swap := by
  obtain ⟨s, m, k, e⟩ := hA
  obtain ⟨t, n, j, f⟩ := hB
  rw [ord_val e f, ord_val f e]
  rcases Int.lt_trichotomy (signed s m k) (signed t n j) with h | h | h
  · rw [Int.compare_eq_lt.2 h, Int.compare_eq_gt.2 h]; rfl
  · rw [Int.compare_eq_eq.2 h, Int.compare_eq_eq.2 h.symm]; rfl
  · rw [Int.compare_eq_gt.2 h, Int.compare_eq_lt.2 h]; rfl
theorem ord_num {a b : Nat} (hA : Num a) (hB : Num b) : ∃ o, ord a b = some o := by
  obtain ⟨s, m, k, e⟩ := hA
  obtain ⟨t, n, j, f⟩ := hB
  exact ⟨_, ord_val e f⟩
theorem min_step {lo m v : Nat} (h : Same lo m) (hl : Num lo) (hm : Num m) (hv : Num v) : Same (if lt v lo = true then v else lo) (minF m v) ∧ Num (if lt v lo = true then v else lo) ∧ Num (minF m v) := by
  obtain ⟨o, ho⟩ := ord_num hv hm
  have h1 : ord v lo = some o := by rw [Same.ord h hv, ho]
  have h2 : ord m v = some o.swap := by rw [ord_back hv hm, ho]; rfl
  have h3 : FloatKind.f32.format.order m v = some o.swap := h2
  have e1 := lt_def h1
  cases o with
  | lt =>
    have e2 : minF m v = v := by unfold minF; rw [h3]; rfl
    rw [e2, e1]
    exact ⟨.refl _, hv, hv⟩
  | gt =>
    have e2 : minF m v = m := by unfold minF; rw [h3]; rfl
    rw [e2, e1]
    exact ⟨h, hl, hm⟩
  | eq =>
    have e2 : minF m v = m ∨ minF m v = v := by
      unfold minF
      rw [h3]
      show (if (FloatKind.f32.decode m).neg = true then m else v) = m ∨ (if (FloatKind.f32.decode m).neg = true then m else v) = v
      split
      · exact .inl rfl
      · exact .inr rfl
    rw [e1]
    rcases e2 with e2 | e2 <;> rw [e2]
    · exact ⟨h, hl, hm⟩
    · exact ⟨h.trans (ord_eq_same hm hv h2), hl, hv⟩
theorem max_step {hi m v : Nat} (h : Same hi m) (hl : Num hi) (hm : Num m) (hv : Num v) : Same (if gt v hi = true then v else hi) (maxF m v) ∧ Num (if gt v hi = true then v else hi) ∧ Num (maxF m v) := by
  obtain ⟨o, ho⟩ := ord_num hv hm
  have h1 : ord v hi = some o := by rw [Same.ord h hv, ho]
  have h2 : ord m v = some o.swap := by rw [ord_back hv hm, ho]; rfl
  have h3 : FloatKind.f32.format.order m v = some o.swap := h2
  have e1 := gt_def h1
  cases o with
  | gt =>
    have e2 : maxF m v = v := by unfold maxF; rw [h3]; rfl
    rw [e2, e1]
    exact ⟨.refl _, hv, hv⟩
  | lt =>
    have e2 : maxF m v = m := by unfold maxF; rw [h3]; rfl
    rw [e2, e1]
    exact ⟨h, hl, hm⟩
  | eq =>
    have e2 : maxF m v = v ∨ maxF m v = m := by
      unfold maxF
      rw [h3]
      show (if (FloatKind.f32.decode m).neg = true then v else m) = v ∨ (if (FloatKind.f32.decode m).neg = true then v else m) = m
      split
      · exact .inl rfl
      · exact .inr rfl
    rw [e1]
    rcases e2 with e2 | e2 <;> rw [e2]
    · exact ⟨h.trans (ord_eq_same hm hv h2), hl, hv⟩
    · exact ⟨h, hl, hm⟩
theorem fold_same : ∀ (r : List Nat) (lo hi m M : Nat), Same lo m → Same hi M → Num lo → Num hi → Num m → Num M → (∀ b ∈ r, Num b) →
    Same (r.foldl ext1 (lo, hi)).1 (r.foldl minF m) ∧ Same (r.foldl ext1 (lo, hi)).2 (r.foldl maxF M) ∧ Num (r.foldl ext1 (lo, hi)).1 ∧ Num (r.foldl ext1 (lo, hi)).2 ∧ Num (r.foldl minF m) ∧ Num (r.foldl maxF M)
  | [], lo, hi, m, M, h1, h2, n1, n2, n3, n4, _ => ⟨h1, h2, n1, n2, n3, n4⟩
  | v :: r, lo, hi, m, M, h1, h2, n1, n2, n3, n4, hr => by
    have hv := hr v (by simp)
    obtain ⟨a1, a2, a3⟩ := min_step h1 n1 n3 hv
    obtain ⟨b1, b2, b3⟩ := max_step h2 n2 n4 hv
    exact fold_same r _ _ _ _ a1 b1 a2 b2 a3 b3 (fun b hb => hr b (by simp [hb]))
theorem extr_same {l : List Nat} (h0 : l ≠ []) (h : ∀ b ∈ l, Num b) : Same (extr l).1 (mins l) ∧ Same (extr l).2 (maxs l) ∧ Num (extr l).1 ∧ Num (extr l).2 ∧ Num (mins l) ∧ Num (maxs l) := by
  cases l with
  | nil => exact absurd rfl h0
  | cons v r =>
    have hv := h v (by simp)
    exact fold_same r v v v v (.refl _) (.refl _) hv hv hv hv (fun b hb => h b (by simp [hb]))

/-! ### the difference -/
theorem near_nil (s : Bool) (P : Int) : Nil (single.nearest s 0 P) := ⟨s, single_zero s P⟩
theorem sub_val {x y : Nat} {s t : Bool} {m n k j : Nat} (hx : single.read x = .number s m ((k : Int) - 149)) (hy : single.read y = .number t n ((j : Int) - 149)) :
    ∃ g, fsub x y = single.nearest g (signed s m (k - min k j) + signed (!t) n (j - min k j)).natAbs (((min k j : Nat) : Int) - 149) ∧ (signed s m (k - min k j) + signed (!t) n (j - min k j) ≠ 0 → g = decide (signed s m (k - min k j) + signed (!t) n (j - min k j) < 0)) := by
  have e : min ((k : Int) - 149) ((j : Int) - 149) = ((min k j : Nat) : Int) - 149 := by omega
  have h : single.sub x y = some (single.nearest (if signed s m (k - min k j) + signed (!t) n (j - min k j) = 0 then s && !t else signed s m (k - min k j) + signed (!t) n (j - min k j) < 0) (signed s m (k - min k j) + signed (!t) n (j - min k j)).natAbs (((min k j : Nat) : Int) - 149)) := by
    unfold Format.sub
    rw [hx, hy]
    simp only [Datum.opposite, Datum.sum, Option.map_some, Format.write]
    rw [e, show ((k : Int) - 149 - (((min k j : Nat) : Int) - 149)).toNat = k - min k j by omega, show ((j : Int) - 149 - (((min k j : Nat) : Int) - 149)).toNat = j - min k j by omega]
  have h5 : floatBits .sub .f32 x y = some _ := h
  unfold fsub
  rw [h5]
  refine ⟨_, rfl, fun h3 => ?_⟩
  rw [if_neg h3]
theorem fsub_same {h h2 l l2 : Nat} (a : Same h h2) (b : Same l l2) (nh : Num h) (nl : Num l) : fsub h l = fsub h2 l2 ∨ Nil (fsub h l) ∧ Nil (fsub h2 l2) := by
  have hz : ∀ t k, signed t 0 k = 0 := fun t k => by cases t <;> simp [signed]
  have eqs : ∀ {x y x2 y2 : Nat}, single.read x = single.read x2 → single.read y = single.read y2 → fsub x y = fsub x2 y2 := by
    intro x y x2 y2 h1 h2
    unfold fsub
    have : floatBits .sub .f32 x y = floatBits .sub .f32 x2 y2 := by
      show single.sub x y = single.sub x2 y2
      unfold Format.sub
      rw [h1, h2]
    rw [this]
  have fin : ∀ {x y x2 y2 : Nat} {t : Int} {P : Int} {g g2 : Bool}, fsub x y = single.nearest g t.natAbs P → (t ≠ 0 → g = decide (t < 0)) → fsub x2 y2 = single.nearest g2 t.natAbs P → (t ≠ 0 → g2 = decide (t < 0)) → fsub x y = fsub x2 y2 ∨ Nil (fsub x y) ∧ Nil (fsub x2 y2) := by
    intro x y x2 y2 t P g g2 e1 d1 e2 d2
    by_cases h0 : t = 0
    · right
      subst h0
      rw [e1, e2]
      exact ⟨near_nil _ _, near_nil _ _⟩
    · left
      rw [e1, e2, d1 h0, d2 h0]
  rcases a with a | ⟨⟨s1, a1⟩, ⟨s2, a2⟩⟩
  · rcases b with b | ⟨⟨t1, b1⟩, ⟨t2, b2⟩⟩
    · exact .inl (eqs a b)
    · obtain ⟨s, m, k, e⟩ := nh
      obtain ⟨g, f1, f2⟩ := sub_val e b1
      obtain ⟨g2, f3, f4⟩ := sub_val (a.symm.trans e) b2
      rw [hz] at f1 f2 f3 f4
      exact fin f1 f2 f3 f4
  · rcases b with b | ⟨⟨t1, b1⟩, ⟨t2, b2⟩⟩
    · obtain ⟨t, n, j, e⟩ := nl
      obtain ⟨g, f1, f2⟩ := sub_val a1 e
      obtain ⟨g2, f3, f4⟩ := sub_val a2 (b.symm.trans e)
      rw [hz] at f1 f2 f3 f4
      exact fin f1 f2 f3 f4
    · obtain ⟨g, f1, f2⟩ := sub_val a1 b1
      obtain ⟨g2, f3, f4⟩ := sub_val a2 b2
      rw [hz, hz] at f1 f2 f3 f4
      exact fin f1 f2 f3 f4
theorem div_nil {x y : Nat} {t : Bool} {n j : Nat} (h : Nil x) (hy : single.read y = .number t n ((j : Int) - 149)) (hn : n ≠ 0) : Nil (fdiv x y) := by
  obtain ⟨s, e⟩ := h
  have h1 : ∃ g P, single.div x y = some (single.nearest g 0 P) := by
    unfold Format.div
    rw [e, hy]
    simp only [Datum.quotient, if_neg hn, Option.map_some, Format.write, Nat.zero_shiftLeft, Nat.zero_div, Nat.zero_mod]
    exact ⟨_, _, rfl⟩
  obtain ⟨g, P, h2⟩ := h1
  unfold fdiv
  rw [show floatBits .quo .f32 x y = _ from h2]
  exact near_nil g P
/-- the step of a fitting scaling -/
def stepN (h l : Nat) (n : Int) : Nat := if lt (fdiv (fsub h l) (floatOfInt .f32 n)) 897581056 = true then 897581056 else fdiv (fsub h l) (floatOfInt .f32 n)
theorem nil_lt {x : Nat} (h : Nil x) : lt x 897581056 = true := by
  obtain ⟨s, e⟩ := h
  rw [lt_def (ord_val e (show single.read 897581056 = .number false 8388608 (((106 : Nat) : Int) - 149) by decide +kernel))]
  cases s <;> decide
theorem step_same {h h2 l l2 n : Nat} (a : Same h h2) (b : Same l l2) (nh : Num h) (nl : Num l) (h1 : n ≠ 0) (hn : n < 16777216) : stepN h l n = stepN h2 l2 n := by
  rcases fsub_same a b nh nl with e | ⟨e1, e2⟩
  · unfold stepN
    rw [e]
  · obtain ⟨M, j, g1, g2⟩ := int_single h1 hn
    have hM : M ≠ 0 := by
      rintro rfl
      rw [Nat.zero_mul] at g2
      exact Nat.mul_ne_zero h1 (Nat.pos_iff_ne_zero.1 (Nat.two_pow_pos _)) g2.symm
    unfold stepN
    rw [if_pos (nil_lt (div_nil e1 g1 hM)), if_pos (nil_lt (div_nil e2 g1 hM))]
theorem step_ok {h l n : Nat} (bh : Bd 20 h) (bl : Bd 20 l) (h1 : n ≠ 0) (hn : n < 16777216) : floatBits .sub .f32 h l = some (fsub h l) ∧ floatBits .quo .f32 (fsub h l) (floatOfInt .f32 (n : Int)) = some (fdiv (fsub h l) (floatOfInt .f32 (n : Int))) ∧ finB (stepN h l n) = true := by
  obtain ⟨a1, a2⟩ := fsub_ok bh bl (by omega)
  have hg : Ge1 (floatOfInt .f32 (n : Int)) := int_ge (by omega) (Nat.lt_of_lt_of_le (show (n : Int).natAbs < 2 ^ 24 by omega) (Nat.pow_le_pow_right (by omega) (by omega)))
  obtain ⟨r, c1, c2⟩ := fdiv_bd a2 hg (by omega)
  have c3 : floatBits .quo .f32 (fsub h l) (floatOfInt .f32 (n : Int)) = some r := c1
  have c4 : fdiv (fsub h l) (floatOfInt .f32 (n : Int)) = r := by unfold fdiv; rw [c3]; rfl
  rw [c4]
  refine ⟨a1, c3, ?_⟩
  unfold stepN
  rw [c4]
  split
  · decide +kernel
  · exact bd_finB c2 (by omega)
end Go.Proofs.YtgaonoklbihkjaaDoor
