/- What a step costs, and where the steps from a cell lead, plainly. No program in sight. -/
import Derived.Test.YtpgdinpckolfpaaRdP
import Derived.Test.YtpgdinpckolfpaaGridA
namespace Go.Proofs.Ytpgdinpckolfpaa
open Go.RowKit Ieee

theorem valI_lt {b : Nat} (h : b < 2147483648) : 0 ≤ valI b := by
  unfold valI
  rw [Nat.div_eq_of_lt h]
  simp
theorem read_zeroS {x : Nat} (hF : Fin x) (h : valI x = 0) : ∃ (s : Bool) (k : Nat), single.read x = .number s 0 ((k : Int) - 149) := by
  obtain ⟨s, m, k, e, hv, hm, _⟩ := read_val hF
  rw [h] at hv
  have h2 := signed_abs s m k
  rw [hv] at h2
  have h3 : m * 2 ^ k = 0 := by simpa using h2.symm
  rcases Nat.mul_eq_zero.1 h3 with h4 | h4
  · rw [h4] at e
    exact ⟨s, k, e⟩
  · exact absurd h4 (Nat.pos_iff_ne_zero.1 (Nat.two_pow_pos _))
theorem near_nil (s : Bool) (p : Int) : valI (single.nearest s 0 p) = 0 := by
  unfold Format.nearest
  rw [if_pos rfl]
  cases s <;> decide +kernel
theorem sign_nonneg {x : Nat} {s : Bool} {m k : Nat} (e : single.read x = .number s m ((k : Int) - 149)) (hF : Fin x) (h0 : 0 ≤ valI x) : s = false ∨ m = 0 := by
  obtain ⟨s', m', k', e', hv, _, _⟩ := read_val hF
  have hee := e.symm.trans e'
  simp only [Datum.number.injEq] at hee
  obtain ⟨rfl, rfl, hkk⟩ := hee
  cases s
  · exact .inl rfl
  · right
    have h2 := signed_abs true m k'
    rw [← hv] at h0
    rw [signed_val, if_pos rfl] at h0
    have h3 : m * 2 ^ k' = 0 := by omega
    rcases Nat.mul_eq_zero.1 h3 with h4 | h4
    · exact h4
    · exact absurd h4 (Nat.pos_iff_ne_zero.1 (Nat.two_pow_pos _))
theorem div_nonneg {K x y : Nat} (hx : Bd K x) (hK : K ≤ 100) (gy : Ge1 y) (hy : 0 ≤ valI y) (h0 : 0 ≤ valI x) : 0 ≤ valI (fdiv x y) := by
  obtain ⟨s, m, k, e1, h1⟩ := read_bd hx (by omega)
  obtain ⟨t, n, j, e2, h2, hn⟩ := read_ge gy
  have hs := sign_nonneg e1 (bd_Fin hx (by omega)) h0
  have ht : t = false := (sign_nonneg e2 gy.2 hy).resolve_right hn
  subst ht
  have hd : floatBits .quo .f32 x y = single.div x y := rfl
  unfold fdiv
  rw [hd]
  unfold Format.div
  rw [e1, e2]
  simp only [Datum.quotient, if_neg hn, Option.map_some, Option.getD_some, Format.write]
  rcases hs with rfl | rfl
  · exact valI_lt (near_false _ _)
  · simp [Nat.zero_shiftLeft, near_nil]
theorem mul_nonneg2 {K J x y : Nat} (hx : Bd K x) (hy : Bd J y) (hK : K ≤ 100) (hJ : J ≤ 100) (h0 : 0 ≤ valI x) (hy0 : 0 ≤ valI y) : 0 ≤ valI (fmul x y) := by
  obtain ⟨s, m, k, e1, h1⟩ := read_bd hx (by omega)
  obtain ⟨t, n, j, e2, h2⟩ := read_bd hy (by omega)
  have hs := sign_nonneg e1 (bd_Fin hx (by omega)) h0
  have ht := sign_nonneg e2 (bd_Fin hy (by omega)) hy0
  have hd : floatBits .mul .f32 x y = single.mul x y := rfl
  unfold fmul
  rw [hd]
  unfold Format.mul
  rw [e1, e2]
  show 0 ≤ valI (single.nearest (s != t) (m * n) _)
  rcases hs with rfl | rfl
  · rcases ht with rfl | rfl
    · exact valI_lt (near_false _ _)
    · rw [Nat.mul_zero, near_nil]
      exact Int.le_refl _
  · rw [Nat.zero_mul, near_nil]
    exact Int.le_refl _
theorem mul_nonneg {K J x y : Nat} (hx : Bd K x) (hy : Bd J y) (hK : K ≤ 100) (hJ : J ≤ 100) (h0 : 0 ≤ valI x) (hy0 : y < 2147483648) : 0 ≤ valI (fmul x y) := mul_nonneg2 hx hy hK hJ h0 (valI_lt hy0)
theorem mul_zeroV {K J x y : Nat} (hx : Bd K x) (hy : Bd J y) (hK : K ≤ 100) (hJ : J ≤ 100) (h0 : valI x = 0) : valI (fmul x y) = 0 := by
  obtain ⟨s, k, e1⟩ := read_zeroS (bd_Fin hx (by omega)) h0
  obtain ⟨t, n, j, e2, h2⟩ := read_bd hy (by omega)
  have hd : floatBits .mul .f32 x y = single.mul x y := rfl
  unfold fmul
  rw [hd]
  unfold Format.mul
  rw [e1, e2]
  show valI (single.nearest (s != t) (0 * n) _) = 0
  rw [Nat.zero_mul, near_nil]
/-- two singles of one value that is not zero are one -/
theorem val_one {a b : Nat} (ha : a < 4294967296) (hb : b < 4294967296) (h : valI a = valI b) (hz : valI a ≠ 0) : a = b := by
  have h1 := val_key_eq.1 h
  have hqz : a % 2147483648 ≠ 0 := fun h9 => hz (by unfold valI; rw [h9, valN_zero]; split <;> rfl)
  unfold keyI at h1
  split at h1 <;> split at h1 <;> omega
theorem bits_lt {op : BinOp} {x y r : Nat} (h : floatBits op .f32 x y = some r) (ho : op = .add ∨ op = .sub ∨ op = .mul ∨ op = .quo) : r < 4294967296 := by
  rcases ho with rfl | rfl | rfl | rfl
  · exact Ieee.Format.map_write_lt Ieee.single (show Ieee.single.add x y = some r from h)
  · exact Ieee.Format.map_write_lt Ieee.single (show Ieee.single.sub x y = some r from h)
  · exact Ieee.Format.map_write_lt Ieee.single (show Ieee.single.mul x y = some r from h)
  · exact Ieee.Format.map_write_lt Ieee.single (show Ieee.single.div x y = some r from h)

def maxF (x y : Nat) : Nat := match FloatKind.f32.format.order x y with
  | some .lt => y
  | some .gt => x
  | _ => if (FloatKind.f32.decode x).neg then y else x
theorem fin_zero : Fin 0 := by unfold Fin; omega
theorem abs_bd {K b : Nat} (h : Bd K b) : Bd K (absB b) := by
  unfold Bd absB at *
  omega
theorem abs_lt (b : Nat) : absB b < 2147483648 := Nat.mod_lt _ (by omega)
theorem max_or (x y : Nat) : maxF x y = x ∨ maxF x y = y := by
  unfold maxF
  split
  · exact .inr rfl
  · exact .inl rfl
  · split
    · exact .inr rfl
    · exact .inl rfl
theorem max_bd {K x y : Nat} (hx : Bd K x) (hy : Bd K y) : Bd K (maxF x y) := by
  rcases max_or x y with e | e <;> rw [e]
  · exact hx
  · exact hy
theorem max_val {x y : Nat} (hx : Fin x) (hy : Fin y) : valI (maxF x y) = max (valI x) (valI y) := by
  have h := ord_valI hx hy
  rw [← ord_def] at h
  unfold maxF
  rw [h]
  rcases Int.lt_trichotomy (valI x) (valI y) with h1 | h1 | h1
  · rw [Int.compare_eq_lt.2 h1]
    dsimp only
    omega
  · rw [Int.compare_eq_eq.2 h1]
    dsimp only
    split <;> omega
  · rw [Int.compare_eq_gt.2 h1]
    dsimp only
    omega
/-- what is at least one -/
theorem one_val : valI 1065353216 = 2 ^ 149 := by decide +kernel
theorem ge_val {b : Nat} (h : Fin b) (h1 : 2 ^ 149 ≤ valI b) : Ge1 b := by
  refine ⟨?_, h⟩
  rcases Nat.lt_or_ge (b % 2147483648) (127 * 8388608) with h2 | h2
  · exfalso
    have h3 := valN_lt h2
    have h4 : valN (127 * 8388608) = 2 ^ 149 := by decide +kernel
    rw [h4] at h3
    unfold valI at h1
    split at h1 <;> omega
  · exact h2

def longN (d : Nat) : Nat := if d % 2 = 1 then 1068827891 else 1065353216
/-- the length of n steps in direction d -/
def lenR (d n : Nat) : Nat := if n = 1 then longN d else fmul (floatOfInt .f32 (n : Int)) (longN d)
theorem lens : ∀ n : Nat, n < 13 → 1 ≤ n → (floatBits .mul .f32 (floatOfInt .f32 (n : Int)) 1068827891 = some (fmul (floatOfInt .f32 (n : Int)) 1068827891) ∧ floatBits .mul .f32 (floatOfInt .f32 (n : Int)) 1065353216 = some (floatOfInt .f32 (n : Int)) ∧ fmul (floatOfInt .f32 (n : Int)) 1065353216 = floatOfInt .f32 (n : Int)) ∧
    (127 * 8388608 ≤ fmul (floatOfInt .f32 (n : Int)) 1068827891 ∧ fmul (floatOfInt .f32 (n : Int)) 1068827891 ≤ (5 + 127) * 8388608) ∧ 127 * 8388608 ≤ floatOfInt .f32 (n : Int) ∧ floatOfInt .f32 (n : Int) ≤ (5 + 127) * 8388608 := by decide +kernel
theorem len_ok {d n : Nat} (h1 : 1 ≤ n) (h2 : n ≤ 12) : Ge1 (lenR d n) ∧ Bd 5 (lenR d n) ∧ lenR d n < 2147483648 := by
  obtain ⟨⟨_, _, a⟩, ⟨b, c⟩, e, f⟩ := lens n (by omega) h1
  unfold lenR longN Ge1 Bd
  split
  · split <;> decide
  · split
    · omega
    · rw [a]; omega
theorem len_mul {d n : Nat} (h1 : 1 ≤ n) (h2 : n ≤ 12) : floatBits .mul .f32 (floatOfInt .f32 (n : Int)) (longN d) = some (fmul (floatOfInt .f32 (n : Int)) (longN d)) := by
  obtain ⟨⟨a, b, c⟩, _⟩ := lens n (by omega) h1
  unfold longN
  split
  · exact a
  · rw [c]; exact b

/-- how steep it is between two heights -/
def grF (a b long : Nat) : Nat := fdiv (absB (fsub b a)) long
theorem gr_ok {a b long : Nat} (ha : Bd 20 a) (hb : Bd 20 b) (hl : Ge1 long) (hp : long < 2147483648) :
    floatBits .sub .f32 b a = some (fsub b a) ∧ Bd 22 (fsub b a) ∧ floatBits .quo .f32 (absB (fsub b a)) long = some (grF a b long) ∧ Bd 24 (grF a b long) ∧ 0 ≤ valI (grF a b long) := by
  obtain ⟨h1, h2⟩ := fsub_ok hb ha (by omega)
  obtain ⟨r, h3, h4⟩ := fdiv_bd (abs_bd h2) hl (by omega)
  have h3' : floatBits .quo .f32 (absB (fsub b a)) long = some r := h3
  have h5 : grF a b long = r := by unfold grF fdiv; rw [h3']; rfl
  refine ⟨h1, h2, by rw [h5]; exact h3', by rw [h5]; exact h4, ?_⟩
  exact div_nonneg (abs_bd h2) (by omega) hl (valI_lt hp) (valI_lt (abs_lt _))

/-- rules of roads -/
structure RlR where
  gr : Nat
  wt : Nat
  br : Nat
  de : Nat
  sp : Nat
  co : Option (List Nat)
/-- rules that may be -/
structure RlOk (R : RlR) (N : Nat) : Prop where
  gr : Bd 20 R.gr
  gr1 : valI R.gr ≤ 2 ^ 159
  wt : Bd 10 R.wt
  wt0 : 0 ≤ valI R.wt
  br : Bd 10 R.br
  br1 : 2 ^ 149 ≤ valI R.br
  de : Bd 10 R.de
  de0 : 0 ≤ valI R.de
  sp : R.sp ≤ 12
  len : ∀ l, R.co = some l → l.length = N
  co : ∀ l, R.co = some l → ∀ j, j < N → Bd 10 (l.getD j 0) ∧ 0 ≤ valI (l.getD j 0)
/-- ahead of what ground costs besides -/
def costN (R : RlR) (long steep : Nat) : Nat := fmul long (fadd 1065353216 (fmul (fmul R.wt steep) steep))
def costC (R : RlR) (c t : Nat) : Nat := match R.co with
  | none => c
  | some l => fmul c (fadd 1065353216 (l.getD t 0))
def costB (R : RlR) (long : Nat) : Nat := fadd (fmul long R.br) R.de
/-- what n steps cost -/
def costF (R : RlR) (V : Nat → Nat) (k t d n top : Nat) : Option Nat :=
  if gt (grF (V k) (V t) (lenR d n)) R.gr = true then none
  else if 1 < n then if lt top (V k) = true ∧ lt top (V t) = true then some (costB R (lenR d n)) else none
  else some (costC R (costN R (lenR d n) (grF (V k) (V t) (lenR d n))) t)

theorem steep_ok {R : RlR} {N s : Nat} (hR : RlOk R N) (hs : Bd 24 s) (h0 : 0 ≤ valI s) (hg : gt s R.gr = false) : Bd 10 s := by
  rw [gt_val (bd_Fin hs (by omega)) (bd_Fin hR.gr (by omega))] at hg
  have h1 : ¬ valI R.gr < valI s := by simpa using hg
  rw [bd_valI (by omega)]
  have := hR.gr1
  omega
theorem one_more {K x : Nat} (hx : Bd K x) (hK : K ≤ 100) (h0 : 0 ≤ valI x) : floatBits .add .f32 1065353216 x = some (fadd 1065353216 x) ∧ Bd (K + 2) (fadd 1065353216 x) ∧ Ge1 (fadd 1065353216 x) ∧ 2 ^ 149 ≤ valI (fadd 1065353216 x) := by
  have o := one_bd.mono (Nat.zero_le K)
  obtain ⟨a, b⟩ := fadd_ok o hx (by omega)
  have c := fadd_ge o hx (by omega) h0
  rw [one_val] at c
  exact ⟨a, b, ge_val (bd_Fin b (by omega)) c, c⟩
theorem ge_of_val {K x : Nat} (hx : Bd K x) (hK : K ≤ 120) (h : 2 ^ 149 ≤ valI x) : Ge1 x := ge_val (bd_Fin hx (by omega)) h
theorem mul_more {K J x y : Nat} (hx : Bd K x) (hy : Bd J y) (hK : K + J ≤ 100) (h1 : 2 ^ 149 ≤ valI x) (h2 : 2 ^ 149 ≤ valI y) : floatBits .mul .f32 x y = some (fmul x y) ∧ Bd (K + J + 1) (fmul x y) ∧ 2 ^ 149 ≤ valI (fmul x y) := by
  obtain ⟨r, e, hb, hg⟩ := fmul_ge hx hy (ge_of_val hx (by omega) h1) (ge_of_val hy (by omega) h2) (by omega)
  have e' : floatBits .mul .f32 x y = some r := e
  have er : fmul x y = r := by unfold fmul; rw [e']; rfl
  rw [er]
  refine ⟨e', hb, ?_⟩
  have h3 := mul_nonneg2 hx hy (by omega) (by omega) (by omega) (by omega)
  rw [er] at h3
  have h4 : valN (127 * 8388608) = 2 ^ 149 := by decide +kernel
  have h5 := valN_le hg.1
  rw [h4] at h5
  unfold valI at h3 ⊢
  split at h3 <;> (split <;> omega)
theorem len_val {d n : Nat} (h1 : 1 ≤ n) (h2 : n ≤ 12) : 2 ^ 149 ≤ valI (lenR d n) := by
  obtain ⟨a, _, c⟩ := len_ok (d := d) h1 h2
  have h4 : valN (127 * 8388608) = 2 ^ 149 := by decide +kernel
  have h5 := valN_le a.1
  rw [h4] at h5
  unfold valI
  rw [Nat.div_eq_of_lt c]
  simp
  omega
theorem costN_ok {R : RlR} {N long s : Nat} (hR : RlOk R N) (hl : Bd 5 long) (hl1 : 2 ^ 149 ≤ valI long) (hs : Bd 10 s) (h0 : 0 ≤ valI s) :
    floatBits .mul .f32 R.wt s = some (fmul R.wt s) ∧ floatBits .mul .f32 (fmul R.wt s) s = some (fmul (fmul R.wt s) s) ∧ floatBits .add .f32 1065353216 (fmul (fmul R.wt s) s) = some (fadd 1065353216 (fmul (fmul R.wt s) s)) ∧
      floatBits .mul .f32 long (fadd 1065353216 (fmul (fmul R.wt s) s)) = some (costN R long s) ∧ Bd 40 (costN R long s) ∧ 2 ^ 149 ≤ valI (costN R long s) := by
  obtain ⟨a1, a2⟩ := fmul_ok hR.wt hs (by omega)
  have a3 := mul_nonneg2 hR.wt hs (by omega) (by omega) hR.wt0 h0
  obtain ⟨b1, b2⟩ := fmul_ok a2 hs (by omega)
  have b3 := mul_nonneg2 a2 hs (by omega) (by omega) a3 h0
  obtain ⟨c1, c2, c3, c4⟩ := one_more b2 (by omega) b3
  obtain ⟨d1, d2, d3⟩ := mul_more hl c2 (by omega) hl1 c4
  exact ⟨a1, b1, c1, d1, d2, d3⟩
theorem costC_ok {R : RlR} {N c t : Nat} {l : List Nat} (hR : RlOk R N) (hc : R.co = some l) (ht : t < N) (hb : Bd 40 c) (h1 : 2 ^ 149 ≤ valI c) :
    floatBits .add .f32 1065353216 (l.getD t 0) = some (fadd 1065353216 (l.getD t 0)) ∧ floatBits .mul .f32 c (fadd 1065353216 (l.getD t 0)) = some (costC R c t) ∧ Bd 53 (costC R c t) ∧ 2 ^ 149 ≤ valI (costC R c t) := by
  obtain ⟨a1, a2⟩ := hR.co l hc t ht
  obtain ⟨b1, b2, b3, b4⟩ := one_more a1 (by omega) a2
  obtain ⟨d1, d2, d3⟩ := mul_more hb b2 (by omega) h1 b4
  have e : costC R c t = fmul c (fadd 1065353216 (l.getD t 0)) := by unfold costC; rw [hc]
  rw [e]
  exact ⟨b1, d1, d2, d3⟩
theorem costB_ok {R : RlR} {N long : Nat} (hR : RlOk R N) (hl : Bd 5 long) (hl1 : 2 ^ 149 ≤ valI long) :
    floatBits .mul .f32 long R.br = some (fmul long R.br) ∧ floatBits .add .f32 (fmul long R.br) R.de = some (costB R long) ∧ Bd 18 (costB R long) ∧ 2 ^ 149 ≤ valI (costB R long) := by
  obtain ⟨d1, d2, d3⟩ := mul_more hl hR.br (by omega) hl1 hR.br1
  obtain ⟨e1, e2⟩ := fadd_ok (K := 16) d2 (hR.de.mono (by omega)) (by omega)
  have e3 := fadd_ge (K := 16) d2 (hR.de.mono (by omega)) (by omega) hR.de0
  exact ⟨d1, e1, e2, Int.le_trans d3 e3⟩
theorem costF_ok {R : RlR} {N : Nat} {V : Nat → Nat} {k t d n top c : Nat} (hR : RlOk R N) (hk : Bd 20 (V k)) (ht : Bd 20 (V t)) (htN : t < N) (h1 : 1 ≤ n) (h2 : n ≤ 12) (h : costF R V k t d n top = some c) : Bd 56 c ∧ 2 ^ 149 ≤ valI c := by
  obtain ⟨l1, l2, l3⟩ := len_ok (d := d) h1 h2
  have l4 := len_val (d := d) h1 h2
  obtain ⟨g1, g2, g3, g4, g5⟩ := gr_ok hk ht l1 l3
  unfold costF at h
  split at h
  · cases h
  · rename_i hg
    split at h
    · split at h
      · injection h with h
        subst h
        obtain ⟨_, _, a, b⟩ := costB_ok hR l2 l4
        exact ⟨a.mono (by omega), b⟩
      · cases h
    · injection h with h
      subst h
      have hs := steep_ok hR g4 g5 (by simpa using hg)
      obtain ⟨_, _, _, _, a, b⟩ := costN_ok hR l2 l4 hs g5
      cases hc : R.co with
      | none =>
        unfold costC
        rw [hc]
        exact ⟨a.mono (by omega), b⟩
      | some l =>
        obtain ⟨_, _, e, f⟩ := costC_ok hR hc htN a b
        exact ⟨e.mono (by omega), f⟩

/-- the cell n steps away -/
def besK (Wn Hn k d n : Nat) : Option Nat :=
  if 0 ≤ ((k % Wn : Nat) : Int) + n * stepX d ∧ ((k % Wn : Nat) : Int) + n * stepX d < Wn ∧ 0 ≤ ((k / Wn : Nat) : Int) + n * stepY d ∧ ((k / Wn : Nat) : Int) + n * stepY d < Hn then
    some ((((k / Wn : Nat) : Int) + n * stepY d).toNat * Wn + (((k % Wn : Nat) : Int) + n * stepX d).toNat) else none
theorem besK_lt {Wn Hn k d n t : Nat} (h : besK Wn Hn k d n = some t) : t < Wn * Hn := by
  unfold besK at h
  split at h
  · injection h with h
    subst h
    exact mul_lt (by omega) (by omega)
  · cases h
def spanN (R : RlR) : Nat := max R.sp 1
/-- steps in direction d, from the n-th on -/
def edD (R : RlR) (V : Nat → Nat) (Wn Hn k d : Nat) : Nat → Nat → Nat → List (Nat × Nat)
  | 0, _, _ => []
  | m + 1, n, top => match besK Wn Hn k d n with
    | none => []
    | some t => (match costF R V k t d n top with
      | some c => [(t, c)]
      | none => []) ++ edD R V Wn Hn k d m (n + 1) (maxF top (V t))
/-- steps in the last m directions -/
def edM (R : RlR) (V : Nat → Nat) (Wn Hn k : Nat) : Nat → List (Nat × Nat)
  | 0 => []
  | m + 1 => edD R V Wn Hn k (7 - m) (spanN R) 1 3380609024 ++ edM R V Wn Hn k m
/-- the steps from a cell -/
def edK (R : RlR) (V : Nat → Nat) (Wn Hn k : Nat) : List (Nat × Nat) := edM R V Wn Hn k 8
theorem edD_ok {R : RlR} {V : Nat → Nat} {Wn Hn N k d : Nat} (hR : RlOk R N) (hN : N = Wn * Hn) (hV : ∀ j, j < N → Bd 20 (V j)) (hk : k < N) : ∀ m n top t c, 1 ≤ n → n + m ≤ 13 → (t, c) ∈ edD R V Wn Hn k d m n top → t < N ∧ Bd 56 c ∧ 2 ^ 149 ≤ valI c
  | 0, _, _, _, _, _, _, h => by cases h
  | m + 1, n, top, t, c, h1, h2, h => by
    unfold edD at h
    split at h
    · cases h
    · rename_i t' hb
      have ht := besK_lt hb
      rcases List.mem_append.1 h with h3 | h3
      · split at h3
        · rename_i c' hc
          simp at h3
          obtain ⟨rfl, rfl⟩ := h3
          exact ⟨by rw [hN]; exact ht, costF_ok hR (hV k hk) (hV _ (by rw [hN]; exact ht)) (by rw [hN]; exact ht) h1 (by omega) hc⟩
        · cases h3
      · exact edD_ok hR hN hV hk m (n + 1) _ t c (by omega) (by omega) h3
theorem edM_ok {R : RlR} {V : Nat → Nat} {Wn Hn N k : Nat} (hR : RlOk R N) (hN : N = Wn * Hn) (hV : ∀ j, j < N → Bd 20 (V j)) (hk : k < N) : ∀ m t c, (t, c) ∈ edM R V Wn Hn k m → t < N ∧ Bd 56 c ∧ 2 ^ 149 ≤ valI c
  | 0, _, _, h => by cases h
  | m + 1, t, c, h => by
    rcases List.mem_append.1 h with h3 | h3
    · have := hR.sp
      exact edD_ok hR hN hV hk _ _ _ t c (by omega) (by unfold spanN; omega) h3
    · exact edM_ok hR hN hV hk m t c h3
theorem edD_len {R : RlR} {V : Nat → Nat} {Wn Hn k d : Nat} : ∀ m n top, (edD R V Wn Hn k d m n top).length ≤ m
  | 0, _, _ => Nat.le_refl _
  | m + 1, n, top => by
    unfold edD
    split
    · simp
    · rename_i t hb
      have := edD_len (R := R) (V := V) (Wn := Wn) (Hn := Hn) (k := k) (d := d) m (n + 1) (maxF top (V t))
      split <;> simp <;> omega
theorem edK_len {R : RlR} {N : Nat} (hR : RlOk R N) {V : Nat → Nat} {Wn Hn k : Nat} : (edK R V Wn Hn k).length ≤ 96 := by
  have h : ∀ d, (edD R V Wn Hn k d (spanN R) 1 3380609024).length ≤ 12 := fun d => by
    have := edD_len (R := R) (V := V) (Wn := Wn) (Hn := Hn) (k := k) (d := d) (spanN R) 1 3380609024
    have := hR.sp
    unfold spanN at *
    omega
  have h2 : ∀ m, (edM R V Wn Hn k m).length ≤ 12 * m := fun m => by
    induction m with
    | zero => exact Nat.le_refl _
    | succ m ih =>
      rw [edM, List.length_append]
      have := h (7 - m)
      omega
  exact h2 8
/-- the edges of all cells may be -/
def edA (R : RlR) (V : Nat → Nat) (Wn Hn N k : Nat) : List (Nat × Nat) := if k < N then edK R V Wn Hn k else []
theorem edA_ok {R : RlR} {V : Nat → Nat} {Wn Hn N : Nat} (hR : RlOk R N) (hN : N = Wn * Hn) (hV : ∀ j, j < N → Bd 20 (V j)) : EdOk N (edA R V Wn Hn N) := by
  have key : ∀ k m c, (m, c) ∈ edA R V Wn Hn N k → m < N ∧ Bd 56 c ∧ 2 ^ 149 ≤ valI c := fun k m c h => by
    unfold edA at h
    split at h
    · rename_i hk
      exact edM_ok hR hN hV hk 8 m c h
    · cases h
  exact ⟨fun k m c h => (key k m c h).1, fun k m c h => (key k m c h).2.1, fun k m c h => by have := (key k m c h).2.2; omega⟩
end Go.Proofs.Ytpgdinpckolfpaa
