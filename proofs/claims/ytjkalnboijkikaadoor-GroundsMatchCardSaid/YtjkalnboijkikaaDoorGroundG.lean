/- Plain words for how well a cell suits a kind: bounds of the slope; a wetness of minus zero suits as zero does. No program in sight. -/
import Derived.Test.YtjkalnboijkikaaDoorSuitB
import Derived.Test.YtjkalnboijkikaaDoorGroundF
import Derived.Test.YtjkalnboijkikaaDoorMake
import Derived.Test.YtjkalnboijkikaaDoorBitsP
namespace Go.Proofs.YtjkalnboijkikaaDoor
open Go.RowKit Ieee

theorem signed_null (s : Bool) (k : Nat) : signed s 0 k = 0 := by cases s <;> simp [signed]
theorem read_null {K u : Nat} (h : Bd K u) (hK : K ≤ 127) (h0 : ord u 0 = some .eq) : ∃ s : Bool, single.read u = .number s 0 (-149) := by
  have e : ∃ (s : Bool) (m k : Nat), single.read u = .number s m ((k : Int) - 149) ∧ (m = 0 → k = 0) := by
    unfold Bd at h
    unfold Format.read
    simp only [single_sign, single_binade, single_inf, single_least]
    have hr : u % 2147483648 < 2139095040 := by omega
    by_cases h1 : u % 2147483648 < 8388608
    · rw [if_pos h1]
      exact ⟨_, _, 0, rfl, fun _ => rfl⟩
    · rw [if_neg h1, if_pos hr]
      exact ⟨_, _, u % 2147483648 / 8388608 - 1, by rw [Int.add_comm (-149)]; rfl, fun h => by omega⟩
  obtain ⟨s, m, k, e, hk⟩ := e
  rw [ord_val e read_zero, signed_zero] at h0
  have h1 : signed s m k = 0 := by
    have : compare (signed s m k) 0 = .eq := by simpa using h0
    exact Int.compare_eq_eq.1 this
  have h2 := signed_abs s m k
  rw [h1] at h2
  have hm : m = 0 := by
    have h3 : m * 2 ^ k = 0 := by simpa using h2.symm
    rcases Nat.mul_eq_zero.1 h3 with h | h
    · exact h
    · have := Nat.two_pow_pos k
      omega
  subst hm
  rw [hk rfl] at e
  exact ⟨s, e⟩
theorem ord_null {u : Nat} {s : Bool} (h : single.read u = .number s 0 (-149)) (y : Nat) : ord u y = ord 0 y := by
  show single.order u y = single.order 0 y
  have h0 : single.read 0 = .number false 0 (-149) := read_zero
  unfold Format.order
  rw [h, h0]
  cases single.read y <;> simp [Datum.order, signed_null]
theorem sum_null_r {t a b : Bool} {n : Nat} {p : Int} (hn : n ≠ 0) : Datum.sum (.number t n p) (.number a 0 (-149)) = Datum.sum (.number t n p) (.number b 0 (-149)) := by
  have hz : ∀ k, signed t n k ≠ 0 := fun k h => by
    have h2 := signed_abs t n k
    rw [h] at h2
    have := Nat.mul_pos (Nat.pos_of_ne_zero hn) (Nat.two_pow_pos k)
    simp at h2
    omega
  simp [Datum.sum, signed_null, hz]
theorem sum_null_l {t a b : Bool} {n : Nat} {p : Int} (hn : n ≠ 0) : Datum.sum (.number a 0 (-149)) (.number t n p) = Datum.sum (.number b 0 (-149)) (.number t n p) := by
  have hz : ∀ k, signed t n k ≠ 0 := fun k h => by
    have h2 := signed_abs t n k
    rw [h] at h2
    have := Nat.mul_pos (Nat.pos_of_ne_zero hn) (Nat.two_pow_pos k)
    simp at h2
    omega
  simp [Datum.sum, signed_null, hz]
theorem fsub_null_r {x u n : Nat} {s t : Bool} {p : Int} (hx : single.read x = .number t n p) (hn : n ≠ 0) (hu : single.read u = .number s 0 (-149)) : fsub x u = fsub x 0 := by
  have e : single.sub x u = single.sub x 0 := by
    unfold Format.sub
    rw [hx, hu, show single.read 0 = .number false 0 (-149) from read_zero]
    simp only [Datum.opposite]
    rw [sum_null_r hn]
  exact congrArg (fun o : Option Nat => o.getD 0) e
theorem fsub_null_l {x u n : Nat} {s t : Bool} {p : Int} (hx : single.read x = .number t n p) (hn : n ≠ 0) (hu : single.read u = .number s 0 (-149)) : fsub u x = fsub 0 x := by
  have e : single.sub u x = single.sub 0 x := by
    unfold Format.sub
    rw [hx, hu, show single.read 0 = .number false 0 (-149) from read_zero]
    simp only [Datum.opposite]
    rw [sum_null_l hn]
  exact congrArg (fun o : Option Nat => o.getD 0) e
theorem slack_null {K u low high soft : Nat} {s : Bool} (hu : single.read u = .number s 0 (-149)) (hl : Bd K low) (hh : Bd K high) (hK : K ≤ 127) : slackF u low high soft = slackF 0 low high soft := by
  have o := ord_null hu
  have L : ∀ y, lt u y = lt 0 y := fun y => by unfold lt; rw [ord_def, ord_def, o]
  have G : ∀ y, gt u y = gt 0 y := fun y => by unfold gt; rw [ord_def, ord_def, o]
  unfold slackF
  rw [L, G]
  by_cases h1 : lt 0 low = true
  · rw [if_pos h1, if_pos h1]
    obtain ⟨t, n, j, e, _⟩ := read_bd hl hK
    have hn : n ≠ 0 := by
      rintro rfl
      have := lt_ord.1 h1
      rw [ord_val read_zero e, signed_null, signed_null] at this
      simp at this
    rw [fsub_null_r e hn hu]
  · rw [if_neg h1, if_neg h1]
    by_cases h2 : gt 0 high = true
    · rw [if_pos h2, if_pos h2]
      obtain ⟨t, n, j, e, _⟩ := read_bd hh hK
      have hn : n ≠ 0 := by
        rintro rfl
        have := gt_ord.1 h2
        rw [ord_val read_zero e, signed_null, signed_null] at this
        simp at this
      rw [fsub_null_l e hn hu]
    · rw [if_neg h2, if_neg h2]

theorem wet_cases {K u : Nat} (h : Bd K u) (hK : K ≤ 127) : wetF u = wetR u ∨ (wetF u = 0 ∧ wetR u = u ∧ ord u 0 = some .eq) := by
  obtain ⟨o, ho⟩ := ord_some (bd_fin h hK) (by decide +kernel : nanB 0 = false)
  have NL : o ≠ .lt → ¬ lt u 0 = true := fun hne h => by have := lt_ord.1 h; rw [ho] at this; exact hne (Option.some.inj this)
  have NG : o ≠ .gt → ¬ gt u 0 = true := fun hne h => by have := gt_ord.1 h; rw [ho] at this; exact hne (Option.some.inj this)
  unfold wetF wetR
  cases o with
  | lt =>
    left
    rw [if_neg (NG (by decide)), if_pos (lt_ord.2 ho)]
  | gt =>
    left
    rw [if_neg (NL (by decide)), if_pos (gt_ord.2 ho)]
  | eq =>
    right
    rw [if_neg (NL (by decide)), if_neg (NG (by decide))]
    exact ⟨rfl, rfl, ho⟩
theorem wet_eq {K u : Nat} (h : Bd K u) (hK : K ≤ 127) : ord (wetF u) (wetR u) = some .eq := by
  have h0 : nanB 0 = false := by decide +kernel
  have hz : Bd K 0 := by unfold Bd; omega
  rcases wet_cases h hK with e | ⟨e1, e2, ho⟩
  · rw [e]
    refine ord_self ?_
    unfold wetR
    split
    · exact h0
    · exact bd_fin h hK
  · rw [e1, e2]
    obtain ⟨s, e⟩ := read_null h hK ho
    have e' : single.read u = .number s 0 (((0 : Nat) : Int) - 149) := e
    rw [ord_val read_zero e', signed_null, signed_null]
    rfl
theorem wet_bd {K u : Nat} (h : Bd K u) : Bd K (wetF u) := by
  unfold wetF
  split
  · exact h
  · unfold Bd; omega
theorem wetR_bd {K u : Nat} (h : Bd K u) : Bd K (wetR u) := by
  unfold wetR
  split
  · unfold Bd; omega
  · exact h
theorem suit_wet {u a0 a1 a2 a3 a4 a5 g0 g1 : Nat} (h : Bd 20 u) (h4 : Bd 20 a4) (h5 : Bd 20 a5) : suitF a0 a1 a2 a3 a4 a5 g0 g1 (wetF u) = suitF a0 a1 a2 a3 a4 a5 g0 g1 (wetR u) := by
  rcases wet_cases h (by omega) with e | ⟨e1, e2, ho⟩
  · rw [e]
  · rw [e1, e2]
    obtain ⟨s, e⟩ := read_null h (by omega) ho
    unfold suitF
    rw [slack_null e h4 h5 (by omega)]

theorem slope_bd {X Y W H x y : Int} {l : List Nat} (hv : ∀ x y, InR X Y W H x y → Bd 20 (valAt X Y W l (x, y))) (h : InR X Y W H x y) : ∀ k, Bd 22 (slopeK X Y W H l x y k) ∧ slopeK X Y W H l x y k < 2147483648 := by
  intro k
  induction k with
  | zero => exact ⟨by unfold Bd slopeK; omega, by unfold slopeK; omega⟩
  | succ k ih =>
    unfold slopeK
    split
    · rename_i hc
      unfold riseTo
      obtain ⟨_, b⟩ := fsub_ok (hv _ _ h) (hv _ _ hc.1) (by omega)
      exact ⟨abs_bd b, Nat.mod_lt _ (by omega)⟩
    · exact ih
theorem slope_nonneg {X Y W H x y : Int} {l : List Nat} (hv : ∀ x y, InR X Y W H x y → Bd 20 (valAt X Y W l (x, y))) (h : InR X Y W H x y) (k : Nat) : ord (slopeK X Y W H l x y k) 0 ≠ some .lt :=
  nonneg_word (slope_bd hv h k).2 (slope_bd hv h k).1 (by omega)
theorem val_bd {X Y W H : Int} {l : List Nat} (hf : fieldE X Y W H l = 0) : ∀ x y, InR X Y W H x y → Bd 20 (valAt X Y W l (x, y)) := fun x y h => by
  obtain ⟨f1, f2, f3⟩ := fieldE_parts hf
  obtain ⟨k, _, hk, hv⟩ := valAt_get (RegOk.of_zero f1) h f2
  exact hgt_bd ((numE_zero f3).2 _ (List.mem_of_getElem? hv))

/-- how well the k-th cell suits a kind -/
def fitAt (X Y W H : Int) (l l' : List Nat) (a0 a1 a2 a3 a4 a5 : Nat) (p : Int × Int) : Nat := suitF a0 a1 a2 a3 a4 a5 (valAt X Y W l p) (slopeK X Y W H l p.1 p.2 4) (wetF (valAt X Y W l' p))
def fitK (X Y W H : Int) (l l' : List Nat) (a0 a1 a2 a3 a4 a5 : Nat) (k : Nat) : Nat := fitAt X Y W H l l' a0 a1 a2 a3 a4 a5 (placeK X Y W k)
theorem placeK_at {X Y : Int} {W j i : Nat} (h : i < W) : placeK X Y W (j * W + i) = (X + i, Y + j) := by
  unfold placeK
  have h1 : (j * W + i) % W = i := by rw [Nat.mul_comm, Nat.mul_add_mod]; exact Nat.mod_eq_of_lt h
  have h2 : (j * W + i) / W = j := by rw [Nat.mul_comm, Nat.mul_add_div (by omega)]; rw [Nat.div_eq_of_lt h]; omega
  simp [h1, h2]
end Go.Proofs.YtjkalnboijkikaaDoor
