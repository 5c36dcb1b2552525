/- Contracts: water.Steep, water.Drain. -/
import Derived.Test.YtinohfgokpbcdaaDsAJ
import Derived.Test.YtinohfgokpbcdaaDsAH
import Derived.Test.YtinohfgokpbcdaaDsAP
import Derived.Test.YtinohfgokpbcdaaDsAI
import Derived.Test.YtinohfgokpbcdaaDsAO
import Derived.Test.YtinohfgokpbcdaaDsAK
namespace Go.Proofs.Ytinohfgokpbcdaa
open Go.RowKit Ieee

theorem near_neg (m : Nat) (p : Int) : valI (single.nearest true m p) ≤ 0 := by
  have hw : ∀ r, r < 2147483648 → valI (single.word true r) ≤ 0 := fun r h => by
    have h1 := key_word (s := true) h
    have e0 : keyI 0 = 0 := by decide +kernel
    have := (val_key_le (x := single.word true r) (y := 0)).2 (by rw [h1, e0, if_pos rfl]; omega)
    rwa [val_zero] at this
  unfold Format.nearest
  split
  · exact hw 0 (by omega)
  · refine hw _ ?_
    simp only [single_inf]
    omega
theorem quo_nonpos {K x : Nat} (d : Nat) (hx : Bd K x) (hK : K ≤ 100) (h : valI x ≤ 0) : valI (fdiv x (longN d)) ≤ 0 := by
  have hF := bd_Fin hx (by omega)
  rcases Int.lt_or_le (valI x) 0 with h0 | h0
  · obtain ⟨s, m, k, e1, hv, _⟩ := read_val hF
    have hs : s = true := by
      cases s
      · rw [signed_val] at hv
        simp only [Bool.false_eq_true, if_false] at hv
        omega
      · rfl
    subst hs
    obtain ⟨n, e2, hn1, hn2, hn3⟩ := long_read d
    have hd : floatBits .quo .f32 x (longN d) = single.div x (longN d) := rfl
    unfold fdiv
    rw [hd]
    unfold Format.div
    rw [e1, e2]
    have hn : n ≠ 0 := by omega
    simp only [Datum.quotient, if_neg hn, Option.map_some, Option.getD_some, Format.write]
    exact near_neg _ _
  · rw [quo_zero d hF (by omega)]
    exact Int.le_refl _
theorem drop_low {v : Nat → Nat} {k n : Nat} (d : Nat) (hk : Bd 20 (v k)) (hn : Bd 20 (v n)) (h : 0 < valI (dropF v k n d)) : valI (v n) < valI (v k) := by
  rcases Int.lt_or_le (valI (v n)) (valI (v k)) with h1 | h1
  · exact h1
  · exfalso
    obtain ⟨_, h2⟩ := fsub_ok hk hn (by omega)
    have hkey := fsub_key (K := 20) hk hn (by omega)
    have hm := rkey_mono (show valI (v k) - valI (v n) ≤ 0 by omega)
    rw [← hkey] at hm
    have e1 : rkey 0 = 0 := by decide +kernel
    rw [e1] at hm
    have e0 : keyI 0 = 0 := by decide +kernel
    have h3 := (val_key_le (x := fsub (v k) (v n)) (y := 0)).2 (by rw [e0]; omega)
    rw [val_zero] at h3
    have h4 : valI (dropF v k n d) ≤ 0 := quo_nonpos d h2 (by omega) h3
    omega
theorem stp_down {v : Nat → Nat} {Wn Hn k : Nat} (hv : ∀ j, j < Wn * Hn → Bd 20 (v j)) (hk : k < Wn * Hn) : ∀ e, e ≤ 8 → 0 ≤ (stp v Wn Hn k e).1 → ∃ d n, (stp v Wn Hn k e).1 = ((d : Nat) : Int) ∧ d < e ∧ nbr Wn Hn k d = some n ∧ valI (v n) < valI (v k)
  | 0, _, h => by simp [stp] at h
  | e + 1, he, h => by
    cases hn : nbr Wn Hn k e with
    | none =>
      rw [stp_none hn] at h ⊢
      obtain ⟨d, n, h1, h2, h3⟩ := stp_down hv hk e (by omega) h
      exact ⟨d, n, h1, by omega, h3⟩
    | some n =>
      rw [stp_some hn] at h ⊢
      split at h
      · rename_i hg
        rw [if_pos hg]
        refine ⟨e, n, rfl, by omega, hn, ?_⟩
        have hb := (drop_ok e (hv k hk) (hv n (nbr_lt hn))).2.2
        have hb2 := stp_bd hv hk (fun d m h => nbr_lt h) e
        rw [gt_val (bd_Fin hb (by omega)) (bd_Fin hb2 (by omega))] at hg
        have h0 := stp_nonneg hv hk e
        have hg2 : valI (stp v Wn Hn k e).2 < valI (dropF v k n e) := by simpa using hg
        exact drop_low e (hv k hk) (hv n (nbr_lt hn)) (by omega)
      · rename_i hg
        rw [if_neg hg]
        obtain ⟨d, n, h1, h2, h3⟩ := stp_down hv hk e (by omega) h
        exact ⟨d, n, h1, by omega, h3⟩
theorem bst_least {v : Nat → Nat} {R : Nat → Int} {Wn Hn k : Nat} : ∀ e, (bstD v R Wn Hn k e = (-1, -1) ∧ ∀ d m, d < e → nbr Wn Hn k d = some m → ¬ (valI (v m) = valI (v k) ∧ 0 ≤ R m)) ∨
    (∃ d n, d < e ∧ nbr Wn Hn k d = some n ∧ valI (v n) = valI (v k) ∧ 0 ≤ R n ∧ bstD v R Wn Hn k e = (R n, ((d : Nat) : Int)) ∧ ∀ c m, c < e → nbr Wn Hn k c = some m → valI (v m) = valI (v k) → 0 ≤ R m → R n ≤ R m)
  | 0 => .inl ⟨rfl, fun d m h => by omega⟩
  | e + 1 => by
    have ih := bst_least (v := v) (R := R) (Wn := Wn) (Hn := Hn) (k := k) e
    cases hn : nbr Wn Hn k e with
    | none =>
      have e1 : bstD v R Wn Hn k (e + 1) = bstD v R Wn Hn k e := by simp [bstD, hn]
      rw [e1]
      have hc : ∀ c m, c < e + 1 → nbr Wn Hn k c = some m → c < e := fun c m h1 h2 => by
        rcases Nat.lt_or_ge c e with h3 | h3
        · exact h3
        · obtain rfl : c = e := by omega
          rw [hn] at h2
          cases h2
      rcases ih with ⟨h1, h2⟩ | ⟨d, n, h1, h2, h3, h4, h5, h6⟩
      · exact .inl ⟨h1, fun d m hd hm => h2 d m (hc d m hd hm) hm⟩
      · exact .inr ⟨d, n, by omega, h2, h3, h4, h5, fun c m hc' hm => h6 c m (hc c m hc' hm) hm⟩
    | some j =>
      rw [bst_some hn]
      by_cases hj : valI (v j) = valI (v k) ∧ 0 ≤ R j
      · rcases ih with ⟨h1, h2⟩ | ⟨d, n, h1, h2, h3, h4, h5, h6⟩
        · rw [h1, if_pos ⟨hj.1, hj.2, .inl (by decide)⟩]
          refine .inr ⟨e, j, by omega, hn, hj.1, hj.2, rfl, fun c m hc hm hv h0 => ?_⟩
          rcases Nat.lt_or_ge c e with h3 | h3
          · exact absurd ⟨hv, h0⟩ (h2 c m h3 hm)
          · obtain rfl : c = e := by omega
            rw [hn] at hm
            cases hm
            exact Int.le_refl _
        · rw [h5]
          by_cases hl : R j < R n
          · rw [if_pos ⟨hj.1, hj.2, .inr hl⟩]
            refine .inr ⟨e, j, by omega, hn, hj.1, hj.2, rfl, fun c m hc hm hv h0 => ?_⟩
            rcases Nat.lt_or_ge c e with h7 | h7
            · have := h6 c m h7 hm hv h0
              omega
            · obtain rfl : c = e := by omega
              rw [hn] at hm
              cases hm
              exact Int.le_refl _
          · rw [if_neg (by rintro ⟨_, _, h | h⟩ <;> simp at h <;> omega)]
            refine .inr ⟨d, n, by omega, h2, h3, h4, rfl, fun c m hc hm hv h0 => ?_⟩
            rcases Nat.lt_or_ge c e with h7 | h7
            · exact h6 c m h7 hm hv h0
            · obtain rfl : c = e := by omega
              rw [hn] at hm
              cases hm
              omega
      · rw [if_neg (fun h => hj ⟨h.1, h.2.1⟩)]
        have hc : ∀ c m, c < e + 1 → nbr Wn Hn k c = some m → valI (v m) = valI (v k) → 0 ≤ R m → c < e := fun c m h1 h2 h3 h4 => by
          rcases Nat.lt_or_ge c e with h5 | h5
          · exact h5
          · obtain rfl : c = e := by omega
            rw [hn] at h2
            cases h2
            exact absurd ⟨h3, h4⟩ hj
        rcases ih with ⟨h1, h2⟩ | ⟨d, n, h1, h2, h3, h4, h5, h6⟩
        · exact .inl ⟨h1, fun d m hd hm h => h2 d m (hc d m hd hm h.1 h.2) hm h⟩
        · exact .inr ⟨d, n, by omega, h2, h3, h4, h5, fun c m hc' hm hv h0 => h6 c m (hc c m hc' hm hv h0) hm hv h0⟩

/-- directions that lead downward: each that is one leads to a neighbour of less (by m); where there is none is the border -/
structure Lead (Wn Hn N : Nat) (D : Nat → Int) (m : Nat → Nat) : Prop where
  rng : ∀ k, k < N → -1 ≤ D k ∧ D k < 8
  step : ∀ k, k < N → 0 ≤ D k → ∃ n, nbr Wn Hn k (D k).toNat = some n ∧ m n < m k
  edge : ∀ k, k < N → D k < 0 → brd Wn Hn k = true
/-- what lies lower, or at the same height and nearer -/
def lowB (v : Nat → Nat) (R : Nat → Int) (j k : Nat) : Bool := decide (valI (v j) < valI (v k)) || (decide (valI (v j) = valI (v k)) && decide (R j < R k))
theorem low_cnt {v : Nat → Nat} {R : Nat → Int} {N n k : Nat} (hn : n < N) (h : lowB v R n k = true) : cntB (fun j => lowB v R j n) N < cntB (fun j => lowB v R j k) N := by
  refine cntB_lt (j := n) h ?_ N hn (fun j _ hj => ?_)
  · unfold lowB
    simp
  · unfold lowB at *
    simp only [Bool.or_eq_true, Bool.and_eq_true, decide_eq_true_eq] at *
    omega
theorem drn_lead {Wn Hn N : Nat} {h v : Nat → Nat} (hw : 1 ≤ Wn) (hN : N = Wn * Hn) (hN1 : 1 ≤ N) (hh : ∀ k, k < N → Bd 20 (h k)) (hv : ∀ k, k < N → Bd 20 (v k)) (hL : LeastG Wn Hn h 0 (fun k => valI (v k))) :
    Lead Wn Hn N (drnV v (rkV v Wn Hn (N - 1)) Wn Hn) (fun k => cntB (fun j => lowB v (rkV v Wn Hn (N - 1)) j k) N) ∧
    ∀ k n, k < N → 0 ≤ drnV v (rkV v Wn Hn (N - 1)) Wn Hn k → nbr Wn Hn k (drnV v (rkV v Wn Hn (N - 1)) Wn Hn k).toNat = some n → valI (v n) ≤ valI (v k) := by
  have hR := Rk.of hN hN1 (ranked hw hN hN1 hh hv hL)
  have key : ∀ k, k < N → (drnV v (rkV v Wn Hn (N - 1)) Wn Hn k = -1 ∧ brd Wn Hn k = true) ∨ ∃ d n, drnV v (rkV v Wn Hn (N - 1)) Wn Hn k = ((d : Nat) : Int) ∧ d < 8 ∧ nbr Wn Hn k d = some n ∧ lowB v (rkV v Wn Hn (N - 1)) n k = true := fun k hk => by
    unfold drnV
    by_cases h0 : 0 ≤ (stp v Wn Hn k 8).1
    · rw [if_pos h0]
      obtain ⟨d, n, h1, h2, h3, h4⟩ := stp_down (by rw [← hN]; exact hv) (by rw [← hN]; exact hk) 8 (Nat.le_refl _) h0
      refine .inr ⟨d, n, h1, h2, h3, ?_⟩
      unfold lowB
      simp [h4]
    · rw [if_neg h0]
      by_cases hb : brd Wn Hn k = true
      · rw [if_pos hb]
        exact .inl ⟨rfl, hb⟩
      · rw [if_neg hb]
        right
        have hS : srcB v Wn Hn k = false := by
          unfold srcB
          simp [h0, hb]
        have hp := hR.pos k hk
        have hz : rkV v Wn Hn (N - 1) k ≠ 0 := fun e => by
          rw [(hR.src k hk).1 e] at hS
          cases hS
        obtain ⟨i, hi⟩ : ∃ i : Nat, rkV v Wn Hn (N - 1) k = ((i + 1 : Nat) : Int) := ⟨(rkV v Wn Hn (N - 1) k).toNat - 1, by omega⟩
        obtain ⟨d, m, hd, hn, hvv, hm⟩ := hR.pred k hk i hi
        rcases bst_least (v := v) (R := rkV v Wn Hn (N - 1)) (Wn := Wn) (Hn := Hn) (k := k) 8 with ⟨h1, h2⟩ | ⟨d', n, h1, h2, h3, h4, h5, h6⟩
        · exact absurd ⟨hvv, by omega⟩ (h2 d m hd hn)
        · refine ⟨d', n, by rw [h5], h1, h2, ?_⟩
          have := h6 d m hd hn hvv (by omega)
          unfold lowB
          simp only [Bool.or_eq_true, Bool.and_eq_true, decide_eq_true_eq]
          right
          exact ⟨h3, by omega⟩
  refine ⟨⟨fun k hk => ?_, fun k hk h0 => ?_, fun k hk h0 => ?_⟩, fun k n hk h0 hn => ?_⟩
  · rcases key k hk with ⟨h1, _⟩ | ⟨d, n, h1, h2, _⟩ <;> rw [h1] <;> omega
  · rcases key k hk with ⟨h1, _⟩ | ⟨d, n, h1, h2, h3, h4⟩
    · rw [h1] at h0
      omega
    · rw [h1, Int.toNat_natCast]
      exact ⟨n, h3, low_cnt (by rw [hN]; exact nbr_lt h3) h4⟩
  · rcases key k hk with ⟨_, h2⟩ | ⟨d, n, h1, h2, h3, h4⟩
    · exact h2
    · rw [h1] at h0
      omega
  · rcases key k hk with ⟨h1, _⟩ | ⟨d, n', h1, h2, h3, h4⟩
    · rw [h1] at h0
      omega
    · rw [h1, Int.toNat_natCast, h3] at hn
      cases hn
      unfold lowB at h4
      simp only [Bool.or_eq_true, Bool.and_eq_true, decide_eq_true_eq] at h4
      omega
end Go.Proofs.Ytinohfgokpbcdaa
namespace Go.Proofs.Ytinohfgokpbcdaa
open Go.RowKit Ieee

/-- a single that is a number or infinite -/
def NN (x : Nat) : Prop := (single.read x).isNaN = false
theorem nn_word {s : Bool} {r : Nat} (h : r ≤ 2139095040) : NN (single.word s r) := by
  unfold NN
  have hw := word_rung (neg := s) (r := r) (by omega)
  unfold Format.read
  simp only [single_sign, single_inf, single_binade, hw]
  split
  · rfl
  · split
    · rfl
    · rw [if_pos (by omega)]
      rfl
theorem nn_write {d : Datum} (h : d.isNaN = false) : NN (single.write d) := by
  cases d with
  | number s m p =>
    show NN (single.nearest s m p)
    unfold Format.nearest
    split
    · exact nn_word (by omega)
    · refine nn_word ?_
      simp only [single_inf]
      omega
  | infinity s => exact nn_word (by simp only [single_inf]; omega)
  | nan s f => cases h
theorem nn_fin {x : Nat} (h : Fin x) : NN x := by
  obtain ⟨s, m, k, e, _⟩ := read_val h
  unfold NN
  rw [e]
  rfl
theorem sub_nn {x y : Nat} (hx : NN x) (hy : Fin y) : floatBits .sub .f32 x y = some (fsub x y) ∧ NN (fsub x y) := by
  have hd : floatBits .sub .f32 x y = single.sub x y := rfl
  unfold fsub
  rw [hd]
  unfold Format.sub
  obtain ⟨s, m, k, e, _⟩ := read_val hy
  rw [e]
  unfold NN at hx
  cases hr : single.read x with
  | number t n p =>
    simp only [Datum.opposite, Datum.sum, Option.map_some, Option.getD_some]
    exact ⟨trivial, nn_write rfl⟩
  | infinity t =>
    simp only [Datum.opposite, Datum.sum, Option.map_some, Option.getD_some]
    exact ⟨trivial, nn_write rfl⟩
  | nan t f =>
    rw [hr] at hx
    cases hx
theorem ord_nn {x y : Nat} (hx : NN x) (hy : NN y) : ∃ o, FloatKind.f32.format.order x y = some o := by
  show ∃ o, single.order x y = some o
  unfold Format.order
  unfold NN at hx hy
  cases h1 : single.read x with
  | nan t f => rw [h1] at hx; cases hx
  | number s m p =>
    cases h2 : single.read y with
    | nan t f => rw [h2] at hy; cases hy
    | number t n q => exact ⟨_, rfl⟩
    | infinity t => exact ⟨_, rfl⟩
  | infinity s =>
    cases h2 : single.read y with
    | nan t f => rw [h2] at hy; cases hy
    | number t n q => exact ⟨_, rfl⟩
    | infinity t => exact ⟨_, rfl⟩
def leB (a b : Nat) : Bool := FloatKind.f32.format.order a b == some .lt || FloatKind.f32.format.order a b == some .eq
def geB (a b : Nat) : Bool := FloatKind.f32.format.order a b == some .gt || FloatKind.f32.format.order a b == some .eq
theorem ge_lt {x y : Nat} (hx : NN x) (hy : NN y) : geB x y = !lt x y := by
  obtain ⟨o, ho⟩ := ord_nn hx hy
  have e : lt x y = (FloatKind.f32.format.order x y == some .lt) := rfl
  rw [e]
  unfold geB
  rw [ho]
  cases o <;> rfl

section
variable {D : Nat → Int} {Wn Hn N : Nat}
/-- where the water of a cell goes -/
def nxtD (D : Nat → Int) (Wn Hn k : Nat) : Option Nat := if D k < 0 then none else nbr Wn Hn k (D k).toNat
/-- the cells on the way of a cell, without the cell itself -/
def IsTr (D : Nat → Int) (Wn Hn : Nat) : Nat → List Nat → Prop
  | k, [] => nxtD D Wn Hn k = none
  | k, c :: t => nxtD D Wn Hn k = some c ∧ IsTr D Wn Hn c t
theorem nxt_lt {k n : Nat} (h : nxtD D Wn Hn k = some n) : n < Wn * Hn := by
  unfold nxtD at h
  split at h
  · cases h
  · exact nbr_lt h
theorem tr_lt : ∀ {k : Nat} {t : List Nat}, IsTr D Wn Hn k t → ∀ c ∈ t, c < Wn * Hn
  | _, [], _, c, hc => by cases hc
  | _, _ :: t, h, c, hc => by
    rcases List.mem_cons.1 hc with rfl | hc
    · exact nxt_lt h.1
    · exact tr_lt h.2 c hc
theorem tr_one : ∀ {k : Nat} {t u : List Nat}, IsTr D Wn Hn k t → IsTr D Wn Hn k u → t = u
  | _, [], [], _, _ => rfl
  | _, [], _ :: _, h, h' => by have := h'.1; rw [show nxtD D Wn Hn _ = none from h] at this; cases this
  | _, _ :: _, [], h, h' => by have := h.1; rw [show nxtD D Wn Hn _ = none from h'] at this; cases this
  | _, c :: t, d :: u, h, h' => by
    have e := h.1.symm.trans h'.1
    injection e with e
    subst e
    rw [tr_one h.2 h'.2]
theorem Lead.nxt {m : Nat → Nat} (h : Lead Wn Hn N D m) (hN : N = Wn * Hn) {k n : Nat} (hk : k < N) (hn : nxtD D Wn Hn k = some n) : n < N ∧ m n < m k := by
  unfold nxtD at hn
  split at hn
  · cases hn
  · obtain ⟨n', h1, h2⟩ := h.step k hk (by omega)
    rw [h1] at hn
    cases hn
    exact ⟨by rw [hN]; exact nbr_lt h1, h2⟩
theorem Lead.nxt_none {m : Nat → Nat} (h : Lead Wn Hn N D m) {k : Nat} (hk : k < N) (hn : nxtD D Wn Hn k = none) : D k < 0 := by
  unfold nxtD at hn
  split at hn
  · assumption
  · obtain ⟨n', h1, h2⟩ := h.step k hk (by omega)
    rw [h1] at hn
    cases hn
theorem Lead.tr {m : Nat → Nat} (h : Lead Wn Hn N D m) (hN : N = Wn * Hn) : ∀ b k, m k < b → k < N → ∃ t, IsTr D Wn Hn k t ∧ t.length ≤ m k
  | 0, _, hb, _ => by omega
  | b + 1, k, hb, hk => by
    cases hn : nxtD D Wn Hn k with
    | none => exact ⟨[], hn, Nat.zero_le _⟩
    | some n =>
      obtain ⟨h1, h2⟩ := h.nxt hN hk hn
      obtain ⟨t, h3, h4⟩ := h.tr hN b n (by omega) h1
      exact ⟨n :: t, ⟨hn, h3⟩, by simp only [List.length_cons]; omega⟩
end
/-- what is cut along a way: h is the height so far -/
def cutV (s : Nat) : List Nat → Nat → (Nat → Nat) → (Nat → Nat)
  | [], _, v => v
  | c :: t, h, v => if leB (v c) (fsub h s) = true then v else cutV s t (fsub h s) (updF v c (fsub h s))
/-- is no neighbour of the first d lower (and the cell not of the border)? -/
def pitD (v : Nat → Nat) (Wn Hn k : Nat) : Nat → Bool
  | 0 => !brd Wn Hn k
  | d + 1 => match nbr Wn Hn k d with
    | none => pitD v Wn Hn k d
    | some n => pitD v Wn Hn k d && geB (v n) (v k)
def lowD (v : Nat → Nat) (Wn Hn k : Nat) : Nat → Bool
  | 0 => brd Wn Hn k
  | d + 1 => match nbr Wn Hn k d with
    | none => lowD v Wn Hn k d
    | some n => if lt (v n) (v k) = true then true else lowD v Wn Hn k d
theorem pit_none {v : Nat → Nat} {Wn Hn k d : Nat} (h : nbr Wn Hn k d = none) : pitD v Wn Hn k (d + 1) = pitD v Wn Hn k d := by simp [pitD, h]
theorem pit_some {v : Nat → Nat} {Wn Hn k d n : Nat} (h : nbr Wn Hn k d = some n) : pitD v Wn Hn k (d + 1) = (pitD v Wn Hn k d && geB (v n) (v k)) := by simp [pitD, h]
theorem low_none {v : Nat → Nat} {Wn Hn k d : Nat} (h : nbr Wn Hn k d = none) : lowD v Wn Hn k (d + 1) = lowD v Wn Hn k d := by simp [lowD, h]
theorem low_some {v : Nat → Nat} {Wn Hn k d n : Nat} (h : nbr Wn Hn k d = some n) : lowD v Wn Hn k (d + 1) = if lt (v n) (v k) = true then true else lowD v Wn Hn k d := by simp [lowD, h]
theorem pit_low {v : Nat → Nat} {Wn Hn k : Nat} (hv : ∀ j, j < Wn * Hn → NN (v j)) (hk : k < Wn * Hn) : ∀ d, pitD v Wn Hn k d = !lowD v Wn Hn k d
  | 0 => rfl
  | d + 1 => by
    have ih := pit_low hv hk d
    cases hn : nbr Wn Hn k d with
    | none => rw [pit_none hn, low_none hn, ih]
    | some n =>
      rw [pit_some hn, low_some hn, ih, ge_lt (hv n (nbr_lt hn)) (hv k hk)]
      cases lt (v n) (v k) <;> cases lowD v Wn Hn k d <;> rfl
/-- the ground behind the first cells -/
def brcV (s : Nat) (tr : Nat → List Nat) (Wn Hn : Nat) (v : Nat → Nat) : Nat → (Nat → Nat)
  | 0 => v
  | k + 1 => if lowD (brcV s tr Wn Hn v k) Wn Hn k 8 = true then brcV s tr Wn Hn v k else cutV s (tr k) (brcV s tr Wn Hn v k k) (brcV s tr Wn Hn v k)
theorem cut_nn {s N : Nat} (hs : Fin s) : ∀ (t : List Nat) (h : Nat) (v : Nat → Nat), NN h → (∀ j, j < N → NN (v j)) → ∀ j, j < N → NN (cutV s t h v j)
  | [], _, _, _, hv, j, hj => hv j hj
  | c :: t, h, v, hh, hv, j, hj => by
    unfold cutV
    split
    · exact hv j hj
    · have h1 := (sub_nn hh hs).2
      refine cut_nn hs t _ _ h1 (fun j hj => ?_) j hj
      by_cases e : j = c
      · subst e
        rw [updF_same]
        exact h1
      · rw [updF_ne _ _ e]
        exact hv j hj
theorem brc_nn {s N Wn Hn : Nat} {tr : Nat → List Nat} {v : Nat → Nat} (hs : Fin s) (hv : ∀ j, j < N → NN (v j)) : ∀ k, k ≤ N → ∀ j, j < N → NN (brcV s tr Wn Hn v k j)
  | 0, _, j, hj => hv j hj
  | k + 1, hk, j, hj => by
    have ih := brc_nn (tr := tr) (Wn := Wn) (Hn := Hn) hs hv k (by omega)
    unfold brcV
    split
    · exact ih j hj
    · exact cut_nn hs _ _ _ (ih k (by omega)) ih j hj
end Go.Proofs.Ytinohfgokpbcdaa
namespace Go.Proofs.Ytinohfgokpbcdaa
open Go.RowKit
attribute [local go_sem ↓] Go.wp_at_zero Go.wp_at_succ
attribute [local go_sem] run_store_float

/-- directions in memory: the first N cells of a slice -/
def DirsAt (w : World) (A : Option Addr) (N : Nat) (D : Nat → Int) : Prop := Rd w A (intL ((List.range N).map D))
theorem DirsAt.ext {w w' : World} {A : Option Addr} {N : Nat} {D : Nat → Int} (h : DirsAt w A N D) (hx : Ext w w') : DirsAt w' A N D := Rd.ext h hx
theorem DirsAt.cell {w : World} {A : Option Addr} {N k : Nat} {D : Nat → Int} (h : DirsAt w A N D) (hk : k < N) : ∃ ad, A = some ad ∧ ad.block < w.heap.size ∧ w.cell? (ad.add k) = some (.int .i64 (D k)) := by
  obtain ⟨ad, e, hb, hc⟩ := Rd.at h (k := k) (by simpa [intL] using hk)
  exact ⟨ad, e, hb, hc k _ (by simp [intL, hk])⟩
theorem DirsAt.of_bk {w : World} {g N : Nat} {D : Nat → Int} (h : Bk w g 3 (intB N D)) : DirsAt w (some ⟨g, 0, none⟩) N D := by
  have h1 := Rd.new_bk h
  rwa [intB_list] at h1
set_option maxRecDepth 100000 in
set_option maxHeartbeats 1600000 in
theorem next_any (X Y : Int) (Wn Hn N k c : Nat) (A : Option Addr) (D : Nat → Int) (w : World) (hr : Reg X Y Wn Hn) (hN : N = Wn * Hn) (hD : DirsAt w A N D) (hk : k < N) (h0 : -1 ≤ D k) (h8 : D k < 8) (hin : 0 ≤ D k → ∃ n, nbr Wn Hn k (D k).toNat = some n) :
    Calls Try.prog 107 #[rgv X Y Wn Hn, .slice A N c, .int .i64 k] w fun e w' => e = .returned (.int .i64 (nbI (nxtD D Wn Hn k))) ∧ Ext w w' := by
  have HB := fun (d : Nat) (w : World) (hd : d < 8) => hidA (beside_any X Y Wn Hn k d w hr (by rw [← hN]; exact hk) hd)
  obtain ⟨ad, rfl, hb, hc⟩ := hD.cell hk
  have hN6 : N ≤ 65536 := by rw [hN]; exact hr.n
  unfold rgv at HB ⊢
  have i0 : (0 : Int) ≤ k := by omega
  have i1 : (k : Int) < N := by omega
  clear hr hN hD
  unfold nxtD
  by_cases hd : D k < 0
  · have e : D k = -1 := by omega
    rw [if_pos hd]
    rw [e] at hc
    have hc0 : (w.alloc (.cells #[.int .i64 X, .int .i64 Y, .int .i64 (Wn : Int), .int .i64 (Hn : Int)] 23)).cell? (ad.add k) = some (.int .i64 (-1)) := by
      rw [(Ext.alloc (Ext.refl w) _).cell _ (by rw [add_block]; exact hb)]
      exact hc
    clear e hd hin h0 h8 hc
    go_enter Try.func107, Try.ntmps107
    go_wp2_with fail
    go_ret
    exact ⟨rfl, (by repeat (first | exact Ext.refl _ | assumption | refine Ext.setCell ?_ (by first | (simp; done) | (simp; omega)) _ | refine Ext.drewN ?_ _ | refine Ext.alloc ?_ _ | refine Ext.drew ?_ | refine Ext.trans ?_ (by assumption)))⟩
  · rw [if_neg hd]
    obtain ⟨n, hn⟩ := hin (by omega)
    have HBd := fun (w : World) => HB (D k).toNat w (by omega)
    rw [hn] at HBd ⊢
    have e : (((D k).toNat : Nat) : Int) = D k := Int.toNat_of_nonneg (by omega)
    rw [e] at HBd
    have hne : (D k == -1) = false := by simp; omega
    generalize D k = z at *
    clear HB hin h0 h8 hd e hn
    have c0 : ∀ w', Ext (w.alloc (.cells #[.int .i64 X, .int .i64 Y, .int .i64 (Wn : Int), .int .i64 (Hn : Int)] 23)) w' → w'.cell? (ad.add k) = some (.int .i64 z) := fun w' h => by
      rw [(((Ext.refl w).alloc _).trans h).cell _ (by rw [add_block]; exact hb)]
      exact hc
    have kR : Bk (w.alloc (.cells #[.int .i64 X, .int .i64 Y, .int .i64 (Wn : Int), .int .i64 (Hn : Int)] 23)) w.heap.size 23 #[.int .i64 X, .int .i64 Y, .int .i64 (Wn : Int), .int .i64 (Hn : Int)] := Bk.new' rfl
    have hx0 : Ext w (w.alloc (.cells #[.int .i64 X, .int .i64 Y, .int .i64 (Wn : Int), .int .i64 (Hn : Int)] 23)) := (Ext.refl w).alloc _
    have c0' := c0 _ (Ext.refl _)
    go_enter Try.func107, Try.ntmps107
    go_upto_region 3 with fail
    clear c0'
    generalize w.alloc (.cells #[.int .i64 X, .int .i64 Y, .int .i64 (Wn : Int), .int .i64 (Hn : Int)] 23) = w1 at *
    generalize w.heap.size = h0 at *
    have e0 : ∀ w', Ext w1 w' → w'.cell? ⟨h0, 0, none⟩ = some (.int .i64 X) := fun w' h => (kR.ext h).cell 0
    have e1 : ∀ w', Ext w1 w' → w'.cell? ⟨h0, 1, none⟩ = some (.int .i64 Y) := fun w' h => (kR.ext h).cell 1
    have e2 : ∀ w', Ext w1 w' → w'.cell? ⟨h0, 2, none⟩ = some (.int .i64 (Wn : Int)) := fun w' h => (kR.ext h).cell 2
    have e3 : ∀ w', Ext w1 w' → w'.cell? ⟨h0, 3, none⟩ = some (.int .i64 (Hn : Int)) := fun w' h => (kR.ext h).cell 3
    clear kR hc hb
    refine wp_region_noPanic ?_
    refine wp_region_held_drew (S := fun w' => Ext w1 w') (by kernel_rfl) ?_ (fun hHeld => ?_)
    · (repeat (first | exact Ext.refl _ | assumption | refine Ext.setCell ?_ (by first | (simp; done) | (simp; omega)) _ | refine Ext.drewN ?_ _ | refine Ext.alloc ?_ _ | refine Ext.drew ?_ | refine Ext.trans ?_ (by assumption)))
    refine wpAnyH_take (i := 0) (oi := ?o1x0) (v := ?v1x0) ?hi1x0 (by kernel_rfl) ?hf1x0 ?hr1x0 (fun _ _ _ h => h) ?hy1x0 (by assumption) ?rest1x0
    case hi1x0 => (simp only [List.getElem?_toArray, List.getElem?_cons_zero]; exact rfl)
    case hf1x0 => kernel_rfl
    case hr1x0 => kernel_rfl
    case hy1x0 => (refine Or.inl ⟨by rfl, ?_⟩; intro w hSw; (try dsimp only at hSw); go_simp; try with_reducible rfl)
    simp only [put_mk, List.set_cons_succ, List.set_cons_zero]
    refine wpAnyH_take (i := 1) (oi := ?o1x1) (v := ?v1x1) ?hi1x1 (by kernel_rfl) ?hf1x1 ?hr1x1 (fun _ _ _ h => h) ?hy1x1 (by assumption) ?rest1x1
    case hi1x1 => (simp only [List.getElem?_toArray, List.getElem?_cons_succ, List.getElem?_cons_zero]; exact rfl)
    case hf1x1 => kernel_rfl
    case hr1x1 => kernel_rfl
    case hy1x1 => (refine Or.inl ⟨by rfl, ?_⟩; intro w hSw; (try dsimp only at hSw); go_simp; try with_reducible rfl)
    simp only [put_mk, List.set_cons_succ, List.set_cons_zero]
    refine wpAnyH_take (i := 2) (oi := ?o1x2) (v := ?v1x2) ?hi1x2 (by kernel_rfl) ?hf1x2 ?hr1x2 (fun _ _ _ h => h) ?hy1x2 (by assumption) ?rest1x2
    case hi1x2 => (simp only [List.getElem?_toArray, List.getElem?_cons_succ, List.getElem?_cons_zero]; exact rfl)
    case hf1x2 => kernel_rfl
    case hr1x2 => kernel_rfl
    case hy1x2 => (refine Or.inl ⟨by rfl, ?_⟩; intro w hSw; (try dsimp only at hSw); go_simp; try with_reducible rfl)
    simp only [put_mk, List.set_cons_succ, List.set_cons_zero]
    refine wpAnyH_take (i := 3) (oi := ?o1x3) (v := ?v1x3) ?hi1x3 (by kernel_rfl) ?hf1x3 ?hr1x3 (fun _ _ _ h => h) ?hy1x3 (by assumption) ?rest1x3
    case hi1x3 => (simp only [List.getElem?_toArray, List.getElem?_cons_succ, List.getElem?_cons_zero]; exact rfl)
    case hf1x3 => kernel_rfl
    case hr1x3 => kernel_rfl
    case hy1x3 => (refine Or.inl ⟨by rfl, ?_⟩; intro w hSw; (try dsimp only at hSw); go_simp; try with_reducible rfl)
    simp only [put_mk, List.set_cons_succ, List.set_cons_zero]
    refine wpAnyH_take (i := 4) (oi := ?o1x4) (v := ?v1x4) ?hi1x4 (by kernel_rfl) ?hf1x4 ?hr1x4 (fun _ _ _ h => h) ?hy1x4 (by assumption) ?rest1x4
    case hi1x4 => (simp only [List.getElem?_toArray, List.getElem?_cons_succ, List.getElem?_cons_zero]; exact rfl)
    case hf1x4 => kernel_rfl
    case hr1x4 => kernel_rfl
    case hy1x4 => (refine Or.inl ⟨by rfl, ?_⟩; intro w hSw; (try dsimp only at hSw); go_simp; try with_reducible rfl)
    simp only [put_mk, List.set_cons_succ, List.set_cons_zero]
    refine wpAnyH_take (i := 5) (oi := ?o1x5) (v := ?v1x5) ?hi1x5 (by kernel_rfl) ?hf1x5 ?hr1x5 (fun _ _ _ h => h) ?hy1x5 (by assumption) ?rest1x5
    case hi1x5 => (simp only [List.getElem?_toArray, List.getElem?_cons_succ, List.getElem?_cons_zero]; exact rfl)
    case hf1x5 => kernel_rfl
    case hr1x5 => kernel_rfl
    case hy1x5 => (refine Or.inl ⟨by rfl, ?_⟩; intro w hSw; (try dsimp only at hSw); go_simp; try with_reducible rfl)
    simp only [put_mk, List.set_cons_succ, List.set_cons_zero]
    refine wpAnyH_ready (rs := [6]) (by kernel_rfl) (by simp) ?_
    refine AllReadyH.cons (o := ?o1x6) ?hi1x6 (fun K hK => ?_) AllReadyH.nil
    case hi1x6 => (simp only [List.getElem?_toArray, List.getElem?_cons_succ, List.getElem?_cons_zero]; exact rfl)
    go_simp
    refine ((HBd _).out).mono ?_
    rintro e w2 ⟨rfl, hx2⟩
    unfold nbV
    refine hK.out _ _ ?_ (fun hHeld => ?_)
    · (repeat (first | exact Ext.refl _ | assumption | refine Ext.setCell ?_ (by first | (simp; done) | (simp; omega)) _ | refine Ext.drewN ?_ _ | refine Ext.alloc ?_ _ | refine Ext.drew ?_ | refine Ext.trans ?_ (by assumption)))
    clear hK K
    refine wpAnyH_take (i := 7) (oi := ?o1x7) (v := ?v1x7) ?hi1x7 (by kernel_rfl) ?hf1x7 ?hr1x7 (fun _ _ _ h => h) ?hy1x7 (by assumption) ?rest1x7
    case hi1x7 => (simp only [List.getElem?_toArray, List.getElem?_cons_succ, List.getElem?_cons_zero]; exact rfl)
    case hf1x7 => kernel_rfl
    case hr1x7 => kernel_rfl
    case hy1x7 => (refine Or.inl ⟨by rfl, ?_⟩; intro w hSw; (try dsimp only at hSw); go_simp; try with_reducible rfl)
    simp only [put_mk, List.set_cons_succ, List.set_cons_zero]
    refine wpAnyH_take (i := 8) (oi := ?o1x8) (v := ?v1x8) ?hi1x8 (by kernel_rfl) ?hf1x8 ?hr1x8 (fun _ _ _ h => h) ?hy1x8 (by assumption) ?rest1x8
    case hi1x8 => (simp only [List.getElem?_toArray, List.getElem?_cons_succ, List.getElem?_cons_zero]; exact rfl)
    case hf1x8 => kernel_rfl
    case hr1x8 => kernel_rfl
    case hy1x8 => (refine Or.inl ⟨by rfl, ?_⟩; intro w hSw; (try dsimp only at hSw); go_simp; try with_reducible rfl)
    simp only [put_mk, List.set_cons_succ, List.set_cons_zero]
    refine wpAnyH_take (i := 9) (oi := ?o1x9) (v := ?v1x9) ?hi1x9 (by kernel_rfl) ?hf1x9 ?hr1x9 (fun _ _ _ h => h) ?hy1x9 (by assumption) ?rest1x9
    case hi1x9 => (simp only [List.getElem?_toArray, List.getElem?_cons_succ, List.getElem?_cons_zero]; exact rfl)
    case hf1x9 => kernel_rfl
    case hr1x9 => kernel_rfl
    case hy1x9 => (refine Or.inl ⟨by rfl, ?_⟩; intro w hSw; (try dsimp only at hSw); go_simp; try with_reducible rfl)
    simp only [put_mk, List.set_cons_succ, List.set_cons_zero]
    refine wpAnyH_take (i := 10) (oi := ?o1x10) (v := ?v1x10) ?hi1x10 (by kernel_rfl) ?hf1x10 ?hr1x10 (fun _ _ _ h => h) ?hy1x10 (by assumption) ?rest1x10
    case hi1x10 => (simp only [List.getElem?_toArray, List.getElem?_cons_succ, List.getElem?_cons_zero]; exact rfl)
    case hf1x10 => kernel_rfl
    case hr1x10 => kernel_rfl
    case hy1x10 => (refine Or.inl ⟨by rfl, ?_⟩; intro w hSw; (try dsimp only at hSw); go_simp; try with_reducible rfl)
    simp only [put_mk, List.set_cons_succ, List.set_cons_zero]
    refine wpAnyH_take (i := 11) (oi := ?o1x11) (v := ?v1x11) ?hi1x11 (by kernel_rfl) ?hf1x11 ?hr1x11 (fun _ _ _ h => h) ?hy1x11 (by assumption) ?rest1x11
    case hi1x11 => (simp only [List.getElem?_toArray, List.getElem?_cons_succ, List.getElem?_cons_zero]; exact rfl)
    case hf1x11 => kernel_rfl
    case hr1x11 => kernel_rfl
    case hy1x11 => (refine Or.inl ⟨by rfl, ?_⟩; intro w hSw; (try dsimp only at hSw); go_simp; try with_reducible rfl)
    simp only [put_mk, List.set_cons_succ, List.set_cons_zero]
    refine wpAnyH_done (by kernel_rfl) ?_ _
    refine NoPanic.normal ?_
    go_wp2_with fail
    go_ret
    exact ⟨rfl, (by repeat (first | exact Ext.refl _ | assumption | refine Ext.setCell ?_ (by first | (simp; done) | (simp; omega)) _ | refine Ext.drewN ?_ _ | refine Ext.alloc ?_ _ | refine Ext.drew ?_ | refine Ext.trans ?_ (by assumption)))⟩

/-- what lies apart from the block g is kept -/
def Kept (g : Nat) (w w' : World) : Prop := w.heap.size ≤ w'.heap.size ∧ ∀ b t cs, b ≠ g → Bk w b t cs → Bk w' b t cs
theorem Kept.refl (g : Nat) (w : World) : Kept g w w := ⟨Nat.le_refl _, fun _ _ _ _ h => h⟩
theorem Kept.ext {g : Nat} {w w1 w2 : World} (h : Kept g w w1) (hx : Ext w1 w2) : Kept g w w2 := ⟨Nat.le_trans h.1 hx.size, fun b t cs hb hB => (h.2 b t cs hb hB).ext hx⟩
theorem Kept.set {g : Nat} {w w1 : World} (h : Kept g w w1) (i : Nat) (v : Value) : Kept g w (w1.setCell ⟨g, i, none⟩ v) := ⟨by simpa using h.1, fun b t cs hb hB => (h.2 b t cs hb hB).far hb _⟩
/-- the first N cells of a block of singles of cp cells -/
def CF (w : World) (g cp N : Nat) (v : Nat → Nat) : Prop := ∃ cur, Cl w g cp cur N v
theorem CF.ext {w w' : World} {g cp N : Nat} {v : Nat → Nat} (h : CF w g cp N v) (hx : Ext w w') : CF w' g cp N v := let ⟨_, h⟩ := h; ⟨_, h.ext hx⟩
theorem CF.far {w : World} {g cp N : Nat} {v : Nat → Nat} (h : CF w g cp N v) {p : Addr} (hp : g ≠ p.block) (u : Value) : CF (w.setCell p u) g cp N v := let ⟨_, h⟩ := h; ⟨_, h.far hp u⟩
theorem CF.put {w : World} {g cp N : Nat} {v : Nat → Nat} (h : CF w g cp N v) (k x : Nat) : CF (w.setCell ⟨g, k, none⟩ (.float .f32 x)) g cp N (updF v k x) := let ⟨_, h⟩ := h; ⟨_, h.put k x⟩
theorem CF.cell {w : World} {g cp N k : Nat} {v : Nat → Nat} (h : CF w g cp N v) (hk : k < N) : w.cell? ⟨g, k, none⟩ = some (.float .f32 (v k)) := let ⟨_, h⟩ := h; h.cell hk
theorem CF.frozen {w : World} {g cp N : Nat} {v : Nat → Nat} (h : CF w g cp N v) (k : Nat) : w.frozen? ⟨g, k, none⟩ = false := let ⟨_, h⟩ := h; h.b.frozen k
theorem CF.lt {w : World} {g cp N : Nat} {v : Nat → Nat} (h : CF w g cp N v) : g < w.heap.size := let ⟨_, h⟩ := h; h.b.lt
theorem CF.ne {w : World} {g cp N b : Nat} {v : Nat → Nat} {t : TypeId} {cs : Array Value} (h : CF w g cp N v) (hb : Bk w b t cs) (ht : t ≠ 27) : b ≠ g := let ⟨_, h⟩ := h; Bk.ne hb h.b ht
theorem CF.kept {w w' : World} {g q cp N : Nat} {v : Nat → Nat} (h : CF w g cp N v) (hk : Kept q w w') (hg : g ≠ q) : CF w' g cp N v := let ⟨_, h⟩ := h; ⟨_, hk.2 _ _ _ hg h.b, h.n, h.s, h.c⟩
set_option maxRecDepth 100000 in
set_option maxHeartbeats 3200000 in
theorem cut_any (X Y : Int) (Wn Hn N k c s gv cp : Nat) (A : Option Addr) (D : Nat → Int) (m : Nat → Nat) (v : Nat → Nat) (t : List Nat) (W0 w : World) (hr : Reg X Y Wn Hn) (hN : N = Wn * Hn) (hD : DirsAt W0 A N D) (hL : Lead Wn Hn N D m) (hk : k < N) (hs : Fin s)
    (hx : Ext W0 w) (hg : W0.heap.size ≤ gv) (hv : CF w gv cp N v) (hn : ∀ j, j < N → NN (v j)) (ht : IsTr D Wn Hn k t) :
    Calls Try.prog 133 #[.agg #[.int .i64 X, .int .i64 Y, .int .i64 (Wn : Int), .int .i64 (Hn : Int), .slice (some ⟨gv, 0, none⟩) N cp], .slice A N c, .int .i64 k, .float .f32 s] w fun e w' => e = .returned (.tuple #[]) ∧ CF w' gv cp N (cutV s t (v k) v) ∧ Kept gv w w' ∧ Ext W0 w' := by
  have hN6 : N ≤ 65536 := by rw [hN]; exact hr.n
  have HNx := hidA (fun (k : Nat) (w : World) (hk : k < N) (h : Ext W0 w) => next_any X Y Wn Hn N k c A D w hr hN (hD.ext h) hk (hL.rng k hk).1 (hL.rng k hk).2 (fun h0 => by obtain ⟨n, h1, _⟩ := hL.step k hk h0; exact ⟨n, h1⟩))
  unfold rgv at HNx
  have HN := hidA hN
  have Hs := hidA hs
  have Hnn := hidA (hn k hk)
  have Ht := hidA ht
  have i0 : (0 : Int) ≤ k := by omega
  have i1 : (k : Int) < N := by omega
  have hne : w.heap.size ≠ gv := by have := hv.lt; omega
  have kF : Bk (w.alloc (.cells #[.int .i64 X, .int .i64 Y, .int .i64 (Wn : Int), .int .i64 (Hn : Int), .slice (some ⟨gv, 0, none⟩) N cp] 26)) w.heap.size 26 #[.int .i64 X, .int .i64 Y, .int .i64 (Wn : Int), .int .i64 (Hn : Int), .slice (some ⟨gv, 0, none⟩) N cp] := Bk.new' rfl
  have kV := hv.ext ((Ext.refl w).alloc (.cells #[.int .i64 X, .int .i64 Y, .int .i64 (Wn : Int), .int .i64 (Hn : Int), .slice (some ⟨gv, 0, none⟩) N cp] 26))
  have hx1 : Ext W0 (w.alloc (.cells #[.int .i64 X, .int .i64 Y, .int .i64 (Wn : Int), .int .i64 (Hn : Int), .slice (some ⟨gv, 0, none⟩) N cp] 26)) := hx.alloc _
  have hK1 : Kept gv w (w.alloc (.cells #[.int .i64 X, .int .i64 Y, .int .i64 (Wn : Int), .int .i64 (Hn : Int), .slice (some ⟨gv, 0, none⟩) N cp] 26)) := (Kept.refl gv w).ext ((Ext.refl w).alloc _)
  clear hr hN hD hL hs hn ht hv hx
  go_enter Try.func133, Try.ntmps133
  go_upto_region 1 with fail
  generalize w.alloc (.cells #[.int .i64 X, .int .i64 Y, .int .i64 (Wn : Int), .int .i64 (Hn : Int), .slice (some ⟨gv, 0, none⟩) N cp] 26) = w1 at *
  generalize w.heap.size = hf at kF hne ⊢
  have c0 := kF.cell 0
  have c1 := kF.cell 1
  have c2 := kF.cell 2
  have c3 := kF.cell 3
  have c4 := kF.cell 4
  have v0 := kV.cell hk
  have HNk := fun (w : World) (h : Ext W0 w) => hidA (HNx.out k w hk h)
  go_upto_region 3 with (go_at_call 107; refine ((HNk _ (hx1.trans (by repeat (first | exact Ext.refl _ | assumption | refine Ext.setCell ?_ (by first | (simp; done) | (simp; omega)) _ | refine Ext.drewN ?_ _ | refine Ext.alloc ?_ _ | refine Ext.drew ?_ | refine Ext.trans ?_ (by assumption))))).out).mono ?_; rintro e w2 ⟨rfl, hx2⟩)
  have kF2 := kF.ext hx2
  have kV2 := kV.ext hx2
  have hK2 := hK1.ext hx2
  have hw2 := hx1.trans hx2
  clear c0 c1 c2 c3 c4 v0 HNk kF kV hK1 hx1 hx2 i0 i1
  go_loopg [8, 9] t.length (fun gk s8 s9 wr => ∃ (p h : Nat) (t' : List Nat) (u : Nat → Nat), p < N ∧ s8 = .float .f32 h ∧ s9 = .int .i64 (nbI (nxtD D Wn Hn p)) ∧ IsTr D Wn Hn p t' ∧ NN h ∧ cutV s t (v k) v = cutV s t' h u ∧ Bk wr hf 26 #[.int .i64 X, .int .i64 Y, .int .i64 (Wn : Int), .int .i64 (Hn : Int), .slice (some ⟨gv, 0, none⟩) N cp] ∧ CF wr gv cp N u ∧ Kept gv w wr ∧ Ext W0 wr ∧ t'.length ≤ gk)
  case atStart => exact ⟨k, v k, t, v, hk, rfl, rfl, Ht.out, Hnn.out, rfl, kF2, kV2, hK2, hw2, Nat.le_refl _⟩
  case round =>
    clear kF2 kV2 hK2 hw2
    obtain ⟨p, h, t', u, hp, rfl, rfl, htr, hh, hcut, kF, kV, hK, hW, hgk⟩ := hrel
    have Hcut := hidA hcut
    have Hgk := hidA hgk
    clear hcut hgk
    cases t' with
    | nil =>
      have hn : nxtD D Wn Hn p = none := htr
      rw [hn, show nbI none = -1 from rfl]
      have Htr := hidA htr
      have HkV := hidA (show CF wr gv cp N (cutV s t (v k) v) from by rw [Hcut.out]; exact kV)
      clear hn htr hh kF kV
      go_wp2_with fail
      refine bodyPost_end (results_none Try.results133 _ _ _) rfl ?_
      exact ⟨rfl, HkV.out, hK, hW⟩
    | cons q t2 =>
      have hn := htr.1
      have Htr := hidA htr.2
      rw [hn, show nbI (some q) = (q : Int) from rfl]
      have hq : q < N := by rw [HN.out]; exact nxt_lt hn
      have j0 : (0 : Int) ≤ q := by omega
      have j1 : (q : Int) < N := by omega
      have jne : ((q : Int) != -1) = true := by simp
      obtain ⟨hsub, hxn⟩ := sub_nn hh Hs.out
      have HNq := fun (w : World) (h : Ext W0 w) => hidA (HNx.out q w hq h)
      have hle : (FloatKind.f32.format.order (u q) (fsub h s) == some .lt || FloatKind.f32.format.order (u q) (fsub h s) == some .eq) = leB (u q) (fsub h s) := rfl
      have Hcc := hidA (show cutV s (q :: t2) h u = if leB (u q) (fsub h s) = true then u else cutV s t2 (fsub h s) (updF u q (fsub h s)) from rfl)
      have c4 : wr.cell? ⟨hf, 4, none⟩ = some (.slice (some ⟨gv, 0, none⟩) N cp) := kF.cell 4
      have v0 := kV.cell hq
      have g1 := kV.frozen q
      have Hxn := hidA hxn
      clear hn htr hh hxn
      have q1 := fun (w : World) => run_float_arith (P := Try.prog) w .sub 27 .f32 _ _ _ hsub
      clear hsub
      generalize fsub h s = x at *
      cases hb : leB (u q) x with
      | true =>
        rw [hb] at hle
        rw [hb, if_pos rfl] at Hcc
        have HkV := hidA (show CF wr gv cp N (cutV s t (v k) v) from by rw [Hcut.out, Hcc.out]; exact kV)
        clear hb kV
        generalize u q = y at *
        go_wp2_with fail
        refine bodyPost_ret (v := .tuple #[]) (results_none Try.results133 _ _ _) rfl ?_
        exact ⟨rfl, HkV.out, hK, hW⟩
      | false =>
        rw [hb] at hle
        rw [hb, if_neg (by decide)] at Hcc
        have e1 := kV.put q x
        have kF1 := kF.far (p := ⟨gv, q, none⟩) hne (.float .f32 x)
        have hK1 := hK.set q (.float .f32 x)
        have hW1 := hW.setCell (p := ⟨gv, q, none⟩) hg (.float .f32 x)
        have HE1 := hidA e1
        have HKK := hidA hK1
        have HWW := hidA hW1
        clear hb kV hK1 hW1 hW hK e1
        generalize u q = y at *
        have KF1 := hidA kF1
        clear kF1 kF
        go_upto_region 4 with fail
        have kF1 := KF1.out
        have z0 := kF1.cell 0
        have z1 := kF1.cell 1
        have z2 := kF1.cell 2
        have z3 := kF1.cell 3
        generalize wr.setCell ⟨gv, q, none⟩ (.float .f32 x) = w5 at *
        clear c4 v0 g1
        go_wp2_with (go_at_call 107; refine ((HNq _ (HWW.out.trans (by repeat (first | exact Ext.refl _ | assumption | refine Ext.setCell ?_ (by first | (simp; done) | (simp; omega)) _ | refine Ext.drewN ?_ _ | refine Ext.alloc ?_ _ | refine Ext.drew ?_ | refine Ext.trans ?_ (by assumption))))).out).mono ?_; rintro e w6 ⟨rfl, hx6⟩)
        go_roundg t2.length
        case measure => have := Hgk.out; simp only [List.length_cons] at this; omega
        case rel => exact ⟨q, x, t2, _, hq, rfl, rfl, Htr.out, Hxn.out, by rw [Hcut.out, Hcc.out], kF1.ext hx6, HE1.out.ext hx6, HKK.out.ext hx6, HWW.out.trans hx6, Nat.le_refl _⟩
end Go.Proofs.Ytinohfgokpbcdaa
namespace Go.Proofs.Ytinohfgokpbcdaa
open Go.RowKit
attribute [local go_sem ↓] Go.wp_at_zero Go.wp_at_succ
attribute [local go_sem] run_store_float

/-- a block of one cell, as a slice -/
theorem Qs.one (w : World) (base : Nat) (e : TypeId) (v : Value) (hb : base ≤ w.heap.size) : Qs (w.alloc (.cells #[v] e)) base e (some ⟨w.heap.size, 0, none⟩) 1 1 [v] :=
  ⟨rfl, Nat.le_refl _, by unfold maxLen; omega, .inr ⟨_, 0, _, rfl, hb, heap_alloc_new w _, by simp, fun j u hu => by
    cases j with
    | zero => simpa using hu
    | succ j => simp at hu⟩⟩
theorem Qs.ext {w w' : World} {base : Nat} {e : TypeId} {A : Option Addr} {n cap : Nat} {xs : List Value} (h : Qs w base e A n cap xs) (hx : Ext w w') : Qs w' base e A n cap xs := h.kept fun _ _ hl => hx.block _ hl
set_option maxRecDepth 100000 in
set_option maxHeartbeats 3200000 in
theorem Trail_any (X Y : Int) (Wn Hn N k c : Nat) (A : Option Addr) (D : Nat → Int) (m : Nat → Nat) (t : List Nat) (w : World) (hr : Reg X Y Wn Hn) (hN : N = Wn * Hn) (hD : DirsAt w A N D) (hL : Lead Wn Hn N D m) (hk : k < N) (ht : IsTr D Wn Hn k t) (hl : t.length ≤ N) :
    Calls Try.prog 53 #[rgv X Y Wn Hn, .slice A N c, .int .i64 k] w fun e w' => ∃ Q cap, e = .returned (.slice (some Q) (t.length + 1) cap) ∧ Qs w' w.heap.size 3 (some Q) (t.length + 1) cap (inq (k :: t)) ∧ Ext w w' := by
  have HNb := hidA (fun (k d : Nat) (w : World) (hk : k < N) (hd : d < 8) => nb_any X Y Wn Hn k d w hr (by rw [← hN]; exact hk) hd)
  have hN6 : N ≤ 65536 := by rw [hN]; exact hr.n
  unfold rgv at HNb ⊢
  have HL := hidA hL
  have HN := hidA hN
  have Hl := hidA hl
  have Ht := hidA ht
  have HD := hidA hD
  obtain ⟨i0, hi0, hz0, hz1, hz2⟩ := info_parts infoIntW
  clear hr hN hD hL hl ht
  have hQ : Qs ((w.alloc (.cells #[.int .i64 X, .int .i64 Y, .int .i64 (Wn : Int), .int .i64 (Hn : Int)] 23)).alloc (.cells #[.int .i64 (k : Int)] 3)) w.heap.size 3 (some ⟨w.heap.size + 1, 0, none⟩) 1 1 (inq [k]) := by
    have h := Qs.one (w.alloc (.cells #[.int .i64 X, .int .i64 Y, .int .i64 (Wn : Int), .int .i64 (Hn : Int)] 23)) w.heap.size 3 (.int .i64 (k : Int)) (by simp)
    rwa [show (w.alloc (.cells #[.int .i64 X, .int .i64 Y, .int .i64 (Wn : Int), .int .i64 (Hn : Int)] 23)).heap.size = w.heap.size + 1 by simp] at h
  have kR : Bk ((w.alloc (.cells #[.int .i64 X, .int .i64 Y, .int .i64 (Wn : Int), .int .i64 (Hn : Int)] 23)).alloc (.cells #[.int .i64 (k : Int)] 3)) w.heap.size 23 #[.int .i64 X, .int .i64 Y, .int .i64 (Wn : Int), .int .i64 (Hn : Int)] := (Bk.new' rfl).alloc _
  have hx1 : Ext w ((w.alloc (.cells #[.int .i64 X, .int .i64 Y, .int .i64 (Wn : Int), .int .i64 (Hn : Int)] 23)).alloc (.cells #[.int .i64 (k : Int)] 3)) := ((Ext.refl w).alloc _).alloc _
  go_enter Try.func53, Try.ntmps53
  go_upto_region 2 with fail
  generalize hw1 : (w.alloc (.cells #[.int .i64 X, .int .i64 Y, .int .i64 (Wn : Int), .int .i64 (Hn : Int)] 23)).alloc (.cells #[.int .i64 (k : Int)] 3) = w1 at *
  clear hw1
  have hs1 := hx1.size
  go_loopg [2, 7] t.length (fun gk s2 s7 wr => ∃ (p : Nat) (L t' : List Nat) (Q : Addr) (cap : Nat), p < N ∧ s2 = .int .i64 (p : Int) ∧ s7 = .slice (some Q) L.length cap ∧ Qs wr w.heap.size 3 (some Q) L.length cap (inq L) ∧ IsTr D Wn Hn p t' ∧ k :: t = L ++ t' ∧ Bk wr w.heap.size 23 #[.int .i64 X, .int .i64 Y, .int .i64 (Wn : Int), .int .i64 (Hn : Int)] ∧ Ext w wr ∧ t'.length ≤ gk)
  case atStart => exact ⟨k, [k], t, _, _, hk, rfl, rfl, hQ, Ht.out, rfl, kR, hx1, Nat.le_refl _⟩
  case round =>
    clear hQ kR hx1 hs1
    obtain ⟨p, L, t', Q, cap, hp, rfl, rfl, hQ, htr, hkt, kR, hx, hgk⟩ := hrel
    obtain ⟨ad, rfl, hb, hc⟩ := HD.out.cell hp
    have j0 : (0 : Int) ≤ p := by omega
    have j1 : (p : Int) < N := by omega
    have hcx : ∀ w', Ext wr w' → w'.cell? (ad.add p) = some (.int .i64 (D p)) := fun w' h => by
      rw [(hx.trans h).cell _ (by rw [add_block]; exact hb)]
      exact hc
    have Hgk := hidA hgk
    have Hkt := hidA hkt
    clear hgk hkt hc hb
    cases t' with
    | nil =>
      have hn := HL.out.nxt_none hp htr
      have hcw := hcx wr (Ext.refl _)
      have eL : L = k :: t := by have := Hkt.out; rw [List.append_nil] at this; exact this.symm
      subst eL
      have HQ := hidA hQ
      have hge : ¬ (0 ≤ D p) := by omega
      clear hn htr hcx hQ
      generalize D p = z at *
      go_wp2_with fail
      go_ret
      exact ⟨Q, cap, by simp, by have := HQ.out; simpa using this, hx⟩
    | cons q t2 =>
      have hn := htr.1
      have hq : q < N := by rw [HN.out]; exact nxt_lt hn
      have Htr := hidA htr.2
      have h0 : 0 ≤ D p := by
        by_cases h : D p < 0
        · unfold nxtD at hn
          rw [if_pos h] at hn
          cases hn
        · omega
      have hnb : nbr Wn Hn p (D p).toNat = some q := by
        unfold nxtD at hn
        rw [if_neg (by omega)] at hn
        exact hn
      have HNq := fun (w : World) => HNb.out p (D p).toNat w hp (by have := (HL.out.rng p hp).2; omega)
      rw [hnb, show nbI (some q) = (q : Int) from rfl, Int.toNat_of_nonneg h0] at HNq
      clear hn htr hnb
      have hcw := hcx wr (Ext.refl _)
      generalize D p = z at *
      have HQ := hidA hQ
      have hlen : L.length + t2.length ≤ N := by have := Hl.out; have e := congrArg List.length Hkt.out; simp at e; omega
      clear hQ
      go_upto_region 3 with fail
      have e0 : ∀ w', Ext wr w' → w'.cell? ⟨w.heap.size, 0, none⟩ = some (.int .i64 X) := fun w' h => (kR.ext h).cell 0
      have e1 : ∀ w', Ext wr w' → w'.cell? ⟨w.heap.size, 1, none⟩ = some (.int .i64 Y) := fun w' h => (kR.ext h).cell 1
      have e2 : ∀ w', Ext wr w' → w'.cell? ⟨w.heap.size, 2, none⟩ = some (.int .i64 (Wn : Int)) := fun w' h => (kR.ext h).cell 2
      have e3 : ∀ w', Ext wr w' → w'.cell? ⟨w.heap.size, 3, none⟩ = some (.int .i64 (Hn : Int)) := fun w' h => (kR.ext h).cell 3
      clear hcw
      refine wp_region_noPanic ?_
      refine wp_region_held_drew (S := fun w' => Ext wr w') (by kernel_rfl) ?_ (fun hHeld => ?_)
      · (repeat (first | exact Ext.refl _ | assumption | refine Ext.setCell ?_ (by first | (simp; done) | (simp; omega)) _ | refine Ext.drewN ?_ _ | refine Ext.alloc ?_ _ | refine Ext.drew ?_ | refine Ext.trans ?_ (by assumption)))
      refine wpAnyH_take (i := 0) (oi := ?o1x0) (v := ?v1x0) ?hi1x0 (by kernel_rfl) ?hf1x0 ?hr1x0 (fun _ _ _ h => h) ?hy1x0 (by assumption) ?rest1x0
      case hi1x0 => (simp only [List.getElem?_toArray, List.getElem?_cons_zero]; exact rfl)
      case hf1x0 => kernel_rfl
      case hr1x0 => kernel_rfl
      case hy1x0 => (refine Or.inl ⟨by rfl, ?_⟩; intro w hSw; (try dsimp only at hSw); go_simp; try with_reducible rfl)
      simp only [put_mk, List.set_cons_succ, List.set_cons_zero]
      refine wpAnyH_take (i := 1) (oi := ?o1x1) (v := ?v1x1) ?hi1x1 (by kernel_rfl) ?hf1x1 ?hr1x1 (fun _ _ _ h => h) ?hy1x1 (by assumption) ?rest1x1
      case hi1x1 => (simp only [List.getElem?_toArray, List.getElem?_cons_succ, List.getElem?_cons_zero]; exact rfl)
      case hf1x1 => kernel_rfl
      case hr1x1 => kernel_rfl
      case hy1x1 => (refine Or.inl ⟨by rfl, ?_⟩; intro w hSw; (try dsimp only at hSw); go_simp; try with_reducible rfl)
      simp only [put_mk, List.set_cons_succ, List.set_cons_zero]
      refine wpAnyH_take (i := 2) (oi := ?o1x2) (v := ?v1x2) ?hi1x2 (by kernel_rfl) ?hf1x2 ?hr1x2 (fun _ _ _ h => h) ?hy1x2 (by assumption) ?rest1x2
      case hi1x2 => (simp only [List.getElem?_toArray, List.getElem?_cons_succ, List.getElem?_cons_zero]; exact rfl)
      case hf1x2 => kernel_rfl
      case hr1x2 => kernel_rfl
      case hy1x2 => (refine Or.inl ⟨by rfl, ?_⟩; intro w hSw; (try dsimp only at hSw); go_simp; try with_reducible rfl)
      simp only [put_mk, List.set_cons_succ, List.set_cons_zero]
      refine wpAnyH_take (i := 3) (oi := ?o1x3) (v := ?v1x3) ?hi1x3 (by kernel_rfl) ?hf1x3 ?hr1x3 (fun _ _ _ h => h) ?hy1x3 (by assumption) ?rest1x3
      case hi1x3 => (simp only [List.getElem?_toArray, List.getElem?_cons_succ, List.getElem?_cons_zero]; exact rfl)
      case hf1x3 => kernel_rfl
      case hr1x3 => kernel_rfl
      case hy1x3 => (refine Or.inl ⟨by rfl, ?_⟩; intro w hSw; (try dsimp only at hSw); go_simp; try with_reducible rfl)
      simp only [put_mk, List.set_cons_succ, List.set_cons_zero]
      refine wpAnyH_take (i := 4) (oi := ?o1x4) (v := ?v1x4) ?hi1x4 (by kernel_rfl) ?hf1x4 ?hr1x4 (fun _ _ _ h => h) ?hy1x4 (by assumption) ?rest1x4
      case hi1x4 => (simp only [List.getElem?_toArray, List.getElem?_cons_succ, List.getElem?_cons_zero]; exact rfl)
      case hf1x4 => kernel_rfl
      case hr1x4 => kernel_rfl
      case hy1x4 => (refine Or.inl ⟨by rfl, ?_⟩; intro w hSw; (try dsimp only at hSw); go_simp; try with_reducible rfl)
      simp only [put_mk, List.set_cons_succ, List.set_cons_zero]
      refine wpAnyH_take (i := 5) (oi := ?o1x5) (v := ?v1x5) ?hi1x5 (by kernel_rfl) ?hf1x5 ?hr1x5 (fun _ _ _ h => h) ?hy1x5 (by assumption) ?rest1x5
      case hi1x5 => (simp only [List.getElem?_toArray, List.getElem?_cons_succ, List.getElem?_cons_zero]; exact rfl)
      case hf1x5 => kernel_rfl
      case hr1x5 => kernel_rfl
      case hy1x5 => (refine Or.inl ⟨by rfl, ?_⟩; intro w hSw; (try dsimp only at hSw); go_simp; try with_reducible rfl)
      simp only [put_mk, List.set_cons_succ, List.set_cons_zero]
      refine wpAnyH_ready (rs := [6]) (by kernel_rfl) (by simp) ?_
      refine AllReadyH.cons (o := ?o1x6) ?hi1x6 (fun K hK => ?_) AllReadyH.nil
      case hi1x6 => (simp only [List.getElem?_toArray, List.getElem?_cons_succ, List.getElem?_cons_zero]; exact rfl)
      go_simp
      refine (HNq _).mono ?_
      rintro e w2 ⟨rfl, hx2⟩
      refine hK.out _ _ ?_ (fun hHeld => ?_)
      · (repeat (first | exact Ext.refl _ | assumption | refine Ext.setCell ?_ (by first | (simp; done) | (simp; omega)) _ | refine Ext.drewN ?_ _ | refine Ext.alloc ?_ _ | refine Ext.drew ?_ | refine Ext.trans ?_ (by assumption)))
      clear hK K
      refine wpAnyH_take (i := 7) (oi := ?o1x7) (v := ?v1x7) ?hi1x7 (by kernel_rfl) ?hf1x7 ?hr1x7 (fun _ _ _ h => h) ?hy1x7 (by assumption) ?rest1x7
      case hi1x7 => (simp only [List.getElem?_toArray, List.getElem?_cons_succ, List.getElem?_cons_zero]; exact rfl)
      case hf1x7 => kernel_rfl
      case hr1x7 => kernel_rfl
      case hy1x7 => (refine Or.inl ⟨by rfl, ?_⟩; intro w hSw; (try dsimp only at hSw); go_simp; try with_reducible rfl)
      simp only [put_mk, List.set_cons_succ, List.set_cons_zero]
      refine wpAnyH_done (by kernel_rfl) ?_ _
      refine NoPanic.normal ?_
      have hx2' : Ext wr w2 := (Ext.drew (Ext.refl wr)).trans hx2
      have kR2 := kR.ext hx2'
      have HQ2 := hidA ((HQ.out.ext hx2').ext ((Ext.refl w2).alloc (.cells #[.int .i64 (q : Int)] 3)))
      have hxw := (hx.trans hx2').alloc (.cells #[.int .i64 (q : Int)] 3)
      have hA3 := hidA (show w.heap.size ≤ (w2.alloc (.cells #[.int .i64 (q : Int)] 3)).heap.size from hxw.size)
      have hC3 := hidA (show (w2.alloc (.cells #[.int .i64 (q : Int)] 3)).cell? ⟨w2.heap.size, 0, none⟩ = some (.int .i64 (q : Int)) from by rw [cell_new_row]; rfl)
      have kR3 := kR2.alloc (.cells #[.int .i64 (q : Int)] 3)
      have hqn := hidA (HQ2.out.ne kR3 (by decide))
      clear hcx e0 e1 e2 e3 HQ kR HNq hx2 hx2' kR2
      go_wp2_with (at_builtin; (refine wpList_append_q _ (by rfl) _ _ 41 (by rfl) w.heap.size 3 i0 (.int .i64 0) 8 Try.underlying41 hi0 hz0 hz1 hz2 rfl (some Q) L.length cap (inq L) (by rfl) HQ2.out hA3.out ⟨w2.heap.size, 0, none⟩ 1 (.int .i64 (q : Int)) (by rfl) hC3.out rfl (by unfold maxLen; omega) (by omega) ?_; intro Q' cap' w4 hq4 hg4 ho4))
      have kR4 := kR3.grown hg4 hqn.out
      have hx4 : Ext w w4 := Ext.grown hxw hg4 (fun b hb => by
        simp only [Option.map_some, Option.some.injEq] at hb
        subst hb
        exact (HQ2.out.lt rfl).1)
      obtain ⟨Q2, rfl⟩ : ∃ Q2, Q' = some Q2 := by
        rcases hq4.own with ⟨_, h0⟩ | ⟨g, off, cur, hA, _⟩
        · have := hq4.le; omega
        · exact ⟨_, hA⟩
      have HQ4 := hidA (show Qs w4 w.heap.size 3 (some Q2) (L ++ [q]).length cap' (inq (L ++ [q])) from by rw [inq_snoc, List.length_append]; exact hq4)
      have eL : (Value.slice (some Q2) (L.length + 1) cap') = .slice (some Q2) (L ++ [q]).length cap' := by rw [List.length_append]; rfl
      clear hq4 hg4 ho4 kR3 hxw HQ2 hA3 hC3 hqn
      go_wp2_with fail
      go_roundg t2.length
      case measure => have := Hgk.out; simp only [List.length_cons] at this; omega
      case rel => exact ⟨q, L ++ [q], t2, Q2, cap', hq, rfl, eL, HQ4.out, Htr.out, by rw [Hkt.out, List.append_assoc]; rfl, kR4, hx4, Nat.le_refl _⟩
end Go.Proofs.Ytinohfgokpbcdaa
namespace Go.Proofs.Ytinohfgokpbcdaa
open Go.RowKit
attribute [local go_sem ↓] Go.wp_at_zero Go.wp_at_succ
attribute [local go_sem] run_store_float

theorem getD_bd {l : List Nat} {N : Nat} (hl : l.length = N) (hh : ∀ x ∈ l, Bd 20 x) : ∀ k, k < N → Bd 20 (l.getD k 0) := fun k hk => by
  have hkl : k < l.length := by omega
  have e : l.getD k 0 = l[k] := by simp [List.getD_eq_getElem?_getD, hkl]
  rw [e]
  exact hh _ (List.getElem_mem hkl)
theorem intB_rd {w : World} {g N : Nat} {f : Nat → Int} (h : Bk w g 3 (intB N f)) : Rd w (some ⟨g, 0, none⟩) (intL ((List.range N).map f)) := by
  have h1 := Rd.new_bk h
  have e : (intB N f).toList = intL ((List.range N).map f) := by
    unfold intB intL
    simp
  rwa [e] at h1
theorem drn_same {Wn Hn N : Nat} {h v v' : Nat → Nat} (hw : 1 ≤ Wn) (hN : N = Wn * Hn) (hN1 : 1 ≤ N) (hh : ∀ k, k < Wn * Hn → Bd 20 (h k)) (hL : LeastG Wn Hn h 0 (fun k => valI (v k))) (hL' : LeastG Wn Hn h 0 (fun k => valI (v' k))) :
    ∀ k, k < N → drnV v (rkV v Wn Hn (N - 1)) Wn Hn k = drnV v' (rkV v' Wn Hn N) Wn Hn k := fun k hk => by
  have hv := fill_bd hh hL
  have hv' := fill_bd hh hL'
  have hk' : k < Wn * Hn := by rw [← hN]; exact hk
  rw [drn_val hv hv' (fun j hj => hL.unique hL' hj) (N - 1) hk']
  have hr := ranked hw hN hN1 (fun k hk => hh k (by rw [← hN]; exact hk)) (fun k hk => hv' k (by rw [← hN]; exact hk)) hL'
  unfold drnV
  rw [bst_congr (v := v') (v' := v') (R' := rkV v' Wn Hn N) (fun _ _ => rfl) (fun j hj => ?_) hk' 8]
  have := rkV_old (hr j (by rw [hN]; exact hj))
  rw [show N - 1 + 1 = N by omega] at this
  exact this.symm

set_option maxRecDepth 100000 in
set_option maxHeartbeats 1600000 in
theorem Steep_ok (X Y : Int) (Wn Hn N : Nat) (A : Option Addr) (c : Nat) (l : List Nat) (w : World) (hr : Reg X Y Wn Hn) (hN : N = Wn * Hn) (hn : l.length = N) (hd : Rd w A (flt l)) (hf : fieldE X Y Wn Hn l = 0) :
    Calls Try.prog 67 #[.agg #[.int .i64 X, .int .i64 Y, .int .i64 (Wn : Int), .int .i64 (Hn : Int), .slice A N c]] w fun e w' => ∃ gi, e = .returned (.tuple #[.slice (some ⟨gi, 0, none⟩) N N, .int .i64 0]) ∧ Bk w' gi 3 (intB N fun k => (stp (fun j => l.getD j 0) Wn Hn k 8).1) ∧ Ext w w' := by
  have hN6 : N ≤ 65536 := by rw [hN]; exact hr.n
  have hh : ∀ x ∈ l, Bd 20 x := fun x hx => hgt_bd ((numE_zero (field_reg hf).2.2).2 x hx)
  have HC := fun (w : World) (h : Rd w A (flt l)) => hidA (check_any X Y Wn Hn A N c l w hn h (by omega))
  rw [hf] at HC
  have HD := fun (w : World) (h : Rd w A (flt l)) => hidA (steepA_any X Y Wn Hn N A c l w hr hN hn h (getD_bd hn hh))
  clear hr hN hn hf hh
  go_enter Try.func67, Try.ntmps67
  go_wp2_with (go_at_call 80; refine ((HC _ (hd.ext (by repeat (first | exact Ext.refl _ | assumption | refine Ext.setCell ?_ (by first | (simp; done) | (simp; omega)) _ | refine Ext.drewN ?_ _ | refine Ext.alloc ?_ _ | refine Ext.drew ?_ | refine Ext.trans ?_ (by assumption))))).out).mono ?_; rintro e w1 ⟨rfl, hx1⟩; have kF : Bk w1 w.heap.size 26 #[.int .i64 X, .int .i64 Y, .int .i64 (Wn : Int), .int .i64 (Hn : Int), .slice A N c] := (Bk.new' rfl).ext hx1; have c0 := kF.cell 0; have c1 := kF.cell 1; have c2 := kF.cell 2; have c3 := kF.cell 3; have c4 := kF.cell 4)
  refine ((HD _ (hd.ext (by repeat (first | exact Ext.refl _ | assumption | refine Ext.setCell ?_ (by first | (simp; done) | (simp; omega)) _ | refine Ext.drewN ?_ _ | refine Ext.alloc ?_ _ | refine Ext.drew ?_ | refine Ext.trans ?_ (by assumption))))).out).mono ?_
  rintro e w2 ⟨gi, rfl, hB, _, hx2⟩
  go_wp2_with fail
  exact bodyPost_ret (v := .tuple #[.slice (some ⟨gi, 0, none⟩) N N, .int .i64 0]) (by simp [results, Try.results67, go_sem]) rfl ⟨gi, rfl, hB, (by repeat (first | exact Ext.refl _ | assumption | refine Ext.setCell ?_ (by first | (simp; done) | (simp; omega)) _ | refine Ext.drewN ?_ _ | refine Ext.alloc ?_ _ | refine Ext.drew ?_ | refine Ext.trans ?_ (by assumption)))⟩

set_option maxRecDepth 100000 in
set_option maxHeartbeats 1600000 in
theorem Steep_bad (x y ww hh : Int) (A : Option Addr) (n c : Nat) (l : List Nat) (w : World) (hn : l.length = n) (hd : Rd w A (flt l)) (hb : n ≤ 140737488351232) (hE : fieldE x y ww hh l ≠ 0) :
    Calls Try.prog 67 #[.agg #[.int .i64 x, .int .i64 y, .int .i64 ww, .int .i64 hh, .slice A n c]] w fun e w' => e = .returned (.tuple #[.slice none 0 0, .int .i64 (fieldE x y ww hh l)]) ∧ Ext w w' := by
  have HC := fun (w : World) (h : Rd w A (flt l)) => hidA (check_any x y ww hh A n c l w hn h hb)
  have hE' : (fieldE x y ww hh l != 0) = true := by simpa using hE
  clear hn hb hE
  generalize fieldE x y ww hh l = E at *
  go_enter Try.func67, Try.ntmps67
  go_wp2_with (go_at_call 80; refine ((HC _ (hd.ext (by repeat (first | exact Ext.refl _ | assumption | refine Ext.setCell ?_ (by first | (simp; done) | (simp; omega)) _ | refine Ext.drewN ?_ _ | refine Ext.alloc ?_ _ | refine Ext.drew ?_ | refine Ext.trans ?_ (by assumption))))).out).mono ?_; rintro e w1 ⟨rfl, hx1⟩)
  exact bodyPost_ret (v := .tuple #[.slice none 0 0, .int .i64 E]) (by simp [results, Try.results67, go_sem]) rfl ⟨rfl, (by repeat (first | exact Ext.refl _ | assumption | refine Ext.setCell ?_ (by first | (simp; done) | (simp; omega)) _ | refine Ext.drewN ?_ _ | refine Ext.alloc ?_ _ | refine Ext.drew ?_ | refine Ext.trans ?_ (by assumption)))⟩

set_option maxRecDepth 100000 in
set_option maxHeartbeats 1600000 in
theorem Drain_ok (X Y : Int) (Wn Hn N : Nat) (A : Option Addr) (c : Nat) (l : List Nat) (w : World) (hr : Reg X Y Wn Hn) (hN : N = Wn * Hn) (hn : l.length = N) (hd : Rd w A (flt l)) (hf : fieldE X Y Wn Hn l = 0) :
    Calls Try.prog 68 #[.agg #[.int .i64 X, .int .i64 Y, .int .i64 (Wn : Int), .int .i64 (Hn : Int), .slice A N c]] w fun e w' => ∃ gd v, e = .returned (.tuple #[.slice (some ⟨gd, 0, none⟩) N N, .int .i64 0]) ∧ LeastG Wn Hn (fun k => l.getD k 0) 0 (fun k => valI (v k)) ∧ Bk w' gd 3 (intB N (drnV v (rkV v Wn Hn (N - 1)) Wn Hn)) ∧ Ext w w' := by
  have hN6 : N ≤ 65536 := by rw [hN]; exact hr.n
  have hh : ∀ x ∈ l, Bd 20 x := fun x hx => hgt_bd ((numE_zero (field_reg hf).2.2).2 x hx)
  have HC := fun (w : World) (h : Rd w A (flt l)) => hidA (check_any X Y Wn Hn A N c l w hn h (by omega))
  rw [hf] at HC
  have HD := fun (w : World) (h : Rd w A (flt l)) => hidA (drain_any X Y Wn Hn N A c l w hr hN hn h hh)
  clear hr hN hn hf hh
  go_enter Try.func68, Try.ntmps68
  go_wp2_with (go_at_call 80; refine ((HC _ (hd.ext (by repeat (first | exact Ext.refl _ | assumption | refine Ext.setCell ?_ (by first | (simp; done) | (simp; omega)) _ | refine Ext.drewN ?_ _ | refine Ext.alloc ?_ _ | refine Ext.drew ?_ | refine Ext.trans ?_ (by assumption))))).out).mono ?_; rintro e w1 ⟨rfl, hx1⟩; have kF : Bk w1 w.heap.size 26 #[.int .i64 X, .int .i64 Y, .int .i64 (Wn : Int), .int .i64 (Hn : Int), .slice A N c] := (Bk.new' rfl).ext hx1; have c0 := kF.cell 0; have c1 := kF.cell 1; have c2 := kF.cell 2; have c3 := kF.cell 3; have c4 := kF.cell 4)
  refine ((HD _ (hd.ext (by repeat (first | exact Ext.refl _ | assumption | refine Ext.setCell ?_ (by first | (simp; done) | (simp; omega)) _ | refine Ext.drewN ?_ _ | refine Ext.alloc ?_ _ | refine Ext.drew ?_ | refine Ext.trans ?_ (by assumption))))).out).mono ?_
  rintro e w2 ⟨gd, v, rfl, hL, _, hB, _, hx2⟩
  go_wp2_with fail
  exact bodyPost_ret (v := .tuple #[.slice (some ⟨gd, 0, none⟩) N N, .int .i64 0]) (by simp [results, Try.results68, go_sem]) rfl ⟨gd, v, rfl, hL, hB, (by repeat (first | exact Ext.refl _ | assumption | refine Ext.setCell ?_ (by first | (simp; done) | (simp; omega)) _ | refine Ext.drewN ?_ _ | refine Ext.alloc ?_ _ | refine Ext.drew ?_ | refine Ext.trans ?_ (by assumption)))⟩

set_option maxRecDepth 100000 in
set_option maxHeartbeats 1600000 in
theorem Drain_bad (x y ww hh : Int) (A : Option Addr) (n c : Nat) (l : List Nat) (w : World) (hn : l.length = n) (hd : Rd w A (flt l)) (hb : n ≤ 140737488351232) (hE : fieldE x y ww hh l ≠ 0) :
    Calls Try.prog 68 #[.agg #[.int .i64 x, .int .i64 y, .int .i64 ww, .int .i64 hh, .slice A n c]] w fun e w' => e = .returned (.tuple #[.slice none 0 0, .int .i64 (fieldE x y ww hh l)]) ∧ Ext w w' := by
  have HC := fun (w : World) (h : Rd w A (flt l)) => hidA (check_any x y ww hh A n c l w hn h hb)
  have hE' : (fieldE x y ww hh l != 0) = true := by simpa using hE
  clear hn hb hE
  generalize fieldE x y ww hh l = E at *
  go_enter Try.func68, Try.ntmps68
  go_wp2_with (go_at_call 80; refine ((HC _ (hd.ext (by repeat (first | exact Ext.refl _ | assumption | refine Ext.setCell ?_ (by first | (simp; done) | (simp; omega)) _ | refine Ext.drewN ?_ _ | refine Ext.alloc ?_ _ | refine Ext.drew ?_ | refine Ext.trans ?_ (by assumption))))).out).mono ?_; rintro e w1 ⟨rfl, hx1⟩)
  exact bodyPost_ret (v := .tuple #[.slice none 0 0, .int .i64 E]) (by simp [results, Try.results68, go_sem]) rfl ⟨rfl, (by repeat (first | exact Ext.refl _ | assumption | refine Ext.setCell ?_ (by first | (simp; done) | (simp; omega)) _ | refine Ext.drewN ?_ _ | refine Ext.alloc ?_ _ | refine Ext.drew ?_ | refine Ext.trans ?_ (by assumption)))⟩
end Go.Proofs.Ytinohfgokpbcdaa
