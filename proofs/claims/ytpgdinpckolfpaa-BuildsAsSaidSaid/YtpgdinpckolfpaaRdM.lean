/- Contract: slices.Reverse at places. -/
import Derived.Test.YtpgdinpckolfpaaRdL
import Derived.RegionTactic
import Derived.BigRegion
namespace Go.Proofs.Ytpgdinpckolfpaa
open Go.RowKit
attribute [local go_sem ↓] Go.wp_at_zero Go.wp_at_succ
attribute [local go_sem] run_store_float

/-- places as cells -/
def ptv (l : List (Int × Int)) : List Value := l.flatMap fun p => [.int .i64 p.1, .int .i64 p.2]
theorem ptv_append (l m : List (Int × Int)) : ptv (l ++ m) = ptv l ++ ptv m := by simp [ptv]
theorem ptv_cons (a : Int × Int) (l : List (Int × Int)) : ptv (a :: l) = .int .i64 a.1 :: .int .i64 a.2 :: ptv l := rfl
theorem ptv_length : ∀ l : List (Int × Int), (ptv l).length = l.length * 2
  | [] => rfl
  | a :: l => by rw [ptv_cons]; simp [ptv_length l]; omega
theorem ptv_one (l : List (Int × Int)) : ∀ u ∈ ptv l, u.oneCell' = true := by
  intro u hu
  obtain ⟨a, _, h⟩ := List.mem_flatMap.1 hu
  simp at h
  rcases h with rfl | rfl <;> rfl
theorem ptv_get : ∀ {l : List (Int × Int)} {i : Nat} (h : i < l.length), (ptv l)[i * 2]? = some (.int .i64 l[i].1) ∧ (ptv l)[i * 2 + 1]? = some (.int .i64 l[i].2)
  | a :: l, 0, _ => ⟨rfl, rfl⟩
  | a :: l, i + 1, h => by
    have ih := @ptv_get l i (by simpa using h)
    rw [ptv_cons]
    rw [show (i + 1) * 2 = i * 2 + 1 + 1 by omega, show i * 2 + 1 + 1 + 1 = (i * 2 + 1) + 1 + 1 by omega]
    simpa using ih
theorem ptv_set : ∀ {l : List (Int × Int)} {i : Nat} (a : Int × Int), i < l.length → ((ptv l).set (i * 2) (.int .i64 a.1)).set (i * 2 + 1) (.int .i64 a.2) = ptv (l.set i a)
  | b :: l, 0, a, _ => by
    rw [ptv_cons]
    rfl
  | b :: l, i + 1, a, h => by
    have ih := @ptv_set l i a (by simpa using h)
    rw [ptv_cons]
    rw [show (i + 1) * 2 = i * 2 + 1 + 1 by omega, show i * 2 + 1 + 1 + 1 = (i * 2 + 1) + 1 + 1 by omega]
    simp only [List.set_cons_succ]
    rw [ih]
    rfl
/-- the block in which places lie, whole -/
def PB (w : World) (g : Nat) (xs : List (Int × Int)) (rest : List Value) : Prop := Bk w g 32 (ptv xs ++ rest).toArray
theorem PB.rd {w : World} {g : Nat} {xs : List (Int × Int)} {rest : List Value} (h : PB w g xs rest) : Rd w (some ⟨g, 0, none⟩) (ptv xs) := fun _ => by
  refine ⟨_, rfl, h.lt, fun j u hu => ?_⟩
  rw [lit_add, Bk.cell h, List.getElem?_toArray]
  have hj : j < (ptv xs).length := by
    rcases Nat.lt_or_ge j (ptv xs).length with hl | hl
    · exact hl
    · rw [List.getElem?_eq_none hl] at hu; cases hu
  rw [List.getElem?_append_left hj]
  exact hu
theorem PB.set {w : World} {g : Nat} {xs : List (Int × Int)} {rest : List Value} (h : PB w g xs rest) {i : Nat} (hi : i < xs.length) (a : Int × Int) : PB ((w.setCell ⟨g, i * 2, none⟩ (.int .i64 a.1)).setCell ⟨g, i * 2 + 1, none⟩ (.int .i64 a.2)) g (xs.set i a) rest := by
  have h2 := (Bk.set h (i * 2) (.int .i64 a.1)).set (i * 2 + 1) (.int .i64 a.2)
  have hl := ptv_length xs
  unfold PB
  rw [← ptv_set a hi]
  have e : ((ptv xs ++ rest).toArray.setIfInBounds (i * 2) (.int .i64 a.1)).setIfInBounds (i * 2 + 1) (.int .i64 a.2) = (((ptv xs).set (i * 2) (.int .i64 a.1)).set (i * 2 + 1) (.int .i64 a.2) ++ rest).toArray := by
    rw [List.setIfInBounds_toArray, List.setIfInBounds_toArray, List.set_append_left _ _ (by omega), List.set_append_left _ _ (by simp; omega)]
  rw [e] at h2
  exact h2
theorem pt_r {w : World} {g : Nat} {xs : List (Int × Int)} (hr : Rd w (some ⟨g, 0, none⟩) (ptv xs)) {i : Nat} (h : i < xs.length) : w.cell? ⟨g, i * 2, none⟩ = some (.int .i64 xs[i].1) ∧ w.cell? ⟨g, i * 2 + 1, none⟩ = some (.int .i64 xs[i].2) := by
  obtain ⟨ad, e, _, hc⟩ := hr (by rintro e; have := ptv_length xs; rw [e] at this; simp at this; omega)
  injection e with e
  subst e
  have h1 := hc _ _ (ptv_get h).1
  have h2 := hc _ _ (ptv_get h).2
  rw [lit_add] at h1 h2
  exact ⟨h1, h2⟩
/-- after i swaps -/
def revI (xs : List (Int × Int)) : Nat → List (Int × Int)
  | 0 => xs
  | i + 1 => ((revI xs i).set i ((revI xs i).getD (xs.length - 1 - i) (0, 0))).set (xs.length - 1 - i) ((revI xs i).getD i (0, 0))
theorem revI_length (xs : List (Int × Int)) : ∀ i, (revI xs i).length = xs.length
  | 0 => rfl
  | i + 1 => by rw [revI, List.length_set, List.length_set, revI_length xs i]
theorem revI_get (xs : List (Int × Int)) : ∀ i, 2 * i ≤ xs.length + 1 → ∀ j, j < xs.length → (revI xs i).getD j (0, 0) = if j < i ∨ xs.length - i ≤ j then xs.getD (xs.length - 1 - j) (0, 0) else xs.getD j (0, 0)
  | 0, _, j, hj => by rw [if_neg (by omega)]; rfl
  | i + 1, hi, j, hj => by
    have ih := revI_get xs i (by omega)
    have hl := revI_length xs i
    have g : ∀ (ys : List (Int × Int)) (k m : Nat) (a : Int × Int), k < ys.length → (ys.set k a).getD m (0, 0) = if m = k then a else ys.getD m (0, 0) := fun ys k m a hk => by
      simp only [List.getD_eq_getElem?_getD, List.getElem?_set]
      by_cases e : k = m
      · subst e; simp [hk]
      · rw [if_neg e, if_neg (fun h => e h.symm)]
    rw [revI, g _ _ _ _ (by simp; omega), g _ _ _ _ (by omega)]
    by_cases h1 : j = xs.length - 1 - i
    · rw [if_pos h1, if_pos (by omega), ih i (by omega), h1]
      have e : xs.length - 1 - (xs.length - 1 - i) = i := by omega
      rw [e]
      by_cases h2 : i < i ∨ xs.length - i ≤ i
      · rw [if_pos h2]
        have e2 : xs.length - 1 - i = i := by omega
        rw [e2]
      · rw [if_neg h2]
    · rw [if_neg h1]
      by_cases h2 : j = i
      · subst h2
        rw [if_pos rfl, if_pos (by omega), ih _ (by omega), if_neg (by omega)]
      · rw [if_neg h2, ih j hj]
        by_cases h3 : j < i ∨ xs.length - i ≤ j
        · rw [if_pos h3, if_pos (by omega)]
        · rw [if_neg h3, if_neg (by omega)]
theorem revI_all (xs : List (Int × Int)) {i : Nat} (h1 : xs.length ≤ 2 * i + 1) (h2 : 2 * i ≤ xs.length + 1) : revI xs i = xs.reverse := by
  apply List.ext_getElem
  · rw [revI_length, List.length_reverse]
  · intro j h3 h4
    have hj : j < xs.length := by rw [revI_length] at h3; exact h3
    have h5 := revI_get xs i h2 j hj
    have e1 : (revI xs i)[j] = (revI xs i).getD j (0, 0) := by simp [List.getD_eq_getElem?_getD, h3]
    rw [e1, h5, List.getElem_reverse]
    have e2 : ∀ k (hk : k < xs.length), xs.getD k (0, 0) = xs[k] := fun k hk => by simp [List.getD_eq_getElem?_getD, hk]
    by_cases h6 : j < i ∨ xs.length - i ≤ j
    · rw [if_pos h6, e2 _ (by omega)]
    · rw [if_neg h6, e2 j hj]
      have : xs.length - 1 - j = j := by omega
      simp only [this]
theorem grown_pset {a w : World} {g : Nat} (h : a.grownBy w (some g)) (o : Nat) (u : Value) : a.grownBy (w.setCell ⟨g, o, none⟩ u) (some g) := grown_gset h o u
set_option maxRecDepth 100000 in
set_option maxHeartbeats 3200000 in
theorem Reverse_any (g n c : Nat) (xs : List (Int × Int)) (rest : List Value) (w : World) (hn : xs.length = n) (hr : PB w g xs rest) (h1 : 1 ≤ n) (hb : n ≤ 4000000000) :
    Calls Try.prog 111 #[.slice (some ⟨g, 0, none⟩) n c] w fun e w' => e = .returned (.tuple #[]) ∧ PB w' g xs.reverse rest ∧ w.grownBy w' (some g) := by
  have Hn := hidA hn
  clear hn
  go_enter Try.func111, Try.ntmps111
  go_upto_region 1 with fail
  go_loopw [2, 3] (fun s2 s3 wr => ∃ i j : Nat, s2 = .int .i64 i ∧ s3 = .int .i64 j ∧ i + j + 1 = n ∧ 2 * i ≤ n + 1 ∧ PB wr g (revI xs i) rest ∧ w.grownBy wr (some g)) (fun s2 _ _ => n - (intOf s2).toNat)
  case atStart => exact ⟨0, n - 1, rfl, by simp; omega, by omega, by omega, hr, World.grownBy.refl w _⟩
  case round =>
    obtain ⟨i, j, rfl, rfl, hij, hi2, hP, hG⟩ := hrel
    by_cases hlt : i < j
    · have hlt2 : (i : Int) < j := by omega
      have hl := revI_length xs i
      have hn := Hn.out
      have hil : i < (revI xs i).length := by omega
      have hjl : j < (revI xs i).length := by omega
      obtain ⟨a0, a1⟩ := pt_r hP.rd hil
      obtain ⟨b0, b1⟩ := pt_r hP.rd hjl
      have ga : (revI xs i).getD i (0, 0) = (revI xs i)[i] := by simp [List.getD_eq_getElem?_getD, hil]
      have gb : (revI xs i).getD j (0, 0) = (revI xs i)[j] := by simp [List.getD_eq_getElem?_getD, hjl]
      have ej : xs.length - 1 - i = j := by omega
      have hs := (hP.set hil ((revI xs i).getD j (0, 0))).set (i := j) (by simp; omega) ((revI xs i).getD i (0, 0))
      have er : ((revI xs i).set i ((revI xs i).getD j (0, 0))).set j ((revI xs i).getD i (0, 0)) = revI xs (i + 1) := by rw [revI, ej]
      rw [er, ga, gb] at hs
      have i0 : (0 : Int) ≤ i := by omega
      have i1 : (i : Int) < n := by omega
      have j0 : (0 : Int) ≤ j := by omega
      have j1 : (j : Int) < n := by omega
      have f0 : ∀ k, wr.frozen? ⟨g, k, none⟩ = false := fun k => Bk.frozen hP k
      generalize (revI xs i)[i] = a at *
      generalize (revI xs i)[j] = b at *
      obtain ⟨ax, ay⟩ := a
      obtain ⟨bx, by'⟩ := b
      dsimp only at a0 a1 b0 b1 hs
      have Hs := hidA hs
      have HG := hidA hG
      have Hij := hidA hij
      clear hs hP hG er ga gb ej hil hjl hl hn
      obtain ⟨u1, q1⟩ := cell?_setCell_some (w := wr) (p := ⟨g, i * 2, none⟩) (x := .int .i64 bx) (q := ⟨g, j * 2, none⟩) b0
      obtain ⟨u3, q3⟩ := cell?_setCell_some (w := wr) (p := ⟨g, i * 2, none⟩) (x := .int .i64 bx) (q := ⟨g, j * 2 + 1, none⟩) b1
      obtain ⟨u2, q2⟩ := cell?_setCell_some (w := wr.setCell ⟨g, i * 2, none⟩ (.int .i64 bx)) (p := ⟨g, i * 2 + 1, none⟩) (x := .int .i64 by') (q := ⟨g, j * 2 + 1, none⟩) q3
      clear q3
      go_upto_region 3 with fail
      go_region
      have hG2 := hidA (grown_drew' (grown_gset (grown_gset (grown_gset (grown_gset HG.out (i * 2) (.int .i64 bx)) (i * 2 + 1) (.int .i64 by')) (j * 2) (.int .i64 ax)) (j * 2 + 1) (.int .i64 ay)))
      have hs2 := hidA (Bk.drew Hs.out)
      clear a0 a1 b0 b1 q1 q2 f0
      have ij := Hij.out
      go_wp2
      go_roundw
      case rel => exact ⟨i + 1, j - 1, by go_num, by simp; omega, by omega, by omega, hs2.out, hG2.out⟩
      case measure => simp [intOf]; omega
    · have hlt2 : ¬ (i : Int) < j := by omega
      have hfin := revI_all xs (i := i) (by have := Hn.out; omega) (by have := Hn.out; omega)
      rw [hfin] at hP
      have HP := hidA hP
      have HG := hidA hG
      clear hfin hP hG
      go_wp2
      refine bodyPost_end (results_none Try.results111 _ _ _) rfl ?_
      exact ⟨rfl, HP.out, HG.out⟩
end Go.Proofs.Ytpgdinpckolfpaa
