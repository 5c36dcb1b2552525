/- The way between corners, plainly. No program in sight. -/
import Derived.Test.YtpgdinpckolfpaaRdW
namespace Go.Proofs.Ytpgdinpckolfpaa
open Go.RowKit
attribute [local go_sem ↓] Go.wp_at_zero Go.wp_at_succ
attribute [local go_sem] run_store_float

/-- p + (q - p) * t -/
def mixB (p q t : Nat) : Nat := fadd p (fmul (fsub q p) t)
theorem mixB_ok {K p q t : Nat} (hp : Bd K p) (hq : Bd K q) (ht : Bd 0 t) (hK : K ≤ 100) : floatBits .sub .f32 q p = some (fsub q p) ∧ floatBits .mul .f32 (fsub q p) t = some (fmul (fsub q p) t) ∧ floatBits .add .f32 p (fmul (fsub q p) t) = some (mixB p q t) ∧ Bd (K + 5) (mixB p q t) := by
  have h1 := fsub_ok hq hp (by omega)
  have h2 := fmul_ok h1.2 ht (by omega)
  have h3 := fadd_ok (K := K + 3) (hp.mono (by omega)) (h2.2.mono (by omega)) (by omega)
  exact ⟨h1.1, h2.1, h3.1, h3.2⟩
theorem mix_any {K p q t : Nat} (w : World) (hp : Bd K p) (hq : Bd K q) (ht : Bd 0 t) (hK : K ≤ 100) :
    Calls Try.prog 81 #[.float .f32 p, .float .f32 q, .float .f32 t] w fun e w' => e = .returned (.float .f32 (mixB p q t)) ∧ w' = w := by
  obtain ⟨h1, h2, h3, _⟩ := mixB_ok hp hq ht hK
  have q1 := fun (w : World) => run_float_arith (P := Try.prog) w .sub 27 .f32 _ _ _ h1
  have q2 := fun (w : World) => run_float_arith (P := Try.prog) w .mul 27 .f32 _ _ _ h2
  have q3 := fun (w : World) => run_float_arith (P := Try.prog) w .add 27 .f32 _ _ _ h3
  clear h1 h2 h3 hp hq ht
  generalize mixB p q t = r at *
  generalize fmul (fsub q p) t = u at *
  generalize fsub q p = d at *
  go_enter Try.func81, Try.ntmps81
  go_wp2
  go_ret
  exact ⟨rfl, rfl⟩
/-- a spot between two -/
def mixP (a b : Nat × Nat) (t : Nat) : Nat × Nat := (mixB a.1 b.1 t, mixB a.2 b.2 t)
/-- the spots in the first and third quarter of each side -/
def cutL (l : List (Nat × Nat)) : Nat → List (Nat × Nat)
  | 0 => []
  | i + 1 => cutL l i ++ [mixP (l.getD i (0, 0)) (l.getD (i + 1) (0, 0)) 1048576000, mixP (l.getD i (0, 0)) (l.getD (i + 1) (0, 0)) 1061158912]
theorem cutL_length (l : List (Nat × Nat)) : ∀ i, (cutL l i).length = 2 * i
  | 0 => rfl
  | i + 1 => by rw [cutL, List.length_append, cutL_length l i]; rfl
/-- corners cut once -/
def cutO (l : List (Nat × Nat)) : List (Nat × Nat) := if l.length ≤ 1 then l else [l.getD 0 (0, 0)] ++ cutL l (l.length - 1) ++ [l.getD (l.length - 1) (0, 0)]
theorem cutO_length {l : List (Nat × Nat)} (h : 1 < l.length) : (cutO l).length = 2 * l.length := by
  unfold cutO
  rw [if_neg (by omega)]
  simp [cutL_length]
  omega
/-- corners cut so many times -/
def cutN (l : List (Nat × Nat)) : Nat → List (Nat × Nat)
  | 0 => l
  | n + 1 => cutO (cutN l n)
def SpB (K : Nat) (l : List (Nat × Nat)) : Prop := ∀ p, p ∈ l → Bd K p.1 ∧ Bd K p.2
theorem SpB.get {K : Nat} {l : List (Nat × Nat)} (h : SpB K l) (i : Nat) : Bd K (l.getD i (0, 0)).1 ∧ Bd K (l.getD i (0, 0)).2 := by
  by_cases hi : i < l.length
  · rw [show l.getD i (0, 0) = l[i] by simp [List.getD_eq_getElem?_getD, hi]]
    exact h _ (List.getElem_mem hi)
  · rw [show l.getD i (0, 0) = (0, 0) by simp [List.getD_eq_getElem?_getD, List.getElem?_eq_none (Nat.not_lt.1 hi)]]
    exact ⟨by unfold Bd; omega, by unfold Bd; omega⟩
theorem quart_bd : Bd 0 1048576000 ∧ Bd 0 1061158912 := by unfold Bd; decide
theorem cutL_bd {K : Nat} {l : List (Nat × Nat)} (h : SpB K l) (hK : K ≤ 100) : ∀ i, SpB (K + 5) (cutL l i)
  | 0 => fun p hp => by cases hp
  | i + 1 => fun p hp => by
    rw [cutL] at hp
    rcases List.mem_append.1 hp with h1 | h1
    · exact cutL_bd h hK i p h1
    · have a := h.get i
      have b := h.get (i + 1)
      simp only [List.mem_cons, List.not_mem_nil, or_false] at h1
      rcases h1 with rfl | rfl
      · exact ⟨(mixB_ok a.1 b.1 quart_bd.1 hK).2.2.2, (mixB_ok a.2 b.2 quart_bd.1 hK).2.2.2⟩
      · exact ⟨(mixB_ok a.1 b.1 quart_bd.2 hK).2.2.2, (mixB_ok a.2 b.2 quart_bd.2 hK).2.2.2⟩
theorem cutO_bd {K : Nat} {l : List (Nat × Nat)} (h : SpB K l) (hK : K ≤ 100) : SpB (K + 5) (cutO l) := by
  intro p hp
  unfold cutO at hp
  split at hp
  · exact ⟨(h p hp).1.mono (by omega), (h p hp).2.mono (by omega)⟩
  · rcases List.mem_append.1 hp with h1 | h1
    · rcases List.mem_append.1 h1 with h2 | h2
      · rw [List.mem_singleton.1 h2]
        exact ⟨(h.get 0).1.mono (by omega), (h.get 0).2.mono (by omega)⟩
      · exact cutL_bd h hK _ p h2
    · rw [List.mem_singleton.1 h1]
      exact ⟨(h.get _).1.mono (by omega), (h.get _).2.mono (by omega)⟩
theorem cutN_bd {l : List (Nat × Nat)} (h : SpB 24 l) : ∀ n, n ≤ 6 → SpB (24 + 5 * n) (cutN l n)
  | 0, _ => h
  | n + 1, hn => by
    have h1 := cutO_bd (cutN_bd h n (by omega)) (by omega)
    rw [show 24 + 5 * n + 5 = 24 + 5 * (n + 1) by omega] at h1
    exact h1
end Go.Proofs.Ytpgdinpckolfpaa

namespace Go.Proofs.Ytpgdinpckolfpaa
open Go.RowKit
attribute [local go_sem ↓] Go.wp_at_zero Go.wp_at_succ
attribute [local go_sem] run_store_float

set_option maxRecDepth 100000 in
set_option maxHeartbeats 3200000 in
theorem lmix_any {K a1 a2 b1 b2 t : Nat} (w : World) (h1 : Bd K a1) (h2 : Bd K a2) (h3 : Bd K b1) (h4 : Bd K b2) (ht : Bd 0 t) (hK : K ≤ 100) :
    Calls Try.prog 41 #[.agg #[.float .f32 a1, .float .f32 a2], .agg #[.float .f32 b1, .float .f32 b2], .float .f32 t] w fun e w' => e = .returned (.agg #[.float .f32 (mixB a1 b1 t), .float .f32 (mixB a2 b2 t)]) ∧ Ext w w' := by
  obtain ⟨x1, x2, x3, _⟩ := mixB_ok h1 h3 ht hK
  obtain ⟨y1, y2, y3, _⟩ := mixB_ok h2 h4 ht hK
  have q1 := fun (w : World) => run_float_arith (P := Try.prog) w .sub 27 .f32 _ _ _ x1
  have q2 := fun (w : World) => run_float_arith (P := Try.prog) w .mul 27 .f32 _ _ _ x2
  have q3 := fun (w : World) => run_float_arith (P := Try.prog) w .add 27 .f32 _ _ _ x3
  have r1 := fun (w : World) => run_float_arith (P := Try.prog) w .sub 27 .f32 _ _ _ y1
  have r2 := fun (w : World) => run_float_arith (P := Try.prog) w .mul 27 .f32 _ _ _ y2
  have r3 := fun (w : World) => run_float_arith (P := Try.prog) w .add 27 .f32 _ _ _ y3
  clear x1 x2 x3 y1 y2 y3 h1 h2 h3 h4 ht
  generalize mixB a1 b1 t = u1 at *
  generalize mixB a2 b2 t = u2 at *
  generalize fmul (fsub b1 a1) t = m1 at *
  generalize fmul (fsub b2 a2) t = m2 at *
  generalize fsub b1 a1 = d1 at *
  generalize fsub b2 a2 = d2 at *
  go_enter Try.func41, Try.ntmps41
  go_wp2
  refine bodyPost_ret (v := .agg #[.float .f32 u1, .float .f32 u2]) (by simp [results, Try.results41, go_sem]) rfl ⟨rfl, ?_⟩
  (repeat (first | exact Ext.refl _ | assumption | refine Ext.setCell ?_ (by first | (simp; done) | (simp; omega)) _ | refine Ext.drewN ?_ _ | refine Ext.alloc ?_ _ | refine Ext.drew ?_ | refine Ext.trans ?_ (by assumption)))
end Go.Proofs.Ytpgdinpckolfpaa

namespace Go.Proofs.Ytpgdinpckolfpaa
open Go.RowKit
attribute [local go_sem ↓] Go.wp_at_zero Go.wp_at_succ
attribute [local go_sem] run_store_float

set_option maxRecDepth 100000 in
set_option maxHeartbeats 6400000 in
theorem WayErrorN_any (A : Option Addr) (n c : Nat) (l : List (Int × Int)) (w : World) (hn : l.length = n) (hV : Rd w A (ptv l)) (hb7 : n ≤ 140737488351232) :
    Calls Try.prog 39 #[.pointer none, .slice A n c] w fun e w' => e = .returned (.int .i64 (wayE farP l)) ∧ Ext w w' := by
  have Hn := hidA hn
  have hE : Hid (wayE farP l = if n = 0 then 10 else if 65536 < n then 4 else wayI farP l 0 n) := by show _ = _; unfold wayE; rw [hn]
  generalize wayE farP l = E at *
  clear hn
  go_enter Try.func39, Try.ntmps39
  by_cases h0 : n = 0
  · have HE2 := hidA (hE.out.trans (if_pos h0))
    clear hE
    subst h0
    go_wp2
    go_ret
    exact ⟨ret_i HE2.out.symm, Ext.refl _⟩
  have h0' : ¬ (n : Int) = 0 := by omega
  by_cases h6 : 65536 < n
  · have HE2 := hidA ((hE.out.trans (if_neg h0)).trans (if_pos h6))
    have h6' : (65536 : Int) < n := by omega
    clear hE
    go_wp2
    go_ret
    exact ⟨ret_i HE2.out.symm, Ext.refl _⟩
  have HE2 := hidA ((hE.out.trans (if_neg h0)).trans (if_neg h6))
  have h6' : ¬ (65536 : Int) < n := by omega
  clear hE
  have h65 : n ≤ 65536 := by omega
  go_upto_region 6 with fail
  go_loopw [17] (fun s17 wr => ∃ k : Nat, k ≤ n ∧ s17 = .int .i64 k ∧ E = wayI farP l k (n - k) ∧ (0 < k → farP (l.getD (k - 1) (0, 0)) = false) ∧ Ext w wr) (fun s17 _ => n - (intOf s17).toNat)
  case atStart => exact ⟨0, Nat.zero_le _, rfl, by rw [HE2.out]; rfl, fun h => by omega, Ext.refl _⟩
  case round =>
    obtain ⟨k, hk, rfl, hEk, hprev, hx⟩ := hrel
    have HEk := hidA hEk
    have Hprev := hidA hprev
    clear hEk hprev
    by_cases hkn : k < n
    · have hkl : k < l.length := by have := Hn.out; omega
      obtain ⟨ad, rfl, hbk, d0, d1⟩ := pt_at (hV.ext hx) hkl
      have HE3 := hidA (HEk.out.trans (wayI_step hkn))
      have i0 : (0 : Int) ≤ k := by omega
      have i1 : (k : Int) < n := by omega
      obtain ⟨px, py, hpp⟩ : ∃ px py, l.getD k (0, 0) = (px, py) := ⟨_, _, rfl⟩
      have hpp2 := hidA hpp
      rw [hpp] at d0 d1
      have HE4 := hidA (show E = if farP (px, py) = true then 5 else if 0 < k ∧ stepBad (l.getD (k - 1) (0, 0)) (px, py) = true then 2 else wayI farP l (k + 1) (n - (k + 1)) from by rw [HE3.out, hpp])
      clear hpp HE3 HEk
      dsimp only at d0 d1
      go_upto_region 8 with fail
      have kP : Bk (wr.alloc (.cells #[.int .i64 px, .int .i64 py] 32)) wr.heap.size 32 #[.int .i64 px, .int .i64 py] := Bk.new' rfl
      have hx1 := hx.alloc (.cells #[.int .i64 px, .int .i64 py] 32)
      clear d0 d1
      generalize wr.alloc (.cells #[.int .i64 px, .int .i64 py] 32) = w1 at *
      generalize wr.heap.size = ha at *
      have p0 := kP.cell 0
      have p1 := kP.cell 1
      rcases (by omega : px < -4194304 ∨ (¬ px < -4194304 ∧ 4194304 < px) ∨ (¬ px < -4194304 ∧ ¬ 4194304 < px ∧ py < -4194304) ∨ (¬ px < -4194304 ∧ ¬ 4194304 < px ∧ ¬ py < -4194304 ∧ 4194304 < py) ∨ (¬ px < -4194304 ∧ ¬ 4194304 < px ∧ ¬ py < -4194304 ∧ ¬ 4194304 < py)) with c1 | ⟨c1, c2⟩ | ⟨c1, c2, c3⟩ | ⟨c1, c2, c3, c4⟩ | ⟨c1, c2, c3, c4⟩
      case inr.inr.inr.inr =>
        have hb : farP (px, py) = false := by unfold farP; simp; omega
        have HE5 := hidA (HE4.out.trans (if_neg (by rw [hb]; decide)))
        have Hb := hidA hb
        have hpb := farP_false hb
        clear hb HE4
        go_quiet (fail)
        have kP2 : Bk (w1.drewN nq) ha 32 #[.int .i64 px, .int .i64 py] := kP.ext (by repeat (first | exact Ext.refl _ | assumption | refine Ext.setCell ?_ (by first | (simp; done) | (simp; omega)) _ | refine Ext.drewN ?_ _ | refine Ext.alloc ?_ _ | refine Ext.drew ?_ | refine Ext.trans ?_ (by assumption)))
        have hx3 : Ext w (w1.drewN nq) := hx1.trans (by repeat (first | exact Ext.refl _ | assumption | refine Ext.setCell ?_ (by first | (simp; done) | (simp; omega)) _ | refine Ext.drewN ?_ _ | refine Ext.alloc ?_ _ | refine Ext.drew ?_ | refine Ext.trans ?_ (by assumption)))
        clear p0 p1 kP hx1 c1 c2 c3 c4
        generalize w1.drewN nq = w2 at *
        by_cases hk0 : k = 0
        · subst hk0
          have HE6 := hidA (HE5.out.trans (if_neg (by omega)))
          clear HE5
          go_wp2
          go_roundw
          case rel => exact ⟨1, by omega, rfl, HE6.out, fun _ => by show farP (l.getD 0 (0, 0)) = false; rw [hpp2.out]; exact Hb.out, hx3⟩
          case measure => simp [intOf]; omega
        · have hkl1 : k - 1 < l.length := by omega
          have hpq := farP_false (Hprev.out (by omega))
          obtain ⟨qx, qy, hqq⟩ : ∃ qx qy, l.getD (k - 1) (0, 0) = (qx, qy) := ⟨_, _, rfl⟩
          rw [hqq] at hpq
          dsimp only at hpq hpb
          have HBt := fun (w : World) => hidA (Leap_any qx qy px py w (by omega) (by omega) (by omega) (by omega))
          have HE6 := hidA (show E = if stepBad (qx, qy) (px, py) = true then 2 else wayI farP l (k + 1) (n - (k + 1)) from by rw [HE5.out, hqq]; simp [show 0 < k by omega])
          have e0 : ∀ w', Ext w2 w' → w'.cell? (ad.add ((k - 1) * 2)) = some (.int .i64 qx) := fun w' h => by
            obtain ⟨ad', e, _, d0, d1⟩ := pt_at (hV.ext (hx3.trans h)) hkl1
            injection e with e
            subst e
            rw [hqq] at d0
            exact d0
          have e1 : ∀ w', Ext w2 w' → w'.cell? ⟨(ad.add ((k - 1) * 2)).block, (ad.add ((k - 1) * 2)).off + 1, none⟩ = some (.int .i64 qy) := fun w' h => by
            obtain ⟨ad', e, _, d0, d1⟩ := pt_at (hV.ext (hx3.trans h)) hkl1
            injection e with e
            subst e
            rw [hqq] at d1
            exact d1
          have f0 : ∀ w', Ext w2 w' → w'.cell? ⟨ha, 0, none⟩ = some (.int .i64 px) := fun w' h => (kP2.ext h).cell 0
          have f1 : ∀ w', Ext w2 w' → w'.cell? ⟨ha, 1, none⟩ = some (.int .i64 py) := fun w' h => (kP2.ext h).cell 1
          have j0 : (0 : Int) ≤ ((k - 1 : Nat) : Int) := by omega
          have j1 : ((k - 1 : Nat) : Int) < n := by omega
          have hk0' : (0 : Int) < k := by omega
          have Hwk := hidA (show wrap64 ((k : Int) - 1) = ((k - 1 : Nat) : Int) by rw [IntWalk.wrap64_in _ ⟨by omega, by omega⟩]; omega)
          have Hwk2 := hidA (show IntKind.i64.wrap ((k : Int) - 1) = ((k - 1 : Nat) : Int) by rw [IntWalk.i64_in _ ⟨by omega, by omega⟩]; omega)
          have Hhx := hidA hx3
          clear hpq hpb HE5 hqq kP2
          unfold lpV at HBt
          cases hlp : leapO (px - qx) (py - qy) with
          | none =>
            have HE7 := hidA (HE6.out.trans (if_pos (by unfold stepBad; rw [hlp])))
            rw [hlp] at HBt
            clear hlp
            have wk := Hwk.out
            have wk2 := Hwk2.out
            go_upto_region 11 with fail
            refine wp_region_noPanic ?_
            refine wp_region_held_drew (S := fun w' => Ext w2 w') (by kernel_rfl) ?_ (fun hHeld => ?_)
            · (repeat (first | exact Ext.refl _ | assumption | refine Ext.setCell ?_ (by first | (simp; done) | (simp; omega)) _ | refine Ext.drewN ?_ _ | refine Ext.alloc ?_ _ | refine Ext.drew ?_ | refine Ext.trans ?_ (by assumption)))
            refine wpAnyH_take (i := 0) (oi := ?o1x0) (v := ?v1x0) ?hi1x0 (by kernel_rfl) ?hf1x0 ?hr1x0 (fun _ _ _ h => h) ?hy1x0 (by assumption) ?rest1x0
            case hi1x0 => (simp only [List.getElem?_toArray, List.getElem?_cons_zero]; exact rfl)
            case hf1x0 => kernel_rfl
            case hr1x0 => kernel_rfl
            case hy1x0 => (refine Or.inl ⟨by rfl, ?_⟩; intro w hSw; (try dsimp only at hSw); go_simp; try with_reducible rfl)
            simp only [put_mk, List.set_cons_succ, List.set_cons_zero]
            refine wpAnyH_take (i := 1) (oi := ?o1x1) (v := ?v1x1) ?hi1x1 (by kernel_rfl) ?hf1x1 ?hr1x1 (fun _ _ _ h => h) ?hy1x1 (by assumption) ?rest1x1
            case hi1x1 => (simp only [List.getElem?_toArray, List.getElem?_cons_succ, List.getElem?_cons_zero]; exact rfl)
            case hf1x1 => kernel_rfl
            case hr1x1 => kernel_rfl
            case hy1x1 => (refine Or.inl ⟨by rfl, ?_⟩; intro w hSw; (try dsimp only at hSw); go_simp; try with_reducible rfl)
            simp only [put_mk, List.set_cons_succ, List.set_cons_zero]
            refine wpAnyH_take (i := 2) (oi := ?o1x2) (v := ?v1x2) ?hi1x2 (by kernel_rfl) ?hf1x2 ?hr1x2 (fun _ _ _ h => h) ?hy1x2 (by assumption) ?rest1x2
            case hi1x2 => (simp only [List.getElem?_toArray, List.getElem?_cons_succ, List.getElem?_cons_zero]; exact rfl)
            case hf1x2 => kernel_rfl
            case hr1x2 => kernel_rfl
            case hy1x2 => (refine Or.inl ⟨by rfl, ?_⟩; intro w hSw; (try dsimp only at hSw); go_simp; try with_reducible rfl)
            simp only [put_mk, List.set_cons_succ, List.set_cons_zero]
            refine wpAnyH_take (i := 3) (oi := ?o1x3) (v := ?v1x3) ?hi1x3 (by kernel_rfl) ?hf1x3 ?hr1x3 (fun _ _ _ h => h) ?hy1x3 (by assumption) ?rest1x3
            case hi1x3 => (simp only [List.getElem?_toArray, List.getElem?_cons_succ, List.getElem?_cons_zero]; exact rfl)
            case hf1x3 => kernel_rfl
            case hr1x3 => kernel_rfl
            case hy1x3 => (refine Or.inl ⟨by rfl, ?_⟩; intro w hSw; (try dsimp only at hSw); go_simp; try with_reducible rfl)
            simp only [put_mk, List.set_cons_succ, List.set_cons_zero]
            refine wpAnyH_take (i := 4) (oi := ?o1x4) (v := ?v1x4) ?hi1x4 (by kernel_rfl) ?hf1x4 ?hr1x4 (fun _ _ _ h => h) ?hy1x4 (by assumption) ?rest1x4
            case hi1x4 => (simp only [List.getElem?_toArray, List.getElem?_cons_succ, List.getElem?_cons_zero]; exact rfl)
            case hf1x4 => kernel_rfl
            case hr1x4 => kernel_rfl
            case hy1x4 => (refine Or.inl ⟨by rfl, ?_⟩; intro w hSw; (try dsimp only at hSw); go_simp; try with_reducible rfl)
            simp only [put_mk, List.set_cons_succ, List.set_cons_zero]
            refine wpAnyH_take (i := 5) (oi := ?o1x5) (v := ?v1x5) ?hi1x5 (by kernel_rfl) ?hf1x5 ?hr1x5 (fun _ _ _ h => h) ?hy1x5 (by assumption) ?rest1x5
            case hi1x5 => (simp only [List.getElem?_toArray, List.getElem?_cons_succ, List.getElem?_cons_zero]; exact rfl)
            case hf1x5 => kernel_rfl
            case hr1x5 => kernel_rfl
            case hy1x5 => (refine Or.inl ⟨by rfl, ?_⟩; intro w hSw; (try dsimp only at hSw); go_simp; try with_reducible rfl)
            simp only [put_mk, List.set_cons_succ, List.set_cons_zero]
            refine wpAnyH_ready (rs := [6]) (by kernel_rfl) (by simp) ?_
            refine AllReadyH.cons (o := ?o1x6) ?hi1x6 (fun K hK => ?_) AllReadyH.nil
            case hi1x6 => (simp only [List.getElem?_toArray, List.getElem?_cons_succ, List.getElem?_cons_zero]; exact rfl)
            go_simp
            go_at_call 36; refine ((HBt _).out).mono ?_; rintro e w5 ⟨rfl, hx5⟩
            refine hK.out _ _ ?_ (fun hHeld => ?_)
            · (repeat (first | exact Ext.refl _ | assumption | refine Ext.setCell ?_ (by first | (simp; done) | (simp; omega)) _ | refine Ext.drewN ?_ _ | refine Ext.alloc ?_ _ | refine Ext.drew ?_ | refine Ext.trans ?_ (by assumption)))
            clear hK K
            refine wpAnyH_take (i := 7) (oi := ?o1x7) (v := ?v1x7) ?hi1x7 (by kernel_rfl) ?hf1x7 ?hr1x7 (fun _ _ _ h => h) ?hy1x7 (by assumption) ?rest1x7
            case hi1x7 => (simp only [List.getElem?_toArray, List.getElem?_cons_succ, List.getElem?_cons_zero]; exact rfl)
            case hf1x7 => kernel_rfl
            case hr1x7 => kernel_rfl
            case hy1x7 => (refine Or.inl ⟨by rfl, ?_⟩; intro w hSw; (try dsimp only at hSw); go_simp; try with_reducible rfl)
            simp only [put_mk, List.set_cons_succ, List.set_cons_zero]
            refine wpAnyH_take (i := 8) (oi := ?o1x8) (v := ?v1x8) ?hi1x8 (by kernel_rfl) ?hf1x8 ?hr1x8 (fun _ _ _ h => h) ?hy1x8 (by assumption) ?rest1x8
            case hi1x8 => (simp only [List.getElem?_toArray, List.getElem?_cons_succ, List.getElem?_cons_zero]; exact rfl)
            case hf1x8 => kernel_rfl
            case hr1x8 => kernel_rfl
            case hy1x8 => (refine Or.inl ⟨by rfl, ?_⟩; intro w hSw; (try dsimp only at hSw); go_simp; try with_reducible rfl)
            simp only [put_mk, List.set_cons_succ, List.set_cons_zero]
            refine wpAnyH_take (i := 9) (oi := ?o1x9) (v := ?v1x9) ?hi1x9 (by kernel_rfl) ?hf1x9 ?hr1x9 (fun _ _ _ h => h) ?hy1x9 (by assumption) ?rest1x9
            case hi1x9 => (simp only [List.getElem?_toArray, List.getElem?_cons_succ, List.getElem?_cons_zero]; exact rfl)
            case hf1x9 => kernel_rfl
            case hr1x9 => kernel_rfl
            case hy1x9 => (refine Or.inl ⟨by rfl, ?_⟩; intro w hSw; (try dsimp only at hSw); go_simp; try with_reducible rfl)
            simp only [put_mk, List.set_cons_succ, List.set_cons_zero]
            refine wpAnyH_take (i := 10) (oi := ?o1x10) (v := ?v1x10) ?hi1x10 (by kernel_rfl) ?hf1x10 ?hr1x10 (fun _ _ _ h => h) ?hy1x10 (by assumption) ?rest1x10
            case hi1x10 => (simp only [List.getElem?_toArray, List.getElem?_cons_succ, List.getElem?_cons_zero]; exact rfl)
            case hf1x10 => kernel_rfl
            case hr1x10 => kernel_rfl
            case hy1x10 => (refine Or.inl ⟨by rfl, ?_⟩; intro w hSw; (try dsimp only at hSw); go_simp; try with_reducible rfl)
            simp only [put_mk, List.set_cons_succ, List.set_cons_zero]
            refine wpAnyH_take (i := 11) (oi := ?o1x11) (v := ?v1x11) ?hi1x11 (by kernel_rfl) ?hf1x11 ?hr1x11 (fun _ _ _ h => h) ?hy1x11 (by assumption) ?rest1x11
            case hi1x11 => (simp only [List.getElem?_toArray, List.getElem?_cons_succ, List.getElem?_cons_zero]; exact rfl)
            case hf1x11 => kernel_rfl
            case hr1x11 => kernel_rfl
            case hy1x11 => (refine Or.inl ⟨by rfl, ?_⟩; intro w hSw; (try dsimp only at hSw); go_simp; try with_reducible rfl)
            simp only [put_mk, List.set_cons_succ, List.set_cons_zero]
            refine wpAnyH_done (by kernel_rfl) ?_ _
            refine NoPanic.normal ?_
            clear e0 e1 f0 f1 wk wk2
            go_wp2
            go_ret
            exact ⟨ret_i HE7.out.symm, Hhx.out.trans hHeld⟩
          | some z =>
            obtain ⟨d, n'⟩ := z
            have hd8 := (leapO_spec hlp).1
            rw [hlp] at HBt
            have hn1 : ¬ n' = 0 := by have := (leapO_spec hlp).2.1; omega
            have hn2 : ¬ (n' : Int) = 0 := by omega
            have hdn : ((n' : Int) == 0) = false := by simp; omega
            by_cases h12 : 12 < n'
            · have HE7 := hidA (HE6.out.trans (if_pos (by unfold stepBad; rw [hlp]; simpa using h12)))
              have h13 : (12 : Int) < n' := by omega
              clear hlp
              have wk := Hwk.out
              have wk2 := Hwk2.out
              go_upto_region 11 with fail
              refine wp_region_noPanic ?_
              refine wp_region_held_drew (S := fun w' => Ext w2 w') (by kernel_rfl) ?_ (fun hHeld => ?_)
              · (repeat (first | exact Ext.refl _ | assumption | refine Ext.setCell ?_ (by first | (simp; done) | (simp; omega)) _ | refine Ext.drewN ?_ _ | refine Ext.alloc ?_ _ | refine Ext.drew ?_ | refine Ext.trans ?_ (by assumption)))
              refine wpAnyH_take (i := 0) (oi := ?o2x0) (v := ?v2x0) ?hi2x0 (by kernel_rfl) ?hf2x0 ?hr2x0 (fun _ _ _ h => h) ?hy2x0 (by assumption) ?rest2x0
              case hi2x0 => (simp only [List.getElem?_toArray, List.getElem?_cons_zero]; exact rfl)
              case hf2x0 => kernel_rfl
              case hr2x0 => kernel_rfl
              case hy2x0 => (refine Or.inl ⟨by rfl, ?_⟩; intro w hSw; (try dsimp only at hSw); go_simp; try with_reducible rfl)
              simp only [put_mk, List.set_cons_succ, List.set_cons_zero]
              refine wpAnyH_take (i := 1) (oi := ?o2x1) (v := ?v2x1) ?hi2x1 (by kernel_rfl) ?hf2x1 ?hr2x1 (fun _ _ _ h => h) ?hy2x1 (by assumption) ?rest2x1
              case hi2x1 => (simp only [List.getElem?_toArray, List.getElem?_cons_succ, List.getElem?_cons_zero]; exact rfl)
              case hf2x1 => kernel_rfl
              case hr2x1 => kernel_rfl
              case hy2x1 => (refine Or.inl ⟨by rfl, ?_⟩; intro w hSw; (try dsimp only at hSw); go_simp; try with_reducible rfl)
              simp only [put_mk, List.set_cons_succ, List.set_cons_zero]
              refine wpAnyH_take (i := 2) (oi := ?o2x2) (v := ?v2x2) ?hi2x2 (by kernel_rfl) ?hf2x2 ?hr2x2 (fun _ _ _ h => h) ?hy2x2 (by assumption) ?rest2x2
              case hi2x2 => (simp only [List.getElem?_toArray, List.getElem?_cons_succ, List.getElem?_cons_zero]; exact rfl)
              case hf2x2 => kernel_rfl
              case hr2x2 => kernel_rfl
              case hy2x2 => (refine Or.inl ⟨by rfl, ?_⟩; intro w hSw; (try dsimp only at hSw); go_simp; try with_reducible rfl)
              simp only [put_mk, List.set_cons_succ, List.set_cons_zero]
              refine wpAnyH_take (i := 3) (oi := ?o2x3) (v := ?v2x3) ?hi2x3 (by kernel_rfl) ?hf2x3 ?hr2x3 (fun _ _ _ h => h) ?hy2x3 (by assumption) ?rest2x3
              case hi2x3 => (simp only [List.getElem?_toArray, List.getElem?_cons_succ, List.getElem?_cons_zero]; exact rfl)
              case hf2x3 => kernel_rfl
              case hr2x3 => kernel_rfl
              case hy2x3 => (refine Or.inl ⟨by rfl, ?_⟩; intro w hSw; (try dsimp only at hSw); go_simp; try with_reducible rfl)
              simp only [put_mk, List.set_cons_succ, List.set_cons_zero]
              refine wpAnyH_take (i := 4) (oi := ?o2x4) (v := ?v2x4) ?hi2x4 (by kernel_rfl) ?hf2x4 ?hr2x4 (fun _ _ _ h => h) ?hy2x4 (by assumption) ?rest2x4
              case hi2x4 => (simp only [List.getElem?_toArray, List.getElem?_cons_succ, List.getElem?_cons_zero]; exact rfl)
              case hf2x4 => kernel_rfl
              case hr2x4 => kernel_rfl
              case hy2x4 => (refine Or.inl ⟨by rfl, ?_⟩; intro w hSw; (try dsimp only at hSw); go_simp; try with_reducible rfl)
              simp only [put_mk, List.set_cons_succ, List.set_cons_zero]
              refine wpAnyH_take (i := 5) (oi := ?o2x5) (v := ?v2x5) ?hi2x5 (by kernel_rfl) ?hf2x5 ?hr2x5 (fun _ _ _ h => h) ?hy2x5 (by assumption) ?rest2x5
              case hi2x5 => (simp only [List.getElem?_toArray, List.getElem?_cons_succ, List.getElem?_cons_zero]; exact rfl)
              case hf2x5 => kernel_rfl
              case hr2x5 => kernel_rfl
              case hy2x5 => (refine Or.inl ⟨by rfl, ?_⟩; intro w hSw; (try dsimp only at hSw); go_simp; try with_reducible rfl)
              simp only [put_mk, List.set_cons_succ, List.set_cons_zero]
              refine wpAnyH_ready (rs := [6]) (by kernel_rfl) (by simp) ?_
              refine AllReadyH.cons (o := ?o2x6) ?hi2x6 (fun K hK => ?_) AllReadyH.nil
              case hi2x6 => (simp only [List.getElem?_toArray, List.getElem?_cons_succ, List.getElem?_cons_zero]; exact rfl)
              go_simp
              go_at_call 36; refine ((HBt _).out).mono ?_; rintro e w5 ⟨rfl, hx5⟩
              refine hK.out _ _ ?_ (fun hHeld => ?_)
              · (repeat (first | exact Ext.refl _ | assumption | refine Ext.setCell ?_ (by first | (simp; done) | (simp; omega)) _ | refine Ext.drewN ?_ _ | refine Ext.alloc ?_ _ | refine Ext.drew ?_ | refine Ext.trans ?_ (by assumption)))
              clear hK K
              refine wpAnyH_take (i := 7) (oi := ?o2x7) (v := ?v2x7) ?hi2x7 (by kernel_rfl) ?hf2x7 ?hr2x7 (fun _ _ _ h => h) ?hy2x7 (by assumption) ?rest2x7
              case hi2x7 => (simp only [List.getElem?_toArray, List.getElem?_cons_succ, List.getElem?_cons_zero]; exact rfl)
              case hf2x7 => kernel_rfl
              case hr2x7 => kernel_rfl
              case hy2x7 => (refine Or.inl ⟨by rfl, ?_⟩; intro w hSw; (try dsimp only at hSw); go_simp; try with_reducible rfl)
              simp only [put_mk, List.set_cons_succ, List.set_cons_zero]
              refine wpAnyH_take (i := 8) (oi := ?o2x8) (v := ?v2x8) ?hi2x8 (by kernel_rfl) ?hf2x8 ?hr2x8 (fun _ _ _ h => h) ?hy2x8 (by assumption) ?rest2x8
              case hi2x8 => (simp only [List.getElem?_toArray, List.getElem?_cons_succ, List.getElem?_cons_zero]; exact rfl)
              case hf2x8 => kernel_rfl
              case hr2x8 => kernel_rfl
              case hy2x8 => (refine Or.inl ⟨by rfl, ?_⟩; intro w hSw; (try dsimp only at hSw); go_simp; try with_reducible rfl)
              simp only [put_mk, List.set_cons_succ, List.set_cons_zero]
              refine wpAnyH_take (i := 9) (oi := ?o2x9) (v := ?v2x9) ?hi2x9 (by kernel_rfl) ?hf2x9 ?hr2x9 (fun _ _ _ h => h) ?hy2x9 (by assumption) ?rest2x9
              case hi2x9 => (simp only [List.getElem?_toArray, List.getElem?_cons_succ, List.getElem?_cons_zero]; exact rfl)
              case hf2x9 => kernel_rfl
              case hr2x9 => kernel_rfl
              case hy2x9 => (refine Or.inl ⟨by rfl, ?_⟩; intro w hSw; (try dsimp only at hSw); go_simp; try with_reducible rfl)
              simp only [put_mk, List.set_cons_succ, List.set_cons_zero]
              refine wpAnyH_take (i := 10) (oi := ?o2x10) (v := ?v2x10) ?hi2x10 (by kernel_rfl) ?hf2x10 ?hr2x10 (fun _ _ _ h => h) ?hy2x10 (by assumption) ?rest2x10
              case hi2x10 => (simp only [List.getElem?_toArray, List.getElem?_cons_succ, List.getElem?_cons_zero]; exact rfl)
              case hf2x10 => kernel_rfl
              case hr2x10 => kernel_rfl
              case hy2x10 => (refine Or.inl ⟨by rfl, ?_⟩; intro w hSw; (try dsimp only at hSw); go_simp; try with_reducible rfl)
              simp only [put_mk, List.set_cons_succ, List.set_cons_zero]
              refine wpAnyH_take (i := 11) (oi := ?o2x11) (v := ?v2x11) ?hi2x11 (by kernel_rfl) ?hf2x11 ?hr2x11 (fun _ _ _ h => h) ?hy2x11 (by assumption) ?rest2x11
              case hi2x11 => (simp only [List.getElem?_toArray, List.getElem?_cons_succ, List.getElem?_cons_zero]; exact rfl)
              case hf2x11 => kernel_rfl
              case hr2x11 => kernel_rfl
              case hy2x11 => (refine Or.inl ⟨by rfl, ?_⟩; intro w hSw; (try dsimp only at hSw); go_simp; try with_reducible rfl)
              simp only [put_mk, List.set_cons_succ, List.set_cons_zero]
              refine wpAnyH_done (by kernel_rfl) ?_ _
              refine NoPanic.normal ?_
              clear e0 e1 f0 f1 wk wk2
              go_wp2
              go_ret
              exact ⟨ret_i HE7.out.symm, Hhx.out.trans hHeld⟩
            · have HE7 := hidA (HE6.out.trans (if_neg (by unfold stepBad; rw [hlp]; simpa using h12)))
              have h13 : ¬ (12 : Int) < n' := by omega
              clear hlp
              have wk := Hwk.out
              have wk2 := Hwk2.out
              go_upto_region 11 with fail
              refine wp_region_noPanic ?_
              refine wp_region_held_drew (S := fun w' => Ext w2 w') (by kernel_rfl) ?_ (fun hHeld => ?_)
              · (repeat (first | exact Ext.refl _ | assumption | refine Ext.setCell ?_ (by first | (simp; done) | (simp; omega)) _ | refine Ext.drewN ?_ _ | refine Ext.alloc ?_ _ | refine Ext.drew ?_ | refine Ext.trans ?_ (by assumption)))
              refine wpAnyH_take (i := 0) (oi := ?o3x0) (v := ?v3x0) ?hi3x0 (by kernel_rfl) ?hf3x0 ?hr3x0 (fun _ _ _ h => h) ?hy3x0 (by assumption) ?rest3x0
              case hi3x0 => (simp only [List.getElem?_toArray, List.getElem?_cons_zero]; exact rfl)
              case hf3x0 => kernel_rfl
              case hr3x0 => kernel_rfl
              case hy3x0 => (refine Or.inl ⟨by rfl, ?_⟩; intro w hSw; (try dsimp only at hSw); go_simp; try with_reducible rfl)
              simp only [put_mk, List.set_cons_succ, List.set_cons_zero]
              refine wpAnyH_take (i := 1) (oi := ?o3x1) (v := ?v3x1) ?hi3x1 (by kernel_rfl) ?hf3x1 ?hr3x1 (fun _ _ _ h => h) ?hy3x1 (by assumption) ?rest3x1
              case hi3x1 => (simp only [List.getElem?_toArray, List.getElem?_cons_succ, List.getElem?_cons_zero]; exact rfl)
              case hf3x1 => kernel_rfl
              case hr3x1 => kernel_rfl
              case hy3x1 => (refine Or.inl ⟨by rfl, ?_⟩; intro w hSw; (try dsimp only at hSw); go_simp; try with_reducible rfl)
              simp only [put_mk, List.set_cons_succ, List.set_cons_zero]
              refine wpAnyH_take (i := 2) (oi := ?o3x2) (v := ?v3x2) ?hi3x2 (by kernel_rfl) ?hf3x2 ?hr3x2 (fun _ _ _ h => h) ?hy3x2 (by assumption) ?rest3x2
              case hi3x2 => (simp only [List.getElem?_toArray, List.getElem?_cons_succ, List.getElem?_cons_zero]; exact rfl)
              case hf3x2 => kernel_rfl
              case hr3x2 => kernel_rfl
              case hy3x2 => (refine Or.inl ⟨by rfl, ?_⟩; intro w hSw; (try dsimp only at hSw); go_simp; try with_reducible rfl)
              simp only [put_mk, List.set_cons_succ, List.set_cons_zero]
              refine wpAnyH_take (i := 3) (oi := ?o3x3) (v := ?v3x3) ?hi3x3 (by kernel_rfl) ?hf3x3 ?hr3x3 (fun _ _ _ h => h) ?hy3x3 (by assumption) ?rest3x3
              case hi3x3 => (simp only [List.getElem?_toArray, List.getElem?_cons_succ, List.getElem?_cons_zero]; exact rfl)
              case hf3x3 => kernel_rfl
              case hr3x3 => kernel_rfl
              case hy3x3 => (refine Or.inl ⟨by rfl, ?_⟩; intro w hSw; (try dsimp only at hSw); go_simp; try with_reducible rfl)
              simp only [put_mk, List.set_cons_succ, List.set_cons_zero]
              refine wpAnyH_take (i := 4) (oi := ?o3x4) (v := ?v3x4) ?hi3x4 (by kernel_rfl) ?hf3x4 ?hr3x4 (fun _ _ _ h => h) ?hy3x4 (by assumption) ?rest3x4
              case hi3x4 => (simp only [List.getElem?_toArray, List.getElem?_cons_succ, List.getElem?_cons_zero]; exact rfl)
              case hf3x4 => kernel_rfl
              case hr3x4 => kernel_rfl
              case hy3x4 => (refine Or.inl ⟨by rfl, ?_⟩; intro w hSw; (try dsimp only at hSw); go_simp; try with_reducible rfl)
              simp only [put_mk, List.set_cons_succ, List.set_cons_zero]
              refine wpAnyH_take (i := 5) (oi := ?o3x5) (v := ?v3x5) ?hi3x5 (by kernel_rfl) ?hf3x5 ?hr3x5 (fun _ _ _ h => h) ?hy3x5 (by assumption) ?rest3x5
              case hi3x5 => (simp only [List.getElem?_toArray, List.getElem?_cons_succ, List.getElem?_cons_zero]; exact rfl)
              case hf3x5 => kernel_rfl
              case hr3x5 => kernel_rfl
              case hy3x5 => (refine Or.inl ⟨by rfl, ?_⟩; intro w hSw; (try dsimp only at hSw); go_simp; try with_reducible rfl)
              simp only [put_mk, List.set_cons_succ, List.set_cons_zero]
              refine wpAnyH_ready (rs := [6]) (by kernel_rfl) (by simp) ?_
              refine AllReadyH.cons (o := ?o3x6) ?hi3x6 (fun K hK => ?_) AllReadyH.nil
              case hi3x6 => (simp only [List.getElem?_toArray, List.getElem?_cons_succ, List.getElem?_cons_zero]; exact rfl)
              go_simp
              go_at_call 36; refine ((HBt _).out).mono ?_; rintro e w5 ⟨rfl, hx5⟩
              refine hK.out _ _ ?_ (fun hHeld => ?_)
              · (repeat (first | exact Ext.refl _ | assumption | refine Ext.setCell ?_ (by first | (simp; done) | (simp; omega)) _ | refine Ext.drewN ?_ _ | refine Ext.alloc ?_ _ | refine Ext.drew ?_ | refine Ext.trans ?_ (by assumption)))
              clear hK K
              refine wpAnyH_take (i := 7) (oi := ?o3x7) (v := ?v3x7) ?hi3x7 (by kernel_rfl) ?hf3x7 ?hr3x7 (fun _ _ _ h => h) ?hy3x7 (by assumption) ?rest3x7
              case hi3x7 => (simp only [List.getElem?_toArray, List.getElem?_cons_succ, List.getElem?_cons_zero]; exact rfl)
              case hf3x7 => kernel_rfl
              case hr3x7 => kernel_rfl
              case hy3x7 => (refine Or.inl ⟨by rfl, ?_⟩; intro w hSw; (try dsimp only at hSw); go_simp; try with_reducible rfl)
              simp only [put_mk, List.set_cons_succ, List.set_cons_zero]
              refine wpAnyH_take (i := 8) (oi := ?o3x8) (v := ?v3x8) ?hi3x8 (by kernel_rfl) ?hf3x8 ?hr3x8 (fun _ _ _ h => h) ?hy3x8 (by assumption) ?rest3x8
              case hi3x8 => (simp only [List.getElem?_toArray, List.getElem?_cons_succ, List.getElem?_cons_zero]; exact rfl)
              case hf3x8 => kernel_rfl
              case hr3x8 => kernel_rfl
              case hy3x8 => (refine Or.inl ⟨by rfl, ?_⟩; intro w hSw; (try dsimp only at hSw); go_simp; try with_reducible rfl)
              simp only [put_mk, List.set_cons_succ, List.set_cons_zero]
              refine wpAnyH_take (i := 9) (oi := ?o3x9) (v := ?v3x9) ?hi3x9 (by kernel_rfl) ?hf3x9 ?hr3x9 (fun _ _ _ h => h) ?hy3x9 (by assumption) ?rest3x9
              case hi3x9 => (simp only [List.getElem?_toArray, List.getElem?_cons_succ, List.getElem?_cons_zero]; exact rfl)
              case hf3x9 => kernel_rfl
              case hr3x9 => kernel_rfl
              case hy3x9 => (refine Or.inl ⟨by rfl, ?_⟩; intro w hSw; (try dsimp only at hSw); go_simp; try with_reducible rfl)
              simp only [put_mk, List.set_cons_succ, List.set_cons_zero]
              refine wpAnyH_take (i := 10) (oi := ?o3x10) (v := ?v3x10) ?hi3x10 (by kernel_rfl) ?hf3x10 ?hr3x10 (fun _ _ _ h => h) ?hy3x10 (by assumption) ?rest3x10
              case hi3x10 => (simp only [List.getElem?_toArray, List.getElem?_cons_succ, List.getElem?_cons_zero]; exact rfl)
              case hf3x10 => kernel_rfl
              case hr3x10 => kernel_rfl
              case hy3x10 => (refine Or.inl ⟨by rfl, ?_⟩; intro w hSw; (try dsimp only at hSw); go_simp; try with_reducible rfl)
              simp only [put_mk, List.set_cons_succ, List.set_cons_zero]
              refine wpAnyH_take (i := 11) (oi := ?o3x11) (v := ?v3x11) ?hi3x11 (by kernel_rfl) ?hf3x11 ?hr3x11 (fun _ _ _ h => h) ?hy3x11 (by assumption) ?rest3x11
              case hi3x11 => (simp only [List.getElem?_toArray, List.getElem?_cons_succ, List.getElem?_cons_zero]; exact rfl)
              case hf3x11 => kernel_rfl
              case hr3x11 => kernel_rfl
              case hy3x11 => (refine Or.inl ⟨by rfl, ?_⟩; intro w hSw; (try dsimp only at hSw); go_simp; try with_reducible rfl)
              simp only [put_mk, List.set_cons_succ, List.set_cons_zero]
              refine wpAnyH_done (by kernel_rfl) ?_ _
              refine NoPanic.normal ?_
              clear e0 e1 f0 f1 wk wk2
              go_wp2
              go_roundw
              case rel => exact ⟨k + 1, by omega, by go_num, HE7.out, fun _ => by rw [Nat.add_sub_cancel, hpp2.out]; exact Hb.out, Hhx.out.trans hHeld⟩
              case measure => simp [intOf]; omega
      all_goals
        have hb : farP (px, py) = true := by unfold farP; simp; omega
        have HE5 := hidA (HE4.out.trans (if_pos hb))
        clear hb HE4
        go_quiet (fail)
        clear p0 p1
        go_wp2
        go_ret
        exact ⟨ret_i HE5.out.symm, hx1.trans (by repeat (first | exact Ext.refl _ | assumption | refine Ext.setCell ?_ (by first | (simp; done) | (simp; omega)) _ | refine Ext.drewN ?_ _ | refine Ext.alloc ?_ _ | refine Ext.drew ?_ | refine Ext.trans ?_ (by assumption)))⟩
    · have hkn2 : n = k := by omega
      subst hkn2
      have HE5 := hidA (show E = 0 from by rw [HEk.out, Nat.sub_self]; rfl)
      go_wp2
      go_ret
      exact ⟨ret_i HE5.out.symm, hx⟩
end Go.Proofs.Ytpgdinpckolfpaa

namespace Go.Proofs.Ytpgdinpckolfpaa
open Go.RowKit
attribute [local go_sem ↓] Go.wp_at_zero Go.wp_at_succ
attribute [local go_sem] run_store_float

set_option maxRecDepth 100000 in
set_option maxHeartbeats 1600000 in
theorem eqPts_same (A B : Option Addr) (n c d : Nat) (M : List (Int × Int)) (w : World) (hn : M.length = n) (ha : Rd w A (ptv M)) (hb : Rd w B (ptv M)) (hnb : n ≤ 4000000000) :
    Calls Try.prog 26 #[.slice A n c, .slice B n d] w fun e w' => e = .returned (.bool true) ∧ Ext w w' := by
  have Hn := hidA hn
  clear hn
  go_enter Try.func26, Try.ntmps26
  go_wp2
  go_loopw [13] (fun i wr => ∃ k m : Nat, k ≤ n ∧ i = .int .i64 k ∧ wr = w.drewN m) (fun i _ => n - (intOf i).toNat)
  case atStart => exact ⟨0, 0, Nat.zero_le _, rfl, rfl⟩
  case round =>
    obtain ⟨k, m, hk, rfl, rfl⟩ := hrel
    by_cases hlt : k < n
    · have hkl : k < M.length := by have := Hn.out; omega
      obtain ⟨ad, rfl, hbk, e0, e1⟩ := pt_at ha hkl
      obtain ⟨ad2, rfl, hbk2, e2, e3⟩ := pt_at hb hkl
      have k0 : (0 : Int) ≤ k := by omega
      have k1 : (k : Int) < n := by omega
      generalize (M.getD k (0, 0)).1 = qx at *
      generalize (M.getD k (0, 0)).2 = qy at *
      clear ha hb
      go_wp2
      go_quiet (fail)
      go_wp2
      go_roundw
      case rel => exact ⟨k + 1, _, by omega, by go_num, rfl⟩
      case measure => simp [intOf]; omega
    · obtain rfl : k = n := by omega
      go_wp2
      go_ret
      exact ⟨rfl, (by repeat (first | exact Ext.refl _ | assumption | refine Ext.setCell ?_ (by first | (simp; done) | (simp; omega)) _ | refine Ext.drewN ?_ _ | refine Ext.alloc ?_ _ | refine Ext.drew ?_ | refine Ext.trans ?_ (by assumption)))⟩
theorem wayI_ok {bad : Int × Int → Bool} {l : List (Int × Int)} : ∀ m k, wayI bad l k m = 0 → ∀ i, k ≤ i → i < k + m → bad (l.getD i (0, 0)) = false ∧ (0 < i → stepBad (l.getD (i - 1) (0, 0)) (l.getD i (0, 0)) = false)
  | 0, k, _, i, h1, h2 => by omega
  | m + 1, k, h, i, h1, h2 => by
    unfold wayI at h
    split at h
    · cases h
    · rename_i hb
      split at h
      · cases h
      · rename_i hs
        by_cases e : i = k
        · subst e
          refine ⟨by simpa using hb, fun h0 => ?_⟩
          cases hq : stepBad (l.getD (i - 1) (0, 0)) (l.getD i (0, 0))
          · rfl
          · exact absurd ⟨h0, hq⟩ hs
        · exact wayI_ok m (k + 1) h i (by omega) (by omega)
/-- the step to place i -/
def lpo (l : List (Int × Int)) (i : Nat) : Nat × Nat := (leapO ((l.getD i (0, 0)).1 - (l.getD (i - 1) (0, 0)).1) ((l.getD i (0, 0)).2 - (l.getD (i - 1) (0, 0)).2)).getD (0, 0)
/-- a way that may be -/
structure WayOk (bad : Int × Int → Bool) (l : List (Int × Int)) : Prop where
  pos : 1 ≤ l.length
  le : l.length ≤ 65536
  ok : ∀ i, i < l.length → bad (l.getD i (0, 0)) = false
  st : ∀ i, 0 < i → i < l.length → leapO ((l.getD i (0, 0)).1 - (l.getD (i - 1) (0, 0)).1) ((l.getD i (0, 0)).2 - (l.getD (i - 1) (0, 0)).2) = some (lpo l i) ∧ (lpo l i).1 < 8 ∧ 1 ≤ (lpo l i).2 ∧ (lpo l i).2 ≤ 12
theorem wayOk {bad : Int × Int → Bool} {l : List (Int × Int)} (h : wayE bad l = 0) : WayOk bad l := by
  unfold wayE at h
  split at h
  · cases h
  · split at h
    · cases h
    · have hk := wayI_ok _ _ h
      refine ⟨by omega, by omega, fun i hi => (hk i (by omega) (by omega)).1, fun i h0 hi => ?_⟩
      have hs := (hk i (by omega) (by omega)).2 h0
      unfold stepBad at hs
      cases hl : leapO ((l.getD i (0, 0)).1 - (l.getD (i - 1) (0, 0)).1) ((l.getD i (0, 0)).2 - (l.getD (i - 1) (0, 0)).2) with
      | none => rw [hl] at hs; cases hs
      | some p =>
        obtain ⟨d, n⟩ := p
        have e : lpo l i = (d, n) := by unfold lpo; rw [hl]; rfl
        rw [hl] at hs
        have hsp := leapO_spec hl
        rw [e]
        exact ⟨rfl, hsp.1, hsp.2.1, by simpa using hs⟩
/-- whether a place is kept -/
def cornB (l : List (Int × Int)) (i : Nat) : Bool := i == 0 || i + 1 == l.length || !((lpo l i).1 == (lpo l (i + 1)).1 && (lpo l i).2 == 1 && (lpo l (i + 1)).2 == 1)
def cornL (l : List (Int × Int)) (k : Nat) : List (Int × Int) := ((List.range k).filter (cornB l)).map fun i => l.getD i (0, 0)
theorem cornL_succ (l : List (Int × Int)) (k : Nat) : cornL l (k + 1) = cornL l k ++ (if cornB l k = true then [l.getD k (0, 0)] else []) := by
  unfold cornL
  rw [List.range_succ, List.filter_append, List.map_append]
  cases h : cornB l k <;> simp [h]
theorem cornL_le (l : List (Int × Int)) (k : Nat) : (cornL l k).length ≤ k := by
  unfold cornL
  rw [List.length_map]
  have := List.length_filter_le (cornB l) (List.range k)
  simpa using this
set_option maxRecDepth 100000 in
set_option maxHeartbeats 6400000 in
theorem Corners_ok (A : Option Addr) (n c : Nat) (l : List (Int × Int)) (w : World) (hn : l.length = n) (hV : Rd w A (ptv l)) (hok : WayOk farP l) (hE : wayE farP l = 0) :
    Calls Try.prog 38 #[.slice A n c] w fun e w' => ∃ v, e = .returned (.tuple #[v, .int .i64 0]) ∧ OwnP w' w.heap.size v (cornL l n) ∧ Ext w w' := by
  have HCk := fun (w' : World) (h : Ext w w') => hidA (checkWay_any 77 #[] enters_place farP A n c l w' (fun p hp => farP_false hp) (fun x y w2 _ => place_any x y w2) hn (hV.ext h))
  rw [hE] at HCk
  have HBt := fun (qx qy px py : Int) (w : World) (h1 : farP (qx, qy) = false) (h2 : farP (px, py) = false) => hidA (between_any qx qy px py w (by have := farP_false h1; dsimp only at this; omega) (by have := farP_false h1; dsimp only at this; omega) (by have := farP_false h2; dsimp only at this; omega) (by have := farP_false h2; dsimp only at this; omega))
  have Hn := hidA hn
  have Hok := hidA hok
  have hn6 : n ≤ 65536 := by rw [← hn]; exact hok.le
  obtain ⟨ti, hi0, hz0, hz1, hz2⟩ := info_parts infoPt
  clear hok hE hn
  go_enter Try.func38, Try.ntmps38
  go_upto_region 6 with (go_at_call 80; refine ((HCk _ (Ext.refl _)).out).mono ?_; rintro e w1 ⟨rfl, hx1⟩)
  clear HCk
  go_loopw [5, 19] (fun s5 s19 wr => ∃ k : Nat, k ≤ n ∧ s19 = .int .i64 k ∧ OwnP wr w.heap.size s5 (cornL l k) ∧ Ext w wr) (fun _ s19 _ => n - (intOf s19).toNat)
  case atStart => exact ⟨0, Nat.zero_le _, rfl, World.ownsRow_nil w1 _ _ 2, hx1⟩
  case round =>
    clear hx1
    obtain ⟨k, hk, rfl, hO, hx⟩ := hrel
    by_cases hkn : k < n
    · have hkl : k < l.length := by have := Hn.out; omega
      obtain ⟨ad, rfl, hbk, d0, d1⟩ := pt_at (hV.ext hx) hkl
      have i0 : (0 : Int) ≤ k := by omega
      have i1 : (k : Int) < n := by omega
      have hfp := Hok.out.ok k hkl
      obtain ⟨px, py, hpp⟩ : ∃ px py, l.getD k (0, 0) = (px, py) := ⟨_, _, rfl⟩
      rw [hpp] at d0 d1 hfp
      dsimp only at d0 d1
      have Hpp := hidA hpp
      have hcl := cornL_le l k
      go_upto_region 8 with fail
      have kP : Bk (wr.alloc (.cells #[.int .i64 px, .int .i64 py] 32)) wr.heap.size 32 #[.int .i64 px, .int .i64 py] := Bk.new' rfl
      have hx2 := hx.alloc (.cells #[.int .i64 px, .int .i64 py] 32)
      have hO2 := hO.ext ((Ext.refl wr).alloc (.cells #[.int .i64 px, .int .i64 py] 32))
      clear d0 d1 hpp hO
      generalize wr.alloc (.cells #[.int .i64 px, .int .i64 py] 32) = w2 at *
      generalize wr.heap.size = ha at *
      by_cases hedge : k = 0 ∨ k + 1 = n
      · have Hcb := hidA (show cornB l k = true from by unfold cornB; have := Hn.out; rcases hedge with h | h <;> simp [h]; omega)
        have hg : ¬ (0 : Int) < k ∨ (0 : Int) < k ∧ ¬ (k : Int) < n - 1 := by omega
        have Hx2 := hidA hx2
        have p0 := kP.cell 0
        have p1 := kP.cell 1
        clear hedge hx2 kP hfp
        have wn := IntWalk.wrap64_in ((n : Int) - 1) ⟨by omega, by omega⟩
        have Wn := hidA wn
        clear wn
        rcases hg with hg1 | ⟨hg1, hg2⟩
        · go_upto_region 12 with fail
          have hown2 := hidA (hO2.ext ((Ext.refl w2).alloc (.cells #[.int .i64 px, .int .i64 py] 32)))
          have hnews : Hid (∀ j u, ([Value.int .i64 px, .int .i64 py] : List Value)[j]? = some u → (w2.alloc (.cells #[.int .i64 px, .int .i64 py] 32)).cell? ((⟨w2.heap.size, 0, none⟩ : Addr).add j) = some u) := World.news_of_block (cs := #[.int .i64 px, .int .i64 py]) (t := 32) (fr := (0, 0)) (heap_alloc_new w2 _)
          have hone : Hid (∀ u ∈ ([Value.int .i64 px, .int .i64 py] : List Value), u.oneCell' = true) := by intro u hu; simp at hu; rcases hu with rfl | rfl <;> rfl
          have hs9 := hidA (show w.heap.size ≤ (w2.alloc (.cells #[.int .i64 px, .int .i64 py] 32)).heap.size from by have := Hx2.out.size; rw [World.size_alloc]; omega)
          clear hO2
          go_wp2_with (at_builtin; (refine wpList_append_lies _ (by rfl) _ _ 46 (by rfl) w.heap.size 32 ti (.agg #[.int .i64 0, .int .i64 0]) 2 16 Try.underlying46 hi0 hz0 hz1 hz2 (by rfl) (by decide) _ _ _ (by rfl) hown2.out ⟨w2.heap.size, 0, none⟩ 1 1 [.int .i64 px, .int .i64 py] (by rfl) (by rfl) hnews.out hone.out (by omega) (by unfold maxLen; omega) (by omega) hs9.out (w2.heap.size + 1) (by simp) ?_; intro gg cap w9 hown9 hgrow9 hat hlt))
          have hx9 := (Hx2.out.alloc (.cells #[.int .i64 px, .int .i64 py] 32)).grown hgrow9 (fun b hb => (World.ownsRow.lt hown2.out b hb).1)
          have HO9 := hidA hown9
          have Hx9 := hidA hx9
          clear hown9 hgrow9 hat hlt hx9
          go_roundw
          case rel => exact ⟨k + 1, by omega, by go_num, by have h8 := HO9.out; rw [cornL_succ, Hcb.out, Hpp.out]; unfold OwnP; simp only [if_true, ptv_append, List.length_append, List.length_cons, List.length_nil]; exact h8, Hx9.out⟩
          case measure => simp [intOf]; omega
        · have wn := Wn.out
          go_upto_region 12 with fail
          clear wn
          have hown2 := hidA (hO2.ext ((Ext.refl w2).alloc (.cells #[.int .i64 px, .int .i64 py] 32)))
          have hnews : Hid (∀ j u, ([Value.int .i64 px, .int .i64 py] : List Value)[j]? = some u → (w2.alloc (.cells #[.int .i64 px, .int .i64 py] 32)).cell? ((⟨w2.heap.size, 0, none⟩ : Addr).add j) = some u) := World.news_of_block (cs := #[.int .i64 px, .int .i64 py]) (t := 32) (fr := (0, 0)) (heap_alloc_new w2 _)
          have hone : Hid (∀ u ∈ ([Value.int .i64 px, .int .i64 py] : List Value), u.oneCell' = true) := by intro u hu; simp at hu; rcases hu with rfl | rfl <;> rfl
          have hs9 := hidA (show w.heap.size ≤ (w2.alloc (.cells #[.int .i64 px, .int .i64 py] 32)).heap.size from by have := Hx2.out.size; rw [World.size_alloc]; omega)
          clear hO2
          go_wp2_with (at_builtin; (refine wpList_append_lies _ (by rfl) _ _ 46 (by rfl) w.heap.size 32 ti (.agg #[.int .i64 0, .int .i64 0]) 2 16 Try.underlying46 hi0 hz0 hz1 hz2 (by rfl) (by decide) _ _ _ (by rfl) hown2.out ⟨w2.heap.size, 0, none⟩ 1 1 [.int .i64 px, .int .i64 py] (by rfl) (by rfl) hnews.out hone.out (by omega) (by unfold maxLen; omega) (by omega) hs9.out (w2.heap.size + 1) (by simp) ?_; intro gg cap w9 hown9 hgrow9 hat hlt))
          have hx9 := (Hx2.out.alloc (.cells #[.int .i64 px, .int .i64 py] 32)).grown hgrow9 (fun b hb => (World.ownsRow.lt hown2.out b hb).1)
          have HO9 := hidA hown9
          have Hx9 := hidA hx9
          clear hown9 hgrow9 hat hlt hx9
          go_roundw
          case rel => exact ⟨k + 1, by omega, by go_num, by have h8 := HO9.out; rw [cornL_succ, Hcb.out, Hpp.out]; unfold OwnP; simp only [if_true, ptv_append, List.length_append, List.length_cons, List.length_nil]; exact h8, Hx9.out⟩
          case measure => simp [intOf]; omega
      · have hkp : 0 < k := by omega
        have hk1 : k + 1 < n := by omega
        have hg1 : (0 : Int) < k := by omega
        have hg2 : (k : Int) < n - 1 := by omega
        have s1 := Hok.out.st k hkp hkl
        have s2 := Hok.out.st (k + 1) (by omega) (by have := Hn.out; omega)
        rw [Nat.add_sub_cancel] at s2
        obtain ⟨qx, qy, hqq⟩ : ∃ qx qy, l.getD (k - 1) (0, 0) = (qx, qy) := ⟨_, _, rfl⟩
        obtain ⟨rx, ry, hrr⟩ : ∃ rx ry, l.getD (k + 1) (0, 0) = (rx, ry) := ⟨_, _, rfl⟩
        have hfq := Hok.out.ok (k - 1) (by omega)
        have hfr := Hok.out.ok (k + 1) (by have := Hn.out; omega)
        rw [Hpp.out, hqq] at s1
        rw [Hpp.out, hrr] at s2
        rw [hqq] at hfq
        rw [hrr] at hfr
        dsimp only at s1 s2
        have Hcb : Hid (cornB l k = !((lpo l k).1 == (lpo l (k + 1)).1 && (lpo l k).2 == 1 && (lpo l (k + 1)).2 == 1)) := by
          show _ = _
          unfold cornB
          have e1 : (k == 0) = false := by simp; omega
          have e2 : (k + 1 == l.length) = false := by simp; have := Hn.out; omega
          rw [e1, e2]
          simp
        have HB1 := fun (w : World) => HBt qx qy px py w hfq hfp
        have HB2 := fun (w : World) => HBt px py rx ry w hfp hfr
        unfold btV at HB1 HB2
        rw [s1.1] at HB1
        rw [s2.1] at HB2
        obtain ⟨d1, n1, hl1⟩ : ∃ d1 n1, lpo l k = (d1, n1) := ⟨_, _, rfl⟩
        obtain ⟨d2, n2, hl2⟩ : ∃ d2 n2, lpo l (k + 1) = (d2, n2) := ⟨_, _, rfl⟩
        rw [hl1] at HB1 Hcb
        rw [hl2] at HB2 Hcb
        simp only at HB1 HB2
        have e0 : ∀ w', Ext w2 w' → w'.cell? (ad.add ((k - 1) * 2)) = some (.int .i64 qx) := fun w' h => by
          obtain ⟨ad', e, _, d0, _⟩ := pt_at (hV.ext (hx2.trans h)) (show k - 1 < l.length by omega)
          injection e with e
          subst e
          rw [hqq] at d0
          exact d0
        have e1 : ∀ w', Ext w2 w' → w'.cell? ⟨(ad.add ((k - 1) * 2)).block, (ad.add ((k - 1) * 2)).off + 1, none⟩ = some (.int .i64 qy) := fun w' h => by
          obtain ⟨ad', e, _, _, d1⟩ := pt_at (hV.ext (hx2.trans h)) (show k - 1 < l.length by omega)
          injection e with e
          subst e
          rw [hqq] at d1
          exact d1
        have e2 : ∀ w', Ext w2 w' → w'.cell? (ad.add ((k + 1) * 2)) = some (.int .i64 rx) := fun w' h => by
          obtain ⟨ad', e, _, d0, _⟩ := pt_at (hV.ext (hx2.trans h)) (show k + 1 < l.length by have := Hn.out; omega)
          injection e with e
          subst e
          rw [hrr] at d0
          exact d0
        have e3 : ∀ w', Ext w2 w' → w'.cell? ⟨(ad.add ((k + 1) * 2)).block, (ad.add ((k + 1) * 2)).off + 1, none⟩ = some (.int .i64 ry) := fun w' h => by
          obtain ⟨ad', e, _, _, d1⟩ := pt_at (hV.ext (hx2.trans h)) (show k + 1 < l.length by have := Hn.out; omega)
          injection e with e
          subst e
          rw [hrr] at d1
          exact d1
        have f0 : ∀ w', Ext w2 w' → w'.cell? ⟨ha, 0, none⟩ = some (.int .i64 px) := fun w' h => (kP.ext h).cell 0
        have f1 : ∀ w', Ext w2 w' → w'.cell? ⟨ha, 1, none⟩ = some (.int .i64 py) := fun w' h => (kP.ext h).cell 1
        have j0 : (0 : Int) ≤ ((k - 1 : Nat) : Int) := by omega
        have j1 : ((k - 1 : Nat) : Int) < n := by omega
        have j2 : (0 : Int) ≤ ((k + 1 : Nat) : Int) := by omega
        have j3 : ((k + 1 : Nat) : Int) < n := by omega
        have j4 : (k : Int) + 1 < n := by omega
        have Hwk := hidA (show wrap64 ((k : Int) - 1) = ((k - 1 : Nat) : Int) by rw [IntWalk.wrap64_in _ ⟨by omega, by omega⟩]; omega)
        have Hwk2 := hidA (show IntKind.i64.wrap ((k : Int) - 1) = ((k - 1 : Nat) : Int) by rw [IntWalk.i64_in _ ⟨by omega, by omega⟩]; omega)
        have Hwk3 := hidA (show wrap64 ((k : Int) + 1) = (k : Int) + 1 from IntWalk.wrap64_in _ ⟨by omega, by omega⟩)
        have Hwk4 := hidA (show IntKind.i64.wrap ((k : Int) + 1) = (k : Int) + 1 from IntWalk.i64_in _ ⟨by omega, by omega⟩)
        have j5 : (0 : Int) ≤ (k : Int) + 1 := by omega
        have Hwn := hidA (IntWalk.wrap64_in ((n : Int) - 1) ⟨by omega, by omega⟩)
        have hcs : ¬ d1 = d2 ∨ (d1 = d2 ∧ ¬ n1 = 1) ∨ (d1 = d2 ∧ n1 = 1 ∧ ¬ n2 = 1) ∨ (d1 = d2 ∧ n1 = 1 ∧ n2 = 1) := by omega
        have Hx2 := hidA hx2
        have KP := hidA kP
        clear hedge s1 s2 hl1 hl2 hqq hrr hfq hfr hfp HBt hx2 kP
        have wn := Hwn.out
        go_upto_region 9 with fail
        clear wn
        have wk := Hwk.out
        have wk2 := Hwk2.out
        refine wp_region_noPanic ?_
        refine wp_region_held_drew (S := fun w' => Ext w2 w') (by kernel_rfl) ?_ (fun hHeld => ?_)
        · (repeat (first | exact Ext.refl _ | assumption | refine Ext.setCell ?_ (by first | (simp; done) | (simp; omega)) _ | refine Ext.drewN ?_ _ | refine Ext.alloc ?_ _ | refine Ext.drew ?_ | refine Ext.trans ?_ (by assumption)))
        refine wpAnyH_take (i := 0) (oi := ?o1x0) (v := ?v1x0) ?hi1x0 (by kernel_rfl) ?hf1x0 ?hr1x0 (fun _ _ _ h => h) ?hy1x0 (by assumption) ?rest1x0
        case hi1x0 => (simp only [List.getElem?_toArray, List.getElem?_cons_zero]; exact rfl)
        case hf1x0 => kernel_rfl
        case hr1x0 => kernel_rfl
        case hy1x0 => (refine Or.inl ⟨by rfl, ?_⟩; intro w hSw; (try dsimp only at hSw); go_simp; try with_reducible rfl)
        simp only [put_mk, List.set_cons_succ, List.set_cons_zero]
        refine wpAnyH_take (i := 1) (oi := ?o1x1) (v := ?v1x1) ?hi1x1 (by kernel_rfl) ?hf1x1 ?hr1x1 (fun _ _ _ h => h) ?hy1x1 (by assumption) ?rest1x1
        case hi1x1 => (simp only [List.getElem?_toArray, List.getElem?_cons_succ, List.getElem?_cons_zero]; exact rfl)
        case hf1x1 => kernel_rfl
        case hr1x1 => kernel_rfl
        case hy1x1 => (refine Or.inl ⟨by rfl, ?_⟩; intro w hSw; (try dsimp only at hSw); go_simp; try with_reducible rfl)
        simp only [put_mk, List.set_cons_succ, List.set_cons_zero]
        refine wpAnyH_take (i := 2) (oi := ?o1x2) (v := ?v1x2) ?hi1x2 (by kernel_rfl) ?hf1x2 ?hr1x2 (fun _ _ _ h => h) ?hy1x2 (by assumption) ?rest1x2
        case hi1x2 => (simp only [List.getElem?_toArray, List.getElem?_cons_succ, List.getElem?_cons_zero]; exact rfl)
        case hf1x2 => kernel_rfl
        case hr1x2 => kernel_rfl
        case hy1x2 => (refine Or.inl ⟨by rfl, ?_⟩; intro w hSw; (try dsimp only at hSw); go_simp; try with_reducible rfl)
        simp only [put_mk, List.set_cons_succ, List.set_cons_zero]
        refine wpAnyH_take (i := 3) (oi := ?o1x3) (v := ?v1x3) ?hi1x3 (by kernel_rfl) ?hf1x3 ?hr1x3 (fun _ _ _ h => h) ?hy1x3 (by assumption) ?rest1x3
        case hi1x3 => (simp only [List.getElem?_toArray, List.getElem?_cons_succ, List.getElem?_cons_zero]; exact rfl)
        case hf1x3 => kernel_rfl
        case hr1x3 => kernel_rfl
        case hy1x3 => (refine Or.inl ⟨by rfl, ?_⟩; intro w hSw; (try dsimp only at hSw); go_simp; try with_reducible rfl)
        simp only [put_mk, List.set_cons_succ, List.set_cons_zero]
        refine wpAnyH_take (i := 4) (oi := ?o1x4) (v := ?v1x4) ?hi1x4 (by kernel_rfl) ?hf1x4 ?hr1x4 (fun _ _ _ h => h) ?hy1x4 (by assumption) ?rest1x4
        case hi1x4 => (simp only [List.getElem?_toArray, List.getElem?_cons_succ, List.getElem?_cons_zero]; exact rfl)
        case hf1x4 => kernel_rfl
        case hr1x4 => kernel_rfl
        case hy1x4 => (refine Or.inl ⟨by rfl, ?_⟩; intro w hSw; (try dsimp only at hSw); go_simp; try with_reducible rfl)
        simp only [put_mk, List.set_cons_succ, List.set_cons_zero]
        refine wpAnyH_take (i := 5) (oi := ?o1x5) (v := ?v1x5) ?hi1x5 (by kernel_rfl) ?hf1x5 ?hr1x5 (fun _ _ _ h => h) ?hy1x5 (by assumption) ?rest1x5
        case hi1x5 => (simp only [List.getElem?_toArray, List.getElem?_cons_succ, List.getElem?_cons_zero]; exact rfl)
        case hf1x5 => kernel_rfl
        case hr1x5 => kernel_rfl
        case hy1x5 => (refine Or.inl ⟨by rfl, ?_⟩; intro w hSw; (try dsimp only at hSw); go_simp; try with_reducible rfl)
        simp only [put_mk, List.set_cons_succ, List.set_cons_zero]
        refine wpAnyH_ready (rs := [6]) (by kernel_rfl) (by simp) ?_
        refine AllReadyH.cons (o := ?o1x6) ?hi1x6 (fun K hK => ?_) AllReadyH.nil
        case hi1x6 => (simp only [List.getElem?_toArray, List.getElem?_cons_succ, List.getElem?_cons_zero]; exact rfl)
        go_simp
        go_at_call 78; refine ((HB1 _).out).mono ?_; rintro e w5 ⟨rfl, hx5⟩
        refine hK.out _ _ ?_ (fun hHeld => ?_)
        · (repeat (first | exact Ext.refl _ | assumption | refine Ext.setCell ?_ (by first | (simp; done) | (simp; omega)) _ | refine Ext.drewN ?_ _ | refine Ext.alloc ?_ _ | refine Ext.drew ?_ | refine Ext.trans ?_ (by assumption)))
        clear hK K
        refine wpAnyH_take (i := 7) (oi := ?o1x7) (v := ?v1x7) ?hi1x7 (by kernel_rfl) ?hf1x7 ?hr1x7 (fun _ _ _ h => h) ?hy1x7 (by assumption) ?rest1x7
        case hi1x7 => (simp only [List.getElem?_toArray, List.getElem?_cons_succ, List.getElem?_cons_zero]; exact rfl)
        case hf1x7 => kernel_rfl
        case hr1x7 => kernel_rfl
        case hy1x7 => (refine Or.inl ⟨by rfl, ?_⟩; intro w hSw; (try dsimp only at hSw); go_simp; try with_reducible rfl)
        simp only [put_mk, List.set_cons_succ, List.set_cons_zero]
        refine wpAnyH_take (i := 8) (oi := ?o1x8) (v := ?v1x8) ?hi1x8 (by kernel_rfl) ?hf1x8 ?hr1x8 (fun _ _ _ h => h) ?hy1x8 (by assumption) ?rest1x8
        case hi1x8 => (simp only [List.getElem?_toArray, List.getElem?_cons_succ, List.getElem?_cons_zero]; exact rfl)
        case hf1x8 => kernel_rfl
        case hr1x8 => kernel_rfl
        case hy1x8 => (refine Or.inl ⟨by rfl, ?_⟩; intro w hSw; (try dsimp only at hSw); go_simp; try with_reducible rfl)
        simp only [put_mk, List.set_cons_succ, List.set_cons_zero]
        refine wpAnyH_take (i := 9) (oi := ?o1x9) (v := ?v1x9) ?hi1x9 (by kernel_rfl) ?hf1x9 ?hr1x9 (fun _ _ _ h => h) ?hy1x9 (by assumption) ?rest1x9
        case hi1x9 => (simp only [List.getElem?_toArray, List.getElem?_cons_succ, List.getElem?_cons_zero]; exact rfl)
        case hf1x9 => kernel_rfl
        case hr1x9 => kernel_rfl
        case hy1x9 => (refine Or.inl ⟨by rfl, ?_⟩; intro w hSw; (try dsimp only at hSw); go_simp; try with_reducible rfl)
        simp only [put_mk, List.set_cons_succ, List.set_cons_zero]
        refine wpAnyH_take (i := 10) (oi := ?o1x10) (v := ?v1x10) ?hi1x10 (by kernel_rfl) ?hf1x10 ?hr1x10 (fun _ _ _ h => h) ?hy1x10 (by assumption) ?rest1x10
        case hi1x10 => (simp only [List.getElem?_toArray, List.getElem?_cons_succ, List.getElem?_cons_zero]; exact rfl)
        case hf1x10 => kernel_rfl
        case hr1x10 => kernel_rfl
        case hy1x10 => (refine Or.inl ⟨by rfl, ?_⟩; intro w hSw; (try dsimp only at hSw); go_simp; try with_reducible rfl)
        simp only [put_mk, List.set_cons_succ, List.set_cons_zero]
        refine wpAnyH_take (i := 11) (oi := ?o1x11) (v := ?v1x11) ?hi1x11 (by kernel_rfl) ?hf1x11 ?hr1x11 (fun _ _ _ h => h) ?hy1x11 (by assumption) ?rest1x11
        case hi1x11 => (simp only [List.getElem?_toArray, List.getElem?_cons_succ, List.getElem?_cons_zero]; exact rfl)
        case hf1x11 => kernel_rfl
        case hr1x11 => kernel_rfl
        case hy1x11 => (refine Or.inl ⟨by rfl, ?_⟩; intro w hSw; (try dsimp only at hSw); go_simp; try with_reducible rfl)
        simp only [put_mk, List.set_cons_succ, List.set_cons_zero]
        refine wpAnyH_done (by kernel_rfl) ?_ _
        refine NoPanic.normal ?_
        clear wk wk2 e0 e1
        have hx5 : Ext w2 w5 := hHeld
        have E2 := fun (w' : World) (h : Ext w5 w') => e2 w' (hx5.trans h)
        have E3 := fun (w' : World) (h : Ext w5 w') => e3 w' (hx5.trans h)
        have F0 := fun (w' : World) (h : Ext w5 w') => f0 w' (hx5.trans h)
        have F1 := fun (w' : World) (h : Ext w5 w') => f1 w' (hx5.trans h)
        clear e2 e3 f0 f1
        go_upto_region 10 with fail
        have wk := Hwk3.out
        have wk2 := Hwk4.out
        refine wp_region_noPanic ?_
        refine wp_region_held_drew (S := fun w' => Ext w5 w') (by kernel_rfl) ?_ (fun hHeld => ?_)
        · (repeat (first | exact Ext.refl _ | assumption | refine Ext.setCell ?_ (by first | (simp; done) | (simp; omega)) _ | refine Ext.drewN ?_ _ | refine Ext.alloc ?_ _ | refine Ext.drew ?_ | refine Ext.trans ?_ (by assumption)))
        refine wpAnyH_take (i := 0) (oi := ?o2x0) (v := ?v2x0) ?hi2x0 (by kernel_rfl) ?hf2x0 ?hr2x0 (fun _ _ _ h => h) ?hy2x0 (by assumption) ?rest2x0
        case hi2x0 => (simp only [List.getElem?_toArray, List.getElem?_cons_zero]; exact rfl)
        case hf2x0 => kernel_rfl
        case hr2x0 => kernel_rfl
        case hy2x0 => (refine Or.inl ⟨by rfl, ?_⟩; intro w hSw; (try dsimp only at hSw); go_simp; try with_reducible rfl)
        simp only [put_mk, List.set_cons_succ, List.set_cons_zero]
        refine wpAnyH_take (i := 1) (oi := ?o2x1) (v := ?v2x1) ?hi2x1 (by kernel_rfl) ?hf2x1 ?hr2x1 (fun _ _ _ h => h) ?hy2x1 (by assumption) ?rest2x1
        case hi2x1 => (simp only [List.getElem?_toArray, List.getElem?_cons_succ, List.getElem?_cons_zero]; exact rfl)
        case hf2x1 => kernel_rfl
        case hr2x1 => kernel_rfl
        case hy2x1 => (refine Or.inl ⟨by rfl, ?_⟩; intro w hSw; (try dsimp only at hSw); go_simp; try with_reducible rfl)
        simp only [put_mk, List.set_cons_succ, List.set_cons_zero]
        refine wpAnyH_take (i := 2) (oi := ?o2x2) (v := ?v2x2) ?hi2x2 (by kernel_rfl) ?hf2x2 ?hr2x2 (fun _ _ _ h => h) ?hy2x2 (by assumption) ?rest2x2
        case hi2x2 => (simp only [List.getElem?_toArray, List.getElem?_cons_succ, List.getElem?_cons_zero]; exact rfl)
        case hf2x2 => kernel_rfl
        case hr2x2 => kernel_rfl
        case hy2x2 => (refine Or.inl ⟨by rfl, ?_⟩; intro w hSw; (try dsimp only at hSw); go_simp; try with_reducible rfl)
        simp only [put_mk, List.set_cons_succ, List.set_cons_zero]
        refine wpAnyH_take (i := 3) (oi := ?o2x3) (v := ?v2x3) ?hi2x3 (by kernel_rfl) ?hf2x3 ?hr2x3 (fun _ _ _ h => h) ?hy2x3 (by assumption) ?rest2x3
        case hi2x3 => (simp only [List.getElem?_toArray, List.getElem?_cons_succ, List.getElem?_cons_zero]; exact rfl)
        case hf2x3 => kernel_rfl
        case hr2x3 => kernel_rfl
        case hy2x3 => (refine Or.inl ⟨by rfl, ?_⟩; intro w hSw; (try dsimp only at hSw); go_simp; try with_reducible rfl)
        simp only [put_mk, List.set_cons_succ, List.set_cons_zero]
        refine wpAnyH_take (i := 4) (oi := ?o2x4) (v := ?v2x4) ?hi2x4 (by kernel_rfl) ?hf2x4 ?hr2x4 (fun _ _ _ h => h) ?hy2x4 (by assumption) ?rest2x4
        case hi2x4 => (simp only [List.getElem?_toArray, List.getElem?_cons_succ, List.getElem?_cons_zero]; exact rfl)
        case hf2x4 => kernel_rfl
        case hr2x4 => kernel_rfl
        case hy2x4 => (refine Or.inl ⟨by rfl, ?_⟩; intro w hSw; (try dsimp only at hSw); go_simp; try with_reducible rfl)
        simp only [put_mk, List.set_cons_succ, List.set_cons_zero]
        refine wpAnyH_take (i := 5) (oi := ?o2x5) (v := ?v2x5) ?hi2x5 (by kernel_rfl) ?hf2x5 ?hr2x5 (fun _ _ _ h => h) ?hy2x5 (by assumption) ?rest2x5
        case hi2x5 => (simp only [List.getElem?_toArray, List.getElem?_cons_succ, List.getElem?_cons_zero]; exact rfl)
        case hf2x5 => kernel_rfl
        case hr2x5 => kernel_rfl
        case hy2x5 => (refine Or.inl ⟨by rfl, ?_⟩; intro w hSw; (try dsimp only at hSw); go_simp; try with_reducible rfl)
        simp only [put_mk, List.set_cons_succ, List.set_cons_zero]
        refine wpAnyH_ready (rs := [6]) (by kernel_rfl) (by simp) ?_
        refine AllReadyH.cons (o := ?o2x6) ?hi2x6 (fun K hK => ?_) AllReadyH.nil
        case hi2x6 => (simp only [List.getElem?_toArray, List.getElem?_cons_succ, List.getElem?_cons_zero]; exact rfl)
        go_simp
        go_at_call 78; refine ((HB2 _).out).mono ?_; rintro e w6 ⟨rfl, hx6⟩
        refine hK.out _ _ ?_ (fun hHeld => ?_)
        · (repeat (first | exact Ext.refl _ | assumption | refine Ext.setCell ?_ (by first | (simp; done) | (simp; omega)) _ | refine Ext.drewN ?_ _ | refine Ext.alloc ?_ _ | refine Ext.drew ?_ | refine Ext.trans ?_ (by assumption)))
        clear hK K
        refine wpAnyH_take (i := 7) (oi := ?o2x7) (v := ?v2x7) ?hi2x7 (by kernel_rfl) ?hf2x7 ?hr2x7 (fun _ _ _ h => h) ?hy2x7 (by assumption) ?rest2x7
        case hi2x7 => (simp only [List.getElem?_toArray, List.getElem?_cons_succ, List.getElem?_cons_zero]; exact rfl)
        case hf2x7 => kernel_rfl
        case hr2x7 => kernel_rfl
        case hy2x7 => (refine Or.inl ⟨by rfl, ?_⟩; intro w hSw; (try dsimp only at hSw); go_simp; try with_reducible rfl)
        simp only [put_mk, List.set_cons_succ, List.set_cons_zero]
        refine wpAnyH_take (i := 8) (oi := ?o2x8) (v := ?v2x8) ?hi2x8 (by kernel_rfl) ?hf2x8 ?hr2x8 (fun _ _ _ h => h) ?hy2x8 (by assumption) ?rest2x8
        case hi2x8 => (simp only [List.getElem?_toArray, List.getElem?_cons_succ, List.getElem?_cons_zero]; exact rfl)
        case hf2x8 => kernel_rfl
        case hr2x8 => kernel_rfl
        case hy2x8 => (refine Or.inl ⟨by rfl, ?_⟩; intro w hSw; (try dsimp only at hSw); go_simp; try with_reducible rfl)
        simp only [put_mk, List.set_cons_succ, List.set_cons_zero]
        refine wpAnyH_take (i := 9) (oi := ?o2x9) (v := ?v2x9) ?hi2x9 (by kernel_rfl) ?hf2x9 ?hr2x9 (fun _ _ _ h => h) ?hy2x9 (by assumption) ?rest2x9
        case hi2x9 => (simp only [List.getElem?_toArray, List.getElem?_cons_succ, List.getElem?_cons_zero]; exact rfl)
        case hf2x9 => kernel_rfl
        case hr2x9 => kernel_rfl
        case hy2x9 => (refine Or.inl ⟨by rfl, ?_⟩; intro w hSw; (try dsimp only at hSw); go_simp; try with_reducible rfl)
        simp only [put_mk, List.set_cons_succ, List.set_cons_zero]
        refine wpAnyH_take (i := 10) (oi := ?o2x10) (v := ?v2x10) ?hi2x10 (by kernel_rfl) ?hf2x10 ?hr2x10 (fun _ _ _ h => h) ?hy2x10 (by assumption) ?rest2x10
        case hi2x10 => (simp only [List.getElem?_toArray, List.getElem?_cons_succ, List.getElem?_cons_zero]; exact rfl)
        case hf2x10 => kernel_rfl
        case hr2x10 => kernel_rfl
        case hy2x10 => (refine Or.inl ⟨by rfl, ?_⟩; intro w hSw; (try dsimp only at hSw); go_simp; try with_reducible rfl)
        simp only [put_mk, List.set_cons_succ, List.set_cons_zero]
        refine wpAnyH_take (i := 11) (oi := ?o2x11) (v := ?v2x11) ?hi2x11 (by kernel_rfl) ?hf2x11 ?hr2x11 (fun _ _ _ h => h) ?hy2x11 (by assumption) ?rest2x11
        case hi2x11 => (simp only [List.getElem?_toArray, List.getElem?_cons_succ, List.getElem?_cons_zero]; exact rfl)
        case hf2x11 => kernel_rfl
        case hr2x11 => kernel_rfl
        case hy2x11 => (refine Or.inl ⟨by rfl, ?_⟩; intro w hSw; (try dsimp only at hSw); go_simp; try with_reducible rfl)
        simp only [put_mk, List.set_cons_succ, List.set_cons_zero]
        refine wpAnyH_done (by kernel_rfl) ?_ _
        refine NoPanic.normal ?_
        clear wk wk2
        have hx6 : Ext w2 w6 := hx5.trans hHeld
        have hO6 := hO2.ext hx6
        have kP6 := KP.out.ext hx6
        have hx66 := Hx2.out.trans hx6
        clear E2 E3 F0 F1 hO2 hx5 hx6 hHeld KP Hx2
        have p0 := kP6.cell 0
        have p1 := kP6.cell 1
        have Hx2 := hidA hx66
        have hO2 := hO6
        clear hO6 hx66 kP6
        rcases hcs with q1 | ⟨q1, q2⟩ | ⟨q1, q2, q3⟩ | ⟨q1, q2, q3⟩
        · have Hcb := hidA (show cornB l k = true from by rw [Hcb.out]; simp [q1])
          have q1' : ((d1 : Int) == d2) = false := by simp; omega
          go_upto_region 12 with fail
          have hown2 := hidA (hO2.ext ((Ext.refl w6).alloc (.cells #[.int .i64 px, .int .i64 py] 32)))
          have hnews : Hid (∀ j u, ([Value.int .i64 px, .int .i64 py] : List Value)[j]? = some u → (w6.alloc (.cells #[.int .i64 px, .int .i64 py] 32)).cell? ((⟨w6.heap.size, 0, none⟩ : Addr).add j) = some u) := World.news_of_block (cs := #[.int .i64 px, .int .i64 py]) (t := 32) (fr := (0, 0)) (heap_alloc_new w6 _)
          have hone : Hid (∀ u ∈ ([Value.int .i64 px, .int .i64 py] : List Value), u.oneCell' = true) := by intro u hu; simp at hu; rcases hu with rfl | rfl <;> rfl
          have hs9 := hidA (show w.heap.size ≤ (w6.alloc (.cells #[.int .i64 px, .int .i64 py] 32)).heap.size from by have := Hx2.out.size; rw [World.size_alloc]; omega)
          clear hO2
          go_wp2_with (at_builtin; (refine wpList_append_lies _ (by rfl) _ _ 46 (by rfl) w.heap.size 32 ti (.agg #[.int .i64 0, .int .i64 0]) 2 16 Try.underlying46 hi0 hz0 hz1 hz2 (by rfl) (by decide) _ _ _ (by rfl) hown2.out ⟨w6.heap.size, 0, none⟩ 1 1 [.int .i64 px, .int .i64 py] (by rfl) (by rfl) hnews.out hone.out (by omega) (by unfold maxLen; omega) (by omega) hs9.out (w6.heap.size + 1) (by simp) ?_; intro gg cap w9 hown9 hgrow9 hat hlt))
          have hx9 := (Hx2.out.alloc (.cells #[.int .i64 px, .int .i64 py] 32)).grown hgrow9 (fun b hb => (World.ownsRow.lt hown2.out b hb).1)
          have HO9 := hidA hown9
          have Hx9 := hidA hx9
          clear hown9 hgrow9 hat hlt hx9
          go_roundw
          case rel => exact ⟨k + 1, by omega, by go_num, by have h8 := HO9.out; rw [cornL_succ, Hcb.out, Hpp.out]; unfold OwnP; simp only [if_true, ptv_append, List.length_append, List.length_cons, List.length_nil]; exact h8, Hx9.out⟩
          case measure => simp [intOf]; omega
        · have Hcb := hidA (show cornB l k = true from by rw [Hcb.out]; simp [q2])
          have q1' : ((d1 : Int) == d2) = true := by simp; omega
          have q2' : ((n1 : Int) == 1) = false := by simp; omega
          go_upto_region 12 with fail
          have hown2 := hidA (hO2.ext ((Ext.refl w6).alloc (.cells #[.int .i64 px, .int .i64 py] 32)))
          have hnews : Hid (∀ j u, ([Value.int .i64 px, .int .i64 py] : List Value)[j]? = some u → (w6.alloc (.cells #[.int .i64 px, .int .i64 py] 32)).cell? ((⟨w6.heap.size, 0, none⟩ : Addr).add j) = some u) := World.news_of_block (cs := #[.int .i64 px, .int .i64 py]) (t := 32) (fr := (0, 0)) (heap_alloc_new w6 _)
          have hone : Hid (∀ u ∈ ([Value.int .i64 px, .int .i64 py] : List Value), u.oneCell' = true) := by intro u hu; simp at hu; rcases hu with rfl | rfl <;> rfl
          have hs9 := hidA (show w.heap.size ≤ (w6.alloc (.cells #[.int .i64 px, .int .i64 py] 32)).heap.size from by have := Hx2.out.size; rw [World.size_alloc]; omega)
          clear hO2
          go_wp2_with (at_builtin; (refine wpList_append_lies _ (by rfl) _ _ 46 (by rfl) w.heap.size 32 ti (.agg #[.int .i64 0, .int .i64 0]) 2 16 Try.underlying46 hi0 hz0 hz1 hz2 (by rfl) (by decide) _ _ _ (by rfl) hown2.out ⟨w6.heap.size, 0, none⟩ 1 1 [.int .i64 px, .int .i64 py] (by rfl) (by rfl) hnews.out hone.out (by omega) (by unfold maxLen; omega) (by omega) hs9.out (w6.heap.size + 1) (by simp) ?_; intro gg cap w9 hown9 hgrow9 hat hlt))
          have hx9 := (Hx2.out.alloc (.cells #[.int .i64 px, .int .i64 py] 32)).grown hgrow9 (fun b hb => (World.ownsRow.lt hown2.out b hb).1)
          have HO9 := hidA hown9
          have Hx9 := hidA hx9
          clear hown9 hgrow9 hat hlt hx9
          go_roundw
          case rel => exact ⟨k + 1, by omega, by go_num, by have h8 := HO9.out; rw [cornL_succ, Hcb.out, Hpp.out]; unfold OwnP; simp only [if_true, ptv_append, List.length_append, List.length_cons, List.length_nil]; exact h8, Hx9.out⟩
          case measure => simp [intOf]; omega
        · have Hcb := hidA (show cornB l k = true from by rw [Hcb.out]; simp [q3])
          have q1' : ((d1 : Int) == d2) = true := by simp; omega
          have q2' : ((n1 : Int) == 1) = true := by simp; omega
          have q3' : ((n2 : Int) == 1) = false := by simp; omega
          go_upto_region 12 with fail
          have hown2 := hidA (hO2.ext ((Ext.refl w6).alloc (.cells #[.int .i64 px, .int .i64 py] 32)))
          have hnews : Hid (∀ j u, ([Value.int .i64 px, .int .i64 py] : List Value)[j]? = some u → (w6.alloc (.cells #[.int .i64 px, .int .i64 py] 32)).cell? ((⟨w6.heap.size, 0, none⟩ : Addr).add j) = some u) := World.news_of_block (cs := #[.int .i64 px, .int .i64 py]) (t := 32) (fr := (0, 0)) (heap_alloc_new w6 _)
          have hone : Hid (∀ u ∈ ([Value.int .i64 px, .int .i64 py] : List Value), u.oneCell' = true) := by intro u hu; simp at hu; rcases hu with rfl | rfl <;> rfl
          have hs9 := hidA (show w.heap.size ≤ (w6.alloc (.cells #[.int .i64 px, .int .i64 py] 32)).heap.size from by have := Hx2.out.size; rw [World.size_alloc]; omega)
          clear hO2
          go_wp2_with (at_builtin; (refine wpList_append_lies _ (by rfl) _ _ 46 (by rfl) w.heap.size 32 ti (.agg #[.int .i64 0, .int .i64 0]) 2 16 Try.underlying46 hi0 hz0 hz1 hz2 (by rfl) (by decide) _ _ _ (by rfl) hown2.out ⟨w6.heap.size, 0, none⟩ 1 1 [.int .i64 px, .int .i64 py] (by rfl) (by rfl) hnews.out hone.out (by omega) (by unfold maxLen; omega) (by omega) hs9.out (w6.heap.size + 1) (by simp) ?_; intro gg cap w9 hown9 hgrow9 hat hlt))
          have hx9 := (Hx2.out.alloc (.cells #[.int .i64 px, .int .i64 py] 32)).grown hgrow9 (fun b hb => (World.ownsRow.lt hown2.out b hb).1)
          have HO9 := hidA hown9
          have Hx9 := hidA hx9
          clear hown9 hgrow9 hat hlt hx9
          go_roundw
          case rel => exact ⟨k + 1, by omega, by go_num, by have h8 := HO9.out; rw [cornL_succ, Hcb.out, Hpp.out]; unfold OwnP; simp only [if_true, ptv_append, List.length_append, List.length_cons, List.length_nil]; exact h8, Hx9.out⟩
          case measure => simp [intOf]; omega
        · have Hcb := hidA (show cornB l k = false from by rw [Hcb.out]; simp [q1, q2, q3])
          have q1' : ((d1 : Int) == d2) = true := by simp; omega
          have q2' : ((n1 : Int) == 1) = true := by simp; omega
          have q3' : ((n2 : Int) == 1) = true := by simp; omega
          have HO2 := hidA hO2
          clear hO2
          go_wp2
          go_roundw
          case rel => exact ⟨k + 1, by omega, by go_num, by rw [cornL_succ, Hcb.out]; simpa using HO2.out, Hx2.out⟩
          case measure => simp [intOf]; omega
    · have hkn2 : n = k := by omega
      subst hkn2
      have HO := hidA hO
      go_wp2
      go_ret2
      exact ⟨_, rfl, HO.out, hx⟩
end Go.Proofs.Ytpgdinpckolfpaa

namespace Go.Proofs.Ytpgdinpckolfpaa
open Go.RowKit

/-- whether no step leads from one place to another -/
def leapN (a b : Int × Int) : Bool := (leapO (b.1 - a.1) (b.2 - a.2)).isNone
/-- the error of corners, from corner k on -/
def stI (l : List (Int × Int)) : Nat → Nat → Int
  | _, 0 => 0
  | k, m + 1 => if farP (l.getD k (0, 0)) = true then 5 else if 0 < k ∧ leapN (l.getD (k - 1) (0, 0)) (l.getD k (0, 0)) = true then 2 else stI l (k + 1) m
theorem stI_step {l : List (Int × Int)} {k n : Nat} (h : k < n) : stI l k (n - k) = if farP (l.getD k (0, 0)) = true then 5 else if 0 < k ∧ leapN (l.getD (k - 1) (0, 0)) (l.getD k (0, 0)) = true then 2 else stI l (k + 1) (n - (k + 1)) := by
  rw [show n - k = (n - (k + 1)) + 1 by omega]
  rfl
theorem stI_val {l : List (Int × Int)} : ∀ m k, stI l k m = 0 ∨ stI l k m = 5 ∨ stI l k m = 2
  | 0, k => .inl rfl
  | m + 1, k => by
    unfold stI
    split
    · exact .inr (.inl rfl)
    · split
      · exact .inr (.inr rfl)
      · exact stI_val m (k + 1)
theorem stI_ok {l : List (Int × Int)} : ∀ m k, stI l k m = 0 → ∀ i, k ≤ i → i < k + m → farP (l.getD i (0, 0)) = false ∧ (0 < i → leapN (l.getD (i - 1) (0, 0)) (l.getD i (0, 0)) = false)
  | 0, k, _, i, h1, h2 => by omega
  | m + 1, k, h, i, h1, h2 => by
    unfold stI at h
    split at h
    · cases h
    · rename_i hb
      split at h
      · cases h
      · rename_i hs
        by_cases e : i = k
        · subst e
          refine ⟨by simpa using hb, fun h0 => ?_⟩
          cases hq : leapN (l.getD (i - 1) (0, 0)) (l.getD i (0, 0))
          · rfl
          · exact absurd ⟨h0, hq⟩ hs
        · exact stI_ok m (k + 1) h i (by omega) (by omega)
/-- the places behind a, n of them -/
def segL (a : Int × Int) (d : Nat) : Nat → List (Int × Int)
  | 0 => []
  | n + 1 => segL a d n ++ [(a.1 + ((n + 1 : Nat) : Int) * stepX d, a.2 + ((n + 1 : Nat) : Int) * stepY d)]
theorem segL_length (a : Int × Int) (d : Nat) : ∀ n, (segL a d n).length = n
  | 0 => rfl
  | n + 1 => by rw [segL, List.length_append, segL_length a d n]; rfl
/-- the way to corner i -/
def outL (l : List (Int × Int)) : Nat → List (Int × Int)
  | 0 => [l.getD 0 (0, 0)]
  | i + 1 => outL l i ++ segL (l.getD i (0, 0)) (lpo l (i + 1)).1 (lpo l (i + 1)).2
theorem outL_length (l : List (Int × Int)) (i : Nat) : (outL l (i + 1)).length = (outL l i).length + (lpo l (i + 1)).2 := by
  rw [outL, List.length_append, segL_length]
theorem outL_mono (l : List (Int × Int)) {i : Nat} : ∀ {j}, i ≤ j → (outL l i).length ≤ (outL l j).length
  | 0, h => by
    obtain rfl : i = 0 := by omega
    exact Nat.le_refl _
  | j + 1, h => by
    by_cases e : i = j + 1
    · subst e; exact Nat.le_refl _
    · have := outL_mono l (i := i) (j := j) (by omega)
      rw [outL_length]
      omega
theorem outL_pos (l : List (Int × Int)) (i : Nat) : 1 ≤ (outL l i).length := outL_mono l (Nat.zero_le i)
def amtS (q : Nat) : Int := if q = 0 then 10 else if 65536 < q then 4 else 0
/-- the error of corners -/
def strE (l : List (Int × Int)) : Int := if amtS l.length ≠ 0 then amtS l.length else if stI l 0 l.length ≠ 0 then stI l 0 l.length else if 65536 < (outL l (l.length - 1)).length then 4 else 0
/-- corners between which steps lead -/
structure StrOk (l : List (Int × Int)) : Prop where
  pos : 1 ≤ l.length
  le : l.length ≤ 65536
  ok : ∀ i, i < l.length → farP (l.getD i (0, 0)) = false
  st : ∀ i, 0 < i → i < l.length → leapO ((l.getD i (0, 0)).1 - (l.getD (i - 1) (0, 0)).1) ((l.getD i (0, 0)).2 - (l.getD (i - 1) (0, 0)).2) = some (lpo l i) ∧ (lpo l i).1 < 8 ∧ 1 ≤ (lpo l i).2 ∧ (lpo l i).2 ≤ 8388608
theorem leapO_le {x y : Int} {d n : Nat} (h : leapO x y = some (d, n)) (h1 : -8388608 ≤ x ∧ x ≤ 8388608) (h2 : -8388608 ≤ y ∧ y ≤ 8388608) : n ≤ 8388608 := by
  obtain ⟨hd, hn, hx, hy⟩ := leapO_spec h
  have h8 : d = 0 ∨ d = 1 ∨ d = 2 ∨ d = 3 ∨ d = 4 ∨ d = 5 ∨ d = 6 ∨ d = 7 := by omega
  rcases h8 with rfl | rfl | rfl | rfl | rfl | rfl | rfl | rfl <;> simp [stepX, stepY] at hx hy <;> omega
theorem strOk {l : List (Int × Int)} (h0 : amtS l.length = 0) (h : stI l 0 l.length = 0) : StrOk l := by
  unfold amtS at h0
  split at h0
  · cases h0
  · split at h0
    · cases h0
    · have hk := stI_ok _ _ h
      refine ⟨by omega, by omega, fun i hi => (hk i (by omega) (by omega)).1, fun i hp hi => ?_⟩
      have hs := (hk i (by omega) (by omega)).2 hp
      have f1 := farP_false (hk i (by omega) (by omega)).1
      have f2 := farP_false (hk (i - 1) (by omega) (by omega)).1
      unfold leapN at hs
      cases hl : leapO ((l.getD i (0, 0)).1 - (l.getD (i - 1) (0, 0)).1) ((l.getD i (0, 0)).2 - (l.getD (i - 1) (0, 0)).2) with
      | none => rw [hl] at hs; cases hs
      | some p =>
        obtain ⟨d, n⟩ := p
        have e : lpo l i = (d, n) := by unfold lpo; rw [hl]; rfl
        have hsp := leapO_spec hl
        have hle := leapO_le hl (by omega) (by omega)
        rw [e]
        exact ⟨rfl, hsp.1, hsp.2.1, hle⟩
end Go.Proofs.Ytpgdinpckolfpaa
